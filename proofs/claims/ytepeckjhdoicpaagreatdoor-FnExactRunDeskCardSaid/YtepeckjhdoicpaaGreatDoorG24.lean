import Derived.Test.YtepeckjhdoicpaaGreatDoorG23
import Derived.Test.YtepeckjhdoicpaaGreatDoorG19
import Derived.Shelf.Sort.Plain
import Derived.Shelf.Slices.In.SortNone
import Derived.Ground.SlgmProg
import Derived.Shelf.SortM.Plain
import Derived.Shelf.SortM.SortNone
import Derived.Sort.OwnSortedInts
import Derived.Lib.SlicesCompact
import Derived.Sort.OwnSorted
import Derived.Sort.Row
import Derived.Shelf.SlSortCmp.NoneTotal
import Derived.Ground.SlsfProg
set_option linter.all false
set_option maxRecDepth 100000
set_option maxHeartbeats 8000000
/-
  DERIVED: THE SHELF's CONTRACTS AT THIS DUMP,IN PLAIN WORDS (tools/lay-plain.mjs out of 'TryzShelf.lean',which tools/lay-shelf.mjs wrote): THE SAME DECLARATIONS UNDER THE SAME NAMES: 'import','namespace','open','def','theorem' AND NOTHING ELSE: no command of the shelf's: FOR A HAND-IN. Each laying: the table of numbers ('.._ren') and one theorem,a field a fact of the dump's own or the kernel's comparison;each contract: ONE APPLICATION.
-/
namespace Go.Proofs
open Go.Shelf Go.Ab
def Tryz.FQ:Go.Shelf.Ren:=⟨λ| 169=>13|n=>n,λ| 70=>53|9=>9|0=>0|72=>56|37=>54|127=>72|3=>3|5=>5|n=>n,λ| n=>n⟩
theorem Tryz.abd:Go.Proofs.Lays.n169 Tryz.prog Tryz.FQ:={
 mixed:=bl
 f169:=Tryz.func13.trans (aP some bl)
 t0:=Tryz.underlying0
 a0:=Tryz.isAgg0
 z0:=Tryz.sizeOf0
 v0:=Tryz.zeroValue0
 t3:=Tryz.underlying3
 a3:=Tryz.isAgg3
 z3:=Tryz.sizeOf3
 v3:=Tryz.zeroValue3
 t9:=Tryz.underlying9
 a9:=Tryz.isAgg9
 z9:=Tryz.sizeOf9
 v9:=Tryz.zeroValue9
 t37:=Tryz.underlying54
 a37:=Tryz.isAgg54
 z37:=Tryz.sizeOf54
 v37:=Tryz.zeroValue54
 t70:=Tryz.underlying53
 a70:=Tryz.isAgg53
 z70:=Tryz.sizeOf53
 v70:=Tryz.zeroValue53
 t72:=Tryz.underlying56
 a72:=Tryz.isAgg56
 z72:=Tryz.sizeOf56
 v72:=Tryz.zeroValue56
 t127:=Tryz.underlying72
 a127:=Tryz.isAgg72
 z127:=Tryz.sizeOf72
 v127:=Tryz.zeroValue72}
theorem Tryz.Dy:Builder.Extra Tryz.prog Tryz.FQ:={
 sizeBuilder:=bl
 liesBuilder:=bl
 t5:=Tryz.underlying5
 a5:=Tryz.isAgg5
 z5:=Tryz.sizeOf5
 v5:=Tryz.zeroValue5
 infoByte:=bl
 cellsByte:=bl
 sizeByte:=bl
 neB5:=bt}
open Go.RowKit in
theorem Tryz.Builder_String_any(B b:Nat)(l:List UInt8)(w:World)(h:Lib.IsBuilder 56 5 B b (Lib.byteCells l) w)(E:B≤w.heap.size):
  Calls Tryz.prog 13 #[.pointer (some ⟨b,0,none⟩)] w λe w'=>e=.returned (.string ⟨l.toArray⟩)∧Below B w w':=Any.Builder_String_any Tryz.abd Tryz.Dy B b l w h E
end Go.Proofs
namespace Go.Proofs.YtepeckjhdoicpaaGreatDoor
open Go Go.Ab
section
variable[dw:Go.Ab.bI]
def fc(l:List Order)(x:Order):Int:=if cV l=true∧eu x=true then(if 0≤pG l x.id then 4 else if l.length=12 then 5 else 0) else 1
def uz(l:List Order)(x:Order):List Order:=if fc l x=0 then l.take (jR l x.id)++x::l.drop (jR l x.id) else[]
theorem oF{l:List Order}(h:cV l=true):l.length≤12:=by
 simp only[cV,ah,al]at h
 exact_mod_cast h.2
theorem OP{l:List Order}{s:List UInt8}(h:pG l s<0)(i:Nat)(hi:i<l.length):l[i].id≠s:=λe=>by
 have h1:decide (0≤gW (λx:Order=>decide (x.id=s)) l)=l.any λx=>decide (x.id=s):=nC;have h2:l.any (λx=>decide (x.id=s))=true:=cD.2 ⟨l[i],ai hi,ek⟩;rw[h2]at h1;have c:0≤pG l s:=by simpa[pG]using h1
 omega
theorem Ru{l:List Order}{s:List UInt8}(a:cV l=true)(h:0≤pG l s):BE l s=true:=by
 have:=Ib a s;cases hf:BE l s with
 |true=>rfl
 |false=>rw[hf,av bn]at this;omega
theorem Rv{l:List Order}{s:List UInt8}(a:cV l=true)(h:pG l s<0)(i:Nat)(hi:i<l.length):(Op.bytesLess l[i].id s||decide (l[i].id=s))=decide (i<jR l s):=by
 have hc:=yB a s;have n:=OP h i hi;by_cases g:i<jR l s
 ·have h1:=hc.lo i g;rw[r5 hi,fR]at h1;simp[h1,g]
 ·have h1:=hc.hi i bd hi;rw[r5 hi]at h1;have h2:Op.bytesLess l[i].id s=false:=by
   cases hb:Op.bytesLess l[i].id s with
   |false=>rfl
   |true=>rw[←fR]at hb;omega
  simp[h2,n,g]
theorem Ge(l:List Order)(x:Order)(hl:l.length≤1048576):
  iW Tryz.prog 165 [.sl 5 (Order.rows l),.agg x.cells] [] (.dn [.sf 0 5,.int .i64 (fc l x)]) [some (.arr 5 (Order.rows (uz l x)))]:=by
 refine B8 259 hm Tryz.func165 bl rfl bl rfl (λ_ _ h=>h) ?_;simp[Order.cells];refine u0 (qc l hl) ?_;simp;refine uy (tb x) ?_;simp;have R:¬(cV l=true∧eu x=true)→fc l x=1∧uz l x=[]:=λh=>by
  have:fc l x=1:=by unfold fc;rw[av h]
  exact⟨this,by unfold uz;rw[this];simp⟩
 refine⟨λh=>?_,λh1 h2=>?_⟩
 ·obtain⟨b1,b2⟩:=R cd;refine(bw (t:=0) 0 5 rfl rfl).trans (wk [1] [] ?_);simp[b1,b2,Order.rows]
 refine u0 (KI l x.id hl h1) ?_;simp[Order.aj];have Z:=oF h1;refine⟨λhk=>?_,λhk=>?_⟩
 ·have hf:0≤pG l x.id:=by
   have:=Ib h1 x.id;rw[hk,aB rfl]at this;omega
  refine(bw (t:=0) 0 5 rfl rfl).trans (wk [1] [] ?_);simp[fc,uz,h1,h2,hf,Order.rows]
 have hf:¬0≤pG l x.id:=λg=>by rw[Ru h1 g]at hk;cases hk
 refine⟨λhn=>?_,λhn=>?_⟩
 ·have H:l.length=12:=bd
  refine(bw (t:=0) 0 5 rfl rfl).trans (wk [1] [] ?_);simp[fc,uz,h1,h2,hf,H,Order.rows]
 have H:¬l.length=12:=bd
 have M:jR l x.id≤l.length:=(yB h1 x.id).le;refine u2 (wZ (Order.rows l) (Order.aC l) x0) (Order.flat _) ?_;simp;refine⟨bl,?_⟩;have j:Order.rows l=Order.rows (l.take (jR l x.id))++Order.rows (l.drop (jR l x.id)):=by unfold Order.rows;rw[←cS,bP]
 have s:(Order.rows (l.take (jR l x.id))).length=jR l x.id:=by rw[Order.aj,aw];omega
 have hc:=JU (Order.rows (l.take (jR l x.id))) (Order.rows (l.drop (jR l x.id))) [x.cells] (by rw[←j];exact Order.aC l) (by simp[aC,Order.cells]) bn (by rw[Order.aj,Order.aj,aw,cO];simp;omega);rw[←j,s]at hc;refine uM [1,2] [1,2] hc (by simp[Order.cells]) ?_;simp;refine wk [1] [] ?_;have z:uz l x=l.take (jR l x.id)++x::l.drop (jR l x.id):=by simp[uz,fc,h1,h2,hf,H]
 simp[z,Order.rows,fc,h1,h2,hf,H]
theorem Gf(l:List Order)(x:Order)(hl:l.length≤1048576):
  iW Tryz.prog 43 [.sl 5 (Order.rows l),.agg x.cells] [] (.dn [.sf 0 5,.int .i64 (fc l x)]) [some (.arr 5 (Order.rows (uz l x)))]:=by
 refine iG hm Tryz.func43 ?_;simp[Order.cells];refine u0 (Tl l hl) ?_;simp;refine uy (H5 x _ _ rfl) ?_;simp;have R:¬(cV l=true∧eu x=true)→fc l x=1∧uz l x=[]:=λh=>by
  have:fc l x=1:=by unfold fc;rw[av h]
  exact⟨this,by unfold uz;rw[this];simp⟩
 refine⟨λh=>?_,λh1 h2=>?_⟩
 ·obtain⟨b1,b2⟩:=R cd;refine(bw (t:=0) 0 5 rfl rfl).trans (wk [1] [] ?_);simp[b1,b2,Order.rows]
 refine u0 (KJ l x.id hl) ?_;simp[Order.aj];refine⟨λhf=>?_,λhf=>?_⟩
 ·refine(bw (t:=0) 0 5 rfl rfl).trans (wk [1] [] ?_);simp[fc,uz,h1,h2,hf,Order.rows]
 have C:¬0≤pG l x.id:=bd
 refine⟨λhn=>?_,λhn=>?_⟩
 ·have H:l.length=12:=bd
  refine(bw (t:=0) 0 5 rfl rfl).trans (wk [1] [] ?_);simp[fc,uz,h1,h2,C,H,Order.rows]
 have H:¬l.length=12:=bd
 have Z:=oF h1;have M:jR l x.id≤l.length:=(yB h1 x.id).le;have z:uz l x=l.take (jR l x.id)++x::l.drop (jR l x.id):=by simp[uz,fc,h1,h2,C,H]
 refine gp hm (ι:={a:Nat // jR l x.id≤a∧a≤l.length}) (λs=>⟨[(0,.sl 5 (Order.rows l)),(3,.pb 0 0),(6,.int .i64 s.1)],[some (.box x.cells)]⟩) (λs=>s.1) bl ⟨l.length,bd⟩ ?_ ?_
 ·refine wk [0] [] ?_;simp[Order.cells]
 ·rintro⟨a,o,c⟩;simp only;have e1:0<a→IntKind.i64.wrap ((a:Int)-1)=((a-1:Nat):Int):=λh=>bo
  by_cases h0:0<a
  ·have p:a-1<l.length:=bd
   have j:=Rv h1 bd (a-1) p;have eL:∀m:List (List PV),(∀r∈m,r∈l.map Order.cells)→aC m:=λm h r b=>by
    obtain⟨x,_,rfl⟩:=ba.1 (h r b);simp[Order.cells]
   simp[e1 h0,h0,Order.rows,Order.cells,p,j];refine⟨λg=>⟨a-1,wk [0] [] bn,⟨g,bd⟩,bd⟩,λg=>⟨c,eL _ λr b=>bG b,bd,bd,b4,bd,bd,c,eL _ λr b=>dq (bG b),bd,bd,wk [1] [] ?_⟩⟩;obtain rfl:a=jR l x.id:=bd
   simp[z,fc,h1,h2,C,H,Order.cells];rw[ay bn]
  ·have u:a=0:=bd
   subst u;have hc:jR l x.id=0:=bd
   have eL:aC (l.map Order.cells):=Order.aC l;have d:(l.map Order.cells).take l.length=l.map Order.cells:=ay bn;simp[Order.rows,Order.cells,d,eL];refine⟨ka,ka,ka,ka,wk [1] [] ?_⟩
   simp[z,hc,fc,h1,h2,C,H,Order.cells]
end
end Go.Proofs.YtepeckjhdoicpaaGreatDoor
namespace Go.Ab
section
variable[dw:Go.Ab.bI]
variable{P:Program}
def nP(A:Nat→Prop)(w:World)(z:Nat)(rows:List (List PV))(cur:Array Value):Prop:=∀(i j:Nat)(r:List PV)(c:PV),rows[i]?=some r→r[j]?=some c→∃u,cur[i*z+j]?=some u∧dC A w c u
theorem Hb{o o':Obj}:jd (a_ [some o]) 0 o'=a_ [some o']:=by
 have:=DJ (H:=[some o]) (k:=0) (o:=o') bn;rw[←this];rfl
theorem Ay{f z:Nat}{rows H:List (List PV)}{res:PV}(V:Option Addr→Nat→Value)
  (q:∀(A:Nat→Prop)(m:dt)(w:World)(ao:Option Addr)(C:Nat),H=[]→m 0=some (none,C)→C=0→bD A m (a_ [some (.arr z H)]) w res (V ao 0))
  (d:∀(A:Nat→Prop)(m:dt)(w:World)(b C:Nat),m 0=some (some b,C)→H.length≤C→bD A m (a_ [some (.arr z H)]) w res (V (some ⟨b,0,none⟩) C)) (s:H.length=rows.length) (X:∀(i:Nat)(r:List PV),H[i]?=some r→r.length=z)
  (t:rows=[]→∀(ao:Option Addr)(cap:Nat)(w:World),gT P f #[.slice ao 0 cap] w λe w'=>e=.returned (V ao cap)∧w'=w)
  (x:∀(A:Nat→Prop)(w:World)(b C:Nat)(cur:Array Value)(e:TypeId),¬A b→w.heap[b]?=some (.cells cur e (0,0))→cur.size=C*z→rows.length≤C→C≤maxLen→rows≠[]→nP A w z rows cur →
   gT P f #[.slice (some ⟨b,0,none⟩) rows.length C] w λe' w'=>e'=.returned (V (some ⟨b,0,none⟩) C)∧w'.os=w.os∧w'.tape=w.tape∧w'.output=w.output∧w.drawn≤w'.drawn∧w.heap.size≤w'.heap.size∧(∀j,j<w.heap.size→j≠b→w'.heap[j]?=w.heap[j]?) ∧
    ∃a,w'.heap[b]?=some (.cells a e (0,0))∧a.size=cur.size∧nP A w z H a):
  nh P f [.sf 0 z] [some (.arr z rows)] [0] res [some (.arr z H)]:=by
 intro A m w vs hA l E ey;have h0:a_ [some (Obj.arr z rows)] 0=some (.arr z rows):=rfl;have r0:=ey 0 _ rfl;have F:vs = #[vs.getD 0 undef]:=by
  have hs:vs.size=1:=E;apply GA
  ·simp[hs]
  ·intro i h1 h2;have:i=0:=bd
   subst this;simp[ax,hs]
 rw[F];generalize vs.getD 0 undef=v0 at r0⊢;have same:rows=[]→∀(ao:Option Addr)(cap:Nat),bD A m (a_ [some (.arr z H)]) w res (V ao cap)→gT P f #[.slice ao 0 cap] w λe w'=>∃v A' m',e=.returned v∧L7 A m (a_ [some (.arr z rows)]) w res (a_ [some (.arr z H)]) v w' A' m' ∧
   ∀k,k∈[0]→m' k=m k∧∃o o',a_ [some (.arr z rows)] k=some o∧a_ [some (.arr z H)] k=some o'∧dp o o':=λhe ao cap M=>by
  have y:H=rows:=by
   rw[he]at s⊢;exact bj s
  rw[y]at M⊢;refine(t he ao cap w).mono λe w' ⟨g1,g2⟩=>?_;subst g2;refine⟨_,A,m,g1,⟨.refl _ _,λb hb=>.inl hb,hA,l,λb hb=>.inl hb,M⟩,λk hk=>⟨rfl,?_⟩⟩;simp at hk;subst hk;exact⟨_,_,h0,h0,.refl _⟩
 cases r0 with
 |dB hi=>cases hi
 |xV _ _ C ao hk hm=>
  rw[h0]at hk;cases hk;exact same rfl ao 0 (q A m w ao C (bj s) hm (l.L9 h0 hm).2)
 |sf _ _ C b O hk hm=>
  rw[h0]at hk;cases hk;by_cases he:rows=[]
  ·have hl:rows.length=0:=by rw[he];rfl
   rw[hl];exact same he _ _ (d A m w b C hm bd)
  ·obtain⟨W,p2,B,J,p5,cur,ty,D,N,I⟩:=l.wE h0 hm;refine(x A w b C cur ty W D N B J he I).mono λe w' ⟨g1,g2,g3,g4,gd,K,g,a,L,Q,R⟩=>?_;have U:∀p,A p→w'.heap[p]?=w.heap[p]?:=λp n=>g p (hA p n) λe=>W (e▸n);have T:=vz (P:=P) (w':=w') (o':=.arr z H) (ob:=some b) (ob':=some b) (C:=C) (C':=C) hA l h0 hm g2 g3 g4 K (λj S Y=>g j S λe=>Y (by rw[e])) (λp e'=>.inl e')
    ⟨W,bd,bd,J,X,a,ty,L,by rw[Q,N],λi j r c G hc=>by
     obtain⟨u,hu,Z⟩:=R i j r c G hc;exact⟨u,hu,Z.mono (λ_ h=>h) U⟩⟩
   rw[vA hm,Hb]at T;refine⟨_,A,m,g1,⟨T.cJ,λb hb=>.inl hb,T.mS,T.eA,λb hb=>(T.own b hb),d A m w' b C hm bd⟩,λk hk=>⟨rfl,?_⟩⟩;simp at hk;subst hk;exact⟨_,_,h0,rfl,⟨rfl,s.symm⟩⟩
theorem E6{f z:Nat}{rows H:List (List PV)}(s:H.length=rows.length)(X:∀(i:Nat)(r:List PV),H[i]?=some r→r.length=z)
  (N:rows=[]→∀(ao:Option Addr)(cap:Nat)(w:World),gT P f #[.slice ao 0 cap] w λe w'=>e=.returned (.tuple #[])∧w'=w)
  (W:∀(A:Nat→Prop)(w:World)(b C:Nat)(cur:Array Value)(e:TypeId),¬A b→w.heap[b]?=some (.cells cur e (0,0))→cur.size=C*z→rows.length≤C→C≤maxLen→rows≠[]→nP A w z rows cur →
   gT P f #[.slice (some ⟨b,0,none⟩) rows.length C] w λe' w'=>e'=.returned (.tuple #[])∧w'.os=w.os∧w'.tape=w.tape∧w'.output=w.output∧w.drawn≤w'.drawn∧w.heap.size≤w'.heap.size∧(∀j,j<w.heap.size→j≠b→w'.heap[j]?=w.heap[j]?) ∧
    ∃a,w'.heap[b]?=some (.cells a e (0,0))∧a.size=cur.size∧nP A w z H a):
  nh P f [.sf 0 z] [some (.arr z rows)] [0] (.dn []) [some (.arr z H)]:=
 Ay (λ_ _=>.tuple #[]) (λ_ _ _ _ _ _ _ _=>.dB (.dn [] #[] rfl bn)) (λ_ _ _ _ _ _ _=>.dB (.dn [] #[] rfl bn)) s X N W
theorem Hc{f z n:Nat}{rows H:List (List PV)}(hn:n≤H.length)(s:H.length=rows.length)(X:∀(i:Nat)(r:List PV),H[i]?=some r→r.length=z)
  (N:rows=[]→∀(ao:Option Addr)(cap:Nat)(w:World),gT P f #[.slice ao 0 cap] w λe w'=>e=.returned (.slice ao n cap)∧w'=w)
  (W:∀(A:Nat→Prop)(w:World)(b C:Nat)(cur:Array Value)(e:TypeId),¬A b→w.heap[b]?=some (.cells cur e (0,0))→cur.size=C*z→rows.length≤C→C≤maxLen→rows≠[]→nP A w z rows cur →
   gT P f #[.slice (some ⟨b,0,none⟩) rows.length C] w λe' w'=>e'=.returned (.slice (some ⟨b,0,none⟩) n C)∧w'.os=w.os∧w'.tape=w.tape∧w'.output=w.output∧w.drawn≤w'.drawn∧w.heap.size≤w'.heap.size∧(∀j,j<w.heap.size→j≠b→w'.heap[j]?=w.heap[j]?) ∧
    ∃a,w'.heap[b]?=some (.cells a e (0,0))∧a.size=cur.size∧nP A w z H a):
  nh P f [.sf 0 z] [some (.arr z rows)] [0] (.so 0 z 0 n) [some (.arr z H)]:=
 Ay (λao cap=>.slice ao n cap) (λA m w ao C he hm l=>by
   subst he;obtain rfl:n=0:=ss
   exact .JG 0 z C 0 ao rfl hm rfl) (λA m w b C hm l=>by
   have:=bD.so (A:=A) (w:=w) 0 z 0 n C C b H (h:=a_ [some (.arr z H)]) rfl hm bd bd;rw[mD]at this;exact this) s X N W
end
end Go.Ab
/-
  DERIVED: THE SHELF's CONTRACTS AT THIS DUMP,IN PLAIN WORDS (tools/lay-plain.mjs out of 'TryzShelf.lean',which tools/lay-shelf.mjs wrote): THE SAME DECLARATIONS UNDER THE SAME NAMES: 'import','namespace','open','def','theorem' AND NOTHING ELSE: no command of the shelf's: FOR A HAND-IN. Each laying: the table of numbers ('.._ren') and one theorem,a field a fact of the dump's own or the kernel's comparison;each contract: ONE APPLICATION.
-/
namespace Go.Proofs
open Go.Shelf Go.Ab
def Tryz.P_:Go.Shelf.Ren:=⟨λ| 190=>398|125=>404|258=>466|128=>475|129=>476|302=>530|303=>531|304=>532|305=>533|306=>534|307=>535|308=>536|309=>537|310=>538|333=>570|329=>540|330=>541|334=>571|335=>572|336=>362|344=>586|n=>n,λ| 31=>25|9=>9|3=>3|46=>391|0=>0|51=>469|53=>435|4=>4|183=>502|182=>501|131=>310|5=>5|218=>545|222=>549|228=>571|229=>572|n=>n,λ| n=>n⟩
theorem Tryz.TW:Go.Proofs.Lays.n190 Tryz.prog Tryz.P_:={
 mixed:=bl
 f125:=Tryz.func404.trans (aP some bl)
 f128:=Tryz.func475.trans (aP some bl)
 f129:=Tryz.func476.trans (aP some bl)
 f190:=Tryz.func398.trans (aP some bl)
 f258:=Tryz.func466.trans (aP some bl)
 f302:=Tryz.func530.trans (aP some bl)
 f303:=Tryz.func531.trans (aP some bl)
 f304:=Tryz.func532.trans (aP some bl)
 f305:=Tryz.func533.trans (aP some bl)
 f306:=Tryz.func534.trans (aP some bl)
 f307:=Tryz.func535.trans (aP some bl)
 f308:=Tryz.func536.trans (aP some bl)
 f309:=Tryz.func537.trans (aP some bl)
 f310:=Tryz.func538.trans (aP some bl)
 f329:=Tryz.func540.trans (aP some bl)
 f330:=Tryz.func541.trans (aP some bl)
 f333:=Tryz.func570.trans (aP some bl)
 f334:=Tryz.func571.trans (aP some bl)
 f335:=Tryz.func572.trans (aP some bl)
 f336:=Tryz.func362.trans (aP some bl)
 f344:=Tryz.func586.trans (aP some bl)
 t0:=Tryz.underlying0
 a0:=Tryz.isAgg0
 z0:=Tryz.sizeOf0
 v0:=Tryz.zeroValue0
 t3:=Tryz.underlying3
 a3:=Tryz.isAgg3
 z3:=Tryz.sizeOf3
 v3:=Tryz.zeroValue3
 t4:=Tryz.underlying4
 a4:=Tryz.isAgg4
 z4:=Tryz.sizeOf4
 v4:=Tryz.zeroValue4
 t5:=Tryz.underlying5
 a5:=Tryz.isAgg5
 z5:=Tryz.sizeOf5
 v5:=Tryz.zeroValue5
 t9:=Tryz.underlying9
 a9:=Tryz.isAgg9
 z9:=Tryz.sizeOf9
 v9:=Tryz.zeroValue9
 t31:=Tryz.underlying25
 a31:=Tryz.isAgg25
 z31:=Tryz.sizeOf25
 v31:=Tryz.zeroValue25
 t46:=Tryz.underlying391
 a46:=Tryz.isAgg391
 z46:=Tryz.sizeOf391
 v46:=Tryz.zeroValue391
 t51:=Tryz.underlying469
 a51:=Tryz.isAgg469
 z51:=Tryz.sizeOf469
 v51:=Tryz.zeroValue469
 t53:=Tryz.underlying435
 a53:=Tryz.isAgg435
 z53:=Tryz.sizeOf435
 v53:=Tryz.zeroValue435
 t131:=Tryz.underlying310
 a131:=Tryz.isAgg310
 z131:=Tryz.sizeOf310
 v131:=Tryz.zeroValue310
 t182:=Tryz.underlying501
 a182:=Tryz.isAgg501
 z182:=Tryz.sizeOf501
 v182:=Tryz.zeroValue501
 t183:=Tryz.underlying502
 a183:=Tryz.isAgg502
 z183:=Tryz.sizeOf502
 v183:=Tryz.zeroValue502
 t218:=Tryz.underlying545
 a218:=Tryz.isAgg545
 z218:=Tryz.sizeOf545
 v218:=Tryz.zeroValue545
 t222:=Tryz.underlying549
 a222:=Tryz.isAgg549
 z222:=Tryz.sizeOf549
 v222:=Tryz.zeroValue549
 t228:=Tryz.underlying571
 a228:=Tryz.isAgg571
 z228:=Tryz.sizeOf571
 v228:=Tryz.zeroValue571
 t229:=Tryz.underlying572
 a229:=Tryz.isAgg572
 z229:=Tryz.sizeOf572
 v229:=Tryz.zeroValue572}
open Go.Sort Go.RowKit in
theorem Tryz.slices_Sort_string(a off cap:Nat)(d:List (List UInt8))(w:World)(h:Holds encStr w a off d.toArray)(M:a<w.heap.size)(E:d.length<4611686018427387904):
  Calls Tryz.prog 398 #[.slice (some ⟨a,off,none⟩) d.length cap] w λe w'=>
   e=.returned (.tuple #[])∧∃n os,w'=grow (putRow encStr (Sort.ahead w n) a off (d.mergeSort λx y=>decide (x≤y)).toArray) os:=Any.slices_Sort_string Tryz.TW a off cap d w h M E
open Go.RowKit Go.Sort in
theorem Tryz.slices_Sort_string_none(p:Option Addr)(cap:Nat)(w:World):
  Calls Tryz.prog 398 #[.slice p 0 cap] w λe w'=>e=.returned (.tuple #[])∧w'=w:=Any.slices_Sort_string_none Tryz.TW p cap w
def Tryz.BZ:Go.Shelf.Ren:=⟨λ| 43=>300|n=>n,λ| 22=>83|23=>2|3=>3|4=>4|0=>0|n=>n,λ| n=>n⟩
theorem Tryz.yZ:Go.Proofs.SlLaysN.n43 Tryz.prog Tryz.BZ:={
 mixed:=bl
 f43:=⟨Tryz.f300.name,bt,Tryz.func300.trans (aP some bl)⟩
 t0:=Tryz.underlying0
 a0:=Tryz.isAgg0
 z0:=Tryz.sizeOf0
 v0:=Tryz.zeroValue0
 t3:=Tryz.underlying3
 a3:=Tryz.isAgg3
 z3:=Tryz.sizeOf3
 v3:=Tryz.zeroValue3
 t4:=Tryz.underlying4
 a4:=Tryz.isAgg4
 z4:=Tryz.sizeOf4
 v4:=Tryz.zeroValue4
 t22:=Tryz.underlying83
 a22:=Tryz.isAgg83
 z22:=Tryz.sizeOf83
 v22:=Tryz.zeroValue83
 t23:=Tryz.underlying2
 a23:=Tryz.isAgg2
 z23:=Tryz.sizeOf2
 v23:=Tryz.zeroValue2
 i23:=bl}
open Go.RowKit Go.Lib Go.Sort in
theorem Tryz.slices_Compact_int(y off cap:Nat)(zs:List Int)(w:World)(h:Holds (Value.int .i64) w y off zs.toArray)(E:zs.length≤9223372036854775807)(r6:zs.length≤cap):
  Calls Tryz.prog 300 #[.slice (some ⟨y,off,none⟩) zs.length cap] w λe w'=>e=.returned (.slice (some ⟨y,off,none⟩) (Lib.compact zs).length cap)∧∃q,w'=putRow (Value.int .i64) (Sort.ahead w q) y off (Lib.compact zs++List.replicate (zs.length-(Lib.compact zs).length) 0).toArray:=AnyG.slices_Compact_int Tryz.yZ y off cap zs w h E r6
open Go.RowKit Go.Lib Go.Sort in
theorem Tryz.slices_Compact_int_empty(a:Option Addr)(cap:Nat)(w:World):
  Calls Tryz.prog 300 #[.slice a 0 cap] w λe w'=>e=.returned (.slice a 0 cap)∧w'=w:=AnyG.slices_Compact_int_empty Tryz.yZ a cap w
def Tryz.Dx:Go.Shelf.Ren:=⟨λ| 5=>299|8=>404|7=>412|19=>475|20=>476|10=>480|11=>481|12=>482|13=>483|14=>484|15=>485|16=>477|17=>486|18=>487|30=>545|31=>540|32=>541|33=>546|34=>547|35=>388|40=>574|n=>n,λ| 23=>83|25=>2|3=>3|32=>391|22=>83|0=>0|44=>469|46=>435|4=>4|36=>502|35=>501|41=>310|5=>5|9=>9|53=>545|57=>549|63=>571|64=>572|n=>n,λ| n=>n⟩
theorem Tryz.AY:Go.Proofs.SlLaysM.n5 Tryz.prog Tryz.Dx:={
 mixed:=bl
 f5:=⟨Tryz.f299.name,bt,Tryz.func299.trans (aP some bl)⟩
 f7:=⟨Tryz.f412.name,bt,Tryz.func412.trans (aP some bl)⟩
 f8:=Tryz.func404.trans (aP some bl)
 f10:=⟨Tryz.f480.name,bt,Tryz.func480.trans (aP some bl)⟩
 f11:=⟨Tryz.f481.name,bt,Tryz.func481.trans (aP some bl)⟩
 f12:=⟨Tryz.f482.name,bt,Tryz.func482.trans (aP some bl)⟩
 f13:=⟨Tryz.f483.name,bt,Tryz.func483.trans (aP some bl)⟩
 f14:=⟨Tryz.f484.name,bt,Tryz.func484.trans (aP some bl)⟩
 f15:=⟨Tryz.f485.name,bt,Tryz.func485.trans (aP some bl)⟩
 f16:=⟨Tryz.f477.name,bt,Tryz.func477.trans (aP some bl)⟩
 f17:=⟨Tryz.f486.name,bt,Tryz.func486.trans (aP some bl)⟩
 f18:=⟨Tryz.f487.name,bt,Tryz.func487.trans (aP some bl)⟩
 f19:=Tryz.func475.trans (aP some bl)
 f20:=Tryz.func476.trans (aP some bl)
 f30:=⟨Tryz.f545.name,bt,Tryz.func545.trans (aP some bl)⟩
 f31:=Tryz.func540.trans (aP some bl)
 f32:=Tryz.func541.trans (aP some bl)
 f33:=⟨Tryz.f546.name,bt,Tryz.func546.trans (aP some bl)⟩
 f34:=⟨Tryz.f547.name,bt,Tryz.func547.trans (aP some bl)⟩
 f35:=⟨Tryz.f388.name,bt,Tryz.func388.trans (aP some bl)⟩
 f40:=⟨Tryz.f574.name,bt,Tryz.func574.trans (aP some bl)⟩
 t0:=Tryz.underlying0
 a0:=Tryz.isAgg0
 z0:=Tryz.sizeOf0
 v0:=Tryz.zeroValue0
 t3:=Tryz.underlying3
 a3:=Tryz.isAgg3
 z3:=Tryz.sizeOf3
 v3:=Tryz.zeroValue3
 t4:=Tryz.underlying4
 a4:=Tryz.isAgg4
 z4:=Tryz.sizeOf4
 v4:=Tryz.zeroValue4
 t5:=Tryz.underlying5
 a5:=Tryz.isAgg5
 z5:=Tryz.sizeOf5
 v5:=Tryz.zeroValue5
 t9:=Tryz.underlying9
 a9:=Tryz.isAgg9
 z9:=Tryz.sizeOf9
 v9:=Tryz.zeroValue9
 t22:=Tryz.underlying83
 a22:=Tryz.isAgg83
 z22:=Tryz.sizeOf83
 v22:=Tryz.zeroValue83
 t23:=Tryz.underlying83
 a23:=Tryz.isAgg83
 z23:=Tryz.sizeOf83
 v23:=Tryz.zeroValue83
 t25:=Tryz.underlying2
 a25:=Tryz.isAgg2
 z25:=Tryz.sizeOf2
 v25:=Tryz.zeroValue2
 t32:=Tryz.underlying391
 a32:=Tryz.isAgg391
 z32:=Tryz.sizeOf391
 v32:=Tryz.zeroValue391
 t35:=Tryz.underlying501
 a35:=Tryz.isAgg501
 z35:=Tryz.sizeOf501
 v35:=Tryz.zeroValue501
 t36:=Tryz.underlying502
 a36:=Tryz.isAgg502
 z36:=Tryz.sizeOf502
 v36:=Tryz.zeroValue502
 t41:=Tryz.underlying310
 a41:=Tryz.isAgg310
 z41:=Tryz.sizeOf310
 v41:=Tryz.zeroValue310
 t44:=Tryz.underlying469
 a44:=Tryz.isAgg469
 z44:=Tryz.sizeOf469
 v44:=Tryz.zeroValue469
 t46:=Tryz.underlying435
 a46:=Tryz.isAgg435
 z46:=Tryz.sizeOf435
 v46:=Tryz.zeroValue435
 t53:=Tryz.underlying545
 a53:=Tryz.isAgg545
 z53:=Tryz.sizeOf545
 v53:=Tryz.zeroValue545
 t57:=Tryz.underlying549
 a57:=Tryz.isAgg549
 z57:=Tryz.sizeOf549
 v57:=Tryz.zeroValue549
 t63:=Tryz.underlying571
 a63:=Tryz.isAgg571
 z63:=Tryz.sizeOf571
 v63:=Tryz.zeroValue571
 t64:=Tryz.underlying572
 a64:=Tryz.isAgg572
 z64:=Tryz.sizeOf572
 v64:=Tryz.zeroValue572}
open Go.Sort Go.RowKit in
theorem Tryz.slices_Sort_int(a off cap:Nat)(zs:List Int)(w:World)(h:Holds (Value.int .i64) w a off zs.toArray)(M:a<w.heap.size)(E:zs.length<4611686018427387904):
  Calls Tryz.prog 299 #[.slice (some ⟨a,off,none⟩) zs.length cap] w λe w'=>
   e=.returned (.tuple #[])∧∃n os,w'=grow (putRow (Value.int .i64) (Sort.ahead w n) a off (zs.mergeSort λx y=>decide (x≤y)).toArray) os:=AnyM.slices_Sort_int Tryz.AY a off cap zs w h M E
open Go.RowKit Go.Sort in
theorem Tryz.slices_Sort_int_none(p:Option Addr)(cap:Nat)(w:World):
  Calls Tryz.prog 299 #[.slice p 0 cap] w λe w'=>e=.returned (.tuple #[])∧w'=w:=AnyM.slices_Sort_int_none Tryz.AY p cap w
end Go.Proofs
namespace Go.Proofs.YtepeckjhdoicpaaGreatDoor
open Go Go.Ab
section
variable[dw:Go.Ab.bI]
theorem AZ{A:Nat→Prop}{w:World}{d:List Int}{cur:Array Value}(b:nP A w 1 (ar d) cur):cur.toList.take d.length=d.map (Value.int .i64):=by
 apply DG;intro j;by_cases a:j<d.length
 ·obtain⟨u,hu,c⟩:=b j 0 [.int .i64 d[j]] (.int .i64 d[j]) (by simp[ar,a]) rfl;cases c;rw[tp a,f_];simp only[oo,dU]at hu;rw[hu,bm,ae a];rfl
 ·rw[aen bd,cF ca]
theorem A_{A:Nat→Prop}{w:World}{cur:Array Value}(d:List Int)(l:d.length≤cur.size):nP A w 1 (ar d) (Go.Sort.putCells (Value.int .i64) 0 d.toArray cur):=λi j r c a hc=>by
 rw[ar,bm]at a;cases hx:d[i]? with
 |none=>rw[hx]at a;cases a
 |some x=>
  rw[hx]at a;cases a;have hi:i<d.length:=(aa.1 hx).1;cases j with
  |zero=>
   cases hc;have h1:=Go.take_putCellsI cur d l;have h2:((Go.Sort.putCells (Value.int .i64) 0 d.toArray cur).toList.take d.length)[i]?=some (.int .i64 x):=by rw[h1,bm,hx];rfl
   rw[tp hi,f_]at h2;exact⟨_,ha,.int _ _⟩
  |succ j=>cases hc
theorem FR{d:List Int}(i:Nat)(r:List PV)(a:(ar d)[i]?=some r):r.length=1:=by
 rw[ar,bm]at a;cases hx:d[i]? with
 |none=>rw[hx]at a;cases a
 |some x=>rw[hx]at a;cases a;rfl
def oB(d:List Int):List Int:=d.mergeSort λx y=>decide (x≤y)
theorem Kt(d:List Int)(g:d.length≤2097152):nh Tryz.prog 299 [.sf 0 1] [some (.arr 1 (ar d))] [0] (.dn []) [some (.arr 1 (ar (oB d)))]:=by
 have hl:(ar d).length=d.length:=aT _;have T:(oB d).length=d.length:=iB _;refine E6 (by simp[ar,T]) FR (λhe ao cap w=>?_) (λA w b C cur e W hb E l h i a=>?_)
 ·unfold gT;rw[enters Tryz.func299 bl rfl];exact⟨rfl,Tryz.slices_Sort_int_none ao cap w⟩
 ·rw[hl]at l⊢;unfold gT;rw[enters Tryz.func299 bl rfl];refine⟨rfl,(Tryz.slices_Sort_int b 0 C d w (Go.holds_of_blockI hb (AZ a)) (gR.1 hb).1 bd).mono λe' w' ⟨g1,n,os,g2⟩=>?_⟩;subst g2;refine⟨g1,rfl,rfl,rfl,sw _ _,bn,λj c f=>?_,_,Go.heap_sortedI _ hb,rv,A_ (oB d) bd⟩;rw[Go.Sort.heap_grow_old _ _ (by simpa using c)];simp[Go.Sort.putRow,Go.Sort.mapBlock,Go.Sort.ahead,iE,Jv f]
theorem r9(d:List Int):(Lib.compact d).length≤d.length:=by
 unfold Lib.compact Lib.compactUpTo;rw[aT];refine b_ (dO _ _) ?_;simp
theorem Ct(d:List Int)(g:d.length≤2097152):nh Tryz.prog 300 [.sf 0 1] [some (.arr 1 (ar d))] [0] (.so 0 1 0 (Lib.compact d).length) [some (.arr 1 (ar (Lib.compact d++List.replicate (d.length-(Lib.compact d).length) 0)))]:=by
 have hl:(ar d).length=d.length:=aT _;have Z:=r9 d;obtain⟨D,I⟩:∃D,Lib.compact d++List.replicate (d.length-(Lib.compact d).length) 0=D:=⟨_,rfl⟩;have i:D.length=d.length:=by rw[←I];simp;omega
 have hk:=λ(b C:Nat)(w:World) h l=>Tryz.slices_Compact_int b 0 C d w h bd l;rw[I]at hk⊢;generalize hc:(Lib.compact d).length=c at Z hk⊢;refine Hc (by simp[ar];omega) (by simp[ar];omega) FR (λhe ao cap w=>?_) (λA w b C cur e W hb E l k m a=>?_)
 ·obtain rfl:d=[]:=by cases d with
   |nil=>rfl
   |cons x r=>cases he
  obtain rfl:c=0:=by simpa using Z
  unfold gT;rw[enters Tryz.func300 bl rfl];exact⟨rfl,Tryz.slices_Compact_int_empty ao cap w⟩
 ·rw[hl]at l⊢;unfold gT;rw[enters Tryz.func300 bl rfl];refine⟨rfl,(hk b C w (Go.holds_of_blockI hb (AZ a)) l).mono λe' w' ⟨g1,n,g2⟩=>?_⟩;subst g2;have hs:=Go.heap_sortedI (n:=n) (os := #[]) D.toArray hb;rw[Go.Sort.grow_empty]at hs;refine⟨g1,rfl,rfl,rfl,sw _ _,by simp[Go.Sort.putRow,Go.Sort.mapBlock,Go.Sort.ahead],λj o f=>?_,_,hs,rv,A_ D bd⟩;simp[Go.Sort.putRow,Go.Sort.mapBlock,Go.Sort.ahead,iE,Jv f]
theorem Wm(x:aO):H0 291 [.agg x.cells] (.bool true):=by
 refine iF hm Tryz.func291 ?_;simp[aO.cells]
def iK(t:db):List Int:=Lib.compact (oB (t.aU.map aO.note))
theorem KH(t:db)(f:Nat)(hf:∀x:aO,H0 f [.agg x.cells] (.bool true))(hl:t.aU.length≤1048576):
  iW Tryz.prog 290 [.agg t.cells,.fn f []] [] (.sf 0 1) [some (.arr 1 (ar (iK t)))]:=by
 refine iG hm Tryz.func290 ?_;simp[db.cells,aO.aj];obtain⟨ns,o⟩:∃ns,t.aU.map aO.note=ns:=⟨_,rfl⟩;have b:ns.length=t.aU.length:=by rw[←o];simp
 refine lu hm t.aU.length (λi=>⟨[(1,.fn f []),(2,.pb 0 0),(5,.sf 1 1),(9,.sl 3 (aO.rows t.aU)),(10,.int .i64 t.aU.length),(11,.int .i64 i)],[some (.box [.str t.name,.sl 3 (aO.rows t.aU)]),some (.arr 1 (ar (ns.take i)))]⟩) ?_ (λi hi=>?_) ?_
 ·refine(cg (t:=5) (z:=1) rfl).trans (wk [0,1] [] ?_);simp[ar]
 ·have w1:=wS i;have hs:ns.take (i+1)=ns.take i++[t.aU[i].note]:=by
   rw[←aq bd];subst o;simp
  simp[hi,aO.aj,aO.cx];refine u0 (hf t.aU[i]) ?_;simp;have p:(ar (ns.take i)).length≤1048576:=by rw[aH,aw];omega
  refine⟨eG,bd,bd,wk [0,1] [] ?_⟩;simp[w1,hs,ar]
 ·have c:(oB ns).length=ns.length:=iB _;have Z:=r9 (oB ns);rw[ay bd];simp;refine iv.UC 1 (Kt ns bd) rfl bn rfl bn rfl rfl ?_;simp;refine iv.UC 1 (Ct (oB ns) bd) rfl bn rfl bn rfl rfl ?_;have O:iK t=Lib.compact (oB ns):=by unfold iK;rw[o]
  rw[←O]at Z⊢;generalize iK t=K at Z⊢;obtain⟨T,A⟩:∃T,K++List.replicate ((oB ns).length-K.length) 0=T:=⟨_,rfl⟩;have j:(ar T).length=(oB ns).length:=by rw[←A];simp[ar];omega
  have a:(ar T).take K.length=ar K:=by rw[←A];simp[ar]
  rw[A];simp;refine(qR (t:=0) (k:=1) (z:=1) (len:=K.length) (rows:=ar T) rfl rfl bd).trans (wk [1] [] ?_);rw[a];simp
def jY(l:List Int):Prop:=l.Pairwise λx y=>x<y
theorem yt:∀{l m:List Int},jY l→jY m→(∀x,x∈l↔x∈m)→l=m
 |[],[],_,_,_=>rfl
 |[],y::m,_,_,h=>by have:=(h y).2 bn;cases this
 |x::l,[],_,_,h=>by have:=(h x).1 bn;cases this
 |x::l,y::m,hl,hm,h=>by
  obtain⟨h1,h2⟩:=d_.1 hl;obtain⟨c,k⟩:=d_.1 hm;have e:x=y:=by
   rcases bz.1 ((h x).1 bn)with e|e
   ·exact e
   ·rcases bz.1 ((h y).2 bn)with e'|e'
    ·exact e'.symm
    ·have:=h1 y e';have:=c x e;omega
  subst e;rw[yt h2 k λz=>⟨λhz=>?_,λhz=>?_⟩]
  ·rcases bz.1 ((h z).1 (dK _ hz))with e|e
   ·subst e;have:=h1 z hz;omega
   ·exact e
  ·rcases bz.1 ((h z).2 (dK _ hz))with e|e
   ·subst e;have:=c z hz;omega
   ·exact e
theorem J_(zs:List Int)(hs:zs.Pairwise λx y=>x≤y):jY (Lib.compact zs)∧∀x,x∈Lib.compact zs↔x∈zs:=by
 have key:∀m,m≤zs.length→jY (Lib.compactUpTo zs.toArray m)∧(∀x,x∈Lib.compactUpTo zs.toArray m↔x∈zs.take m):=λm=>by
  induction m with
  |zero=>intro _;simp[Lib.compactUpTo,jY]
  |succ m u=>
   intro hm;obtain⟨i1,i2⟩:=u bd;have a:m<zs.length:=bd
   have j:zs.toArray[m]! = zs[m]:=by simp[a]
   have hc:=Lib.compactUpTo_succ zs.toArray m;rw[j]at hc;have ht:zs.take (m+1)=zs.take m++[zs[m]]:=(aq a).symm;by_cases h0:m=0
   ·subst h0;have hk:Lib.keeps zs.toArray 0=true:=Lib.keeps_lt_one _ 0 bd;rw[hc,aB hk,ht];simp[Lib.compactUpTo,jY]
   ·have f:zs.toArray[m-1]! = zs[m-1]:=by
     have:m-1<zs.length:=bd
     simp[this]
    have g2:zs[m-1]≤zs[m]:=b7.1 hs (m-1) m bd a bd;by_cases he:zs[m]=zs[m-1]
    ·have hk:Lib.keeps zs.toArray m=false:=Lib.keeps_neg bd (by rw[j,f,he]);rw[hc,hk,ht];refine⟨by simpa using i1,λx=>?_⟩;have l:zs[m]∈zs.take m:=by
      rw[he];exact List.mem_iff_getElem.2 ⟨m-1,c7,by rw[lS]⟩
     rw[av bn,bq,i2 x,bf,bx];constructor
     ·intro h;exact .inl h
     ·rintro(h|h)
      ·exact h
      ·rw[h];exact l
    ·have hk:Lib.keeps zs.toArray m=true:=Lib.keeps_pos (by rw[j,f];exact he);rw[hc,aB hk,ht];have p:∀x∈zs.take m,x<zs[m]:=λx hx=>by
      obtain⟨i,hi,rfl⟩:=aX hx;rw[aw]at hi;rw[lS];have g1:zs[i]≤zs[m-1]:=by
       by_cases e:i=m-1
       ·subst e;omega
       ·exact b7.1 hs i (m-1) bd bd bd
      omega
     refine⟨cQ.2 ⟨i1,bn,λx hx y hy=>?_⟩,λx=>?_⟩
     ·rw[bx.1 hy];exact p x ((i2 x).1 hx)
     ·rw[bf,bf,bx,i2 x]
 have:=key zs.length (aK _);rw[aI]at this;exact this
theorem rX(t:db):jY (iK t)∧∀n,n∈iK t↔∃x∈t.aU,x.note=n:=by
 have hs:(oB (t.aU.map aO.note)).Pairwise λx y=>x≤y:=by
  have:=GB (le:=λx y:Int=>decide (x≤y)) (λx y z h k=>by
   simp only[al]at *;omega) (λx y=>by
   simp only[cL,al];omega) (t.aU.map aO.note)
  exact this.imp λh=>c8
 obtain⟨h1,h2⟩:=J_ _ hs;refine⟨h1,λn=>?_⟩;unfold iK;rw[h2 n];unfold oB;rw[List.mem_mergeSort,ba]
theorem LW(t:db):(iK t).length≤t.aU.length:=by
 have h:=r9 (oB (t.aU.map aO.note));have h2:(oB (t.aU.map aO.note)).length=(t.aU.map aO.note).length:=iB _;rw[h2,aT]at h;exact h
theorem EZ{A:Nat→Prop}{w:World}{a:List (List UInt8)}{cur:Array Value}(e:nP A w 1 (au a) cur):cur.toList.take a.length=a.map Go.Proofs.encStr:=by
 apply DG;intro j;by_cases b:j<a.length
 ·obtain⟨u,hu,f⟩:=e j 0 [.str a[j]] (.str a[j]) (by simp[au,b]) rfl;cases f with
  |str _ c z=>
   have e1:c=⟨a[j].toArray⟩:=by
    cases c with
    |mk d=>simp at z;rw[←z]
   rw[tp b,f_];simp only[oo,dU]at hu;rw[hu,bm,ae b,e1];rfl
 ·rw[aen bd,cF ca]
theorem E0{A:Nat→Prop}{w:World}{cur:Array Value}(d:List (List UInt8))(l:d.length≤cur.size):nP A w 1 (au d) (Go.Sort.putCells Go.Proofs.encStr 0 d.toArray cur):=λi j r c a hc=>by
 rw[au,bm]at a;cases hx:d[i]? with
 |none=>rw[hx]at a;cases a
 |some x=>
  rw[hx]at a;cases a;have hi:i<d.length:=(aa.1 hx).1;cases j with
  |zero=>
   cases hc;have h1:=Go.take_putCells cur d l;have h2:((Go.Sort.putCells Go.Proofs.encStr 0 d.toArray cur).toList.take d.length)[i]?=some (Go.Proofs.encStr x):=by rw[h1,bm,hx];rfl
   rw[tp hi,f_]at h2;exact⟨_,ha,.str _ _ rfl⟩
  |succ j=>cases hc
theorem P9{d:List (List UInt8)}(i:Nat)(r:List PV)(a:(au d)[i]?=some r):r.length=1:=by
 rw[au,bm]at a;cases hx:d[i]? with
 |none=>rw[hx]at a;cases a
 |some x=>rw[hx]at a;cases a;rfl
def Ja(d:List (List UInt8)):List (List UInt8):=d.mergeSort λx y=>decide (x≤y)
theorem Nq(d:List (List UInt8))(g:d.length≤2097152):nh Tryz.prog 398 [.sf 0 1] [some (.arr 1 (au d))] [0] (.dn []) [some (.arr 1 (au (Ja d)))]:=by
 have hl:(au d).length=d.length:=aT _;have T:(Ja d).length=d.length:=iB _;refine E6 (by simp[au,T]) P9 (λhe ao cap w=>?_) (λA w b C cur e W hb E l h i a=>?_)
 ·unfold gT;rw[enters Tryz.func398 bl rfl];exact⟨rfl,Tryz.slices_Sort_string_none ao cap w⟩
 ·rw[hl]at l⊢;unfold gT;rw[enters Tryz.func398 bl rfl];refine⟨rfl,(Tryz.slices_Sort_string b 0 C d w (Go.holds_of_block hb (EZ a)) (gR.1 hb).1 bd).mono λe' w' ⟨g1,n,os,g2⟩=>?_⟩;subst g2;refine⟨g1,rfl,rfl,rfl,sw _ _,bn,λj c f=>?_,_,Go.heap_sorted _ hb,rv,E0 (Ja d) bd⟩;rw[Go.Sort.heap_grow_old _ _ (by simpa using c)];simp[Go.Sort.putRow,Go.Sort.mapBlock,Go.Sort.ahead,iE,Jv f]
def look(S:List cI)(s:List UInt8):Option (List UInt8):=(S.find? λx=>decide (x.key=s)).map cI.text
def qg(rest step s:Int):Bool:=decide (s+rest≤step)
def Small(n:Int):Prop := -1000000≤n∧n≤1000000
theorem aef(rest step s:Int)(h1:Small rest)(h2:Small s):H0 402 [.int .i64 s,.pe 1 [[.int .i64 rest]] 0 0,.pe 1 [[.int .i64 step]] 0 0] (.bool (qg rest step s)):=by
 unfold Small at h1 h2;refine iF hm Tryz.func402 ?_;simp[qg];rw[bX bd bd]
theorem Qf(rest step:Int)(l:List Int)(h1:Small rest)(hk:∀s∈l,Small s)(hn:l.length≤1048576):
  H0 401 [.sl 1 (ar l),.fn 402 [.pe 1 [[.int .i64 rest]] 0 0,.pe 1 [[.int .i64 step]] 0 0]] (.int .i64 (gW (qg rest step) l)):=by
 refine iF hm Tryz.func401 ?_;simp[ar];refine bc hm l.length (λi=>⟨[(0,.sl 1 (ar l)),(1,.fn 402 [.pe 1 [[.int .i64 rest]] 0 0,.pe 1 [[.int .i64 step]] 0 0]),(7,.int .i64 l.length),(8,.int .i64 i)],[]⟩) (λi=>∀j (h:j<l.length),j<i→qg rest step l[j]=false) bl ?_ bn (λi hi b=>?_) (λb=>?_)
 ·exact wk [] [] eR
 ·simp[ar,hi];refine u0 (aef rest step l[i] h1 (hk _ (ai hi))) ?_;simp;refine⟨λh=>(jN hi h b).symm,λh=>⟨λj d Q=>?_,?_⟩⟩
  ·by_cases e:j=i
   ·subst e;exact h
   ·exact b j d bd
  ·refine wk [] [] ?_;simp;exact bX bd bd
 ·simp[ar];exact(fZ λj d=>b j d d).symm
def sN(rest:Int)(last:List Int)(step:Int):Nat:=last.findIdx (qg rest step)
def Gx(rest:Int)(last:List Int)(step:Int):List Int:=if sN rest last step<last.length then last.set (sN rest last step) step else last++[step]
def q_(note per rest:Int):List aO→List Int×List Int
 |l=>l.foldl (λa x=>if x.note=note then(Gx rest a.1 (x.start.tdiv per),a.2++[(sN rest a.1 (x.start.tdiv per):Int)]) else a) ([],[])
theorem wo(note per rest:Int)(l:List aO){i:Nat}(hi:i<l.length):q_ note per rest (l.take (i+1)) =
  if l[i].note=note then(Gx rest (q_ note per rest (l.take i)).1 (l[i].start.tdiv per),(q_ note per rest (l.take i)).2++[(sN rest (q_ note per rest (l.take i)).1 (l[i].start.tdiv per):Int)]) else q_ note per rest (l.take i):=by
 unfold q_;rw[←aq hi,dI];rfl
theorem ND(rest:Int)(last:List Int)(step:Int):sN rest last step≤last.length:=fG
theorem Wn(rest:Int)(last:List Int)(step:Int):gW (qg rest step) last=if sN rest last step<last.length then(sN rest last step:Int) else -1:=by
 unfold gW sN;by_cases h:last.findIdx (qg rest step)<last.length
 ·rw[aB h];have:last.findIdx? (qg rest step)=some (last.findIdx (qg rest step)):=List.findIdx?_eq_some_iff_findIdx_eq.2 ⟨h,rfl⟩;rw[this]
 ·rw[av h];have:last.findIdx? (qg rest step)=none:=List.findIdx?_eq_none_iff_findIdx_eq.2 (by have:=fG (p:=qg rest step) (xs:=last);omega);rw[this]
theorem Qg{rest:Int}{last:List Int}{step s:Int}(h:s∈Gx rest last step):s∈last∨s=step:=by
 unfold Gx at h;split at h
 ·exact afC h
 ·simpa using h
structure ah0(a:List Int×List Int)(i:Nat):Prop where
 small:∀s∈a.1,Small s
 l1:a.1.length≤i
 l2:a.2.length≤i
theorem T1(note per rest:Int)(l:List aO)(hs:∀x∈l,Small (x.start.tdiv per)):∀i,i≤l.length→ah0 (q_ note per rest (l.take i)) i
 |0,_=>⟨by simp[q_],by simp[q_],by simp[q_]⟩
 |i+1,hi=>by
  have h:=T1 note per rest l hs i bd;rw[wo note per rest l ((bd:i<l.length))];split
  ·refine⟨λs hm=>?_,?_,?_⟩
   ·rcases Qg hm with h1|h1
    ·exact h.small s h1
    ·rw[h1];exact hs _ (ai _)
   ·have:=h.l1;simp only;unfold Gx;split
    ·rw[JB];omega
    ·rw[aA];simp;omega
   ·have:=h.l2;simp only[aA,aL,cC];omega
  ·exact⟨h.small,by have:=h.l1;omega,by have:=h.l2;omega⟩
theorem NF(t:db)(note per rest:Int)(hl:t.aU.length≤1048576)(g:1≤per)(b:Small rest)(hs:∀x∈t.aU,Small (x.start.tdiv per)):
  iW Tryz.prog 292 [.agg t.cells,.int .i64 note,.int .i64 per,.int .i64 rest] [] (.dn [.int .i64 (q_ note per rest t.aU).1.length,.sf 0 1]) [some (.arr 1 (ar (q_ note per rest t.aU).2))]:=by
 refine iG hm Tryz.func292 ?_;simp[db.cells,aO.aj];refine lu hm t.aU.length (λi=>⟨[(1,.int .i64 note),(2,.int .i64 per),(4,.pb 0 0),(7,.pb 1 0),(10,.sf 2 1),(11,.sf 3 1),(17,.sl 3 (aO.rows t.aU)),(18,.int .i64 t.aU.length),(19,.int .i64 i)],[some (.box [.str t.name,.sl 3 (aO.rows t.aU)]),some (.box [.int .i64 rest]),some (.arr 1 (ar (q_ note per rest (t.aU.take i)).1)),some (.arr 1 (ar (q_ note per rest (t.aU.take i)).2))]⟩) ?_ (λi hi=>?_) ?_
 ·refine(cg (t:=10) (z:=1) rfl).trans ((cg (t:=11) (z:=1) rfl).trans (wk [0,1,2,3] [] ?_));simp[q_,ar]
 ·have w1:=wS i;have m:=T1 note per rest t.aU hs i bd;have O:=wo note per rest t.aU hi;generalize q_ note per rest (t.aU.take i)=a at m O⊢;obtain⟨last,D⟩:=a;obtain⟨v,P,c⟩:=m;simp only at O v P c⊢;rw[O];have L:=hs t.aU[i] (ai hi);generalize d:t.aU[i].start.tdiv per=st at L⊢;have U:IntKind.i64.wrap st=st:=by unfold Small at L;exact bX bd bd
  have Z:(ar D).length≤1048576:=h4
  have N:(ar last).length≤1048576:=h4
  by_cases hx:t.aU[i].note=note
  ·simp(maxSteps:=2000000) [hi,aO.aj,aO.cx,hx,d,U];refine⟨bd,u0 (Qf rest st last b v bd) ?_⟩;rw[Wn];have B:Gx rest last st=if sN rest last st<last.length then last.set (sN rest last st) st else last++[st]:=rfl;rw[B];generalize e:sN rest last st=k;by_cases hk:k<last.length
   ·rw[aB hk,aB hk];simp(maxSteps:=2000000) [aH,hk];refine⟨λh=>absurd h bd,eG,bd,bd,wk [0,1,2,3] [] ?_⟩;have R:(ar last)[k]'(by rw[aH];exact hk)=[.int .i64 last[k]]:=eR
    have M:(ar last).set k [.int .i64 st]=ar (last.set k st):=by unfold ar;rw[vm]
    simp(maxSteps:=2000000) [w1,R,M];simp[ar]
   ·rw[av hk,av hk];have K:k=last.length:=by have:=ND rest last st;omega
    subst K;simp(maxSteps:=2000000) [aH];refine⟨eG,bd,bd,bd,eG,bd,bd,wk [0,1,2,3] [] ?_⟩;simp(maxSteps:=2000000) [w1];simp[ar]
  ·simp(maxSteps:=2000000) [hi,aO.aj,aO.cx,hx];refine wk [0,1,2,3] [] ?_;simp[w1]
 ·rw[aI];simp;refine u0 (Ei _) ?_;simp;exact wk [3] [] bn
end
end Go.Proofs.YtepeckjhdoicpaaGreatDoor
namespace Go.Ab
section
variable[dw:Go.Ab.bI]
variable{P:Program}
theorem JH{f g z:Nat}{rows H:List (List PV)}(s:H.length=rows.length)(X:∀(i:Nat)(r:List PV),H[i]?=some r→r.length=z)
  (t:rows=[]→∀(ao:Option Addr)(cap:Nat)(w:World),gT P f #[.slice ao 0 cap,.func (.func g) #[] #[]] w λe w'=>e=.returned (.tuple #[])∧w'=w)
  (x:∀(A:Nat→Prop)(w:World)(b C:Nat)(cur:Array Value)(e:TypeId),sC A w→¬A b→w.heap[b]?=some (.cells cur e (0,0))→cur.size=C*z→rows.length≤C→C≤maxLen→rows≠[]→nP A w z rows cur →
   gT P f #[.slice (some ⟨b,0,none⟩) rows.length C,.func (.func g) #[] #[]] w λe' w'=>e'=.returned (.tuple #[])∧w'.os=w.os∧w'.tape=w.tape∧w'.output=w.output∧w.drawn≤w'.drawn∧w.heap.size≤w'.heap.size∧(∀j,j<w.heap.size→j≠b→w'.heap[j]?=w.heap[j]?) ∧
    ∃a,w'.heap[b]?=some (.cells a e (0,0))∧a.size=cur.size∧nP A w z H a):
  nh P f [.sf 0 z,.fn g []] [some (.arr z rows)] [0] (.dn []) [some (.arr z H)]:=by
 intro A m w vs hA l E ey;have h0:a_ [some (Obj.arr z rows)] 0=some (.arr z rows):=rfl;have r0:=ey 0 _ rfl;obtain⟨us,e1,G,_⟩:=(ey 1 _ rfl).fnI;obtain rfl:us = #[]:=Array.eq_empty_of_size_eq_zero G;have F:vs = #[vs.getD 0 undef,.func (.func g) #[] #[]]:=by
  have hs:vs.size=2:=E;apply GA
  ·simp[hs]
  ·intro i h1 h2;have:i=0∨i=1:=bd
   rcases this with rfl|rfl
   ·simp[ax,hs]
   ·rw[←e1];simp[ax,hs]
 rw[F];generalize vs.getD 0 undef=v0 at r0⊢;have J:∀(A:Nat→Prop)(m:dt)(w:World),bD A m (a_ [some (.arr z H)]) w (.dn []) (.tuple #[]):=λ_ _ _=>.dB (.dn [] #[] rfl bn);have same:rows=[]→∀(ao:Option Addr)(cap:Nat),gT P f #[.slice ao 0 cap,.func (.func g) #[] #[]] w λe w'=>∃v A' m',e=.returned v∧L7 A m (a_ [some (.arr z rows)]) w (.dn []) (a_ [some (.arr z H)]) v w' A' m' ∧
   ∀k,k∈[0]→m' k=m k∧∃o o',a_ [some (.arr z rows)] k=some o∧a_ [some (.arr z H)] k=some o'∧dp o o':=λhe ao cap=>by
  have y:H=rows:=by
   rw[he]at s⊢;exact bj s
  rw[y]at J⊢;refine(t he ao cap w).mono λe w' ⟨g1,g2⟩=>?_;subst g2;refine⟨_,A,m,g1,⟨.refl _ _,λb hb=>.inl hb,hA,l,λb hb=>.inl hb,J _ _ _⟩,λk hk=>⟨rfl,?_⟩⟩;simp at hk;subst hk;exact⟨_,_,h0,h0,.refl _⟩
 cases r0 with
 |dB hi=>cases hi
 |xV _ _ C ao hk hm=>
  rw[h0]at hk;cases hk;exact same rfl ao 0
 |sf _ _ C b V hk hm=>
  rw[h0]at hk;cases hk;by_cases he:rows=[]
  ·have hl:rows.length=0:=by rw[he];rfl
   rw[hl];exact same he _ _
  ·obtain⟨W,O,B,d,p5,cur,ty,D,N,I⟩:=l.wE h0 hm;refine(x A w b C cur ty hA W D N B d he I).mono λe w' ⟨g1,g2,g3,g4,gd,K,n,a,L,M,Q⟩=>?_;have U:∀p,A p→w'.heap[p]?=w.heap[p]?:=λp q=>n p (hA p q) λe=>W (e▸q);have T:=vz (P:=P) (w':=w') (o':=.arr z H) (ob:=some b) (ob':=some b) (C:=C) (C':=C) hA l h0 hm g2 g3 g4 K (λj R S=>n j R λe=>S (by rw[e])) (λp e'=>.inl e')
    ⟨W,bd,bd,d,X,a,ty,L,by rw[M,N],λi j r c Y hc=>by
     obtain⟨u,hu,Z⟩:=Q i j r c Y hc;exact⟨u,hu,Z.mono (λ_ h=>h) U⟩⟩
   rw[vA hm,Hb]at T;refine⟨_,A,m,g1,⟨T.cJ,λb hb=>.inl hb,T.mS,T.eA,λb hb=>(T.own b hb),J _ _ _⟩,λk hk=>⟨rfl,?_⟩⟩;simp at hk;subst hk;exact⟨_,_,h0,rfl,⟨rfl,s.symm⟩⟩
theorem Hd{w w':World}(j:W3=true)(h:jk (λ_=>False) w w'):∃q os,w'=Go.Sort.grow (w.drewN q) os:=by
 refine⟨w'.drawn-w.drawn,w'.heap.extract w.heap.size w'.heap.size,?_⟩;have a:w.drawn+(w'.drawn-w.drawn)=w'.drawn:=by have:=h.drawn j;omega
 have hh:w.heap++w'.heap.extract w.heap.size w'.heap.size=w'.heap:=by
  apply Array.ext_getElem?;intro i;by_cases hi:i<w.heap.size
  ·rw[aej hi];exact(h.block i hi λf=>f).symm
  ·rw[Array.getElem?_append_right bd,Array.getElem?_extract];by_cases d:i<w'.heap.size
   ·rw[aB bd]
    congr 1
    omega
   ·rw[av bd,Array.getElem?_eq_none bd]
 have h1:=h.os;have h2:=h.tape;have c:=h.output;unfold Go.Sort.grow World.drewN;rw[a,hh];cases w';cases h1;cases h2;cases c;rfl
theorem L_ {f : FuncId} {fn : Func} {c : Code} {args : List PV} {k : IntKind} {n : Int} (j : dw.on = true) (hf : iW P f args [] (.int k n) []) (h1 : P.funcs[f]? = some fn) (h2 : (fn.name == "runtime.NumGoroutine") = false) (a : fn.body = some c)
  {A:Nat→Prop} {w:World} {vs:Array Value} (hA:sC A w) (hs:vs.size=args.length) (d:∀i p,args[i]?=some p→dC A w p (vs.getD i undef)):
  Calls P f vs w λe w'=>e=.returned (.int k n)∧∃q os,w'=Go.Sort.grow (w.drewN q) os:=by
 have hc:=hf A (fun _=>none) w vs hA ⟨fun k o hk=>by simp[a_]at hk,fun k k' o o' b C C' hk=>by simp[a_]at hk⟩ hs fun i p g => .dB (d i p g);unfold gT at hc;have W : fn.name ≠ "runtime.NumGoroutine" := by simpa using h2
 rw[show(callFunc f vs).run P w=.ok (.enter f vs) w by simp[callFunc,h1,W,a]]at hc;refine hc.2.mono λe w' ⟨v,A',m',he,T⟩=>?_;have hm:jk (λ_=>False) w w':=T.cJ.mono λb _ ⟨k,o,C,hk,_⟩=>eo
 refine⟨?_,Hd j hm⟩;have J:=T.rep;cases J with
 |dB hi=>cases hi;exact he
end
end Go.Ab
/-
  DERIVED: THE SHELF's CONTRACTS AT THIS DUMP,IN PLAIN WORDS (tools/lay-plain.mjs out of 'TryzShelf.lean',which tools/lay-shelf.mjs wrote): THE SAME DECLARATIONS UNDER THE SAME NAMES: 'import','namespace','open','def','theorem' AND NOTHING ELSE: no command of the shelf's: FOR A HAND-IN. Each laying: the table of numbers ('.._ren') and one theorem,a field a fact of the dump's own or the kernel's comparison;each contract: ONE APPLICATION.
-/
namespace Go.Proofs
open Go.Shelf Go.Ab
def Tryz.Gw:Go.Shelf.Ren:=⟨λ| 6=>294|15=>404|14=>403|28=>475|29=>476|20=>467|21=>468|22=>469|23=>470|24=>471|25=>472|26=>473|27=>474|46=>539|47=>540|48=>541|49=>542|50=>543|57=>573|n=>n,λ| 22=>158|24=>242|25=>358|3=>3|39=>391|0=>0|53=>469|55=>435|4=>4|46=>502|45=>501|50=>310|5=>5|9=>9|66=>545|70=>549|76=>571|77=>572|n=>n,λ| n=>n⟩
theorem Tryz.FO:Go.Proofs.SlLaysF0.n6 Tryz.prog Tryz.Gw:={
 mixed:=bl
 f6:=⟨Tryz.f294.name,bt,Tryz.func294.trans (aP some bl)⟩
 f14:=⟨Tryz.f403.name,bt,Tryz.func403.trans (aP some bl)⟩
 f15:=Tryz.func404.trans (aP some bl)
 f20:=⟨Tryz.f467.name,bt,Tryz.func467.trans (aP some bl)⟩
 f21:=⟨Tryz.f468.name,bt,Tryz.func468.trans (aP some bl)⟩
 f22:=⟨Tryz.f469.name,bt,Tryz.func469.trans (aP some bl)⟩
 f23:=⟨Tryz.f470.name,bt,Tryz.func470.trans (aP some bl)⟩
 f24:=⟨Tryz.f471.name,bt,Tryz.func471.trans (aP some bl)⟩
 f25:=⟨Tryz.f472.name,bt,Tryz.func472.trans (aP some bl)⟩
 f26:=⟨Tryz.f473.name,bt,Tryz.func473.trans (aP some bl)⟩
 f27:=⟨Tryz.f474.name,bt,Tryz.func474.trans (aP some bl)⟩
 f28:=Tryz.func475.trans (aP some bl)
 f29:=Tryz.func476.trans (aP some bl)
 f46:=⟨Tryz.f539.name,bt,Tryz.func539.trans (aP some bl)⟩
 f47:=Tryz.func540.trans (aP some bl)
 f48:=Tryz.func541.trans (aP some bl)
 f49:=⟨Tryz.f542.name,bt,Tryz.func542.trans (aP some bl)⟩
 f50:=⟨Tryz.f543.name,bt,Tryz.func543.trans (aP some bl)⟩
 f57:=⟨Tryz.f573.name,bt,Tryz.func573.trans (aP some bl)⟩
 t0:=Tryz.underlying0
 a0:=Tryz.isAgg0
 z0:=Tryz.sizeOf0
 v0:=Tryz.zeroValue0
 t3:=Tryz.underlying3
 a3:=Tryz.isAgg3
 z3:=Tryz.sizeOf3
 v3:=Tryz.zeroValue3
 t4:=Tryz.underlying4
 a4:=Tryz.isAgg4
 z4:=Tryz.sizeOf4
 v4:=Tryz.zeroValue4
 t5:=Tryz.underlying5
 a5:=Tryz.isAgg5
 z5:=Tryz.sizeOf5
 v5:=Tryz.zeroValue5
 t9:=Tryz.underlying9
 a9:=Tryz.isAgg9
 z9:=Tryz.sizeOf9
 v9:=Tryz.zeroValue9
 t22:=Tryz.underlying158
 a22:=Tryz.isAgg158
 z22:=Tryz.sizeOf158
 v22:=Tryz.zeroValue158
 t25:=Tryz.underlying358
 a25:=Tryz.isAgg358
 z25:=Tryz.sizeOf358
 v25:=Tryz.zeroValue358
 t39:=Tryz.underlying391
 a39:=Tryz.isAgg391
 z39:=Tryz.sizeOf391
 v39:=Tryz.zeroValue391
 t45:=Tryz.underlying501
 a45:=Tryz.isAgg501
 z45:=Tryz.sizeOf501
 v45:=Tryz.zeroValue501
 t46:=Tryz.underlying502
 a46:=Tryz.isAgg502
 z46:=Tryz.sizeOf502
 v46:=Tryz.zeroValue502
 t50:=Tryz.underlying310
 a50:=Tryz.isAgg310
 z50:=Tryz.sizeOf310
 v50:=Tryz.zeroValue310
 t53:=Tryz.underlying469
 a53:=Tryz.isAgg469
 z53:=Tryz.sizeOf469
 v53:=Tryz.zeroValue469
 t55:=Tryz.underlying435
 a55:=Tryz.isAgg435
 z55:=Tryz.sizeOf435
 v55:=Tryz.zeroValue435
 t66:=Tryz.underlying545
 a66:=Tryz.isAgg545
 z66:=Tryz.sizeOf545
 v66:=Tryz.zeroValue545
 t70:=Tryz.underlying549
 a70:=Tryz.isAgg549
 z70:=Tryz.sizeOf549
 v70:=Tryz.zeroValue549
 t76:=Tryz.underlying571
 a76:=Tryz.isAgg571
 z76:=Tryz.sizeOf571
 v76:=Tryz.zeroValue571
 t77:=Tryz.underlying572
 a77:=Tryz.isAgg572
 z77:=Tryz.sizeOf572
 v77:=Tryz.zeroValue572}
end Go.Proofs
namespace Go.Proofs.YtepeckjhdoicpaaGreatDoor
open Go Go.Ab
section
variable[dw:Go.Ab.bI]
instance:Inhabited ez:=⟨⟨0,0⟩⟩
def qX(p:ez):List Value:=[.int .i64 p.step,.int .i64 p.lW]
def y3(l:List ez):List ez:=l.mergeSort λx y => !(ig y x)
theorem Dz:ltOf gO=ig:=by
 funext x y
 unfold ltOf;have:=w_ x y;cases h:ig x y<;>simp[h]at this⊢<;>omega
theorem NA:Sort.SWO (ltOf gO) where
 irrefl x:=by rw[Dz];simp[ig]
 trans x y z h1 h2:=by
  rw[Dz]at *;exact OQ h1 (.inl h2)
 ntrans x y z h1 h2:=by
  rw[Dz]at *;unfold ig at *;simp at *;omega
theorem Y5(x y:ez)(h1:ltOf gO x y=false)(h2:ltOf gO y x=false):x=y:=by
 rw[Dz]at *;unfold ig at *;simp at *;rw[ez.eq_iff];omega
theorem Qd(l:List ez){i j:Nat}(hi:i<l.length)(d:j<2):(Sort.flatK qX 2 l.toArray)[i*2+j]! = if j=0 then .int .i64 l[i].step else .int .i64 l[i].lW:=by
 rw[Sort.get_flatK _ _ _ _ ca];have h1:(i*2+j)/2=i:=bd
 have h2:(i*2+j)%2=j:=bd
 rw[h1,h2];have c:(l.toArray)[i]! = l[i]:=er
 rw[c];have hc:j=0∨j=1:=bd
 rcases hc with rfl|rfl<;>rfl
theorem Wh{A:Nat→Prop}{w:World}{b:Nat}{e:TypeId}{l:List ez}{cur:Array Value}(hb:w.heap[b]?=some (.cells cur e (0,0)))(hc:nP A w 2 (ez.rows l) cur):Sort.HoldsK qX 2 w b 0 l.toArray:=by
 intro t ht;have J:t<l.length*2:=by simpa using ht
 refine⟨?_,by simp[World.frozen?,hb]⟩;obtain⟨i,j,rfl,d⟩:∃i j,t=i*2+j∧j<2:=⟨t/2,t%2,bd,bd⟩;have hi:i<l.length:=bd
 rw[Qd l hi d];have a:(ez.rows l)[i]?=some l[i].cells:=by simp[ez.rows,hi]
 have E:j=0∨j=1:=bd
 rcases E with rfl|rfl
 ·obtain⟨u,hu,m⟩:=hc i 0 _ (.int .i64 l[i].step) a rfl;cases m;simpa[World.cell?,hb]using hu
 ·obtain⟨u,hu,m⟩:=hc i 1 _ (.int .i64 l[i].lW) a rfl;cases m;simpa[World.cell?,hb]using hu
theorem Wi{A:Nat→Prop}{w:World}{l:List ez}{cur:Array Value}(hs:l.length*2≤cur.size):nP A w 2 (ez.rows l) (Sort.putCells id 0 (Sort.flatK qX 2 l.toArray) cur):=by
 intro i j r c a hc;have hi:i<l.length:=by
  have:=(aa.1 a).1;simpa[ez.rows]using this
 have b:(ez.rows l)[i]?=some l[i].cells:=by simp[ez.rows,hi]
 rw[b]at a;cases a;have d:j<2:=(aa.1 hc).1;have E:(Sort.flatK qX 2 l.toArray).size=l.length*2:=bn
 have K:(Sort.putCells id 0 (Sort.flatK qX 2 l.toArray) cur)[i*2+j]?=some (Sort.flatK qX 2 l.toArray)[i*2+j]!:=by
  have h1:i*2+j<cur.size:=bd
  have h2:i*2+j<l.length*2:=bd
  unfold Sort.putCells;rw[Array.getElem?_mapIdx,ia h1];simp only[dz,eW,xR,cU,E,h2,gk,vu,id]
 refine⟨_,K,?_⟩;rw[Qd l hi d];have e:j=0∨j=1:=bd
 rcases e with rfl|rfl
 ·cases hc;exact .int _ _
 ·cases hc;exact .int _ _
theorem adZ(w:World):(isAgg 242).run Tryz.prog w=.ok true w:=by
 have h:=Ex (w0:=w) Tryz.underlying242;rw[Y6.2.1]at h;exact h
theorem abe(w:World):(Go.sizeOf 242).run Tryz.prog w=.ok 2 w:=by
 have h:=eY (P:=Tryz.prog) (t:=242) (by rw[Y6.2.2.1];decide) w;rw[Y6.2.2.1]at h;exact h
theorem J9(l:List ez)(hl:l.length≤1048576):nh Tryz.prog 294 [.sf 0 2,.fn 295 []] [some (.arr 2 (ez.rows l))] [0] (.dn []) [some (.arr 2 (ez.rows (y3 l)))]:=by
 have z:(y3 l).length=l.length:=iB _;refine JH (by simp[ez.rows,z]) (λi r a=>?_) (λhe ao cap w=>?_) (λA w b C cur e hA W hb D s F H t=>?_)
 ·rw[ez.rows,bm]at a;cases hx:(y3 l)[i]? with
  |none=>rw[hx]at a;cases a
  |some x=>rw[hx]at a;cases a;rfl
 ·unfold gT;rw[enters Tryz.func294 bl rfl];exact⟨rfl,AnyF.slices_SortFunc_none Tryz.FO ao cap _ w⟩
 ·rw[ez.aj]at s⊢;unfold gT;rw[enters Tryz.func294 bl rfl];have M:b<w.heap.size:=(gR.1 hb).1;have u:CmpLays Tryz.prog 295 #[] qX 2 gO b 0 l.toArray.size w:=by
   intro m os k S x y;refine L_ (dw:=⟨true⟩) rfl (letI:Go.Ab.bI:=⟨true⟩;AM x y) Tryz.func295 bl rfl (A:=A) (hA.mono (λj d=>?_) (λ_ h=>h) λj d=>?_) rfl λi p g=>?_
   ·exact bH (hA j d) (Go.Proofs.size_sortWorldK_c qX 2 w b 0 m k os)
   ·have f:b≠j:=λe=>W (e▸d);unfold sortWorldK;rw[WL _ _ (by simpa[Sort.putRowK]using hA j d)];simp[Sort.putRowK,Sort.putRow,Sort.mapBlock,Sort.ahead,iE,f]
   ·have hc:∀(q:ez)(i:Nat)(c:PV),q.cells[i]?=some c→dC A (sortWorldK qX 2 w b 0 m k os) c ((qX q).toArray.getD i undef):=λq i c hc=>by
     have hi:=(aa.1 hc).1;have E:i=0∨i=1:=by simp[ez.cells]at hi;omega
     rcases E with rfl|rfl
     ·cases hc;exact .int _ _
     ·cases hc;exact .int _ _
    have hi:=(aa.1 g).1;have E:i=0∨i=1:=by simp at hi;omega
    rcases E with rfl|rfl
    ·cases g;exact .agg _ _ rfl (hc x)
    ·cases g;exact .agg _ _ rfl (hc y)
  have hk:=AnyQ.slices_SortFunc_total Tryz.FO 2 adZ abe qX (λ_=>rfl) (λx v o=>by simp[qX]at o;rcases o with rfl|rfl<;>rfl) gO NA 295 #[] b 0 C l.toArray w
   (λargs w=>enters Tryz.func295 bl rfl args w) u (Wh hb t) M ca Y5
  rw[Dz]at hk;have B:l.toArray.size=l.length:=bn
  rw[B]at hk;refine⟨rfl,hk.mono λe' w' ⟨g1,n,os,g2⟩=>?_⟩;subst g2;refine⟨g1,rfl,rfl,rfl,sw _ _,Go.Proofs.size_sortWorldK_c qX 2 w b 0 n _ os,λj d f=>?_,Sort.putCells id 0 (Sort.flatK qX 2 (y3 l).toArray) cur,?_,by simp[Sort.putCells],Wi bd⟩
  ·unfold sortWorldK;rw[WL _ _ (by simpa[Sort.putRowK]using d)];simp[Sort.putRowK,Sort.putRow,Sort.mapBlock,Sort.ahead,iE,Jv f]
  ·unfold sortWorldK;rw[WL _ _ (by simpa[Sort.putRowK]using M)];simp[Sort.putRowK,Sort.putRow,Sort.mapBlock,Sort.ahead,iE,hb,Sort.onCells,y3]
@[simp] def eD.res(d:eD):PV:=.agg [.int .i64 d.steps,.int .i64 d.rest,.sf 0 1,.sf 1 2]
@[simp] def eD.agN(d:eD):Heap:=[some (.arr 1 (ar d.notes)),some (.arr 2 (ez.rows d.pins))]
theorem uW{H:Heap}{c:Int}:fQ ⟨[(0,.dn [.agg [.int .i64 0,.int .i64 0,.nils,.nils],.int .i64 c])],H⟩ ⟨[(0,.dn [.agg [.int .i64 0,.int .i64 0,.sf 0 1,.sf 1 2],.int .i64 c])],[some (.arr 1 []),some (.arr 2 [])]⟩:=by
 refine(eZ (t:=0) 0 2 1 rfl rfl rfl).trans ?_;refine(eZ (t:=0) 0 3 2 rfl rfl rfl).trans (wk [H.length,H.length+1] [] ?_);simp
theorem RC(a b:ez)(rows H:List (List PV))(i j:Nat)(h:rows[i]?=some a.cells)(h':H[j]?=some b.cells):H0 216 [.pe 2 rows i 0,.pe 2 H j 0] (.bool (ig a b)):=by
 have hi:i<rows.length:=(aa.1 h).1;have d:j<H.length:=(aa.1 h').1;have hx:rows[i]=a.cells:=kz
 have hy:H[j]=b.cells:=by rw[ae d]at h';exact da h'
 rw[ez.cells]at hx hy;refine iF hm Tryz.func216 ?_;simp[hi,d,hx,hy];unfold ig;grind
theorem XU(l:List ez)(p:ez)(hl:l.length≤1048575):
  iW Tryz.prog 132 [.sl 2 (ez.rows l),.agg p.cells] [] (.sf 0 2) [some (.arr 2 (ez.rows (l.take (eQ l λx=>gO x p)++p::l.drop (eQ l λx=>gO x p))))]:=by
 refine iG hm Tryz.func132 ?_;simp[ez.cells];obtain⟨k,hk⟩:∃k,k=eQ l λx=>gO x p:=⟨_,rfl⟩;have f:k≤l.length:=by rw[hk];exact fG
 have vH:∀i (hi:i<l.length),i<k→ig l[i] p=true:=λi hi d=>by
  have:=mE (p:=λx=>decide (0≤gO x p)) (xs:=l) (i:=i) (by rw[hk]at d;exact d);simp only[bK]at this;rw[←w_];omega
 have e:∀(h:k<l.length),ig l[k] p=false:=λh=>by
  have h':(l.findIdx λx=>decide (0≤gO x p))<l.length:=by rw[hk]at h;exact h
  have:=oq (p:=λx=>decide (0≤gO x p)) (xs:=l) (w:=h');subst hk;rw[←pt,←w_];have h2:0≤gO l[eQ l λx=>gO x p] p:=jI this;omega
 rw[←hk];refine gp hm (ι:={a:Nat // a≤k}) (λs=>⟨[(0,.sl 2 (ez.rows l)),(3,.pb 0 0),(5,.int .i64 s.1)],[some (.box [.int .i64 p.step,.int .i64 p.lW])]⟩) (λs=>k-s.1) bl ⟨0,bd⟩ ?_ ?_
 ·refine wk [0] [] ?_;simp
 ·rintro⟨a,C⟩;simp only;have w1:IntKind.i64.wrap ((a:Int)+1)=((a+1:Nat):Int):=bo
  by_cases E:a<l.length
  ·simp[E,ez.aj];refine js.use (res:=.bool (ig l[a] p)) (λ_=>⟨rfl,RC l[a] p _ _ a 0 (by simp[ez.rows,E]) rfl⟩) rfl rfl ?_;simp[ez.aj];have eL:∀m:List (List PV),(∀r∈m,r∈ez.rows l)→Go.Ab.aC m:=λm h r b=>ez.aC l r (h r b);refine⟨λg=>?_,λg=>?_⟩
   ·have F:a<k:=by
     rcases fH a k with h|h
     ·exact h
     ·obtain rfl:a=k:=bd
      rw[e E]at g;cases g
    exact⟨a+1,wk [0] [] gb,bd,bd⟩
   ·have F:a=k:=by
     rcases fH a k with h|h
     ·rw[vH a E h]at g;cases g
     ·omega
    rw[←F];refine⟨bd,eL _ λr b=>bG b,bd,bd,eG,bd,bd,bd,eL _ λr b=>dq (bG b),bd,bd,wk [1] [] ?_⟩;have c:((ez.rows l).drop a).take (l.length-a)=(ez.rows l).drop a:=ay (by rw[cO,ez.aj];omega);rw[c];simp[ez.rows,ez.cells]
  ·have F:a=l.length:=bd
   simp[F,ez.aj];have K:k=l.length:=bd
   have eL:Go.Ab.aC (ez.rows l):=ez.aC l;have c:(ez.rows l).take l.length=ez.rows l:=ay (by rw[ez.aj];omega);refine js.use (res:=.bool false) (λh=>absurd h bn) rfl rfl ?_;simp[ez.aj,K,c];refine⟨eL,bd,bd,eG,bd,bd,eG,bd,bd,wk [1] [] ?_⟩;simp[ez.rows,ez.cells]
def B0(l:List ez)(p:ez):List ez:=l.take (eQ l λx=>gO x p)++p::l.drop (eQ l λx=>gO x p)
def InP(l:List ez):Prop:=l.Pairwise λx y=>ig y x=false
theorem abf(x y:ez)(h1:ig x y=false)(h2:ig y x=false):x=y:=Y5 x y (by rw[Dz];exact h1) (by rw[Dz];exact h2)
theorem NB(x y z:ez)(h1:ig x y=false)(h2:ig y z=false):ig x z=false:=by
 have:=NA.ntrans x y z;rw[Dz]at this;exact this h1 h2
theorem Jk(x y:ez)(h:ig x y=true):ig y x=false:=by
 cases g:ig y x with
 |false=>rfl
 |true=>
  have h1:=NA.trans x y x;have h2:=NA.irrefl x;rw[Dz]at h1 h2;rw[h1 h g]at h2;cases h2
theorem ad1(l:List ez)(p x:ez)(hx:x∈l.take (eQ l λx=>gO x p)):ig x p=true:=by
 obtain⟨i,hi,rfl⟩:=aX hx;rw[lS];rw[aw]at hi;have R:i<l.findIdx λx=>decide (0≤gO x p):=bH hi (Nat.min_le_left _ _);have:=mE (p:=λx=>decide (0≤gO x p)) (xs:=l) (i:=i) R;simp only[bK]at this;rw[←w_];omega
theorem Y7{l:List ez}(hs:InP l)(p x:ez)(hx:x∈l.drop (eQ l λx=>gO x p)):ig x p=false:=by
 by_cases h:(eQ l λx=>gO x p)<l.length
 ·have h0:=oq (p:=λx=>decide (0≤gO x p)) (xs:=l) (w:=h);have h2:0≤gO l[eQ l λx=>gO x p] p:=jI h0;have c:=(Eh _ _).1 h2;have f:=List.Pairwise.sublist (gj (eQ l λx=>gO x p) l) hs;rw[cZ h]at f hx;rcases bz.1 hx with rfl|hx
  ·exact c
  ·exact NB _ _ _ ((d_.1 f).1 x hx) c
 ·rw[auw bd]at hx;cases hx
theorem Wj(l:List ez)(p:ez):(B0 l p).Perm (p::l):=by
 unfold B0;refine sv.trans ?_;rw[bP]
theorem abg{l:List ez}(hs:InP l)(p:ez):InP (B0 l p):=by
 unfold B0 InP;rw[cQ];refine⟨hs.sublist (dH _ _),d_.2 ⟨λy hy=>Y7 hs p y hy,hs.sublist (gj _ _)⟩,λx hx y hy=>?_⟩;have h1:=ad1 l p x hx;rcases bz.1 hy with rfl|hy
 ·exact Jk _ _ h1
 ·exact NB _ _ _ (Y7 hs p y hy) (Jk _ _ h1)
theorem E1:∀(l acc:List ez),(l.foldl B0 acc).Perm (l++acc)
 |[],acc=>.refl _
 |p::l,acc=>by
  refine(E1 l (B0 acc p)).trans ?_;refine((Wj acc p).append_left l).trans ?_;exact sv
theorem TZ:∀(l:List ez){acc:List ez},InP acc→InP (l.foldl B0 acc)
 |[],_,h=>h
 |_::l,_,h=>TZ l (abg h _)
theorem Y8(l:List ez):InP (y3 l):=by
 have h:=GB (le:=λx y => !(ig y x)) (λx y z h1 h2=>by
  simp only[dG]at *;exact NB _ _ _ h2 h1) (λx y=>by
  cases h:ig y x with
  |false=>rfl
  |true=>simp[Jk _ _ h]) l
 exact h.imp λh=>c8
theorem abh(l:List ez):l.foldl B0 []=y3 l:=by
 refine ah2 (le:=λx y=>ig y x=false) (λx y _ _ h1 h2=>abf _ _ h2 h1) (TZ l List.Pairwise.nil) (Y8 l) ?_;refine(E1 l []).trans ?_;rw[bq];exact(Qn l _).symm
theorem Wo{α:Type}(f:α→Int→α){L:List Int}(N:Nat)(z:jY L)(hm:∀n∈L,0≤n∧n<N)(hf:∀a n,n∉L→f a n=a)(a:α):
  ((List.range N).map Int.ofNat).foldl f a=L.foldl f a:=by
 have c:jY ((List.range N).map Int.ofNat):=by
  unfold jY;rw[List.pairwise_map];exact List.pairwise_lt_range.imp λh=>Int.ofNat_lt.2 h
 have e:((List.range N).map Int.ofNat).filter (λn=>decide (n∈L))=L:=by
  refine yt (c.sublist List.filter_sublist) z λx=>?_;rw[fN,al];refine⟨λh=>h.2,λh=>⟨?_,h⟩⟩;obtain⟨h1,h2⟩:=hm x h;refine ba.2 ⟨x.toNat,bO.2 bd,?_⟩;show((x.toNat:Nat):Int)=x;omega
 conv=>rhs;rw[←e]
 rw[List.foldl_filter]
 congr 1
 funext b n
 by_cases h:n∈L
 ·simp[h]
 ·simp[h,hf b n h]
structure DS where
 steps:Int
 notes:List Int
 pins:List ez
def Wp(note per rest r:Int)(a:DS×List Int)(x:aO):DS×List Int:=
 if x.note=note then
  (⟨max a.1.steps (x.start.tdiv per+rest),if sN rest a.2 (x.start.tdiv per)<a.2.length then a.1.notes else a.1.notes++[note],a.1.pins++[⟨x.start.tdiv per,r+sN rest a.2 (x.start.tdiv per)⟩]⟩,Gx rest a.2 (x.start.tdiv per))
 else a
def qq(l:List aO)(per rest:Int)(a:DS)(note:Int)(i:Nat):DS×List Int:=(l.take i).foldl (Wp note per rest a.notes.length) (a,[])
def Jm(l:List aO)(per rest:Int)(a:DS)(note:Int):DS:=(qq l per rest a note l.length).1
def oP(l:List aO)(per rest:Int)(ns:List Int):DS:=ns.foldl (Jm l per rest) ⟨rest,[],[]⟩
theorem xx(l:List aO)(per rest:Int)(a:DS)(note:Int):qq l per rest a note 0=(a,[]):=by simp[qq]
theorem xy{l:List aO}(per rest:Int)(a:DS)(note:Int){i:Nat}(hi:i<l.length):qq l per rest a note (i+1)=Wp note per rest a.notes.length (qq l per rest a note i) l[i]:=by
 unfold qq;rw[←aq hi,dI];rfl
structure aeg(l:List aO)(per rest:Int)(a:DS)(note:Int)(i:Nat)(p:DS×List Int):Prop where
 last:p.2=(q_ note per rest (l.take i)).1
 notes:p.1.notes=a.notes++List.replicate p.2.length note
 lp:p.1.pins.length≤a.pins.length+i
 ln:p.2.length≤i
 small:∀s∈p.2,Small s
 st:a.steps≤p.1.steps∧p.1.steps≤max a.steps 40000
theorem DA(l:List aO)(per rest:Int)(a:DS)(note:Int)(hs:∀x∈l,0≤x.start.tdiv per∧x.start.tdiv per≤20000)(c:1≤rest∧rest≤100):∀i,i≤l.length→aeg l per rest a note i (qq l per rest a note i)
 |0,_=>by rw[xx];exact⟨by simp[q_],bn,bn,bn,bn,ca⟩
 |i+1,hi=>by
  have u:=DA l per rest a note hs c i bd;have o:i<l.length:=bd
  rw[xy per rest a note o];have hh:=wo note per rest l o;obtain⟨g1,g2⟩:=hs _ (ai o);generalize qq l per rest a note i=p at u;obtain⟨⟨ps,g,h⟩,pl⟩:=p;obtain⟨h1,h2,d,f,D,b,X⟩:=u;simp only at h1 h2 d f D b X;unfold Wp;by_cases hx:l[i].note=note
  ·rw[aB hx]at hh⊢;have k:(Gx rest pl (l[i].start.tdiv per)).length=if sN rest pl (l[i].start.tdiv per)<pl.length then pl.length else pl.length+1:=by
    unfold Gx;split<;>simp
   refine⟨by rw[hh,←h1],?_,?_,?_,?_,?_⟩
   ·simp only;rw[k];split
    ·exact h2
    ·rw[h2,bg,List.replicate_succ']
   ·simp only[aA,aL,cC];omega
   ·simp only;rw[k];split<;>omega
   ·intro s hm;rcases Qg hm with e|e
    ·exact D s e
    ·subst e;unfold Small;omega
   ·simp only;omega
  ·rw[av hx]at hh⊢;exact⟨by rw[hh,←h1],h2,hX,hX,D,b,X⟩
theorem SO{l:List aO}{note:Int}(h:∀x∈l,x.note≠note)(per rest:Int)(a:DS):Jm l per rest a note=a:=by
 unfold Jm;have key:∀i,i≤l.length→qq l per rest a note i=(a,[]):=λi=>by
  induction i with
  |zero=>intro _;exact xx ..
  |succ i u=>
   intro hi;rw[xy per rest a note bd,u bd];unfold Wp;rw[av (h _ (ai _))]
 rw[key _ (aK _)]
def oh(t:db)(per rest:Int):DS:=oP t.aU per rest (iK t)
theorem DB{t:db}(h:eh t=true):t.aU.length≤128∧∀x∈t.aU,mX x=true:=by
 unfold eh at h;simp only[ah,al,ak,bO]at h;refine⟨h.2.2,λx hx=>?_⟩;obtain⟨i,hi,rfl⟩:=aX hx;have:=h.1 i hi;rw[rr hi]at this;simp only[ah]at this;exact this.1
theorem LV{x:aO}(h:mX x=true):0≤x.note∧x.note≤127∧0≤x.start∧x.start≤20000:=by
 unfold mX at h;simp only[ah,al]at h;omega
theorem Wq{t:db}(h:eh t=true)(per rest:Int):oP t.aU per rest ((List.range 128).map Int.ofNat)=oh t per rest:=by
 obtain⟨h1,h2⟩:=rX t;refine Wo _ 128 h1 (λn hn=>?_) (λa n hn=>SO (λx hx e=>hn ((h2 n).2 ⟨x,hx,e⟩)) per rest a) _;obtain⟨x,hx,rfl⟩:=(h2 n).1 hn;have:=LV ((DB h).2 x hx);omega
theorem B1{t:db}(h:eh t=true){per:Int}(g:1≤per):∀x∈t.aU,0≤x.start.tdiv per∧x.start.tdiv per≤20000:=λx hx=>by
 have hb:=LV ((DB h).2 x hx);have h1:=Int.tdiv_nonneg (a:=x.start) (b:=per) bd bd;have h2:x.start.tdiv per≤x.start:=by
  have:=afE x.start per;omega
 omega
structure Zc(n:Nat)(j:Nat)(a:DS):Prop where
 lp:a.pins.length≤j*n
 ln:a.notes.length≤j*n
 st:1≤a.steps∧a.steps≤40000
theorem E2(l:List aO)(per rest:Int)(ns:List Int){j:Nat}(d:j<ns.length):oP l per rest (ns.take (j+1))=Jm l per rest (oP l per rest (ns.take j)) ns[j]:=by
 unfold oP;rw[←aq d,dI];rfl
theorem G0(l:List aO)(per rest:Int)(ns:List Int)(hs:∀x∈l,0≤x.start.tdiv per∧x.start.tdiv per≤20000)(b:1≤rest∧rest≤100):∀j,j≤ns.length→Zc l.length j (oP l per rest (ns.take j))
 |0,_=>⟨by simp[oP],by simp[oP],by simp[oP];omega⟩
 |j+1,d=>by
  have u:=G0 l per rest ns hs b j bd;rw[E2 l per rest ns bd];generalize oP l per rest (ns.take j)=a at u;have g:=DA l per rest a ns[j] hs b l.length (aK _);obtain⟨h1,h2,c⟩:=u;unfold Jm;generalize qq l per rest a ns[j] l.length=p at g;obtain⟨g1,g2,g3,g4,I,e⟩:=g;refine⟨?_,?_,bd⟩
  ·have:(j+1)*l.length=j*l.length+l.length:=gm ..;omega
  ·have:(j+1)*l.length=j*l.length+l.length:=gm ..;rw[g2,aA,nj];omega
def fT(t:db)(per rest:Int):Int:=if BX t per rest=0 then(if(oh t per rest).steps≤4096∧(oh t per rest).notes.length≤32 then 0 else 5) else BX t per rest
def j4(t:db)(per rest:Int):eD:=if fT t per rest=0 then⟨(oh t per rest).steps,rest,(oh t per rest).notes,y3 (oh t per rest).pins⟩ else⟨0,0,[],[]⟩
theorem G1{t:db}{per rest:Int}(h:BX t per rest=0):eh t=true∧1≤per∧per≤1000∧1≤rest∧rest≤100:=by
 unfold BX at h;split at h
 ·rename_i h1;split at h
  ·rename_i h2;exact⟨h1,bd⟩
  ·cases h
 ·cases h
theorem Zd{t:db}{per rest:Int}(h:BX t per rest=0):Zc t.aU.length (iK t).length (oh t per rest):=by
 obtain⟨h1,h2,c,k,D⟩:=G1 h;have:=G0 t.aU per rest (iK t) (B1 h1 h2) ⟨k,D⟩ _ (aK _);rw[aI]at this;exact this
theorem Lr{t:db}{per rest:Int}:(j4 t per rest).notes.length≤16384∧(j4 t per rest).pins.length≤16384:=by
 unfold j4;split
 ·rename_i h;have C:BX t per rest=0:=by
   unfold fT at h;split at h
   ·assumption
   ·assumption
  have hk:=Zd C;obtain⟨h1,_⟩:=G1 C;have hl:=(DB h1).1;have hn:=LW t;have hm:(iK t).length*t.aU.length≤128*128:=fh bd hl;have B:(y3 (oh t per rest).pins).length=(oh t per rest).pins.length:=iB _;have:=hk.lp;have:=hk.ln;simp only[B];omega
 ·simp
theorem J7(t:db)(per rest:Int)(hl:t.aU.length≤1048576):
  iW Tryz.prog 58 [.agg t.cells,.int .i64 per,.int .i64 rest] [] (.dn [(j4 t per rest).res,.int .i64 (fT t per rest)]) (j4 t per rest).agN:=by
 refine iG hm Tryz.func58 ?_;simp[db.cells];refine u0 (Zb t per rest hl) ?_;simp;refine⟨λh=>?_,λh=>?_⟩
 ·have hb:fT t per rest=BX t per rest:=by unfold fT;rw[av h]
  have I:j4 t per rest=⟨0,0,[],[]⟩:=by unfold j4;rw[hb,av h]
  rw[I,hb];exact uW
 obtain⟨h1,h2,h3,l,m⟩:=G1 h;have e:=B1 h1 h2;have J:=(DB h1).1;have o:fT t per rest=if(oh t per rest).steps≤4096∧(oh t per rest).notes.length≤32 then 0 else 5:=by unfold fT;rw[aB h]
 have P:j4 t per rest=if(oh t per rest).steps≤4096∧(oh t per rest).notes.length≤32 then⟨(oh t per rest).steps,rest,(oh t per rest).notes,y3 (oh t per rest).pins⟩ else⟨0,0,[],[]⟩:=by
  unfold j4;rw[o];split
  ·rw[aB rfl]
  ·rw[av bt]
 rw[o,P,←Wq h1];have G:((List.range 128).map Int.ofNat).length=128:=bn
 have q:∀n (hn:n<((List.range 128).map Int.ofNat).length),((List.range 128).map Int.ofNat)[n]=(n:Int):=λn hn=>bn
 generalize(List.range 128).map Int.ofNat=L at G q;have s:=λj v=>G0 t.aU per rest L e ⟨l,m⟩ j v;refine lu hm 128 (λj=>⟨[(1,.int .i64 per),(2,.int .i64 rest),(3,.pb 0 0),(6,.pb 1 0),(9,.pb 2 0),(10,.int .i64 j)],[some (.box [.str t.name,.sl 3 (aO.rows t.aU)]),some (.box [.int .i64 0,.int .i64 0,.nils,.nils]),some (.box [.int .i64 (oP t.aU per rest (L.take j)).steps,.int .i64 rest,.sf 3 1,.sf 4 2]),some (.arr 1 (ar (oP t.aU per rest (L.take j)).notes)),some (.arr 2 (ez.rows ((oP t.aU per rest (L.take j)).pins.foldl B0 [])))]⟩) ?_ (λj v=>?_) ?_
 ·refine(jt 2 2 1 rfl rfl).trans ((jt 2 3 2 rfl rfl).trans (wk [0,1,2,3,4] [] ?_));simp[oP,ez.rows,ar]
 ·have x:j<L.length:=bd
  have Q:(j:Int)≤127:=bd
  have w1:=wS j;have hs:=E2 t.aU per rest L x;rw[q j x]at hs;obtain⟨o1,d,u⟩:=s j bd;have b3:j*t.aU.length≤128*128:=fh bd J;generalize oP t.aU per rest (L.take j)=a at hs o1 d u⊢;have S:=λi hi=>DA t.aU per rest a j e ⟨l,m⟩ i hi;rw[hs];simp[Q,aH];refine lu hm t.aU.length (λi=>⟨[(1,.int .i64 per),(2,.int .i64 rest),(3,.pb 0 0),(6,.pb 1 0),(9,.pb 2 0),(10,.int .i64 j),(11,.sf 5 1),(12,.int .i64 a.notes.length),(13,.int .i64 i)],[some (.box [.str t.name,.sl 3 (aO.rows t.aU)]),some (.box [.int .i64 0,.int .i64 0,.nils,.nils]),some (.box [.int .i64 (qq t.aU per rest a j i).1.steps,.int .i64 rest,.sf 3 1,.sf 4 2]),some (.arr 1 (ar (qq t.aU per rest a j i).1.notes)),some (.arr 2 (ez.rows ((qq t.aU per rest a j i).1.pins.foldl B0 []))),some (.arr 1 (ar (qq t.aU per rest a j i).2))]⟩) ?_ (λi hi=>?_) ?_
  ·refine(cg (t:=11) (z:=1) rfl).trans (wk [0,1,2,3,4,5] [] ?_);simp[xx,ar]
  ·have r:=wS i;have y:=xy per rest a j hi;obtain⟨q1,N,A,B,f,W⟩:=S i bd;have X:=e t.aU[i] (ai hi);have U:IntKind.i64.wrap (t.aU[i].start.tdiv per)=t.aU[i].start.tdiv per:=bX bd bd;generalize qq t.aU per rest a j i=p at y N A B f W⊢;rw[y];unfold Wp;obtain⟨⟨ps,C,c⟩,pl⟩:=p;simp only at N A B f W⊢;by_cases hx:t.aU[i].note=j
   ·rw[aB hx];generalize T:t.aU[i].start.tdiv per=st at X U⊢;have hk:=ND rest pl st;have iR:∀h (hh:h<pl.length),h<sN rest pl st→st-pl[h]<rest:=λh hh g=>by
     have:=mE (p:=qg rest st) (xs:=pl) (i:=h) g;unfold qg at this;simp at this;omega
    have E:∀hh:sN rest pl st<pl.length,¬(st-pl[sN rest pl st]<rest):=λhh=>by
     have:qg rest st pl[sN rest pl st]=true:=oq (w:=hh);unfold qg at this;simp at this;omega
    have Y:Gx rest pl st=if sN rest pl st<pl.length then pl.set (sN rest pl st) st else pl++[st]:=rfl;rw[Y];generalize sN rest pl st=k at hk iR E⊢;have Z:IntKind.i64.wrap (st+rest)=st+rest:=bX bd bd;have F:IntKind.i64.wrap ((a.notes.length:Int)+k)=(a.notes.length:Int)+k:=bX bd bd;have H:∀h (hh:h<pl.length),IntKind.i64.wrap (st-pl[h])=st-pl[h]:=λh hh=>by
     have:=f _ (ai hh);unfold Small at this;exact bX bd bd
    simp(maxSteps:=2000000) [hi,aO.aj,aO.cx,hx,T,U,Z];refine⟨bd,u0 (HP _ _) ?_⟩;have V:(List.foldl B0 [] c).length=c.length:=by
     have:=(E1 c []).length_eq;simpa using this
    have K:=XU (List.foldl B0 [] c) ⟨st,(a.notes.length:Int)+k⟩ bd;rw[ez.cells]at K;generalize List.foldl B0 [] c=O at V K⊢;simp(maxSteps:=2000000);refine lu hm k (λh=>⟨[(1,.int .i64 per),(2,.int .i64 rest),(3,.pb 0 0),(6,.pb 1 0),(9,.pb 2 0),(10,.int .i64 j),(11,.sf 5 1),(12,.int .i64 a.notes.length),(13,.int .i64 i),(14,.int .i64 st),(15,.int .i64 h)],[some (.box [.str t.name,.sl 3 (aO.rows t.aU)]),some (.box [.int .i64 0,.int .i64 0,.nils,.nils]),some (.box [.int .i64 (max ps (st+rest)),.int .i64 rest,.sf 3 1,.sf 4 2]),some (.arr 1 (ar C)),some (.arr 2 (ez.rows O)),some (.arr 1 (ar pl))]⟩) ?_ (λh g=>?_) ?_
    ·refine wk [0,1,2,3,4,5] [] ?_;simp
    ·have hh:h<pl.length:=bd
     have g1:=iR h hh g;have g2:=H h hh;have w5:=wS h;have R:(ar pl)[h]'(by rw[aH];exact hh)=[.int .i64 pl[h]]:=eR
     simp(maxSteps:=2000000) [hh,aH,R,g1,g2];refine wk [0,1,2,3,4,5] [] ?_;simp[w5]
    ·by_cases b:k<pl.length
     ·have g1:=E b;have g2:=H k b;have R:(ar pl)[k]'(by rw[aH];exact b)=[.int .i64 pl[k]]:=eR
      have M:(ar pl).set k [PV.int .i64 st]=ar (pl.set k st):=by unfold ar;rw[vm]
      have a0:¬(k:Int)=pl.length:=bd
      rw[aB b,aB b];simp(maxSteps:=2000000) [b,aH,R,g1,g2,a0,F];refine u2 K (ez.flat _) ?_;simp(maxSteps:=2000000);refine wk [0,1,2,3,6,5] [] ?_;simp(maxSteps:=2000000) [r,M,B0]
     ·have a1:k=pl.length:=bd
      subst a1;have M:(ar pl++[[PV.int .i64 st]]).set pl.length [PV.int .i64 st]=ar (pl++[st]):=by
       rw[List.set_append_right (h:=by rw[aH];exact aK _),aH,Ww,List.set_cons_zero];simp[ar]
      rw[av b,av b];have b5:C.length≤1048576:=by
       rw[N,aA,nj];omega
      simp(maxSteps:=2000000) [aH,F];refine⟨eG,bd,bd,eG,bd,bd,bd,u2 K (ez.flat _) ?_⟩;simp(maxSteps:=2000000);refine wk [0,1,2,3,8,5] [] ?_;simp(maxSteps:=2000000) [r,B0];simp[ar]
   ·rw[av hx];simp(maxSteps:=2000000) [hi,aO.aj,aO.cx,hx];refine wk [0,1,2,3,4,5] [] ?_;simp[r]
  ·simp(maxSteps:=2000000) [aO.aj];refine wk [0,1,2,3,4] [] ?_;simp[w1,Jm]
 ·rw[ay bd];obtain⟨o1,d,u⟩:=s L.length bd;rw[aI]at o1 d u;generalize oP t.aU per rest L=D at o1 d u⊢;rw[abh];simp[aH];refine⟨λa2=>?_,λg1 g2=>?_⟩
  ·have hn:¬(D.steps≤4096∧D.notes.length≤32):=bd
   simp only[av hn];exact uW
  ·have hy:D.steps≤4096∧D.notes.length≤32:=bd
   simp only[aB hy];refine wk [3,4] [] ?_;simp
theorem xu{l:List Order}:cV l=true↔(∀x∈l,eu x=true)∧l.Pairwise (λa b=>Op.bytesLess a.id b.id=true)∧l.length≤12:=by
 constructor
 ·intro h;refine⟨λx hx=>UY h hx,b7.2 λi j hi d k=>?_,oF h⟩;rw[dA];simpa using Ia h k d
 ·rintro⟨h1,h2,c⟩;simp only[cV,ah,ak,bO,al];refine⟨λi hi=>?_,bd⟩;simp only[pN,ae hi,h1 _ (ai hi),bW];by_cases h0:i=0
  ·simp[h0]
  ·have g:i-1<l.length:=bd
   simp only[h0,Wv,ah3,ae g];exact b7.1 h2 (i-1) i g hi bd
theorem SF{l:List Order}{x:Order}(h:fc l x=0):cV l=true∧eu x=true∧pG l x.id<0∧l.length<12:=by
 unfold fc at h;split at h
 ·rename_i a;split at h
  ·omega
  ·split at h
   ·omega
   ·have:=oF a.1;exact⟨a.1,a.2,bd,bd⟩
 ·omega
theorem SA{l:List Order}{x:Order}(h:fc l x=0):cV (uz l x)=true:=by
 obtain⟨c,hx,hf,hl⟩:=SF h;have z:uz l x=l.take (jR l x.id)++x::l.drop (jR l x.id):=by unfold uz;rw[aB h]
 obtain⟨h1,h2,d⟩:=xu.1 c;have vH:∀y∈l.take (jR l x.id),Op.bytesLess y.id x.id=true:=λy hy=>by
  obtain⟨i,hi,rfl⟩:=aX hy;rw[aw]at hi;have:=Rv c hf i bd;rw[decide_eq_true ((bd:i<jR l x.id))]at this;rw[lS];have n:=OP hf i bd;simpa[n]using this
 have r:∀y∈l.drop (jR l x.id),Op.bytesLess x.id y.id=true:=λy hy=>by
  obtain⟨i,hi,rfl⟩:=aX hy;rw[cO]at hi;have:=Rv c hf (jR l x.id+i) bd;have e:decide (jR l x.id+i<jR l x.id)=false:=bn
  rw[e,fD]at this;rw[DF];simpa using this
 rw[z];refine xu.2 ⟨λy hy=>?_,?_,?_⟩
 ·rcases bf.1 hy with hy|hy
  ·exact h1 y (bG hy)
  ·rcases bz.1 hy with rfl|hy
   ·exact hx
   ·exact h1 y (dq hy)
 ·rw[cQ];refine⟨h2.sublist (dH _ _),d_.2 ⟨r,h2.sublist (gj _ _)⟩,λa C b hb=>?_⟩;rcases bz.1 hb with rfl|hb
  ·exact vH a C
  ·have k:=vH a C;have D:=r b hb;rw[dA]at k D⊢;simp only[al]at k D⊢;exact jA k D
 ·rw[aA,aw,aL,cO];omega
end
end Go.Proofs.YtepeckjhdoicpaaGreatDoor
