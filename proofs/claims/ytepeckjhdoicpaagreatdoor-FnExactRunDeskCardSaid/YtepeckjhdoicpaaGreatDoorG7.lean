import Derived.Test.YtepeckjhdoicpaaGreatDoorG6
import Derived.Test.YtepeckjhdoicpaaGreatDoorG5
set_option linter.all false
set_option maxRecDepth 100000
namespace Go.Ab
open Go.ChangeShapes Go.WideShapes Go.ChangeAt Go.RowKit
section
variable[dw:Go.Ab.bI]
inductive Sh where
 |bool
 |int (k:IntKind)
 |str
 |slc (e:List Sh)
mutual
def fits:Sh→PV→Prop
 |.bool,p=>∃b,p=.bool b
 |.int k,p=>∃n,p=.int k n∧(Lit.int k n).wf=true
 |.str,p=>∃s,p=.str s∧s.length≤9223372036854775807
 |.slc e,p=>∃rows,p=.sl e.length rows∧rows.length≤9223372036854775807∧∀r∈rows,abn e r
def abn:List Sh→List PV→Prop
 |[],[]=>True
 |s::r,p::q=>fits s p∧abn r q
 |_,_=>False
end
theorem abY:∀{shs:List Sh}{ps:List PV},abn shs ps→ps.length=shs.length
 |[],[],_=>rfl
 |s::r,p::q,h=>by
  rw[abn]at h;simp[abY h.2]
 |[],_::_,h=>by rw[abn]at h;exact h.elim;all_goals simp
 |_::_,[],h=>Ur
def shF(P:Program)(r:TypeId→Option (List Sh)):List Field→Nat→Option (List Sh)
 |[],_=>some []
 |f::fs,o=>if f.offset=o then
   match r f.type with
   |some s=>if P.cellsOf f.type=s.length then(shF P r fs (o+s.length)).map (s ++ ·) else none
   |none=>none
  else none
def shT(P:Program):Nat→TypeId→Option (List Sh)
 |0,_=>none
 |n+1,t=>match P.underlying t with
  |some .bool=>some [.bool]
  |some (.int k)=>some [.int k]
  |some .string=>some [.str]
  |some (.slice e)=>match shT P n e with
   |some s=>if P.cellsOf e=s.length∧0<s.length then some [.slc s] else none
   |none=>none
  |some (.struct fs)=>match shF P (shT P n) fs.toList 0 with
   |some s=>if P.cellsOf t=s.length then some s else none
   |none=>none
  |_=>none
theorem aaJ:∀{s1 u:List Sh}{W a:List PV},abn s1 W→abn u a→abn (s1++u) (W++a)
 |[],_,[],_,_,h=>h
 |s::r,_,p::q,_,h1,h2=>by
  rw[abn]at h1;show abn (s::(r++_)) (p::(q++_));rw[abn];exact⟨h1.1,aaJ h1.2 h2⟩
 |[],_,_::_,_,h,_=>by rw[abn]at h;exact h.elim;all_goals simp
 |_::_,_,[],_,h,_=>Ur
def InW(w:World):Nat→Prop:=λb=>b<w.heap.size
def Shown(w:World)(cs:List Value)(ps:List PV):Prop:=ps.length=cs.length∧∀(i:Nat)(c:PV),ps[i]?=some c→∃v,cs[i]?=some v∧dC (InW w) w c v
theorem Shown.append{w:World}{t c2:List Value}{W q:List PV}(h1:Shown w t W)(h2:Shown w c2 q):Shown w (t++c2) (W++q):=by
 refine⟨by simp[h1.1,h2.1],λi c hc=>?_⟩;rw[cN]at hc⊢;rw[←h1.1];split at hc
 ·rename_i hl;rw[aB hl];exact h1.2 i c hc
 ·rename_i hl;rw[av hl];exact h2.2 _ c hc
end
section
variable[dw:Go.Ab.bI]
variable{H:Type}{enc:TypeId×Value→H}{P:Program}{w:World}{base:Nat}{sp:Nat→Bool}{held:Bool}
theorem abZ{r:TypeId→Option (List Sh)}{fuel:Nat}(m:∀t shs,r t=some shs→∀cs x,DataW.trod enc P w base sp held fuel t cs=some x→∃W,abn shs W∧Shown w cs W):
  ∀(fs:List Field)(o:Nat)(shs:List Sh)(cs:List Value),shF P r fs o=some shs→(∀f∈fs,∃x,DataW.trod enc P w base sp held fuel f.type ((cs.drop f.offset).take (P.cellsOf f.type))=some x) →
   ∃W,abn shs W∧Shown w ((cs.drop o).take shs.length) W
 |[],o,shs,cs,h,_=>by
  simp only[shF,ck]at h;subst h;exact⟨[],by rw[abn];trivial,bn,λi c hc=>by simp at hc⟩
 |f::fs,o,shs,cs,h,hx=>by
  simp only[shF]at h;split at h
  ·rename_i ho;cases a:r f.type with
   |none=>rw[a]at h;cases h
   |some s=>
    rw[a]at h;simp only at h;split at h
    ·rename_i hc;obtain⟨rest,Y,rfl⟩:=bh.1 h;obtain⟨x,K⟩:=hx f bn;obtain⟨b,d,N⟩:=m _ _ a _ _ K;obtain⟨q,e,y⟩:=abZ m fs (o+s.length) rest cs Y λg j=>hx g (by simp[j]);refine⟨b++q,aaJ d e,?_⟩;rw[ho,hc]at N;have:=N.append y;rw[aA,List.take_add,List.drop_drop];exact this
    ·cases h
  ·cases h
theorem aae:∀(n:Nat)(t:TypeId)(shs:List Sh),shT P n t=some shs→∀(fuel:Nat)(cs:List Value)(x:DataW H×List MemPlace),DataW.trod enc P w base sp held fuel t cs=some x→∃W,abn shs W∧Shown w cs W
 |0,_,_,h,_,_,_,_=>by cases h
 |n+1,t,shs,h,fuel,cs,x,l=>by
  have one:∀{s:Sh}{p:PV}{v:Value},fits s p→dC (InW w) w p v→cs=[v]→shs=[s]→∃W,abn shs W∧Shown w cs W:=λ{s p v} h1 h2 q y=>by
   subst q;subst y;refine⟨[p],by rw[abn,abn];exact⟨h1,cw⟩,rfl,λi c hc=>?_⟩;cases i with
   |zero=>cases hc;exact⟨v,rfl,h2⟩
   |succ i=>simp at hc
  unfold shT at h;cases hu:P.underlying t with
  |none=>rw[hu]at h;cases h
  |some ty=>
   rw[hu]at h;cases ty<;>simp only at h<;>try (cases h;done)
   case bool=>
    obtain⟨b,rfl,_⟩:=DataW.trod_bool hu l;exact one (s:=.bool) (by rw[fits];exact⟨b,rfl⟩) (.bool b) rfl br
   case int k=>
    obtain⟨m,rfl,_,hw⟩:=DataW.trod_int hu l;exact one (s:=.int k) (by rw[fits];exact⟨m,rfl,hw⟩) (.int k m) rfl br
   case string=>
    obtain⟨s,rfl,_,hs⟩:=DataW.trod_string hu l;exact one (s:=.str) (by rw[fits];exact⟨_,rfl,by unfold maxLen at hs;simpa using hs⟩) (.str _ s rfl) rfl br
   case slice e=>
    cases hs:shT P n e with
    |none=>rw[hs]at h;cases h
    |some s=>
     rw[hs]at h;simp only at h;split at h
     ·rename_i hc;have h':shs=[.slc s]:=br
      rcases DataW.trod_slice hu l with⟨rfl,_⟩|⟨a,len,cap,O,rest,k,_,rfl,_,hb,K,L,U,z,_⟩
      ·exact one (s:=.slc s) (p:=.sl s.length []) LO (.RE _ _ _) rfl h'
      ·unfold maxLen at L;have u:∀i,i<len→∃(cs:List Value)(W:List PV),w.cells? base (a.add (i*s.length)) s.length=some cs∧abn s W∧Shown w cs W:=λi hi=>by
        have h1:=z i hi;rw[ae bd,hc.1]at h1;obtain⟨cs,h2,q⟩:=eM.1 h1;obtain⟨W,y,M⟩:=aae n e s hs _ _ _ q;exact⟨cs,W,h2,y,M⟩
       rcases nc len with h0|N
       ·subst h0;exact one (s:=.slc s) (p:=.sl s.length []) LO (.RE _ _ _) rfl h'
       ·have Q:a.spot=none∧a.block<w.heap.size:=by
         obtain⟨cs,W,h1,_,_⟩:=u 0 N;obtain⟨_,hl,C⟩:=World.cells?_some h1;have:=C 0 hc.2;rw[ae bd]at this;simp only[mD,Addr.add,gk,World.cell?]at this;split at this
         ·rename_i c ty fr S;refine⟨?_,(gR.1 S).1⟩;split at this
          ·cases this
          ·rename_i T;simpa using T
         ·cases this
        obtain⟨b,o,X⟩:=a;obtain⟨rfl,Y⟩:=Q
        let row:Nat→List PV:=λi=>if hi:i<len then Classical.choose (ab6 (u i hi)) else[]
        have D:∀i,i<len→∃cs,w.cells? base ((⟨b,o,none⟩:Addr).add (i*s.length)) s.length=some cs∧abn s (row i)∧Shown w cs (row i):=λi hi=>by
         have:=ab6 (ab6 (u i hi));refine⟨Classical.choose (u i hi),?_⟩;simp only[row,dif_pos hi];exact this
        have E:∀(i:Nat)(r:List PV),((List.range len).map row)[i]?=some r→i<len∧r=row i:=λi r d=>by
         rw[bm]at d;by_cases hi:i<len
         ·rw[sR hi]at d;cases d;exact⟨hi,rfl⟩
         ·rw[cF ca]at d;cases d
        have J:∀(i j:Nat)(r:List PV)(c:PV),((List.range len).map row)[i]?=some r→r[j]?=some c→∃v,w.cell? ⟨b,o+(i*s.length+j),none⟩=some v∧dC (InW w) w c v:=λi j r c d B=>by
         obtain⟨hi,rfl⟩:=E i r d;obtain⟨cs,h1,h2,q⟩:=D i hi;obtain⟨v,g,F⟩:=q.2 j c B;obtain⟨_,hl,C⟩:=World.cells?_some h1;have G:j<s.length:=by rw[←hl];exact(aa.1 g).1
         refine⟨v,?_,F⟩;rw[←g,←C j G,ZH,ZH,gS]
        have I:((List.range len).map row).length=len:=bn
        have Z:fits (.slc s) (.sl s.length ((List.range len).map row)):=by
         rw[fits];refine⟨_,rfl,by rw[I];omega,λr d=>?_⟩;obtain⟨i,hi⟩:=iD.1 d;obtain⟨R,rfl⟩:=E i r hi;obtain⟨_,_,h2,_⟩:=D i R;exact h2
        refine one (s:=.slc s) Z ?_ rfl h';have:=dC.sl (A:=InW w) (w:=w) s.length ((List.range len).map row) b o cap (λi j=>(w.cell? ⟨b,o+(i*s.length+j),none⟩).getD undef) Y (by rw[I];exact K)
         (λi r d=>by obtain⟨hi,rfl⟩:=E i r d;obtain⟨_,_,h2,_⟩:=D i hi;exact abY h2)
         (λi j r c d B=>by obtain⟨v,g,_⟩:=J i j r c d B;rw[g];rfl)
         (λi j r c d B=>by obtain⟨v,g,F⟩:=J i j r c d B;rw[g];exact F)
        rw[I]at this;exact this
     ·cases h
   case struct fs=>
    cases hs:shF P (shT P n) fs.toList 0 with
    |none=>rw[hs]at h;cases h
    |some s=>
     rw[hs]at h;simp only at h;split at h
     ·rename_i hc;cases h;obtain⟨xs,k,_,_,hl,V,z⟩:=DataW.trod_struct hu l;obtain⟨W,h1,h2⟩:=abZ (λt shs ht cs x hx=>aae n t shs ht _ cs x hx) fs.toList 0 _ cs hs λf hf=>by
       obtain⟨i,hi⟩:=iD.1 hf;have R:fs[i]?=some f:=cm
       have:=z i f R;rw[ae (by rw[V];exact(gR.1 R).1)]at this;exact⟨_,this⟩
      refine⟨W,h1,?_⟩;rw[rQ,ay bd]at h2;exact h2
     ·cases h
theorem afy{n:Nat}{t:TypeId}{fs:Array Field}{shs:List Sh}(hu:P.underlying t=some (.struct fs))(T:shT P n t=some shs){b0:Nat}{v:Value}{d:DataW H}{ps:List MemPlace}(I:Value.okWide P w .any b0 t v)
  (f:DataW.Trod enc P w base sp held t v d ps):∃W,abn shs W∧dC (InW w) w (.agg W) v:=by
 obtain⟨cs,rfl,_⟩:=okWide_struct hu I;obtain⟨fuel,hf⟩:=f;obtain⟨W,h1,h2,a⟩:=aae n t shs T fuel _ _ hf;have s:W.length=cs.size:=h2;refine⟨W,h1,.agg W cs s.symm λi c hc=>?_⟩;obtain⟨u,m,b⟩:=a i c hc;have A:cs[i]?=some u:=by simpa[Value.cells]using m
 rw[ax,A];exact b
def afz:TypeDesc→Bool
 |.bool|.int _|.string|.slice _=>true
 |_=>false
theorem afA{n:Nat}{t:TypeId}{s:Sh}{ty:TypeDesc}(hu:P.underlying t=some ty)(S:afz ty=true)(T:shT P n t=some [s]){b0:Nat}{v:Value}{d:DataW H}{ps:List MemPlace}
  (I:Value.okWide P w .any b0 t v) (f:DataW.Trod enc P w base sp held t v d ps):∃p,fits s p∧dC (InW w) w p v:=by
 obtain⟨fuel,hf⟩:=f;obtain⟨W,h1,h2,e⟩:=aae n t [s] T fuel _ _ hf;have hc:v.cells = #[v]:=by
  cases ty<;>simp[afz]at S
  case bool=>obtain⟨b,rfl⟩:=okWide_bool hu I;rfl
  case int=>obtain⟨b,rfl⟩:=okWide_int hu I;rfl
  case string=>obtain⟨b,rfl⟩:=okWide_string hu I;rfl
  case slice=>obtain⟨a,l,c,rfl⟩:=okWide_slice hu I;rfl
 have g:=abY h1
 match W,g with
 |[p],_=>
  rw[abn]at h1;obtain⟨u,m,h⟩:=e 0 p rfl;rw[hc]at m;cases m;exact⟨p,h1.1,h⟩
end
section
variable[dw:Go.Ab.bI]
inductive ASh where
 |one (s:Sh)
 |agg (shs:List Sh)
def adX:ASh→PV→Prop
 |.one s,p=>fits s p
 |.agg shs,p=>∃cs,p=.agg cs∧abn shs cs
def aar:List ASh→List PV→Prop
 |[],[]=>True
 |a::r,p::q=>adX a p∧aar r q
 |_,_=>False
def shA(P:Program)(t:TypeId):Option ASh:=
 match P.underlying t with
 |some (.struct _)=>(shT P 8 t).map .agg
 |some .bool|some (.int _)|some .string|some (.slice _)=>match shT P 8 t with
  |some [s]=>some (.one s)
  |_=>none
 |_=>none
theorem ad0{H:Type}{enc:TypeId×Value→H}{P:Program}{w:World}{t:TypeId}{x:ASh}(hx:shA P t=some x){b0:Nat}{v:Value}{d:DataW H}{ps:List MemPlace}(I:Value.okWide P w .any b0 t v)
  (f:DataW.Trod enc P w 0 (λ_=>true) true t v d ps):∃p,adX x p∧dC (InW w) w p v:=by
 unfold shA at hx;cases hu:P.underlying t with
 |none=>rw[hu]at hx;cases hx
 |some ty=>
  rw[hu]at hx;have one:afz ty=true→(match shT P 8 t with|some [s]=>some (ASh.one s)|_=>none)=some x→∃p,adX x p∧dC (InW w) w p v:=λh1 h2=>by
   split at h2
   ·rename_i s hs;cases h2;exact afA hu h1 hs I f
   ·cases h2
  cases ty<;>simp only at hx<;>try (cases hx;done)
  case struct fs=>
   obtain⟨shs,h1,rfl⟩:=bh.1 hx;obtain⟨W,h2,c⟩:=afy hu h1 I f;exact⟨_,⟨W,rfl,h2⟩,c⟩
  all_goals exact one rfl hx
theorem adq{H:Type}{enc:TypeId×Value→H}{P:Program}{w:World}{b0:Nat}:∀{ts:List TypeId}{vs:List Value}{V:List (DataW H)}{ps:List MemPlace}{xs:List ASh},ts.map (shA P)=xs.map some→DataW.TrodAll enc P w 0 (λ_=>true) true ts vs V ps →
  (∀(j:Nat) t v,ts[j]?=some t→vs[j]?=some v→Value.okWide P w .any b0 t v)→∃a,a.length=vs.length∧V.length=ts.length∧aar xs a∧∀(i:Nat)(p:PV),a[i]?=some p→∃v,vs[i]?=some v∧dC (InW w) w p v
 |[],[],[],_,xs,hx,_,_=>by
  cases xs with
  |nil=>exact⟨[],rfl,rfl,cw,bn⟩
  |cons x xs=>simp at hx
 |t::ts,v::vs,d::V,ps,xs,hx,h,b=>by
  cases xs with
  |nil=>simp at hx
  |cons x xs=>
   simp only[fo,qu]at hx;obtain⟨p,q,h1,h2,rfl⟩:=h;obtain⟨X,f0,r0⟩:=ad0 hx.1 (b 0 t v rfl rfl) h1;obtain⟨a,l1,l2,f1,r1⟩:=adq hx.2 h2 λj t' T ht D=>b (j+1) t' T (by simpa using ht) k7;refine⟨X::a,by simp[l1],by simp[l2],⟨f0,f1⟩,λi p g=>?_⟩;cases i with
   |zero=>cases g;exact⟨v,rfl,r0⟩
   |succ i=>
    obtain⟨u,hu,c⟩:=r1 i p kK;exact⟨u,r3,c⟩
 |[],[],_::_,_,_,_,h,_=>h.elim
 |[],_::_,_,_,_,_,h,_=>h.elim
 |_::_,[],_,_,_,_,h,_=>h.elim
 |_::_,_::_,[],_,_,_,h,_=>h.elim
theorem ab_{a:ASh}{r:List ASh}{ps:List PV}(h:aar (a::r) ps):∃p q,ps=p::q∧adX a p∧aar r q:=by
 cases ps with
 |nil=>exact h.elim
 |cons p q=>exact⟨p,q,rfl,h.1,h.2⟩
theorem adM{ps:List PV}(h:aar [] ps):ps=[]:=by
 cases ps with
 |nil=>rfl
 |cons p q=>exact h.elim
theorem agQ{p:PV}(h:fits .str p):∃s,p=.str s∧s.length≤9223372036854775807:=by rw[fits]at h;exact h
end
end Go.Ab
namespace Go.Proofs.YtepeckjhdoicpaaGreatDoor
open Go Go.Ab
section
variable[dw:Go.Ab.bI]
def au(l:List (List UInt8)):List (List PV):=l.map λs=>[.str s]
def aZ:List (List UInt8):=[[97,114,114,97,110,103,101],[97,117,100,105,116],[98,101,97,109],[98,101,108,108],[99,97,110,99,101,108],[100,114,117,109],[104,97,110,103],[104,101,108,112],[105,110,103,111,116],[107,101,121],[108,101,102,116],[109,101,108,116],[111,114,100,101,114],[112,108,97,99,101],[114,101,99,97,108,108],[115,101,116],[115,116,97,116,101],[116,111,119,101,114],[116,117,110,101],[117,110,100,111],[117,110,115,101,116]]
theorem sY:iW Tryz.prog 75 [] [] (.sf 0 1) [some (.arr 1 (au aZ))]:=by
 refine nz hm Tryz.func75 bl rfl bl rfl (wW (ρ:=[0]) (φ:=[])) ?_;simp[au,aZ]
theorem Ai:iW Tryz.prog 24 [] [] (.sf 0 1) [some (.arr 1 (au aZ))]:=by
 refine nz hm Tryz.func24 bl rfl bl rfl (wW (ρ:=[0]) (φ:=[])) ?_;simp[au,aZ]
theorem cM(l:List (List UInt8)):oE (au l):=λr a c hc=>by
 obtain⟨s,_,rfl⟩:=ba.1 a;simp at hc;subst hc;rfl
def ar(l:List Int):List (List PV):=l.map λn=>[.int .i64 n]
theorem aH(l:List Int):(ar l).length=l.length:=eR
@[simp] theorem Y4(l:List Int):ar l=[]↔l=[]:=eR
theorem bM(l:List Int):oE (ar l):=λr a c hc=>by
 obtain⟨s,_,rfl⟩:=ba.1 a;simp at hc;subst hc;rfl
def KW(n:Int):Prop := -9223372036854775808≤n∧n≤9223372036854775807
structure Order where
 id:List UInt8
 bR:Int
 note:Int
 days:Int
 due:Int
theorem Order.eq_iff{a b:Order}:a=b↔a.id=b.id∧a.bR=b.bR∧a.note=b.note∧a.days=b.days∧a.due=b.due:=cn
instance:DecidableEq Order:=λ_ _=>decidable_of_iff _ Order.eq_iff.symm
def Order.cells(x:Order):List PV:=[.str x.id,.int .i64 x.bR,.int .i64 x.note,.int .i64 x.days,.int .i64 x.due]
def Order.rows(l:List Order):List (List PV):=l.map Order.cells
def Order.wf(x:Order):Prop:=x.id.length≤9223372036854775807∧-9223372036854775808≤x.bR∧x.bR≤9223372036854775807∧-9223372036854775808≤x.note∧x.note≤9223372036854775807∧-9223372036854775808≤x.days∧x.days≤9223372036854775807∧-9223372036854775808≤x.due∧x.due≤9223372036854775807
theorem Order.flat(l:List Order):oE (Order.rows l):=λr a c hc=>by
 obtain⟨x,_,rfl⟩:=ba.1 a;simp only[Order.cells,bz,mI,GH]at hc;rcases hc with rfl|rfl|rfl|rfl|rfl<;>rfl
theorem Order.aj(l:List Order):(Order.rows l).length=l.length:=by simp[Order.rows]
theorem Order.one(l:List Order):Go.Ab.aC (Order.rows l):=λr a=>c6
structure aM where
 kind:Int
 key:List UInt8
 text:List UInt8
theorem aM.eq_iff{a b:aM}:a=b↔a.kind=b.kind∧a.key=b.key∧a.text=b.text:=cn
instance:DecidableEq aM:=λ_ _=>decidable_of_iff _ aM.eq_iff.symm
def aM.cells(x:aM):List PV:=[.int .i64 x.kind,.str x.key,.str x.text]
def aM.rows(l:List aM):List (List PV):=l.map aM.cells
def aM.wf(x:aM):Prop := -9223372036854775808≤x.kind∧x.kind≤9223372036854775807∧x.key.length≤9223372036854775807∧x.text.length≤9223372036854775807
theorem aM.aj(l:List aM):(aM.rows l).length=l.length:=by simp[aM.rows]
theorem aM.one(l:List aM):Go.Ab.aC (aM.rows l):=λr a=>c6
structure ez where
 step:Int
 lW:Int
theorem ez.eq_iff{a b:ez}:a=b↔a.step=b.step∧a.lW=b.lW:=cn
instance:DecidableEq ez:=λ_ _=>decidable_of_iff _ ez.eq_iff.symm
def ez.cells(x:ez):List PV:=[.int .i64 x.step,.int .i64 x.lW]
def ez.rows(l:List ez):List (List PV):=l.map ez.cells
theorem ez.flat(l:List ez):oE (ez.rows l):=λr a c hc=>by
 obtain⟨x,_,rfl⟩:=ba.1 a;simp only[ez.cells,bz,mI,GH]at hc;rcases hc with rfl|rfl<;>rfl
theorem ez.aj(l:List ez):(ez.rows l).length=l.length:=by simp[ez.rows]
end
end Go.Proofs.YtepeckjhdoicpaaGreatDoor
