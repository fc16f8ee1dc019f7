import Derived.Test.YtepeckjhdoicpaaGreatDoorG9
import Derived.Lib.Overlaps
set_option linter.all false
set_option maxRecDepth 100000
namespace Go.Ab
section
variable[dw:Go.Ab.bI]
variable{P:Program}{A A':Nat→Prop}{m m':dt}{h h':eV}{w w':World}{H:Heap}
theorem nO{tS tR e:TypeId}(W:cT P tS=some e)(hz:0<aE P e)(a b:Option Addr)(Y j G k:Nat)(h:a=none∨b=none∨Y=0∨G=0):
  (Extern.SlicesOverlaps.overlaps #[tS,tS] #[tR] #[.slice a Y j,.slice b G k]).run P w=.ok (.bool false) w:=by
 change Sem.run P (α:=Value) (do
  let some t := (#[tS, tS] : Array TypeId)[0]? | stuck "slices.overlaps: no parameter types"
  let .slice l ← underlying t | stuck "slices.overlaps: slice type expected"
  let size ← sizeOf l
  match(a:Option Addr),(b:Option Addr)with
  |some a,some b=>
   if Y=0∨G=0∨size=0 then pure (Value.bool false)
   else if a.block != b.block&&(← frozen a)&&(← frozen b) then unsupported .addressObserved
   else do
    if a.block != b.block then do
     noView a;noView b
     if ← mayBeOne a b then return Value.bool ((← choose (.extern "sameAddr.stringBytes" 2)) == 1)
    pure (Value.bool (a.block==b.block&&a.off<b.off+G*size&&b.off<a.off+Y*size))
  |_,_=>pure (Value.bool false)) w=_
 cases a with
 |none=>simp[bJ (dx W),eY hz]
 |some a=>
  cases b with
  |none=>simp[bJ (dx W),eY hz]
  |some b=>
   have h0:Y=0∨G=0∨aE P e=0:=by
    rcases h with h|h|h|h
    ·cases h
    ·cases h
    ·exact .inl h
    ·exact .inr (.inl h)
   simp[bJ (dx W),eY hz,h0]
theorem jV {f tS tR e : Nat} {fn : Func} (hf : P.funcs[f]? = some fn) (r : (fn.name == "runtime.NumGoroutine") = false) (hb : fn.body.isNone = true) (hn : Extern.findNext fn = none) (he : Extern.find fn = some (Extern.SlicesOverlaps.overlaps #[tS, tS] #[tR]))
  (W:cT P tS=some e) (hz:0<aE P e) (z:Nat) (s:0<z) (q rows:List (List PV)) (lo len:Nat):
  nh P f [.sf 0 z,.so 1 z lo len] [some (.arr z q),some (.arr z rows)] [0,1] (.bool false) [some (.arr z q),some (.arr z rows)]:=by
 intro A m w vs hA l E ey;have h0:a_ [some (.arr z q),some (.arr z rows)] 0=some (.arr z q):=rfl;have h1:a_ [some (.arr z q),some (.arr z rows)] 1=some (.arr z rows):=rfl;have r0:=ey 0 _ rfl;have r1:=ey 1 _ rfl;have F:vs = #[vs.getD 0 undef,vs.getD 1 undef]:=by
  have hs:vs.size=2:=E;apply GA
  ·simp[hs]
  ·intro i h1 h2;have:i=0∨i=1:=bd
   rcases this with rfl|rfl<;>simp[ax,hs]
 have t:(Extern.SlicesOverlaps.overlaps #[tS,tS] #[tR] vs).run P w=.ok (.bool false) w→gT P f vs w λe w'=>∃v A' m',e=.returned v∧L7 A m (a_ [some (.arr z q),some (.arr z rows)]) w (.bool false) (a_ [some (.arr z q),some (.arr z rows)]) v w' A' m' ∧
   ∀k,k∈[0,1]→m' k=m k∧∃o o',a_ [some (.arr z q),some (.arr z rows)] k=some o∧a_ [some (.arr z q),some (.arr z rows)] k=some o'∧dp o o':=λu=>by
  unfold gT;rw[T5 hf r hb hn he,u];refine⟨rfl,.bool false,A,m,rfl,⟨.refl _ _,λb hb=>.inl hb,hA,l,λb hb=>.inl hb,.dB (.bool _)⟩,λk hk=>⟨rfl,?_⟩⟩;simp at hk;rcases hk with rfl|rfl
  ·exact⟨_,_,h0,h0,.refl _⟩
  ·exact⟨_,_,h1,h1,.refl _⟩
 apply t;rw[F];generalize vs.getD 0 undef=v0 at r0⊢;generalize vs.getD 1 undef=L at r1⊢;obtain⟨M,ob,C,cap,n,hm,d⟩:=r1.soI;have y:v0=.slice none 0 0∨(∃ao c,v0=.slice ao 0 c)∨∃b a,v0=.slice (some ⟨b,0,none⟩) q.length a∧m 0=some (some b,a):=by
  cases r0 with
  |dB hi=>cases hi
  |xV _ _ a ao g I=>exact .inr (.inl ⟨ao,0,rfl⟩)
  |sf _ _ a b N g I=>rw[h0]at g;cases g;exact .inr (.inr ⟨b,a,rfl,I⟩)
 rcases y with rfl|⟨ao,c,rfl⟩|⟨b0,a,rfl,I⟩
 ·rcases d with⟨rfl,p,rfl,_⟩|⟨b1,rfl,rfl,_,_⟩<;>exact nO W hz _ _ _ _ _ _ (.inl rfl)
 ·rcases d with⟨rfl,p,rfl,_⟩|⟨b1,rfl,rfl,_,_⟩<;>exact nO W hz _ _ _ _ _ _ (.inr (.inr (.inl rfl)))
 ·rcases d with⟨rfl,p,rfl,_⟩|⟨b1,rfl,rfl,Q,R⟩
  ·exact nO W hz _ _ _ _ _ _ (.inr (.inr (.inr rfl)))
  ·rw[h1]at n;cases n;obtain⟨S,T,Y,G,O,cur,ty,x,U,q3⟩:=l.wE h0 I;obtain⟨s1,s2,s3,s4,s5,j,X,u1,u2,u3⟩:=l.wE h1 hm;have B:b0≠b1:=λe=>by
    subst e;have:=l.inj 0 1 _ _ _ _ _ h0 h1 I hm;omega
   have D:w.shape? b0=some (ty,cur.size):=by simp[World.shape?,x]
   have Z:w.shape? b1=some (X,j.size):=by simp[World.shape?,u1]
   by_cases V:j.size=0
   ·have J:len=0:=by
     by_cases a0:rows.length=0
     ·omega
     ·exfalso;have K:0<C:=bd
      have:0<C*z:=Nat.mul_pos K s;omega
    exact nO W hz _ _ _ _ _ _ (.inr (.inr (.inr J)))
   ·refine Lib.run_overlaps_apart w tS tR e (dx W) (aE P e) (λw=>eY hz w) ⟨b0,0,none⟩ ⟨b1,lo*z,none⟩ q.length a len cap B ty X cur.size j.size D Z V ?_ ?_
    ·simp[World.frozen?,x]
    ·simp[World.frozen?,x]
end
end Go.Ab
namespace Go.Proofs.YtepeckjhdoicpaaGreatDoor
open Go Go.Ab
section
variable[dw:Go.Ab.bI]
theorem wZ(rows:List (List PV))(eL:aC rows)(hl:rows.length≤1048576):iW Tryz.prog 72 [.sl 5 rows] [] (.sf 0 5) [some (.arr 5 rows)]:=by
 refine iG hm Tryz.func72 ?_;simp;refine⟨λh=>?_,eL,bd,bd,wk [0] [] bn⟩;rw[h];exact(cg (t:=0) (z:=5) rfl).trans (wk [0] [] bn)
theorem JT(rows:List (List PV))(i j:Nat)(a:aC rows)(k:i<j)(d:j≤rows.length)(hl:rows.length≤1048576):nh Tryz.prog 277 [.sf 0 5,.int .i64 i,.int .i64 j] [some (.arr 5 rows)] [] (.sf 0 5) [some (.arr 5 (rows.take i++rows.drop j))]:=by
 refine fq [] hm Tryz.func277 bl rfl bl rfl (λ_ _ h=>h) cw ?_;simp;have e1:((i:Int)+((rows.length-j:Nat):Int)).toNat=i+(rows.length-j):=bd
 refine⟨⟨bd,d⟩,λh=>bd,λ_=>⟨bd,d,bd,λr h=>a r (dq (bG h)),rfl,bd,⟨bd,bd,bd⟩,bd,?_⟩⟩;rw[e1];refine(qR (S:=⟨[(0,.so 0 5 0 (i+(rows.length-j)))],_⟩) (t:=0) rfl rfl ca).trans (wk [0] [] ?_);simp;have:=PC rows i j k d;simpa using this _
theorem Gr(q rows:List (List PV))(lo len:Nat):nh Tryz.prog 369 [.sf 0 5,.so 1 5 lo len] [some (.arr 5 q),some (.arr 5 rows)] [0,1] (.bool false) [some (.arr 5 q),some (.arr 5 rows)]:=
 jV Tryz.func369 bl bl bl (tS:=43) (tR:=4) (e:=120) bl bn bn 5 bd q rows lo len
theorem JU(A B q:List (List PV))(d:aC (A++B))(a:aC q)(h0:0<q.length)(hl:A.length+B.length+q.length≤1048576):
  nh Tryz.prog 259 [.sf 0 5,.int .i64 A.length,.sf 1 5] [some (.arr 5 (A++B)),some (.arr 5 q)] [] (.sf 0 5) [some (.arr 5 (A++(q++B))),some (.arr 5 q)]:=by
 have b:q≠[]:=λe=>w4
 have X:aC B:=λr h=>d r (ni _ h);by_cases m:B=[]
 ·subst m;refine fq [] hm Tryz.func259 bl rfl bl rfl (λ_ _ h=>h) cw ?_;simp[b];exact⟨a,bd,bd,wk [0,1] [] bn⟩
 ·have p:0<B.length:=fV.2 m;have g:A++B≠[]:=λe=>m (Jw.1 e).2;have f:¬((A.length:Int)=((A.length+B.length:Nat):Int)):=bd
  have e1:IntKind.i64.wrap (((A.length+B.length:Nat):Int)+(q.length:Int))=((A.length+B.length+q.length:Nat):Int):=bo
  have e2:IntKind.i64.wrap (((A.length+B.length+q.length:Nat):Int)-(A.length:Int))=((B.length+q.length:Nat):Int):=bo
  have e3:IntKind.i64.wrap ((A.length:Int)+(q.length:Int))=((A.length+q.length:Nat):Int):=bo
  refine u7 hm Tryz.func259 bl rfl bl rfl (λ_ _ h=>h) rfl λC l i=>?_;rw[aA]at l;by_cases n:A.length+B.length+q.length≤C
  ·refine JJ.BP (EM (t:=0) (k:=0) (z:=5) (C:=C) (rows:=A++B) rfl rfl rfl bn g) ?_;refine ee hm _ _ _ bl ?_;rw[aA];obtain⟨T,c⟩:∃T,T=List.replicate (C-(A.length+B.length)) (List.replicate 5 PV.top):=⟨_,rfl⟩;have j:T.length=C-(A.length+B.length):=by rw[c];simp
   rw[←c];have f1:¬C<A.length+B.length+q.length:=bd
   have H:A.length+(B.length+T.length)=C:=bd
   have f3:A.length+B.length+q.length-(A.length+q.length)=B.length:=bd
   have f4:A.length+B.length+q.length-A.length=B.length+q.length:=bd
   have g1:q.take (B.length+q.length)=q:=ay bd;simp[b,f,e1,e2,e3,f1,H,f3,g1,j3,-Int.natCast_add];refine⟨bd,λ_=>⟨n,?_⟩⟩;refine iv.Yn [1,0] [] [] (Gr q (A++(B++T)) (A.length+q.length) B.length) ?_ rfl rfl bn rfl rfl rfl (.inl rfl) ?_
   ·simp
   simp[e3,H,f3,f4,g1,j3,-Int.natCast_add];have g2:((B++T).take q.length).length=q.length:=ca
   rw[y5 g2];refine⟨n,⟨bd,n⟩,bd,bd,X,⟨bd,bd⟩,bd,a,?_⟩;refine(qR (S:=⟨[(0,.so 0 5 0 (A.length+B.length+q.length))],_⟩) (t:=0) rfl rfl ca).trans (wk [0,1] [] ?_);have g3:(A++(q++(B++(A++(B++T)).drop (A.length+q.length+B.length)))).take (A.length+B.length+q.length)=A++(q++B):=by
    rw[←bg,←bg,tE ca,bg]
   simp[g3]
  ·refine ee hm _ _ _ bl ?_;have f1:C<A.length+B.length+q.length:=bd
   have f4:A.length+(q.length+B.length)-(A.length+q.length)=B.length:=bd
   have f6:¬A.length+B.length+q.length≤C:=bd
   have g1:q.take (B.length+q.length)=q:=ay bd;simp[b,f,e1,e2,e3,f1,f4,f6,g1,j3,-Int.natCast_add];rw[cH ca,bq];refine⟨bd,bd,bd,bd,bd,a,bd,X,wk [2,1] [] bn⟩
end
end Go.Proofs.YtepeckjhdoicpaaGreatDoor
