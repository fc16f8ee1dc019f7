import Derived.Test.YtepeckjhdoicpaaGreatDoorG10
set_option linter.all false
set_option maxRecDepth 100000
set_option maxHeartbeats 1000000
namespace Go.Ab
section
variable[dw:Go.Ab.bI]
variable{P:Program}{fr:Fr}{H:Heap}
def He(φ:Nat→Nat):Operand→Operand
 |.func f=>.func (φ f)
 |x=>x
def Hf(σ φ:Nat→Nat):Op→Op
 |.alloc t=>.alloc (σ t)
 |.box t x=>.box (σ t) x
 |.build t ps=>.build (σ t) ps
 |.buildSlice t n ps=>.buildSlice (σ t) n ps
 |.load t x=>.load (σ t) x
 |.store t x y=>.store (σ t) x y
 |.binOp o t x y u=>.binOp o (σ t) x y (σ u)
 |.unOp o t x=>.unOp o (σ t) x
 |.convert s t x=>.convert (σ s) (σ t) x
 |.makeSlice t l c=>.makeSlice (σ t) l c
 |.slice t x l h m=>.slice (σ t) x l h m
 |.fieldAddr t x i=>.fieldAddr (σ t) x i
 |.indexAddr t x i=>.indexAddr (σ t) x i
 |.index t x i=>.index (σ t) x i
 |.call c=>.call ⟨match c.callee with
  |.value x=>.value (He φ x)
  |x=>x,c.args,c.argTypes.map σ⟩
 |o=>o
def Hg(σ φ:Nat→Nat)(o:Oper):Oper:=⟨o.dst,Hf σ φ o.op,σ o.type,o.pos,o.after,o.guard⟩
def xL(σ φ:Nat→Nat):Code→Code
 |.region i ops d=>.region i (ops.map (Hg σ φ)) d
 |.seq a b=>.seq (xL σ φ a) (xL σ φ b)
 |.cond c a b=>.cond c (xL σ φ a) (xL σ φ b)
 |.block i b=>.block i (xL σ φ b)
 |.loop b=>.loop (xL σ φ b)
 |c=>c
structure Ub(σ φ:Nat→Nat)(F0 F:Func):Prop where
 nm : (F.name == "runtime.NumGoroutine") = false
 body:F.body=F0.body.map (xL σ φ)
 tmps:F.ntmps=F0.ntmps
 res:F.results=F0.results
theorem pU(hm:P.follows .mixedOrders=true){f:FuncId}{F F0:Func}{σ φ:Nat→Nat}{c:Code}{args:List PV}{J:Heap}{res:PV}{Hout:Heap}{Q:Exit→St→Prop}(hf:P.funcs[f]?=some F)(b:Ub σ φ F0 F)
  (hb:F0.body=some c) (m:pd F0 (xL σ φ c)=true) (Z:Nat.ble args.length F0.ntmps=true) (d:∀e S,Q e S→xB P F0.results.toList res Hout e S) (q:vv P F0.ntmps (xL σ φ c) ⟨gf 0 args,J⟩ Q):iW P f args J res Hout:=by
 obtain⟨h1,h2,a,k⟩:=b;rw[hb]at h2;refine nz hm hf h1 h2 ?_ zv (by rw[k];exact d) (by rw[a];exact q);unfold pd at m⊢;rw[a,k];exact m
theorem JI(e:Nat)(hm:P.follows .mixedOrders=true){f:FuncId}{F F0:Func}{σ φ:Nat→Nat}{c:Code}{args:List PV}{J:Heap}{res:PV}{Hout:Heap}{Q:Exit→St→Prop}(hf:P.funcs[f]?=some F)(b:Ub σ φ F0 F)
  (hb:F0.body=some c) (m:pd F0 (xL σ φ c)=true) (Z:Nat.ble args.length F0.ntmps=true) (d:∀e S,Q e S→xB P F0.results.toList res Hout e S) (q:vv P F0.ntmps (xL σ φ c) ⟨(Bb,.ef e)::gf 0 args,J⟩ Q):iW P f args J res Hout:=by
 obtain⟨h1,h2,a,k⟩:=b;rw[hb]at h2;refine B8 e hm hf h1 h2 ?_ zv (by rw[k];exact d) (by rw[a];exact q);unfold pd at m⊢;rw[a,k];exact m
theorem QI(kp:List Nat)(hm:P.follows .mixedOrders=true){f:FuncId}{F F0:Func}{σ φ:Nat→Nat}{c:Code}{args:List PV}{J:Heap}{res:PV}{Hout:Heap}{Q:Exit→St→Prop}(hf:P.funcs[f]?=some F)(b:Ub σ φ F0 F)
  (hb:F0.body=some c) (m:pd F0 (xL σ φ c)=true) (Z:Nat.ble args.length F0.ntmps=true) (d:∀e S,Q e S→sD P F0.ntmps F0.results.toList kp res Hout e S) (T:WI J Hout kp) (q:vv P F0.ntmps (xL σ φ c) ⟨gf 0 args++DE F0.ntmps kp,J⟩ Q):nh P f args J kp res Hout:=by
 obtain⟨h1,h2,a,k⟩:=b;rw[hb]at h2;refine fq kp hm hf h1 h2 ?_ zv (by rw[a,k];exact d) T (by rw[a];exact q);unfold pd at m⊢;rw[a,k];exact m
theorem Hh(hm:P.follows .mixedOrders=true){f:FuncId}{F F0:Func}{σ φ:Nat→Nat}{c:Code}{args:List PV}{J:Heap}{res:PV}{Hout:Heap}{Q:Exit→St→Prop}{z:Nat}{rows:List (List PV)}(hf:P.funcs[f]?=some F)(b:Ub σ φ F0 F)
  (hb:F0.body=some c) (m:pd F0 (xL σ φ c)=true) (Z:Nat.ble args.length F0.ntmps=true) (d:∀e S,Q e S→sD P F0.ntmps F0.results.toList [] res Hout e S) (hk:J[0]?=some (some (.arr z rows)))
  (h:∀C,rows.length≤C→C≤9223372036854775807→JJ P F0.ntmps (xL σ φ c) ⟨(ux 0,.cp 0 C)::gf 0 args,J⟩ Q):nh P f args J [] res Hout:=by
 obtain⟨h1,h2,a,k⟩:=b;rw[hb]at h2;refine u7 hm hf h1 h2 ?_ zv (by rw[a,k];exact d) hk (by rw[a];exact h);unfold pd at m⊢;rw[a,k];exact m
def u9:PV→Bool
 |.int _ _|.bool _|.str _|.sl _ _=>true
 |_=>false
end
section
variable[dw:Go.Ab.bI]
variable{P:Program}{fr:Fr}{H:Heap}
variable{p:PV}{cs:List PV}
theorem tq(h:u9 p=true):vx H p=p∧cG p=true∧tH H p=true∧ml p=true:=by
 cases p<;>first|exact⟨rfl,rfl,rfl,rfl⟩|cases h
theorem W4{ρ φ:List Nat}{H':Heap}(h:u9 p=true):sV H ρ φ H' p p:=by
 cases p<;>first|(simp;done)|cases h
theorem rk:∀{cs:List PV},cs.all u9=true→cs.map (vx H)=cs
 |[],_=>rfl
 |p::r,h=>by
  rw[e_,ah]at h;rw[fo,rk h.2,(tq h.1).1]
theorem qj(h:cs.all u9=true):cs.all cG=true∧cs.all (cG∘vx H)=true∧cs.all (tH H)=true∧∀x∈cs,ml x=true:=by
 refine⟨?_,?_,?_,λx hx=>?_⟩<;>simp only[ak]at *<;>first|(intro x hx)|skip
 ·exact(tq (H:=H) (h x hx)).2.1
 ·rw[Function.comp,(tq (h x hx)).1];exact(tq (H:=H) (h x hx)).2.1
 ·exact(tq (h x hx)).2.2.1
 ·exact(tq (H:=H) (h x hx)).2.2.2
theorem za{ρ φ:List Nat}{H':Heap}:∀{cs:List PV},cs.all u9=true→Qq H ρ φ H' cs cs
 |[],_=>cw
 |p::r,h=>by
  rw[e_,ah]at h;exact⟨W4 h.1,za h.2⟩
end
end Go.Ab
namespace Go.Proofs.YtepeckjhdoicpaaGreatDoor
open Go Go.Ab
section
variable[dw:Go.Ab.bI]
def sgT(s e s' e':Nat)(t:Nat):Nat:=if t=s then s' else if t=e then e' else t
structure wc(s' e' z b:Nat)(zs:List PV):Prop where
 ts:ix Tryz.prog s' 24 none (some e') false
 te:l7 Tryz.prog e' z b
 tz:y9 Tryz.prog e' zs
 z0:0<z
 zl:zs.length=z
 zn:zs.all cG=true
 zo:zs.all ml=true
theorem th{k:Nat}{F:Func}{s' e' z b:Nat}{zs:List PV}(A:wc s' e' z b zs)(hb:b≤1024)(hf:Tryz.prog.funcs[k]?=some F)(e:Ub (sgT 43 120 s' e') id Tryz.f72 F)
  (rows:List (List PV)) (eL:aC rows) (hl:rows.length≤1048576):iW Tryz.prog k [.sl z rows] [] (.sf 0 z) [some (.arr z rows)]:=by
 obtain⟨hs,he,hz,h0,-,-,-⟩:=A;refine pU hm hf e rfl bl rfl (λ_ _ h=>h) ?_;simp[xL,Hg,Hf,He,sgT,hs,he,hz];have P:rows.length*b≤1048576*1024:=fh hl hb;refine⟨λh=>?_,h0,eL,bd,bd,wk [0] [] bn⟩;rw[h];exact(cg (t:=0) (z:=z) rfl).trans (wk [0] [] bn)
theorem uq{k G kR:Nat}{F:Func}{s' e' z b:Nat}{zs:List PV}(a:wc s' e' z b zs)(hb:b≤1024)(hf:Tryz.prog.funcs[k]?=some F)(j:Ub (sgT 43 120 s' e') (λf=>if f=369 then G else if f=370 then kR else f) Tryz.f259 F)
  (K:∀(q rows:List (List PV))(lo len:Nat),nh Tryz.prog G [.sf 0 z,.so 1 z lo len] [some (.arr z q),some (.arr z rows)] [0,1] (.bool false) [some (.arr z q),some (.arr z rows)])
  (A B q:List (List PV)) (p:aC (A++B)) (c:aC q) (h0:0<q.length) (hl:A.length+B.length+q.length≤1048576):
  nh Tryz.prog k [.sf 0 z,.int .i64 A.length,.sf 1 z] [some (.arr z (A++B)),some (.arr z q)] [] (.sf 0 z) [some (.arr z (A++(q++B))),some (.arr z q)]:=by
 obtain⟨hs,he,hz,g,v7,U,s⟩:=a;have d:q≠[]:=λe=>w4
 have X:aC B:=λr h=>p r (ni _ h);have l:∀n,n≤1048576→n*b≤1048576*1024:=λn hn=>fh hn hb;by_cases m:B=[]
 ·subst m;refine QI [] hm hf j rfl bl rfl (λ_ _ h=>h) cw ?_;simp[xL,Hg,Hf,He,sgT,hs,he,hz,d];have:=l (A.length+q.length) bd;exact⟨g,c,bd,bd,wk [0,1] [] bn⟩
 ·have w:0<B.length:=fV.2 m;have u:A++B≠[]:=λe=>m (Jw.1 e).2;have o:¬((A.length:Int)=((A.length+B.length:Nat):Int)):=bd
  have e1:IntKind.i64.wrap (((A.length+B.length:Nat):Int)+(q.length:Int))=((A.length+B.length+q.length:Nat):Int):=bo
  have e2:IntKind.i64.wrap (((A.length+B.length+q.length:Nat):Int)-(A.length:Int))=((B.length+q.length:Nat):Int):=bo
  have e3:IntKind.i64.wrap ((A.length:Int)+(q.length:Int))=((A.length+q.length:Nat):Int):=bo
  refine Hh hm hf j rfl bl rfl (λ_ _ h=>h) rfl λC v y=>?_;rw[aA]at v;by_cases i:A.length+B.length+q.length≤C
  ·refine JJ.BP (EM (t:=0) (k:=0) (z:=z) (C:=C) (rows:=A++B) rfl rfl rfl bn u) ?_;refine ee hm _ _ _ bl ?_;rw[aA];obtain⟨T,a⟩:∃T,T=List.replicate (C-(A.length+B.length)) (List.replicate z PV.top):=⟨_,rfl⟩;have D:T.length=C-(A.length+B.length):=by rw[a];simp
   rw[←a];have f1:¬C<A.length+B.length+q.length:=bd
   have H:A.length+(B.length+T.length)=C:=bd
   have f3:A.length+B.length+q.length-(A.length+q.length)=B.length:=bd
   have f4:A.length+B.length+q.length-A.length=B.length+q.length:=bd
   have g1:q.take (B.length+q.length)=q:=ay bd;simp[xL,Hg,Hf,He,sgT,hs,he,hz,d,o,e1,e2,e3,f1,H,f3,g1,j3,-Int.natCast_add];refine⟨⟨bd,g⟩,λ_=>⟨⟨i,g⟩,?_⟩⟩;refine iv.Yn [1,0] [] [] (K q (A++(B++T)) (A.length+q.length) B.length) ?_ rfl rfl bn rfl rfl rfl (.inl rfl) ?_
   ·simp
   simp[xL,Hg,Hf,He,sgT,hs,he,hz,e3,H,f3,f4,g1,j3,-Int.natCast_add];have g2:((B++T).take q.length).length=q.length:=ca
   rw[y5 g2];refine⟨⟨i,g⟩,⟨bd,i,g⟩,g,bd,bd,X,⟨bd,bd,g⟩,g,bd,c,?_⟩;refine(qR (S:=⟨[(0,.so 0 z 0 (A.length+B.length+q.length))],_⟩) (t:=0) rfl rfl ca).trans (wk [0,1] [] ?_);have g3:(A++(q++(B++(A++(B++T)).drop (A.length+q.length+B.length)))).take (A.length+B.length+q.length)=A++(q++B):=by
    rw[←bg,←bg,tE ca,bg]
   simp[g3]
  ·refine ee hm _ _ _ bl ?_;have f1:C<A.length+B.length+q.length:=bd
   have f4:A.length+(q.length+B.length)-(A.length+q.length)=B.length:=bd
   have f6:¬A.length+B.length+q.length≤C:=bd
   have g1:q.take (B.length+q.length)=q:=ay bd;simp[xL,Hg,Hf,He,sgT,hs,he,hz,d,o,e1,e2,e3,f1,f4,f6,g1,j3,v7,-Int.natCast_add];have:=l (A.length+(B.length+q.length)) bd;rw[cH ((ca:(A++(q++List.replicate B.length zs)).length≤A.length+q.length+B.length)),bq];exact⟨g,bd,bd,g,λx hx=>ak.1 U x hx,λx hx=>ak.1 s x hx,bd,bd,bd,g,c,g,bd,X,wk [2,1] [] bn⟩
theorem vL:wc 27 102 5 48 [.str [],.int .i64 0,.int .i64 0,.int .i64 0,.int .i64 0]:=⟨aaz,ahc,ahd,bd,rfl,rfl,rfl⟩
theorem De(rows:List (List PV))(h:aC rows)(hl:rows.length≤1048576):iW Tryz.prog 64 [.sl 5 rows] [] (.sf 0 5) [some (.arr 5 rows)]:=th vL bd Tryz.func64 ⟨rfl,bl,rfl,rfl⟩ rows h hl
theorem J0(A B q:List (List PV))(a:aC (A++B))(h:aC q)(h0:0<q.length)(hl:A.length+B.length+q.length≤1048576):nh Tryz.prog 373 [.sf 0 5,.int .i64 A.length,.sf 1 5] [some (.arr 5 (A++B)),some (.arr 5 q)] [] (.sf 0 5) [some (.arr 5 (A++(q++B))),some (.arr 5 q)]:=
 uq vL (kR:=447) bd Tryz.func373 ⟨rfl,bl,rfl,rfl⟩ (jV Tryz.func446 bl bl bl (tS:=27) (tR:=4) (e:=102) bl bn bn 5 bd) A B q a h h0 hl
theorem Df:wc 30 126 5 48 [.str [],.int .i64 0,.int .i64 0,.int .i64 0,.int .i64 0]:=⟨aaA,ahe,ahf,bd,rfl,rfl,rfl⟩
theorem FG(rows:List (List PV))(h:aC rows)(hl:rows.length≤1048576):iW Tryz.prog 67 [.sl 5 rows] [] (.sf 0 5) [some (.arr 5 rows)]:=th Df bd Tryz.func67 ⟨rfl,bl,rfl,rfl⟩ rows h hl
theorem MW(A B q:List (List PV))(a:aC (A++B))(h:aC q)(h0:0<q.length)(hl:A.length+B.length+q.length≤1048576):nh Tryz.prog 376 [.sf 0 5,.int .i64 A.length,.sf 1 5] [some (.arr 5 (A++B)),some (.arr 5 q)] [] (.sf 0 5) [some (.arr 5 (A++(q++B))),some (.arr 5 q)]:=
 uq Df (kR:=449) bd Tryz.func376 ⟨rfl,bl,rfl,rfl⟩ (jV Tryz.func448 bl bl bl (tS:=30) (tR:=4) (e:=126) bl bn bn 5 bd) A B q a h h0 hl
theorem tu:wc 33 131 5 48 [.str [],.int .i64 0,.int .i64 0,.int .i64 0,.int .i64 0]:=⟨aaB,ahg,ahh,bd,rfl,rfl,rfl⟩
theorem Dg(rows:List (List PV))(h:aC rows)(hl:rows.length≤1048576):iW Tryz.prog 68 [.sl 5 rows] [] (.sf 0 5) [some (.arr 5 rows)]:=th tu bd Tryz.func68 ⟨rfl,bl,rfl,rfl⟩ rows h hl
theorem J1(A B q:List (List PV))(a:aC (A++B))(h:aC q)(h0:0<q.length)(hl:A.length+B.length+q.length≤1048576):nh Tryz.prog 379 [.sf 0 5,.int .i64 A.length,.sf 1 5] [some (.arr 5 (A++B)),some (.arr 5 q)] [] (.sf 0 5) [some (.arr 5 (A++(q++B))),some (.arr 5 q)]:=
 uq tu (kR:=451) bd Tryz.func379 ⟨rfl,bl,rfl,rfl⟩ (jV Tryz.func450 bl bl bl (tS:=33) (tR:=4) (e:=131) bl bn bn 5 bd) A B q a h h0 hl
theorem Dh:wc 36 137 6 72 [.str [],.int .i64 0,.int .i64 0,.int .i64 0,.int .i64 0,.nils]:=⟨aaC,ahi,ahj,bd,rfl,rfl,rfl⟩
theorem PD(rows:List (List PV))(h:aC rows)(hl:rows.length≤1048576):iW Tryz.prog 383 [.sl 6 rows] [] (.sf 0 6) [some (.arr 6 rows)]:=th Dh bd Tryz.func383 ⟨rfl,bl,rfl,rfl⟩ rows h hl
theorem MX(A B q:List (List PV))(a:aC (A++B))(h:aC q)(h0:0<q.length)(hl:A.length+B.length+q.length≤1048576):nh Tryz.prog 382 [.sf 0 6,.int .i64 A.length,.sf 1 6] [some (.arr 6 (A++B)),some (.arr 6 q)] [] (.sf 0 6) [some (.arr 6 (A++(q++B))),some (.arr 6 q)]:=
 uq Dh (kR:=453) bd Tryz.func382 ⟨rfl,bl,rfl,rfl⟩ (jV Tryz.func452 bl bl bl (tS:=36) (tR:=4) (e:=137) bl bn bn 6 bd) A B q a h h0 hl
theorem ub:wc 37 143 4 48 [.int .i64 0,.nils,.int .i64 0,.int .i64 0]:=⟨aaD,ahk,ahl,bd,rfl,rfl,rfl⟩
theorem J2(rows:List (List PV))(h:aC rows)(hl:rows.length≤1048576):iW Tryz.prog 387 [.sl 4 rows] [] (.sf 0 4) [some (.arr 4 rows)]:=th ub bd Tryz.func387 ⟨rfl,bl,rfl,rfl⟩ rows h hl
theorem IQ(A B q:List (List PV))(a:aC (A++B))(h:aC q)(h0:0<q.length)(hl:A.length+B.length+q.length≤1048576):nh Tryz.prog 386 [.sf 0 4,.int .i64 A.length,.sf 1 4] [some (.arr 4 (A++B)),some (.arr 4 q)] [] (.sf 0 4) [some (.arr 4 (A++(q++B))),some (.arr 4 q)]:=
 uq ub (kR:=455) bd Tryz.func386 ⟨rfl,bl,rfl,rfl⟩ (jV Tryz.func454 bl bl bl (tS:=37) (tR:=4) (e:=143) bl bn bn 4 bd) A B q a h h0 hl
theorem Cv:wc 28 107 3 48 [.str [],.nils,.int .i64 0]:=⟨aaE,ahm,ahn,bd,rfl,rfl,rfl⟩
theorem MY(A B q:List (List PV))(a:aC (A++B))(h:aC q)(h0:0<q.length)(hl:A.length+B.length+q.length≤1048576):nh Tryz.prog 246 [.sf 0 3,.int .i64 A.length,.sf 1 3] [some (.arr 3 (A++B)),some (.arr 3 q)] [] (.sf 0 3) [some (.arr 3 (A++(q++B))),some (.arr 3 q)]:=
 uq Cv (kR:=361) bd Tryz.func246 ⟨rfl,bl,rfl,rfl⟩ (jV Tryz.func360 bl bl bl (tS:=28) (tR:=4) (e:=107) bl bn bn 3 bd) A B q a h h0 hl
theorem CK:wc 29 114 5 64 [.str [],.int .i64 0,.int .i64 0,.int .i64 0,.nils]:=⟨aaF,aho,ahp,bd,rfl,rfl,rfl⟩
theorem MZ(A B q:List (List PV))(a:aC (A++B))(h:aC q)(h0:0<q.length)(hl:A.length+B.length+q.length≤1048576):nh Tryz.prog 255 [.sf 0 5,.int .i64 A.length,.sf 1 5] [some (.arr 5 (A++B)),some (.arr 5 q)] [] (.sf 0 5) [some (.arr 5 (A++(q++B))),some (.arr 5 q)]:=
 uq CK (kR:=366) bd Tryz.func255 ⟨rfl,bl,rfl,rfl⟩ (jV Tryz.func365 bl bl bl (tS:=29) (tR:=4) (e:=114) bl bn bn 5 bd) A B q a h h0 hl
def GS(s e g s' e' n:Nat)(t:Nat):Nat:=if t=s then s' else if t=e then e' else if t=g then n else t
theorem OR{k f:Nat}{F:Func}(t':Nat){s' e' z b:Nat}{zs:List PV}(A:wc s' e' z b zs)(hf:Tryz.prog.funcs[k]?=some F)(c:Ub (GS 28 107 300 s' e' t') id Tryz.f338 F)
  {α:Type} (cells:α→List PV) (hz:∀x,(cells x).length=z) (Y:∀x,(cells x).all u9=true) (l:List α) (p:α→Bool) (hc:∀y∈l,H0 f [.agg (cells y)] (.bool (p y))) (hl:l.length≤9223372036854775807):
  H0 k [.sl z (l.map cells),.fn f []] (.int .i64 (gW p l)):=by
 obtain⟨hs,he,q,g,v7,U,m⟩:=A;refine pU hm hf c rfl bl rfl xj ?_;have iR:∀y,(cells y).all cG=true:=λy=>(qj (H:=[]) (Y y)).1;have hi:∀(H:Heap) y,(cells y).map (vx H)=cells y:=λH y=>rk (Y y);have hb:∀(H:Heap) y,(cells y).all (tH H)=true:=λ_ y=>(qj (Y y)).2.2.1;have ht:∀y,(cells y).take z=cells y:=λy=>ay kF;simp[xL,Hg,Hf,He,GS,hs,he,q];refine bc hm l.length (λi=>⟨[(0,.sl z (l.map cells)),(1,.fn f []),(7,.int .i64 l.length),(8,.int .i64 i)],[]⟩) (λi=>∀j (h:j<l.length),j<i→p l[j]=false) bl ?_ bn (λi R a=>?_) (λa=>?_)
 ·exact wk [] [] bn
 ·have w1:=wS i;simp[xL,Hg,Hf,He,GS,hs,he,q,R,hz,ht,hi,iR,hb,g];refine iv.Yk (hc l[i] (ai R)) tl rfl ?_;simp;refine⟨λh=>(jN R h a).symm,λh=>⟨λj d Q=>?_,wk [] [] gb⟩⟩;by_cases e:j=i
  ·subst e;exact h
  ·exact a j d bd
 ·simp;exact(fZ λj d=>a j d d).symm
theorem td{k f:Nat}{F:Func}(t':Nat){s' e' z b:Nat}{zs:List PV}(A:wc s' e' z b zs)(hf:Tryz.prog.funcs[k]?=some F)(g:Ub (GS 28 107 300 s' e' t') id Tryz.f338 F)
  {α:Type} (cells:α→List PV) (hz:∀x,(cells x).length=z) (Y:∀x,(cells x).all u9=true) (c:Nat) (rs:List (List PV)) (i0 o0:Nat) (l:List α) (p:α→Bool) (hc:∀y∈l,H0 f [.agg (cells y),.pe c rs i0 o0] (.bool (p y))) (hl:l.length≤9223372036854775807):
  H0 k [.sl z (l.map cells),.fn f [.pe c rs i0 o0]] (.int .i64 (gW p l)):=by
 obtain⟨hs,he,q,m,v7,U,n⟩:=A;refine pU hm hf g rfl bl rfl xj ?_;have iR:∀y,(cells y).all cG=true:=λy=>(qj (H:=[]) (Y y)).1;have hi:∀(H:Heap) y,(cells y).map (vx H)=cells y:=λH y=>rk (Y y);have hb:∀(H:Heap) y,(cells y).all (tH H)=true:=λ_ y=>(qj (Y y)).2.2.1;have ht:∀y,(cells y).take z=cells y:=λy=>ay kF;simp[xL,Hg,Hf,He,GS,hs,he,q];refine bc hm l.length (λi=>⟨[(0,.sl z (l.map cells)),(1,.fn f [.pe c rs i0 o0]),(7,.int .i64 l.length),(8,.int .i64 i)],[]⟩) (λi=>∀j (h:j<l.length),j<i→p l[j]=false) bl ?_ bn (λi R a=>?_) (λa=>?_)
 ·exact wk [] [] bn
 ·have w1:=wS i;simp[xL,Hg,Hf,He,GS,hs,he,q,R,hz,ht,hi,iR,hb,m];refine iv.Yk (hc l[i] (ai R)) tl rfl ?_;simp;refine⟨λh=>(jN R h a).symm,λh=>⟨λj d Q=>?_,wk [] [] gb⟩⟩;by_cases e:j=i
  ·subst e;exact h
  ·exact a j d bd
 ·simp;exact(fZ λj d=>a j d d).symm
theorem Ic{k kI:Nat}{F:Func}(t':Nat){s' e' z b:Nat}{zs:List PV}(A:wc s' e' z b zs)(hf:Tryz.prog.funcs[k]?=some F)(e:Ub (GS 28 107 300 s' e' t') (λg=>if g=338 then kI else g) Tryz.f225 F)
  {α:Type} {rows:List (List PV)} {f:Nat} {p:α→Bool} {l:List α} (a:H0 kI [.sl z rows,.fn f []] (.int .i64 (gW p l))):
  H0 k [.sl z rows,.fn f []] (.bool (l.any p)):=by
 obtain⟨hs,he,q,c,v7,U,d⟩:=A;refine pU hm hf e rfl bl rfl xj ?_;simp[xL,Hg,Hf,He,GS,hs,he,q];refine u0 a ?_;simp;exact nC
theorem sG{k kI:Nat}{F:Func}(t':Nat){s' e' z b:Nat}{zs:List PV}(A:wc s' e' z b zs)(hf:Tryz.prog.funcs[k]?=some F)(e:Ub (GS 28 107 300 s' e' t') (λg=>if g=338 then kI else g) Tryz.f225 F)
  {α:Type} {rows:List (List PV)} {f H:Nat} {rs:List (List PV)} {i0 o0:Nat} {p:α→Bool} {l:List α} (a:H0 kI [.sl z rows,.fn f [.pe H rs i0 o0]] (.int .i64 (gW p l))):
  H0 k [.sl z rows,.fn f [.pe H rs i0 o0]] (.bool (l.any p)):=by
 obtain⟨hs,he,q,c,v7,U,d⟩:=A;refine pU hm hf e rfl bl rfl xj ?_;simp[xL,Hg,Hf,He,GS,hs,he,q];refine u0 a ?_;simp;exact nC
theorem Ep:wc 141 227 2 16 [.int .i64 0,.int .i64 0]:=⟨TE,ahq,ahr,bd,rfl,rfl,rfl⟩
end
end Go.Proofs.YtepeckjhdoicpaaGreatDoor
