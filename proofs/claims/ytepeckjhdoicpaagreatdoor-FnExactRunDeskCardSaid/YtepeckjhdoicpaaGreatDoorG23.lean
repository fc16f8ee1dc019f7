import Derived.Test.YtepeckjhdoicpaaGreatDoorG17
import Derived.Test.YtepeckjhdoicpaaGreatDoorG16
import Derived.Test.YtepeckjhdoicpaaGreatDoorG20
import Derived.Test.YtepeckjhdoicpaaGreatDoorG11
import Derived.Test.YtepeckjhdoicpaaGreatDoorG22
set_option linter.all false
set_option maxRecDepth 100000
set_option maxHeartbeats 1000000
namespace Go.Proofs.YtepeckjhdoicpaaGreatDoor
open Go Go.Ab
section
variable[dw:Go.Ab.bI]
theorem rr{l:List aO}{i:Nat}(hi:i<l.length):rq l i=(mX l[i]&&(decide (i=0)||dc (l[i-1]' bd) l[i])):=by
 have hx:=ae hi;have hy:l[i-1]?=some (l[i-1]' bd):=ae bd;simp[rq,hx,hy]
theorem kd(t:db)(hl:t.aU.length≤1048576):H0 149 [.agg t.cells] (.bool (eh t)):=by
 refine iF hm Tryz.func149 ?_;simp[db.cells,aO.aj];refine bc hm t.aU.length (λi=>⟨[(1,.pb 0 0),(6,.sl 3 (aO.rows t.aU)),(7,.int .i64 t.aU.length),(8,.int .i64 i)],[some (.box [.str t.name,.sl 3 (aO.rows t.aU)])]⟩) (λi=>∀j,j<i→rq t.aU j=true) bl ?_ bn (λi hi c=>?_) (λc=>?_)
 ·exact wk [0] [] bn
 ·have e1:IntKind.i64.wrap ((i:Int)-1)=i-1:=bX bd bd;have o:i-1<t.aU.length:=bd
  have ho:=rr hi;have p:=Ht t.aU[i-1] t.aU[i];simp[aO.aj,aO.cx,hi];refine u0 (Qe t.aU[i]) ?_;simp[aO.aj,aO.cx,e1,o];refine⟨λa b=>⟨a,b⟩,λa b=>⟨⟨a,b⟩,bd,bd⟩,λa b=>⟨a,b⟩,js.use (res:=.int .i64 (uO t.aU[i-1] t.aU[i])) (λ_=>⟨rfl,oA t.aU[i-1] t.aU[i]⟩) rfl rfl ?_⟩;simp;refine⟨cd,λh=>?_,λh1 h2=>⟨de c ?_,?_⟩⟩
  ·have:rq t.aU i=false:=by
    rw[ho];rcases h with h|⟨h,h'⟩
    ·simp[h]
    ·have k:¬i=0:=bd
     simp[p.1 h',k]
   simp[eh,bL hi this]
  ·rw[ho,h1];by_cases k:i=0
   ·simp[k]
   ·have D:=h2 bd;have d:¬0≤uO t.aU[i-1] t.aU[i]:=bd
    rw[p]at d;simp[d]
  ·refine wk [0] [] ?_;simp;exact bX bd bd
 ·simp;have e:(List.range t.aU.length).all (rq t.aU)=true:=bQ c;refine u0 (dy t.name) ?_;simp[eh,e,aO.aj];have v:((t.aU.length:Int)≤128)↔t.aU.length≤128:=bd
  simp[v]
theorem Co(t:db)(hl:t.aU.length≤1048576):H0 95 [t.ptr] (.bool (eh t)):=by
 refine iF hm Tryz.func95 ?_;simp;refine bc hm t.aU.length (λi=>⟨[(0,.pe 2 [[.str t.name,.sl 3 (aO.rows t.aU)]] 0 0),(3,.int .i64 i)],[]⟩) (λi=>∀j,j<i→rq t.aU j=true) bl ?_ bn (λi hi c=>?_) (λc=>?_)
 ·exact wk [] [] (by simp[db.cells])
 ·have e1:IntKind.i64.wrap ((i:Int)-1)=i-1:=bX bd bd;have o:i-1<t.aU.length:=bd
  have ho:=rr hi;simp[aO.aj,hi];refine u0 (KL t.aU[i] _ i (by simp[aO.rows,hi])) ?_;simp[aO.aj,e1,hi];refine⟨λa b=>⟨a,b⟩,λa b=>⟨⟨a,b⟩,bd,bd⟩,λa b=>⟨a,b⟩,js.use (res:=.bool (dc t.aU[i-1] t.aU[i])) (λ_=>⟨rfl,yg t.aU[i-1] t.aU[i] _ _ (i-1) i (by simp[aO.rows,o]) (by simp[aO.rows,hi])⟩) rfl rfl ?_⟩;simp;refine⟨cd,λh=>?_,λh1 h2=>⟨de c ?_,?_⟩⟩
  ·have:rq t.aU i=false:=by
    rw[ho];rcases h with h|⟨h,h'⟩
    ·simp[h]
    ·have k:¬i=0:=bd
     simp[h',k]
   simp[eh,bL hi this]
  ·rw[ho,h1];by_cases k:i=0
   ·simp[k]
   ·simp[h2 bd]
  ·refine wk [] [] ?_;simp;exact bX bd bd
 ·simp[aO.aj];have d:(List.range t.aU.length).all (rq t.aU)=true:=bQ c;refine u0 (dd t.name) ?_;simp[eh,d,aO.aj];have v:((t.aU.length:Int)≤128)↔t.aU.length≤128:=bd
  simp[v]
def BX(t:db)(per rest:Int):Int:=if eh t=true then(if(1≤per∧per≤1000)∧1≤rest∧rest≤100 then 0 else 2) else 1
theorem Wl(t:db)(per rest:Int)(hl:t.aU.length≤1048576):H0 289 [.agg t.cells,.int .i64 per,.int .i64 rest] (.int .i64 (BX t per rest)):=by
 refine iF hm Tryz.func289 ?_;simp[db.cells];refine u0 (kd t hl) ?_;simp;refine⟨λh=>by simp[BX,h],λh=>?_⟩;refine u0 (abi per) ?_;simp;refine⟨cd,uy (NC rest) ?_⟩;simp[BX,h];grind
theorem Zb(t:db)(per rest:Int)(hl:t.aU.length≤1048576):H0 130 [t.ptr,.int .i64 per,.int .i64 rest] (.int .i64 (BX t per rest)):=by
 refine iF hm Tryz.func130 ?_;simp;refine u0 (Co t hl) ?_;simp;refine⟨λh=>by simp[BX,h],λh=>?_⟩;refine u0 (bT _ _ _) ?_;simp;refine⟨cd,uy (bT _ _ _) ?_⟩;simp[BX,h];grind
def kJ{α:Type}(ok:α→Bool)(lt:α→α→Bool)(l:List α)(i:Nat):Bool:=match l[i]? with
 |some x=>ok x&&(decide (i=0)||match l[i-1]? with
  |some y=>lt y x
  |none=>true)
 |none=>true
def iu{α:Type}(ok:α→Bool)(lt:α→α→Bool)(l:List α):Bool:=(List.range l.length).all (kJ ok lt l)
theorem jf{α:Type}(ok:α→Bool)(lt:α→α→Bool){l:List α}{i:Nat}{x y:α}(hx:l[i]?=some x)(hy:l[i-1]?=some y):kJ ok lt l i=(ok x&&(decide (i=0)||lt y x)):=by simp[kJ,hx,hy]
theorem ib{α:Type}{ok:α→Bool}{lt:α→α→Bool}{l:List α}(h:iu ok lt l=true):∀x∈l,ok x=true:=by
 simp only[iu,ak,bO]at h;intro x hx;obtain⟨i,hi,rfl⟩:=aX hx;have:=h i hi;simp only[kJ,ae hi,ah]at this;exact this.1
theorem Kw{α:Type}{ok:α→Bool}{lt:α→α→Bool}{l:List α}(h:iu ok lt l=true){i:Nat}(hi:i<l.length)(h0:0<i):lt (l[i-1]' bd) l[i]=true:=by
 simp only[iu,ak,bO]at h;have:=h i hi;have e2:l[i-1]?=some (l[i-1]' bd):=ae bd;simp only[kJ,ae hi,e2,ah,cL,al]at this;rcases this.2 with h|h
 ·omega
 ·exact h
theorem qN(n:Int):H0 435 [.int .i64 n] (.bool (decide (0≤n)&&decide (n≤1000000))):=by
 refine iF hm Tryz.func435 ?_;simp;refine u0 (bE _ _ _) ?_;simp
theorem Em(n:Int):H0 341 [.int .i64 n] (.bool (decide (1≤n)&&decide (n≤5000))):=by
 refine iF hm Tryz.func341 ?_;simp;refine u0 (bE _ _ _) ?_;simp
theorem KA(n:Int):H0 144 [.int .i64 n] (.bool (decide (0≤n)&&decide (n≤5000))):=by
 refine iF hm Tryz.func144 ?_;simp;refine u0 (bE _ _ _) ?_;simp
theorem XF(n:Int):H0 199 [.int .i64 n] (.bool (decide (0≤n)&&decide (n≤5000))):=by
 refine iF hm Tryz.func199 ?_;simp;refine u0 (bT _ _ _) ?_;simp
theorem XG(n:Int):H0 343 [.int .i64 n] (.bool (decide (20≤n)&&decide (n≤1000))):=by
 refine iF hm Tryz.func343 ?_;simp;refine u0 (bE _ _ _) ?_;simp
theorem Tn(n:Int):H0 346 [.int .i64 n] (.bool (decide (1≤n)&&decide (n≤100000))):=by
 refine iF hm Tryz.func346 ?_;simp;refine u0 (bE _ _ _) ?_;simp
theorem U5(n:Int):H0 347 [.int .i64 n] (.bool (decide (0≤n)&&decide (n≤10000))):=by
 refine iF hm Tryz.func347 ?_;simp;refine u0 (bE _ _ _) ?_;simp
def zf(c t r:Int):Bool:=(decide (0≤c)&&decide (c≤1000000))&&(decide (0≤t)&&decide (t≤1000000))&&(decide (0≤r)&&decide (r≤1000000))&&decide (IntKind.i64.wrap (IntKind.i64.wrap (c+t)+r)=1000000)
def je(x:aW):Bool:=isName x.id&&(decide (1≤x.bR)&&decide (x.bR≤20000000))&&zf x.gU x.kq x.gM
def fw(x:Place):Bool:=isName x.bB&&(decide (0≤x.x)&&decide (x.x≤20000))&&(decide (0≤x.y)&&decide (x.y≤20000))&&(decide (0≤x.z)&&decide (x.z≤20000))&&(decide (1≤x.reach)&&decide (x.reach≤5000))
def rB(x:iN):Bool:=(decide (1≤x.width)&&decide (x.width≤20000))&&(decide (1≤x.length)&&decide (x.length≤20000))&&(decide (1≤x.wR)&&decide (x.wR≤20000))
def gZ(x:dm):Bool:=isName x.name&&(decide (100≤x.xM)&&decide (x.xM≤10000))&&(decide (5≤x.fk)&&decide (x.fk≤500))&&(decide (1≤x.dP)&&decide (x.dP≤1000000))&&(decide (0≤x.uE)&&decide (x.uE≤100000))
theorem xa(c t r:Int):H0 336 [.agg [.int .i64 c,.int .i64 t,.int .i64 r]] (.bool (zf c t r)):=by
 refine iF hm Tryz.func336 ?_;simp[]
 first|refine u0 (qN _) ?_|refine uy (qN _) ?_|refine⟨cb,uy (qN _) ?_⟩
 simp[]
 first|refine u0 (qN _) ?_|refine uy (qN _) ?_|refine⟨cb,uy (qN _) ?_⟩
 simp[]
 first|refine u0 (qN _) ?_|refine uy (qN _) ?_|refine⟨cb,uy (qN _) ?_⟩
 simp[];simp[zf];exactλa b c d e f=>⟨⟨⟨a,b⟩,c,d⟩,e,f⟩
theorem BF(x:aW)(rows:List (List PV))(i:Nat)(g:rows[i]?=some x.cells):H0 328 [.pe 5 rows i 2] (.bool (zf x.gU x.kq x.gM)):=by
 have hi:i<rows.length:=(aa.1 g).1;have hx:rows[i]=x.cells:=(aa.1 g).2;rw[aW.cells]at g hx;refine iF hm Tryz.func328 ?_;simp[hi,hx]
 first|refine u0 (bT _ _ _) ?_|refine uy (bT _ _ _) ?_|refine⟨cb,uy (bT _ _ _) ?_⟩
 simp[hi,hx]
 first|refine u0 (bT _ _ _) ?_|refine uy (bT _ _ _) ?_|refine⟨cb,uy (bT _ _ _) ?_⟩
 simp[hi,hx]
 first|refine u0 (bT _ _ _) ?_|refine uy (bT _ _ _) ?_|refine⟨cb,uy (bT _ _ _) ?_⟩
 simp[hi,hx];simp[zf];exactλa b c d e f=>⟨⟨⟨a,b⟩,c,d⟩,e,f⟩
theorem wI(x:aW):H0 223 [.agg x.cells] (.bool (je x)):=by
 refine iF hm Tryz.func223 ?_;simp[aW.cells]
 first|refine u0 (dy _) ?_|refine uy (dy _) ?_|refine⟨cb,uy (dy _) ?_⟩
 simp
 first|refine u0 (bE _ _ _) ?_|refine uy (bE _ _ _) ?_|refine⟨cb,uy (bE _ _ _) ?_⟩
 simp
 first|refine u0 (xa _ _ _) ?_|refine uy (xa _ _ _) ?_|refine⟨cb,uy (xa _ _ _) ?_⟩
 simp;simp[je,vr]
theorem NY(x:aW)(rows:List (List PV))(i:Nat)(a:rows[i]?=some x.cells):H0 206 [.pe 5 rows i 0] (.bool (je x)):=by
 have hi:i<rows.length:=(aa.1 a).1;have hx:rows[i]=x.cells:=(aa.1 a).2;rw[aW.cells]at a hx;refine iF hm Tryz.func206 ?_;simp[hi,hx]
 first|refine u0 (dd _) ?_|refine uy (dd _) ?_|refine⟨cb,uy (dd _) ?_⟩
 simp[hi,hx]
 first|refine u0 (bT _ _ _) ?_|refine uy (bT _ _ _) ?_|refine⟨cb,uy (bT _ _ _) ?_⟩
 simp
 first|refine u0 (BF x rows i (by simp[a,aW.cells])) ?_|refine uy (BF x rows i (by simp[a,aW.cells])) ?_|refine⟨cb,uy (BF x rows i (by simp[a,aW.cells])) ?_⟩
 simp;simp[je,vr]
theorem wJ(x:Place):H0 230 [.agg x.cells] (.bool (fw x)):=by
 refine iF hm Tryz.func230 ?_;simp[Place.cells]
 first|refine u0 (dy _) ?_|refine uy (dy _) ?_|refine⟨cb,uy (dy _) ?_⟩
 simp
 first|refine u0 (bE _ _ _) ?_|refine uy (bE _ _ _) ?_|refine⟨cb,uy (bE _ _ _) ?_⟩
 simp
 first|refine u0 (bE _ _ _) ?_|refine uy (bE _ _ _) ?_|refine⟨cb,uy (bE _ _ _) ?_⟩
 simp
 first|refine u0 (bE _ _ _) ?_|refine uy (bE _ _ _) ?_|refine⟨cb,uy (bE _ _ _) ?_⟩
 simp
 first|refine u0 (Em _) ?_|refine uy (Em _) ?_|refine⟨cb,uy (Em _) ?_⟩
 simp;simp[fw,vr]
theorem NZ(x:Place)(rows:List (List PV))(i:Nat)(a:rows[i]?=some x.cells):H0 120 [.pe 5 rows i 0] (.bool (fw x)):=by
 have hi:i<rows.length:=(aa.1 a).1;have hx:rows[i]=x.cells:=(aa.1 a).2;rw[Place.cells]at a hx;refine iF hm Tryz.func120 ?_;simp[hi,hx]
 first|refine u0 (dd _) ?_|refine uy (dd _) ?_|refine⟨cb,uy (dd _) ?_⟩
 simp[hi,hx]
 first|refine u0 (bT _ _ _) ?_|refine uy (bT _ _ _) ?_|refine⟨cb,uy (bT _ _ _) ?_⟩
 simp[hi,hx]
 first|refine u0 (bT _ _ _) ?_|refine uy (bT _ _ _) ?_|refine⟨cb,uy (bT _ _ _) ?_⟩
 simp[hi,hx]
 first|refine u0 (bT _ _ _) ?_|refine uy (bT _ _ _) ?_|refine⟨cb,uy (bT _ _ _) ?_⟩
 simp[hi,hx]
 first|refine u0 (bT _ _ _) ?_|refine uy (bT _ _ _) ?_|refine⟨cb,uy (bT _ _ _) ?_⟩
 simp;simp[fw,vr]
theorem yn(x:iN):H0 142 [.agg x.cells] (.bool (rB x)):=by
 refine iF hm Tryz.func142 ?_;simp[iN.cells]
 first|refine u0 (bE _ _ _) ?_|refine uy (bE _ _ _) ?_|refine⟨cb,uy (bE _ _ _) ?_⟩
 simp
 first|refine u0 (bE _ _ _) ?_|refine uy (bE _ _ _) ?_|refine⟨cb,uy (bE _ _ _) ?_⟩
 simp
 first|refine u0 (bE _ _ _) ?_|refine uy (bE _ _ _) ?_|refine⟨cb,uy (bE _ _ _) ?_⟩
 simp;simp[rB,vr]
theorem s8(x:dm):H0 145 [.agg x.cells] (.bool (gZ x)):=by
 refine iF hm Tryz.func145 ?_;simp[dm.cells]
 first|refine u0 (dy _) ?_|refine uy (dy _) ?_|refine⟨cb,uy (dy _) ?_⟩
 simp
 first|refine u0 (bE _ _ _) ?_|refine uy (bE _ _ _) ?_|refine⟨cb,uy (bE _ _ _) ?_⟩
 simp
 first|refine u0 (bE _ _ _) ?_|refine uy (bE _ _ _) ?_|refine⟨cb,uy (bE _ _ _) ?_⟩
 simp
 first|refine u0 (bE _ _ _) ?_|refine uy (bE _ _ _) ?_|refine⟨cb,uy (bE _ _ _) ?_⟩
 simp
 first|refine u0 (bE _ _ _) ?_|refine uy (bE _ _ _) ?_|refine⟨cb,uy (bE _ _ _) ?_⟩
 simp;simp[gZ,vr]
theorem En(f:Nat)(z:Nat)(rs:List (List PV))(i0 o0:Nat)(p:aR→Bool)(l:List aR)(hf:∀x∈l,H0 f (.agg x.cells::[.pe z rs i0 o0]) (.bool (p x)))(hs:l.length≤9223372036854775807):H0 338 [.sl 3 (aR.rows l),.fn f [.pe z rs i0 o0]] (.int .i64 (gW p l)):=td 300 Cv Tryz.func338 ⟨rfl,bl,rfl,rfl⟩ aR.cells (λ_=>rfl) (λ_=>rfl) z rs i0 o0 l p hf hs
theorem jP(f:Nat)(z:Nat)(rs:List (List PV))(i0 o0:Nat)(p:aR→Bool)(l:List aR)(hf:∀x∈l,H0 f (.agg x.cells::[.pe z rs i0 o0]) (.bool (p x)))(hs:l.length≤9223372036854775807):H0 225 [.sl 3 (aR.rows l),.fn f [.pe z rs i0 o0]] (.bool (l.any p)):=sG 300 Cv Tryz.func225 ⟨rfl,bl,rfl,rfl⟩ (En f z rs i0 o0 p l hf hs)
theorem rD(f:Nat)(z:Nat)(rs:List (List PV))(i0 o0:Nat)(p:aS→Bool)(l:List aS)(hf:∀x∈l,H0 f (.agg x.cells::[.pe z rs i0 o0]) (.bool (p x)))(hs:l.length≤9223372036854775807):H0 491 [.sl 5 (aS.rows l),.fn f [.pe z rs i0 o0]] (.int .i64 (gW p l)):=td 303 CK Tryz.func491 ⟨rfl,bl,rfl,rfl⟩ aS.cells (λ_=>rfl) (λ_=>rfl) z rs i0 o0 l p hf hs
theorem Ag(f:Nat)(z:Nat)(rs:List (List PV))(i0 o0:Nat)(p:aS→Bool)(l:List aS)(hf:∀x∈l,H0 f (.agg x.cells::[.pe z rs i0 o0]) (.bool (p x)))(hs:l.length≤9223372036854775807):H0 503 [.sl 5 (aS.rows l),.fn f [.pe z rs i0 o0]] (.bool (l.any p)):=sG 303 CK Tryz.func503 ⟨rfl,bl,rfl,rfl⟩ (rD f z rs i0 o0 p l hf hs)
theorem By(f:Nat)(z:Nat)(rs:List (List PV))(i0 o0:Nat)(p:Action→Bool)(l:List Action)(hf:∀x∈l,H0 f (.agg x.cells::[.pe z rs i0 o0]) (.bool (p x)))(hs:l.length≤9223372036854775807):H0 557 [.sl 4 (Action.rows l),.fn f [.pe z rs i0 o0]] (.int .i64 (gW p l)):=td 307 ub Tryz.func557 ⟨rfl,bl,rfl,rfl⟩ Action.cells (λ_=>rfl) (λ_=>rfl) z rs i0 o0 l p hf hs
theorem Eo(f:Nat)(p:dJ→Bool)(l:List dJ)(hf:∀x∈l,H0 f (.agg x.cells::[]) (.bool (p x)))(hs:l.length≤9223372036854775807):H0 437 [.sl 2 (dJ.rows l),.fn f []] (.int .i64 (gW p l)):=OR 398 Ep Tryz.func437 ⟨rfl,bl,rfl,rfl⟩ dJ.cells (λ_=>rfl) (λ_=>rfl) l p hf hs
theorem Aj(f:Nat)(p:dJ→Bool)(l:List dJ)(hf:∀x∈l,H0 f (.agg x.cells::[]) (.bool (p x)))(hs:l.length≤9223372036854775807):H0 344 [.sl 2 (dJ.rows l),.fn f []] (.bool (l.any p)):=Ic 398 Ep Tryz.func344 ⟨rfl,bl,rfl,rfl⟩ (Eo f p l hf hs)
theorem CL(f:Nat)(z:Nat)(rs:List (List PV))(i0 o0:Nat)(p:Place→Bool)(l:List Place)(hf:∀x∈l,H0 f (.agg x.cells::[.pe z rs i0 o0]) (.bool (p x)))(hs:l.length≤9223372036854775807):H0 551 [.sl 5 (Place.rows l),.fn f [.pe z rs i0 o0]] (.int .i64 (gW p l)):=td 305 tu Tryz.func551 ⟨rfl,bl,rfl,rfl⟩ Place.cells (λ_=>rfl) (λ_=>rfl) z rs i0 o0 l p hf hs
theorem yo(f:Nat)(z:Nat)(rs:List (List PV))(i0 o0:Nat)(p:Place→Bool)(l:List Place)(hf:∀x∈l,H0 f (.agg x.cells::[.pe z rs i0 o0]) (.bool (p x)))(hs:l.length≤9223372036854775807):H0 493 [.sl 5 (Place.rows l),.fn f [.pe z rs i0 o0]] (.bool (l.any p)):=sG 305 tu Tryz.func493 ⟨rfl,bl,rfl,rfl⟩ (CL f z rs i0 o0 p l hf hs)
theorem Gg(f:Nat)(z:Nat)(rs:List (List PV))(i0 o0:Nat)(p:(List UInt8)→Bool)(l:List (List UInt8))(hf:∀x∈l,H0 f (.str x::[.pe z rs i0 o0]) (.bool (p x)))(hs:l.length≤9223372036854775807):
  H0 436 [.sl 1 (au l),.fn f [.pe z rs i0 o0]] (.int .i64 (gW p l)):=by
 refine iF hm Tryz.func436 ?_;simp[aQ];refine bc hm l.length (λi=>⟨[(0,.sl 1 (au l)),(1,.fn f [.pe z rs i0 o0]),(7,.int .i64 l.length),(8,.int .i64 i)],[]⟩) (λi=>∀j (h:j<l.length),j<i→p l[j]=false) bl ?_ bn (λi hi b=>?_) (λb=>?_)
 ·exact wk [] [] bn
 ·have r:=hf l[i] (ai hi)
  skip
  simp[aQ,fe,hi];refine u0 r ?_;simp;refine⟨λh=>(jN hi h b).symm,λh=>⟨λj d Q=>?_,?_⟩⟩
  ·by_cases e:j=i
   ·subst e;exact h
   ·exact b j d bd
  ·refine wk [] [] ?_;simp;exact bX bd bd
 ·simp[aQ];exact(fZ λj d=>b j d d).symm
theorem BG(f:Nat)(z:Nat)(rs:List (List PV))(i0 o0:Nat)(p:(List UInt8)→Bool)(l:List (List UInt8))(hf:∀x∈l,H0 f (.str x::[.pe z rs i0 o0]) (.bool (p x)))(hs:l.length≤9223372036854775807):
  H0 339 [.sl 1 (au l),.fn f [.pe z rs i0 o0]] (.bool (l.any p)):=by
 refine iF hm Tryz.func339 ?_;simp;refine u0 (Gg f z rs i0 o0 p l hf hs) ?_;simp;exact nC
theorem Rw(l:List (List UInt8))(v:List UInt8)(hl:l.length≤9223372036854775807):H0 157 [.sl 1 (au l),.str v] (.int .i64 (gW (λx=>decide (v=x)) l)):=by
 refine iF hm Tryz.func157 ?_;simp[aQ];refine bc hm l.length (λi=>⟨[(0,.sl 1 (au l)),(1,.str v),(7,.int .i64 l.length),(8,.int .i64 i)],[]⟩) (λi=>∀j (h:j<l.length),j<i→decide (v=l[j])=false) bl ?_ bn (λi hi b=>?_) (λb=>?_)
 ·exact wk [] [] bn
 ·simp[aQ,fe,hi];refine⟨λh=>(jN hi c8 b).symm,λh=>⟨λj d Q=>?_,?_⟩⟩
  ·by_cases e:j=i
   ·subst e;exact h
   ·simpa using b j d bd
  ·refine wk [] [] ?_;simp;exact bX bd bd
 ·simp[aQ];exact(fZ λj d=>b j d d).symm
theorem vg(l:List (List UInt8))(v:List UInt8)(hl:l.length≤9223372036854775807):H0 74 [.sl 1 (au l),.str v] (.bool (l.any λx=>decide (v=x))):=by
 refine iF hm Tryz.func74 ?_;simp;refine u0 (Rw l v hl) ?_;simp;exact nC
def oV(x:cA):Bool:=isName x.rp&&(decide (1≤x.bR)&&decide (x.bR≤20000000))
def qO(a b:cA):Bool:=Op.bytesLess a.rp b.rp
def Ft(l:List cA)(i:Nat):Int:=(l.take i).foldl (λs x=>IntKind.i64.wrap (s+x.bR)) 0
theorem Ie(l:List cA){i:Nat}(hi:i<l.length):Ft l (i+1)=IntKind.i64.wrap (Ft l i+l[i].bR):=by
 unfold Ft;rw[←aq hi,dI];rfl
def fA(x:aS):Bool:=iu oV qO x.shares&&(isName x.id&&(decide (0≤x.note)&&decide (x.note≤127))&&(decide (1≤x.bR)&&decide (x.bR≤20000000))&&(decide (0≤x.feed)&&decide (x.feed≤20000000))&&decide (1≤(x.shares.length:Int))&&decide ((x.shares.length:Int)≤4)&&decide (Ft x.shares x.shares.length=IntKind.i64.wrap (x.bR+x.feed)))
def mj(b:bu)(x:dE):Bool:=(decide (0≤x.fB)&&decide (x.fB≤b.span))&&(decide (1≤x.weight)&&decide (x.weight≤200000))
def uc(a b:dE):Bool:=decide (a.fB≤b.fB)
def iH(x:bu):Bool:=iu (mj x) uc x.aY&&(isName x.name&&(decide (1≤x.span)&&decide (x.span≤6000))&&(decide (20≤x.width)&&decide (x.width≤1000))&&(decide (20≤x.depth)&&decide (x.depth≤1000))&&(decide (1000≤x.pX)&&decide (x.pX≤20000))&&decide ((x.aY.length:Int)≤8))
def ox(x:dJ):Bool := !(decide (1≤x.z7)&&decide (x.z7≤100000)) || !(decide (1≤x.sW)&&decide (x.sW≤100000))
def fb(x:Action):Bool:=(decide (0≤x.note)&&decide (x.note≤127))&&decide ((x.fY.length:Int)≤6) && !x.fY.any ox&&(decide (0≤x.Hr)&&decide (x.Hr≤10000))&&(decide (0≤x.weight)&&decide (x.weight≤1000000))
def zx(l:List (List UInt8)):Bool:=iu isName Op.bytesLess l
def gN(x:aR):Bool:=isName x.id&&decide (1≤(x.aG.length:Int))&&decide ((x.aG.length:Int)≤16)&&zx x.aG&&(decide (1≤x.bR)&&decide (x.bR≤320000000))
theorem uJ(x:aS)(hl:x.shares.length≤1048576):H0 228 [.agg x.cells] (.bool (fA x)):=by
 refine iF hm Tryz.func228 ?_;simp[aS.cells,cA.aj];refine bc hm x.shares.length (λi=>⟨[(1,.pb 0 0),(3,.int .i64 (Ft x.shares i)),(7,.sl 2 (cA.rows x.shares)),(8,.int .i64 x.shares.length),(9,.int .i64 i)],[some (.box [.str x.id,.int .i64 x.note,.int .i64 x.bR,.int .i64 x.feed,.sl 2 (cA.rows x.shares)])]⟩) (λi=>∀j,j<i→kJ oV qO x.shares j=true) bl ?_ bn (λi hi b=>?_) (λb=>?_)
 ·exact wk [0] [] (by simp[Ft])
 ·have e1:IntKind.i64.wrap ((i:Int)-1)=i-1:=bX bd bd;obtain⟨y,hy⟩:∃y,x.shares[i-1]?=some y:=⟨_,ae bd⟩;have hx:=ae hi;have ho:=jf oV qO hx hy;have hs:=fD y.rp x.shares[i].rp;rw[Ie _ hi];simp[cA.rows,cA.cells,hi];refine u0 (dy _) ?_;simp;refine uy (yz _) ?_;simp[cA.cells,hy,e1]
  repeat refine⟨cd,?_⟩
  refine⟨λh=>?_,λh1 h2 c k=>⟨de b ?_,?_⟩⟩
  ·have:kJ oV qO x.shares i=false:=by
    rw[ho,oV,qO];grind
   simp only[fA,iu,bL hi this,cR]
  ·rw[ho,oV,qO];grind
  ·refine wk [0] [] ?_;simp;exact bX bd bd
 ·simp[cA.rows];refine u0 (dy _) ?_;simp;refine uy (bE _ _ _) ?_;simp
  repeat refine⟨cd,?_⟩
  refine uy (yz _) ?_;simp
  repeat refine⟨cd,?_⟩
  refine uy (bE _ _ _) ?_;simp
  repeat refine⟨cd,?_⟩
  simp only[fA,iu,bQ b,bW]
theorem Ck(x:aS)(rows:List (List PV))(i0:Nat)(a:rows[i0]?=some x.cells)(hl:x.shares.length≤1048576):H0 110 [.pe 5 rows i0 0] (.bool (fA x)):=by
 have N:i0<rows.length:=(aa.1 a).1;have X:rows[i0]=x.cells:=(aa.1 a).2;rw[aS.cells]at a X;refine iF hm Tryz.func110 ?_;simp[N,X];refine u0 (dd _) ?_;simp[N,X]
 iterate 3
  repeat refine⟨cd,?_⟩
  refine uy (bT _ _ _) ?_;simp[N,X,cA.aj]
 repeat refine⟨cd,?_⟩
 refine⟨λh=>?_,?_⟩
 ·rw[fA];grind
 intros
 refine bc hm x.shares.length (λi=>⟨[(0,.pe 5 rows i0 0),(3,.int .i64 (Ft x.shares i)),(4,.int .i64 i)],[]⟩) (λi=>∀j,j<i→kJ oV qO x.shares j=true) bl ?_ bn (λi hi b=>?_) (λb=>?_)
 ·exact wk [] [] (by simp[Ft])
 ·have e1:IntKind.i64.wrap ((i:Int)-1)=i-1:=bX bd bd;obtain⟨y,hy⟩:∃y,x.shares[i-1]?=some y:=⟨_,ae bd⟩;have hx:=ae hi;have ho:=jf oV qO hx hy;rw[Ie _ hi];simp[N,X,cA.rows,cA.cells,hi];refine u0 (dd _) ?_;simp[N,X,cA.rows,cA.cells,hi]
  repeat refine⟨cd,?_⟩
  refine uy (bT _ _ _) ?_;simp[N,X,cA.rows,cA.cells,hi,hy,e1]
  repeat refine⟨cd,?_⟩
  refine⟨λh=>?_,λh1 h2 c k=>⟨de b ?_,?_⟩⟩
  ·have:kJ oV qO x.shares i=false:=by
    rw[ho,oV,qO];grind
   simp only[fA,iu,bL hi this,cR]
  ·rw[ho,oV,qO];grind
  ·refine wk [] [] ?_;simp;exact bX bd bd
 ·simp[N,X,cA.rows];simp only[fA,iu,bQ b,bW];grind
theorem XH(b:bu)(x:dE):H0 342 [.agg b.cells,.agg x.cells] (.bool (mj b x)):=by
 refine iF hm Tryz.func342 ?_;simp[bu.cells,dE.cells];refine u0 (bE _ _ _) ?_;simp
 repeat refine⟨cd,?_⟩
 refine uy (bE _ _ _) ?_;simp[mj]
theorem U6(b:bu)(x:dE)(rows H:List (List PV))(i j:Nat)(a:rows[i]?=some b.cells)(c:H[j]?=some x.cells):H0 329 [.pe 6 rows i 0,.pe 2 H j 0] (.bool (mj b x)):=by
 have hi:i<rows.length:=(aa.1 a).1;have hx:rows[i]=b.cells:=(aa.1 a).2;have d:j<H.length:=(aa.1 c).1;have hy:H[j]=x.cells:=(aa.1 c).2;rw[bu.cells]at a hx;rw[dE.cells]at c hy;refine iF hm Tryz.func329 ?_;simp[hi,hx,d,hy];refine u0 (bT _ _ _) ?_;simp[d,hy]
 repeat refine⟨cd,?_⟩
 refine uy (bT _ _ _) ?_;simp[mj]
theorem x9(x:bu)(hl:x.aY.length≤1048576):H0 232 [.agg x.cells] (.bool (iH x)):=by
 refine iF hm Tryz.func232 ?_;simp[bu.cells,dE.aj];refine bc hm x.aY.length (λi=>⟨[(1,.pb 0 0),(6,.sl 2 (dE.rows x.aY)),(7,.int .i64 x.aY.length),(8,.int .i64 i)],[some (.box [.str x.name,.int .i64 x.span,.int .i64 x.width,.int .i64 x.depth,.int .i64 x.pX,.sl 2 (dE.rows x.aY)])]⟩) (λi=>∀j,j<i→kJ (mj x) uc x.aY j=true) bl ?_ bn (λi hi b=>?_) (λb=>?_)
 ·exact wk [0] [] bn
 ·have e1:IntKind.i64.wrap ((i:Int)-1)=i-1:=bX bd bd;obtain⟨y,hy⟩:∃y,x.aY[i-1]?=some y:=⟨_,ae bd⟩;have hx:=ae hi;have ho:=jf (mj x) uc hx hy;have A:=XH x x.aY[i];simp only[bu.cells,dE.cells]at A;simp[dE.rows,dE.cells,hi];refine u0 A ?_;simp[dE.cells,hy,e1]
  repeat refine⟨cd,?_⟩
  refine⟨λh=>?_,λh1 h2=>⟨de b ?_,?_⟩⟩
  ·have:kJ (mj x) uc x.aY i=false:=by
    rw[ho,uc];grind
   simp only[iH,iu,bL hi this,cR]
  ·rw[ho,uc];grind
  ·refine wk [0] [] ?_;simp;exact bX bd bd
 ·simp[dE.rows];refine u0 (dy _) ?_;simp;refine uy (bE _ _ _) ?_;simp
  iterate 2
   repeat refine⟨cd,?_⟩
   refine uy (XG _) ?_;simp
  repeat refine⟨cd,?_⟩
  refine uy (bE _ _ _) ?_;simp
  repeat refine⟨cd,?_⟩
  simp only[iH,iu,bQ b,bW]
theorem S_(x:bu)(rows:List (List PV))(i0:Nat)(a:rows[i0]?=some x.cells)(hl:x.aY.length≤1048576):H0 213 [.pe 6 rows i0 0] (.bool (iH x)):=by
 have N:i0<rows.length:=(aa.1 a).1;have X:rows[i0]=x.cells:=(aa.1 a).2;have n:=a;rw[bu.cells]at a X;refine iF hm Tryz.func213 ?_;simp[N,X];refine u0 (dd _) ?_;simp[N,X]
 iterate 4
  repeat refine⟨cd,?_⟩
  refine uy (bT _ _ _) ?_;simp[N,X]
 repeat refine⟨cd,?_⟩
 refine⟨λh=>?_,?_⟩
 ·rw[iH];grind
 intros
 refine bc hm x.aY.length (λi=>⟨[(0,.pe 6 rows i0 0),(3,.int .i64 i)],[]⟩) (λi=>∀j,j<i→kJ (mj x) uc x.aY j=true) bl ?_ bn (λi hi b=>?_) (λb=>?_)
 ·exact wk [] [] bn
 ·have e1:IntKind.i64.wrap ((i:Int)-1)=i-1:=bX bd bd;obtain⟨y,hy⟩:∃y,x.aY[i-1]?=some y:=⟨_,ae bd⟩;have hx:=ae hi;have ho:=jf (mj x) uc hx hy;have A:=U6 x x.aY[i] rows (List.map dE.cells x.aY) i0 i n er;simp[N,X,dE.rows,hi];refine u0 A ?_;simp[N,X,dE.rows,dE.cells,hi,hy,e1]
  repeat refine⟨cd,?_⟩
  refine⟨λh=>?_,λh1 h2=>⟨de b ?_,?_⟩⟩
  ·have:kJ (mj x) uc x.aY i=false:=by
    rw[ho,uc];grind
   simp only[iH,iu,bL hi this,cR]
  ·rw[ho,uc];grind
  ·refine wk [] [] ?_;simp;exact bX bd bd
 ·simp[N,X,dE.rows];simp only[iH,iu,bQ b,bW];grind
theorem Rx(x:dJ):H0 345 [.agg x.cells] (.bool (ox x)):=by
 refine iF hm Tryz.func345 ?_;simp[dJ.cells];refine u0 (Tn _) ?_;simp
 repeat refine⟨cd,?_⟩
 refine uy (Tn _) ?_;simp[ox]
 try exactλa b=>⟨a,b⟩
theorem vd(x:Action)(hl:x.fY.length≤1048576):H0 233 [.agg x.cells] (.bool (fb x)):=by
 refine iF hm Tryz.func233 ?_;simp[Action.cells];refine u0 (bE _ _ _) ?_;simp[dJ.aj]
 repeat refine⟨cd,?_⟩
 refine uy (Aj _ ox x.fY (λy _=>Rx y) bd) ?_;simp
 repeat refine⟨cd,?_⟩
 refine uy (U5 _) ?_;simp
 repeat refine⟨cd,?_⟩
 refine uy (bE _ _ _) ?_;simp
 repeat refine⟨cd,?_⟩
 simp[fb]
theorem N3(x:Action)(rows:List (List PV))(i0:Nat)(a:rows[i0]?=some x.cells)(hl:x.fY.length≤1048576):H0 122 [.pe 4 rows i0 0] (.bool (fb x)):=by
 have N:i0<rows.length:=(aa.1 a).1;have X:rows[i0]=x.cells:=(aa.1 a).2;rw[Action.cells]at a X;refine iF hm Tryz.func122 ?_;simp[N,X];refine u0 (bT _ _ _) ?_;simp[N,X,dJ.aj]
 repeat refine⟨cd,?_⟩
 iterate 2
  refine uy (bT _ _ _) ?_;simp[N,X]
  repeat refine⟨cd,?_⟩
 refine⟨λh=>?_,?_⟩
 ·rw[fb];grind
 intro a1 a2 a3 a4 a5 t c;refine bc hm x.fY.length (λi=>⟨[(0,.pe 4 rows i0 0),(3,.int .i64 i)],[]⟩) (λi=>∀j (d:j<x.fY.length),j<i→ox x.fY[j]=false) bl ?_ bn (λi hi b=>?_) (λb=>?_)
 ·exact wk [] [] bn
 ·simp[N,X,dJ.rows,dJ.cells,hi];refine u0 (bT _ _ _) ?_;simp[N,X,dJ.rows,dJ.cells,hi]
  repeat refine⟨cd,?_⟩
  refine uy (bT _ _ _) ?_;simp
  repeat refine⟨cd,?_⟩
  refine⟨λh=>?_,λh1 h2 f k=>⟨λj d Q=>?_,?_⟩⟩
  ·have hb:ox x.fY[i]=true:=by
    rw[ox];grind
   have:x.fY.any ox=true:=cD.2 ⟨_,ai hi,hb⟩;simp[fb,this]
  ·by_cases e:j=i
   ·subst e;simp[ox,h1,h2,f,k]
   ·exact b j d bd
  ·refine wk [] [] ?_;simp;exact bX bd bd
 ·simp[N,X,dJ.rows];have:x.fY.any ox=false:=by
   rw[cj];intro y hy;obtain⟨j,d,rfl⟩:=aX hy;simp[b j d d]
  simp[fb,this,a1,a2,a3,a4,a5,t,c]
def qP(a b:aW):Bool:=Op.bytesLess a.id b.id
def ry(a b:aR):Bool:=Op.bytesLess a.id b.id
def sH(a b:aS):Bool:=Op.bytesLess a.id b.id
def qQ(a b:Place):Bool:=Op.bytesLess a.bB b.bB
def ud(a b:bu):Bool:=Op.bytesLess a.name b.name
def nt(a b:Action):Bool:=decide (a.note<b.note)
def fC(l:List aW):Bool:=iu je qP l&&decide ((l.length:Int)≤16)
def ep(l:List aS):Bool:=iu fA sH l&&decide ((l.length:Int)≤24)
def gw(l:List Place):Bool:=iu fw qQ l&&decide ((l.length:Int)≤24)
def me(l:List bu):Bool:=iu iH ud l&&decide ((l.length:Int)≤24)
def gY(l:List Action):Bool:=iu fb nt l&&decide ((l.length:Int)≤48)
theorem p_(l:List aW)(hl:l.length≤1048576):H0 138 [.sl 5 (aW.rows l)] (.bool (fC l)):=by
 refine iF hm Tryz.func138 ?_;simp[aW.rows];refine bc hm l.length (λi=>⟨[(0,.sl 5 (aW.rows l)),(5,.sl 5 (aW.rows l)),(6,.int .i64 l.length),(7,.int .i64 i)],[]⟩) (λi=>∀j,j<i→kJ je qP l j=true) bl ?_ bn (λi hi b=>?_) (λb=>?_)
 ·exact wk [] [] kO
 ·have e1:IntKind.i64.wrap ((i:Int)-1)=i-1:=bX bd bd;obtain⟨y,hy⟩:∃y,l[i-1]?=some y:=⟨_,ae bd⟩;have hx:=ae hi;have a:=wI l[i];simp only[aW.cells]at a;simp[aW.rows,aW.cells,hi];refine u0 a ?_;simp[aW.cells,hy,e1];have ho:=jf je qP hx hy;have hs:=fD y.id l[i].id
  iterate 6 refine⟨cd,?_⟩
  refine⟨λh=>?_,λh1 h2=>⟨de b ?_,?_⟩⟩
  ·have:kJ je qP l i=false:=by
    rw[ho,qP];rcases h with h|⟨h,h'⟩
    ·simp[h]
    ·have c:(Op.bytesLess l[i].id y.id||decide (l[i].id=y.id))=true:=h5
     rw[hs]at c;have k:¬i=0:=bd
     simp at c;simp[c,k]
   simp only[fC,iu,bL hi this,cR]
  ·rw[ho,qP];rw[h1,bW];by_cases k:i=0
   ·simp[k]
   ·obtain⟨D,d⟩:=h2 bd;simp[D,d]at hs;simp[hs]
  ·refine wk [] [] ?_;simp;exact bX bd bd
 ·simp[aW.rows];simp only[fC,iu,bQ b,bW]
theorem GL(l:List aW)(hl:l.length≤1048576):H0 194 [.sl 5 (aW.rows l)] (.bool (fC l)):=by
 refine iF hm Tryz.func194 ?_;simp[aW.rows];refine bc hm l.length (λi=>⟨[(0,.sl 5 (aW.rows l)),(3,.int .i64 i)],[]⟩) (λi=>∀j,j<i→kJ je qP l j=true) bl ?_ bn (λi hi b=>?_) (λb=>?_)
 ·exact wk [] [] kO
 ·have e1:IntKind.i64.wrap ((i:Int)-1)=i-1:=bX bd bd;obtain⟨y,hy⟩:∃y,l[i-1]?=some y:=⟨_,ae bd⟩;have hx:=ae hi;simp[aW.rows,hi];refine u0 (NY l[i] _ _ er) ?_;simp[aW.cells,hi,hy,e1];have ho:=jf je qP hx hy
  iterate 6 refine⟨cd,?_⟩
  refine⟨λh=>?_,λh1 h2=>⟨de b ?_,?_⟩⟩
  ·have:kJ je qP l i=false:=by
    rw[ho,qP];rcases h with h|⟨h,h'⟩
    ·simp[h]
    ·have k:¬i=0:=bd
     simp[h',k]
   simp only[fC,iu,bL hi this,cR]
  ·rw[ho,qP,h1,bW];by_cases k:i=0
   ·simp[k]
   ·simp[h2 bd]
  ·refine wk [] [] ?_;simp;exact bX bd bd
 ·simp[aW.rows];simp only[fC,iu,bQ b,bW]
theorem qa(l:List Place)(hl:l.length≤1048576):H0 143 [.sl 5 (Place.rows l)] (.bool (gw l)):=by
 refine iF hm Tryz.func143 ?_;simp[Place.rows];refine bc hm l.length (λi=>⟨[(0,.sl 5 (Place.rows l)),(5,.sl 5 (Place.rows l)),(6,.int .i64 l.length),(7,.int .i64 i)],[]⟩) (λi=>∀j,j<i→kJ fw qQ l j=true) bl ?_ bn (λi hi b=>?_) (λb=>?_)
 ·exact wk [] [] kf
 ·have e1:IntKind.i64.wrap ((i:Int)-1)=i-1:=bX bd bd;obtain⟨y,hy⟩:∃y,l[i-1]?=some y:=⟨_,ae bd⟩;have hx:=ae hi;have a:=wJ l[i];simp only[Place.cells]at a;simp[Place.rows,Place.cells,hi];refine u0 a ?_;simp[Place.cells,hy,e1];have ho:=jf fw qQ hx hy;have hs:=fD y.bB l[i].bB
  iterate 6 refine⟨cd,?_⟩
  refine⟨λh=>?_,λh1 h2=>⟨de b ?_,?_⟩⟩
  ·have:kJ fw qQ l i=false:=by
    rw[ho,qQ];rcases h with h|⟨h,h'⟩
    ·simp[h]
    ·have c:(Op.bytesLess l[i].bB y.bB||decide (l[i].bB=y.bB))=true:=h5
     rw[hs]at c;have k:¬i=0:=bd
     simp at c;simp[c,k]
   simp only[gw,iu,bL hi this,cR]
  ·rw[ho,qQ];rw[h1,bW];by_cases k:i=0
   ·simp[k]
   ·obtain⟨D,d⟩:=h2 bd;simp[D,d]at hs;simp[hs]
  ·refine wk [] [] ?_;simp;exact bX bd bd
 ·simp[Place.rows];simp only[gw,iu,bQ b,bW]
theorem aai(l:List Place)(hl:l.length≤1048576):H0 198 [.sl 5 (Place.rows l)] (.bool (gw l)):=by
 refine iF hm Tryz.func198 ?_;simp[Place.rows];refine bc hm l.length (λi=>⟨[(0,.sl 5 (Place.rows l)),(3,.int .i64 i)],[]⟩) (λi=>∀j,j<i→kJ fw qQ l j=true) bl ?_ bn (λi hi b=>?_) (λb=>?_)
 ·exact wk [] [] kf
 ·have e1:IntKind.i64.wrap ((i:Int)-1)=i-1:=bX bd bd;obtain⟨y,hy⟩:∃y,l[i-1]?=some y:=⟨_,ae bd⟩;have hx:=ae hi;simp[Place.rows,hi];refine u0 (NZ l[i] _ _ er) ?_;simp[Place.cells,hi,hy,e1];have ho:=jf fw qQ hx hy
  iterate 6 refine⟨cd,?_⟩
  refine⟨λh=>?_,λh1 h2=>⟨de b ?_,?_⟩⟩
  ·have:kJ fw qQ l i=false:=by
    rw[ho,qQ];rcases h with h|⟨h,h'⟩
    ·simp[h]
    ·have k:¬i=0:=bd
     simp[h',k]
   simp only[gw,iu,bL hi this,cR]
  ·rw[ho,qQ,h1,bW];by_cases k:i=0
   ·simp[k]
   ·simp[h2 bd]
  ·refine wk [] [] ?_;simp;exact bX bd bd
 ·simp[Place.rows];simp only[gw,iu,bQ b,bW]
theorem jv(l:List aS)(hl:l.length≤1048576)(hw:∀x∈l,x.shares.length≤1048576):H0 140 [.sl 5 (aS.rows l)] (.bool (ep l)):=by
 refine iF hm Tryz.func140 ?_;simp[aS.rows];refine bc hm l.length (λi=>⟨[(0,.sl 5 (aS.rows l)),(5,.sl 5 (aS.rows l)),(6,.int .i64 l.length),(7,.int .i64 i)],[]⟩) (λi=>∀j,j<i→kJ fA sH l j=true) bl ?_ bn (λi hi b=>?_) (λb=>?_)
 ·exact wk [] [] y1
 ·have e1:IntKind.i64.wrap ((i:Int)-1)=i-1:=bX bd bd;obtain⟨y,hy⟩:∃y,l[i-1]?=some y:=⟨_,ae bd⟩;have hx:=ae hi;have a:=uJ l[i] (hw _ (ai hi));simp only[aS.cells]at a;simp[aS.rows,aS.cells,hi];refine u0 a ?_;simp[aS.cells,hy,e1];have ho:=jf fA sH hx hy;have hs:=fD y.id l[i].id
  iterate 6 refine⟨cd,?_⟩
  refine⟨λh=>?_,λh1 h2=>⟨de b ?_,?_⟩⟩
  ·have:kJ fA sH l i=false:=by
    rw[ho,sH];rcases h with h|⟨h,h'⟩
    ·simp[h]
    ·have c:(Op.bytesLess l[i].id y.id||decide (l[i].id=y.id))=true:=h5
     rw[hs]at c;have k:¬i=0:=bd
     simp at c;simp[c,k]
   simp only[ep,iu,bL hi this,cR]
  ·rw[ho,sH];rw[h1,bW];by_cases k:i=0
   ·simp[k]
   ·obtain⟨D,d⟩:=h2 bd;simp[D,d]at hs;simp[hs]
  ·refine wk [] [] ?_;simp;exact bX bd bd
 ·simp[aS.rows];simp only[ep,iu,bQ b,bW]
theorem GJ(l:List aS)(hl:l.length≤1048576)(hw:∀x∈l,x.shares.length≤1048576):H0 87 [.sl 5 (aS.rows l)] (.bool (ep l)):=by
 refine iF hm Tryz.func87 ?_;simp[aS.rows];refine bc hm l.length (λi=>⟨[(0,.sl 5 (aS.rows l)),(3,.int .i64 i)],[]⟩) (λi=>∀j,j<i→kJ fA sH l j=true) bl ?_ bn (λi hi b=>?_) (λb=>?_)
 ·exact wk [] [] y1
 ·have e1:IntKind.i64.wrap ((i:Int)-1)=i-1:=bX bd bd;obtain⟨y,hy⟩:∃y,l[i-1]?=some y:=⟨_,ae bd⟩;have hx:=ae hi;simp[aS.rows,hi];refine u0 (Ck l[i] _ _ er (hw _ (ai hi))) ?_;simp[aS.cells,hi,hy,e1];have ho:=jf fA sH hx hy
  iterate 6 refine⟨cd,?_⟩
  refine⟨λh=>?_,λh1 h2=>⟨de b ?_,?_⟩⟩
  ·have:kJ fA sH l i=false:=by
    rw[ho,sH];rcases h with h|⟨h,h'⟩
    ·simp[h]
    ·have k:¬i=0:=bd
     simp[h',k]
   simp only[ep,iu,bL hi this,cR]
  ·rw[ho,sH,h1,bW];by_cases k:i=0
   ·simp[k]
   ·simp[h2 bd]
  ·refine wk [] [] ?_;simp;exact bX bd bd
 ·simp[aS.rows];simp only[ep,iu,bQ b,bW]
theorem CM(l:List bu)(hl:l.length≤1048576)(hw:∀x∈l,x.aY.length≤1048576):H0 146 [.sl 6 (bu.rows l)] (.bool (me l)):=by
 refine iF hm Tryz.func146 ?_;simp[bu.rows];refine bc hm l.length (λi=>⟨[(0,.sl 6 (bu.rows l)),(5,.sl 6 (bu.rows l)),(6,.int .i64 l.length),(7,.int .i64 i)],[]⟩) (λi=>∀j,j<i→kJ iH ud l j=true) bl ?_ bn (λi hi b=>?_) (λb=>?_)
 ·exact wk [] [] kL
 ·have e1:IntKind.i64.wrap ((i:Int)-1)=i-1:=bX bd bd;obtain⟨y,hy⟩:∃y,l[i-1]?=some y:=⟨_,ae bd⟩;have hx:=ae hi;have a:=x9 l[i] (hw _ (ai hi));simp only[bu.cells]at a;simp[bu.rows,bu.cells,hi];refine u0 a ?_;simp[bu.cells,hy,e1];have ho:=jf iH ud hx hy;have hs:=fD y.name l[i].name
  iterate 6 refine⟨cd,?_⟩
  refine⟨λh=>?_,λh1 h2=>⟨de b ?_,?_⟩⟩
  ·have:kJ iH ud l i=false:=by
    rw[ho,ud];rcases h with h|⟨h,h'⟩
    ·simp[h]
    ·have c:(Op.bytesLess l[i].name y.name||decide (l[i].name=y.name))=true:=h5
     rw[hs]at c;have k:¬i=0:=bd
     simp at c;simp[c,k]
   simp only[me,iu,bL hi this,cR]
  ·rw[ho,ud];rw[h1,bW];by_cases k:i=0
   ·simp[k]
   ·obtain⟨D,d⟩:=h2 bd;simp[D,d]at hs;simp[hs]
  ·refine wk [] [] ?_;simp;exact bX bd bd
 ·simp[bu.rows];simp only[me,iu,bQ b,bW]
theorem CN(l:List bu)(hl:l.length≤1048576)(hw:∀x∈l,x.aY.length≤1048576):H0 200 [.sl 6 (bu.rows l)] (.bool (me l)):=by
 refine iF hm Tryz.func200 ?_;simp[bu.rows];refine bc hm l.length (λi=>⟨[(0,.sl 6 (bu.rows l)),(3,.int .i64 i)],[]⟩) (λi=>∀j,j<i→kJ iH ud l j=true) bl ?_ bn (λi hi b=>?_) (λb=>?_)
 ·exact wk [] [] kL
 ·have e1:IntKind.i64.wrap ((i:Int)-1)=i-1:=bX bd bd;obtain⟨y,hy⟩:∃y,l[i-1]?=some y:=⟨_,ae bd⟩;have hx:=ae hi;simp[bu.rows,hi];refine u0 (S_ l[i] _ _ er (hw _ (ai hi))) ?_;simp[bu.cells,hi,hy,e1];have ho:=jf iH ud hx hy
  iterate 6 refine⟨cd,?_⟩
  refine⟨λh=>?_,λh1 h2=>⟨de b ?_,?_⟩⟩
  ·have:kJ iH ud l i=false:=by
    rw[ho,ud];rcases h with h|⟨h,h'⟩
    ·simp[h]
    ·have k:¬i=0:=bd
     simp[h',k]
   simp only[me,iu,bL hi this,cR]
  ·rw[ho,ud,h1,bW];by_cases k:i=0
   ·simp[k]
   ·simp[h2 bd]
  ·refine wk [] [] ?_;simp;exact bX bd bd
 ·simp[bu.rows];simp only[me,iu,bQ b,bW]
theorem sX(l:List Action)(hl:l.length≤1048576)(hw:∀x∈l,x.fY.length≤1048576):H0 148 [.sl 4 (Action.rows l)] (.bool (gY l)):=by
 refine iF hm Tryz.func148 ?_;simp[Action.rows];refine bc hm l.length (λi=>⟨[(0,.sl 4 (Action.rows l)),(5,.sl 4 (Action.rows l)),(6,.int .i64 l.length),(7,.int .i64 i)],[]⟩) (λi=>∀j,j<i→kJ fb nt l j=true) bl ?_ bn (λi hi b=>?_) (λb=>?_)
 ·exact wk [] [] j0
 ·have e1:IntKind.i64.wrap ((i:Int)-1)=i-1:=bX bd bd;obtain⟨y,hy⟩:∃y,l[i-1]?=some y:=⟨_,ae bd⟩;have hx:=ae hi;have a:=vd l[i] (hw _ (ai hi));simp only[Action.cells]at a;simp[Action.rows,Action.cells,hi];refine u0 a ?_;simp[Action.cells,hy,e1];have ho:=jf fb nt hx hy
  repeat refine⟨cd,?_⟩
  refine⟨λh=>?_,λh1 h2=>⟨de b ?_,?_⟩⟩
  ·have:kJ fb nt l i=false:=by
    rw[ho,nt];grind
   simp only[gY,iu,bL hi this,cR]
  ·rw[ho,nt];grind
  ·refine wk [] [] ?_;simp;exact bX bd bd
 ·simp[Action.rows];simp only[gY,iu,bQ b,bW]
theorem Tj(l:List Action)(hl:l.length≤1048576)(hw:∀x∈l,x.fY.length≤1048576):H0 201 [.sl 4 (Action.rows l)] (.bool (gY l)):=by
 refine iF hm Tryz.func201 ?_;simp[Action.rows];refine bc hm l.length (λi=>⟨[(0,.sl 4 (Action.rows l)),(3,.int .i64 i)],[]⟩) (λi=>∀j,j<i→kJ fb nt l j=true) bl ?_ bn (λi hi b=>?_) (λb=>?_)
 ·exact wk [] [] j0
 ·have e1:IntKind.i64.wrap ((i:Int)-1)=i-1:=bX bd bd;obtain⟨y,hy⟩:∃y,l[i-1]?=some y:=⟨_,ae bd⟩;have hx:=ae hi;simp[Action.rows,hi];refine u0 (N3 l[i] _ _ er (hw _ (ai hi))) ?_;simp[Action.cells,hi,hy,e1];have ho:=jf fb nt hx hy
  repeat refine⟨cd,?_⟩
  refine⟨λh=>?_,λh1 h2=>⟨de b ?_,?_⟩⟩
  ·have:kJ fb nt l i=false:=by
    rw[ho,nt];grind
   simp only[gY,iu,bL hi this,cR]
  ·rw[ho,nt];grind
  ·refine wk [] [] ?_;simp;exact bX bd bd
 ·simp[Action.rows];simp only[gY,iu,bQ b,bW]
theorem Ry(l:List (List UInt8))(hl:l.length≤1048576):H0 337 [.sl 1 (au l)] (.bool (zx l)):=by
 refine iF hm Tryz.func337 ?_;simp[aQ];refine bc hm l.length (λi=>⟨[(0,.sl 1 (au l)),(5,.sl 1 (au l)),(6,.int .i64 l.length),(7,.int .i64 i)],[]⟩) (λi=>∀j,j<i→kJ isName Op.bytesLess l j=true) bl ?_ bn (λi hi b=>?_) (λb=>?_)
 ·exact wk [] [] bn
 ·have e1:IntKind.i64.wrap ((i:Int)-1)=i-1:=bX bd bd;obtain⟨y,hy⟩:∃y,l[i-1]?=some y:=⟨_,ae bd⟩;have hx:=ae hi;have ho:=jf isName Op.bytesLess hx hy;have hs:=fD y l[i];simp[au,hi];refine u0 (dy _) ?_;simp[hy,e1]
  repeat refine⟨cd,?_⟩
  refine⟨λh=>?_,λh1 h2=>⟨de b ?_,?_⟩⟩
  ·have:kJ isName Op.bytesLess l i=false:=by
    rw[ho];grind
   simp only[zx,iu,bL hi this]
  ·rw[ho];grind
  ·refine wk [] [] ?_;simp;exact bX bd bd
 ·simp[aQ];simp only[zx,iu,bQ b]
theorem uH(x:aR)(hl:x.aG.length≤1048576):H0 224 [.agg x.cells] (.bool (gN x)):=by
 refine iF hm Tryz.func224 ?_;simp[aR.cells];refine u0 (dy _) ?_;simp[aQ]
 repeat refine⟨cd,?_⟩
 refine uy (Ry x.aG hl) ?_;simp
 repeat refine⟨cd,?_⟩
 refine uy (bE _ _ _) ?_;simp
 repeat refine⟨cd,?_⟩
 simp[gN]
theorem Ch(x:aR)(rows:List (List PV))(i0:Nat)(a:rows[i0]?=some x.cells)(hl:x.aG.length≤1048576):H0 103 [.pe 3 rows i0 0] (.bool (gN x)):=by
 have N:i0<rows.length:=(aa.1 a).1;have X:rows[i0]=x.cells:=(aa.1 a).2;rw[aR.cells]at a X;refine iF hm Tryz.func103 ?_;simp[N,X];refine u0 (dd _) ?_;simp[N,X,aQ]
 repeat refine⟨cd,?_⟩
 refine uy (bT _ _ _) ?_;simp
 repeat refine⟨cd,?_⟩
 refine⟨λh=>?_,?_⟩
 ·rw[gN];grind
 intros
 refine bc hm x.aG.length (λi=>⟨[(0,.pe 3 rows i0 0),(3,.int .i64 i)],[]⟩) (λi=>∀j,j<i→kJ isName Op.bytesLess x.aG j=true) bl ?_ bn (λi hi b=>?_) (λb=>?_)
 ·exact wk [] [] bn
 ·have e1:IntKind.i64.wrap ((i:Int)-1)=i-1:=bX bd bd;obtain⟨y,hy⟩:∃y,x.aG[i-1]?=some y:=⟨_,ae bd⟩;have hx:=ae hi;have ho:=jf isName Op.bytesLess hx hy;simp[N,X,au,hi];refine u0 (dd _) ?_;simp[N,X,au,hi,hy,e1]
  repeat refine⟨cd,?_⟩
  refine⟨λh=>?_,λh1 h2=>⟨de b ?_,?_⟩⟩
  ·have:kJ isName Op.bytesLess x.aG i=false:=by
    rw[ho];grind
   simp[gN,zx,iu,bL hi this]
  ·rw[ho];grind
  ·refine wk [] [] ?_;simp;exact bX bd bd
 ·simp[N,X,aQ];simp only[gN,zx,iu,bQ b];grind
def Ig(l:List (List UInt8))(s:List UInt8):Bool:=l.any λx=>decide (s=x)
def gI(a b:aR):Bool:=a.aG.any (Ig b.aG)
theorem o4(a b:aR):gI a b=gI b a:=by
 rw[JA];simp only[gI,Ig,cD,al];exact⟨λ⟨x,h1,y,h2,e⟩=>⟨y,h2,x,h1,e.symm⟩,λ⟨x,h1,y,h2,e⟩=>⟨y,h2,x,h1,e.symm⟩⟩
theorem U7(b:aR)(rows:List (List PV))(i0:Nat)(a:rows[i0]?=some b.cells)(hl:b.aG.length≤1048576)(s:List UInt8):H0 340 [.str s,.pe 3 rows i0 0] (.bool (Ig b.aG s)):=by
 have N:i0<rows.length:=(aa.1 a).1;have X:rows[i0]=b.cells:=(aa.1 a).2;rw[aR.cells]at a X;refine iF hm Tryz.func340 ?_;simp[N,X];refine u0 (vg b.aG s bd) ?_;simp[Ig]
theorem OS(a b:aR)(C:a.aG.length≤1048576)(hb:b.aG.length≤1048576):H0 227 [.agg a.cells,.agg b.cells] (.bool (gI a b)):=by
 refine iF hm Tryz.func227 ?_;have k:=BG 340 3 [b.cells] 0 0 (Ig b.aG) a.aG (λx _=>U7 b [b.cells] 0 rfl hb x) bd;simp only[aR.cells]at k;simp[aR.cells];refine u0 k ?_;simp[gI]
theorem JV(x y:aR)(rows:List (List PV))(i0:Nat)(a:rows[i0]?=some x.cells)(hx:x.aG.length≤1048576)(hy:y.aG.length≤1048576):H0 226 [.agg y.cells,.pe 3 rows i0 0] (.bool (gI x y)):=by
 have N:i0<rows.length:=(aa.1 a).1;have X:rows[i0]=x.cells:=(aa.1 a).2;have k:=OS x y hx hy;rw[aR.cells]at a X;simp only[aR.cells]at k;refine iF hm Tryz.func226 ?_;simp[N,X,aR.cells];refine u0 k ?_;simp
def oC(l:List aR)(i:Nat):Bool:=kJ gN ry l i&&match l[i]? with
 |some x => !(l.take i).any (gI x)
 |none=>true
def ec(l:List aR):Bool:=(List.range l.length).all (oC l)&&decide ((l.length:Int)≤12)
theorem ic(l:List aR)(hl:l.length≤1048576)(hw:∀x∈l,x.aG.length≤1048576):H0 139 [.sl 3 (aR.rows l)] (.bool (ec l)):=by
 refine iF hm Tryz.func139 ?_;simp[aR.aj];refine bc hm l.length (λi=>⟨[(0,.sl 3 (aR.rows l)),(5,.sl 3 (aR.rows l)),(6,.int .i64 l.length),(7,.int .i64 i)],[]⟩) (λi=>∀j,j<i→oC l j=true) bl ?_ bn (λi hi b=>?_) (λb=>?_)
 ·exact wk [] [] bn
 ·have e1:IntKind.i64.wrap ((i:Int)-1)=i-1:=bX bd bd;obtain⟨y,hy⟩:∃y,l[i-1]?=some y:=⟨_,ae bd⟩;have hx:=ae hi;have d:=uH l[i] (hw _ (ai hi));have A:=jP 226 3 [l[i].cells] 0 0 (gI l[i]) (l.take i) (λz hz=>JV l[i] z [l[i].cells] 0 rfl (hw _ (ai hi)) (hw _ (bG hz))) c7;simp only[aR.cells]at d A;simp[aR.rows,aR.cells,hi];refine u0 d ?_;simp[aR.cells,hy,e1];have ho:=jf gN ry hx hy;have hs:=fD y.id l[i].id
  repeat refine⟨cd,?_⟩
  refine⟨λh=>?_,λh1 h2=>?_⟩
  ·have:oC l i=false:=by
    rw[oC,ho,ry];grind
   simp only[ec,bL hi this,cR]
  ·have S:kJ gN ry l i=true:=by
    rw[ho,ry];grind
   have q:aR.rows (l.take i)=(List.map aR.cells l).take i:=by simp[aR.rows,List.map_take]
   rw[q]at A;refine⟨bd,u0 A ?_⟩;simp only[put];simp;refine⟨λa h1 h2=>?_,λh=>⟨de b ?_,?_⟩⟩
   ·have:oC l i=false:=by
     have c:(l.take i).any (gI l[i])=true:=cD.2 ⟨a,h1,h2⟩;simp[oC,hx,c]
    simp only[ec,bL hi this,cR]
   ·have c:(l.take i).any (gI l[i])=false:=by
     rw[cj];exactλa C=>by simp[h a C]
    simp[oC,S,hx,c]
   ·refine wk [] [] ?_;simp;exact bX bd bd
 ·simp[aR.aj];simp only[ec,bQ b,bW]
theorem Fu(a b:aR)(d c:List (List PV))(i0 g:Nat)(h1:d[i0]?=some a.cells)(h2:c[g]?=some b.cells)(C:a.aG.length≤1048576)(hb:b.aG.length≤1048576):H0 107 [.pe 3 d i0 0,.pe 3 c g 0] (.bool (gI a b)):=by
 have l:i0<d.length:=(aa.1 h1).1;have o:g<c.length:=(aa.1 h2).1;have B:d[i0]=a.cells:=(aa.1 h1).2;have u:c[g]=b.cells:=(aa.1 h2).2;rw[aR.cells]at h1 h2 B u;refine iF hm Tryz.func107 ?_;simp;refine bc hm a.aG.length (λi=>⟨[(0,.pe 3 d i0 0),(1,.pe 3 c g 0),(5,.int .i64 i)],[]⟩) (λi=>∀j (h:j<a.aG.length),j<i→Ig b.aG a.aG[j]=false) bl ?_ bn (λi hi f=>?_) (λf=>?_)
 ·exact wk [] [] bn
 ·simp[l,B,aQ,hi];refine bc hm b.aG.length (λk=>⟨[(0,.pe 3 d i0 0),(1,.pe 3 c g 0),(5,.int .i64 i),(6,.int .i64 k)],[]⟩) (λk=>∀j (h:j<b.aG.length),j<k→¬a.aG[i]=b.aG[j]) bl ?_ bn (λk hk t=>?_) (λt=>?_)
  ·exact wk [] [] bn
  ·simp[l,o,B,u,aQ,fe,hi,hk];refine⟨λh=>?_,λh=>⟨λj n p=>?_,?_⟩⟩
   ·refine cD.2 ⟨_,ai hi,cD.2 ⟨_,ai hk,c8⟩⟩
   ·by_cases e:j=k
    ·subst e;exact h
    ·exact t j n bd
   ·refine wk [] [] ?_;simp;exact bX bd bd
  ·simp[o,u,aQ];refine⟨λj n Q=>?_,?_⟩
   ·by_cases e:j=i
    ·subst e;rw[Ig,cj];intro y hy;obtain⟨m,x,rfl⟩:=aX hy;simpa using t m x x
    ·exact f j n bd
   ·refine wk [] [] ?_;simp;exact bX bd bd
 ·simp[l,B,aQ];rw[gI,cj];intro y hy;obtain⟨m,x,rfl⟩:=aX hy;simp[f m x x]
theorem wQ(l:List aR)(hl:l.length≤1048576)(hw:∀x∈l,x.aG.length≤1048576):H0 195 [.sl 3 (aR.rows l)] (.bool (ec l)):=by
 refine iF hm Tryz.func195 ?_;simp;refine bc hm l.length (λi=>⟨[(0,.sl 3 (aR.rows l)),(3,.int .i64 i)],[]⟩) (λi=>∀j,j<i→oC l j=true) bl ?_ bn (λi hi b=>?_) (λb=>?_)
 ·exact wk [] [] bn
 ·have e1:IntKind.i64.wrap ((i:Int)-1)=i-1:=bX bd bd;obtain⟨y,hy⟩:∃y,l[i-1]?=some y:=⟨_,ae bd⟩;have hx:=ae hi;have ho:=jf gN ry hx hy;simp[aR.rows,hi];refine u0 (Ch l[i] _ _ er (hw _ (ai hi))) ?_;simp[aR.cells,hi,hy,e1]
  repeat refine⟨cd,?_⟩
  refine⟨λh=>?_,λh1 h2=>?_⟩
  ·have:oC l i=false:=by
    rw[oC,ho,ry];grind
   simp only[ec,bL hi this,cR]
  ·have S:kJ gN ry l i=true:=by
    rw[ho,ry];grind
   refine bc hm i (λk=>⟨[(0,.sl 3 (aR.rows l)),(3,.int .i64 i),(4,.int .i64 k)],[]⟩) (λk=>∀j (h:j<l.length),j<k→gI l[j] l[i]=false) bl ?_ bn (λk hk t=>?_) (λt=>?_)
   ·exact wk [] [] (by simp[aR.rows])
   ·have c:k<l.length:=bd
    simp[aR.aj,hi,c,hk];refine u0 (Fu l[k] l[i] (aR.rows l) (aR.rows l) k i (by simp[aR.rows,c]) p4 (hw _ (ai c)) (hw _ (ai hi))) ?_;simp;refine⟨λh=>?_,λh=>⟨λj f g=>?_,?_⟩⟩
    ·have:oC l i=false:=by
      have d:(l.take i).any (gI l[i])=true:=cD.2 ⟨l[k],cY.2 ⟨k,bd,rfl⟩,by rw[o4];exact h⟩;simp[oC,hx,d]
     simp only[ec,bL hi this,cR]
    ·by_cases e:j=k
     ·subst e;exact h
     ·exact t j f bd
    ·refine wk [] [] ?_;simp;exact bX bd bd
   ·simp[aR.aj];refine⟨de b ?_,?_⟩
    ·have d:(l.take i).any (gI l[i])=false:=by
      rw[cj];intro a C;obtain⟨k,hk,rfl⟩:=cY.1 C;rw[o4,t k bd bd];simp
     simp[oC,S,hx,d]
    ·refine wk [] [] ?_;simp[aR.rows];exact bX bd bd
 ·simp[aR.aj];simp only[ec,bQ b,bW]
end
end Go.Proofs.YtepeckjhdoicpaaGreatDoor
