import Derived.Test.YtepeckjhdoicpaaGreatDoorG4
import Derived.Test.YtepeckjhdoicpaaGreatDoorG5
import Derived.Test.YtepeckjhdoicpaaGreatDoorG6
set_option linter.all false
set_option maxRecDepth 100000
namespace Go.Ab
section
variable[dw:Go.Ab.bI]
variable{P:Program}{q own c:Bool}{f:FuncId}{args mP:List PV}{d:Option Nat}{S:St}{K:St→Prop}{res:PV}{Hout:Heap}
theorem u0(hf:iW P f mP [] res [])(t:K ⟨put S.fr d res,S.H⟩)(h1:(own||pz res)=true:=by rfl)(a:whole 0 res=true:=by rfl):iv P q f mP true own args d S K:=iv.Yk hf h1 a t
theorem uy{ok:Bool}(hf:iW P f mP [] res [])(t:K ⟨put S.fr d (.opt c res),S.H⟩)(h0:c=true→ok=true:=by exactλ_=>rfl)(h1:(own||pz res)=true:=by rfl)(a:whole 0 res=true:=by rfl):js P q f mP ok own c args d S K:=js.use (λh=>⟨h0 h,hf⟩) h1 a t
theorem iF {fn : Func} {x : Code} {J : Heap} (hm : P.follows .mixedOrders = true) (hf : P.funcs[f]? = some fn) (a : vv P fn.ntmps x ⟨gf 0 args, J⟩ (aas P fn.results.toList res)) (r : (fn.name == "runtime.NumGoroutine") = false := by kernel_rfl) (hb : fn.body = some x := by rfl) (m : pd fn x = true := by kernel_rfl) (Z : Nat.ble args.length fn.ntmps = true := by rfl) : iW P f args J res [] := nz hm hf r hb m Z xj a
theorem iG {fn : Func} {x : Code} {J : Heap} (hm : P.follows .mixedOrders = true) (hf : P.funcs[f]? = some fn) (a : vv P fn.ntmps x ⟨gf 0 args, J⟩ (xB P fn.results.toList res Hout)) (r : (fn.name == "runtime.NumGoroutine") = false := by kernel_rfl) (hb : fn.body = some x := by rfl) (m : pd fn x = true := by kernel_rfl) (Z : Nat.ble args.length fn.ntmps = true := by rfl) : iW P f args J res Hout := nz hm hf r hb m Z (fun _ _ h => h) a
theorem u1(hf:iW P f mP [] res Hout)(t:K ⟨put S.fr d (shift S.H.length res),S.H++Hout⟩)(h1:(own||pz res)=true:=by rfl)(h2:own=true:=by rfl)(a:whole Hout.length res=true:=by rfl)(k:G_ Hout=true:=by rfl):iv P q f mP true own args d S K:=iv.use hf h1 (.inl h2) a k t
theorem u2{z:Nat}{rows:List (List PV)}(hf:iW P f mP [] res [some (.arr z rows)])(h2:oE rows)(t:K ⟨put S.fr d (shift S.H.length res),S.H++[some (.arr z rows)]⟩)(h1:(own||pz res)=true:=by rfl)(a:whole 1 res=true:=by rfl)(k:G_ [some (Obj.arr z rows)]=true:=by rfl):iv P q f mP true own args d S K:=iv.use hf h1 (.inr ⟨h2,cw⟩) a k t
theorem lu(hm:P.follows .mixedOrders=true){n:Nat}(N:Nat)(σ:Nat→St){x:Code}{Q:Exit→St→Prop}(h0:fQ S (σ 0))(y:∀i,i<N→vv P n x (σ i) (qi (λa=>True∧fQ a (σ (i+1))) Q))(C:vv P n x (σ N) (qi (λ_=>False) Q))(m:codeOk n x=true:=by kernel_rfl):Ends P n (.loop x) S Q:=
 bc hm N σ (λ_=>True) m h0 cw (λi hi _=>y i hi) λ_=>C
theorem luL(hm:P.follows .mixedOrders=true){n:Nat}(L:List Nat)(N:Nat)(σ:Nat→St){x:Code}{Q:Exit→St→Prop}(h0:fQ S (σ 0))(y:∀i,i<N→qt P n L x (σ i) (qi (λa=>True∧fQ a (σ (i+1))) Q))(C:qt P n L x (σ N) (qi (λ_=>False) Q))(m:pO n L x=true:=by kernel_rfl):Ends P n (.loop x) S Q:=
 R6 hm L N σ (λ_=>True) m h0 cw (λi hi _=>y i hi) λ_=>C
theorem uM{fr:Fr}{H:Heap}{a:List PV}{J:Heap}(ρ ns:List Nat){kp:List Nat}{ok:Bool}(hf:nh P f a J kp res Hout)(W:Wk ρ [] ⟨gf 0 args,H⟩ ⟨gf 0 a,J⟩)(t:K ⟨put (uZ ns fr) d (ren (rn ρ H.length) res),oL (rn ρ H.length) (qU ns H) ρ Hout⟩)
  (s:a.length=args.length:=by rfl) (F:Nat.ble ρ.length Hout.length=true:=by rfl) (hk:∀k∈ρ,k<H.length:=by simp) (o:(ρ.zipIdx.all λx=>kp.contains x.2||ns.contains x.1)=true:=by rfl) (b:II res=true:=by rfl) (V:AW Hout=true:=by rfl):iv P false f mP ok own args d ⟨fr,H⟩ K:=
 iv.Yn ρ [] ns hf W s F hk o b V (.inl rfl) t
theorem wk{S n:St}(ρ φ:List Nat)(h:Wk ρ φ S n):fQ S n:=Wk.BP h
end
end Go.Ab
namespace Go.Proofs.YtepeckjhdoicpaaGreatDoor
open Go Go.Ab
section
variable[dw:Go.Ab.bI]
theorem wS(i:Nat)(h:(i:Int)≤9223372036854775806:=by omega):IntKind.i64.wrap ((i:Int)+1)=(i:Int)+1:=bX (by omega) (by omega)
abbrev H0(f:Nat)(a:List PV)(r:PV):Prop:=iW Tryz.prog f a [] r []
theorem bE(n lo hi:Int):H0 147 [.int .i64 n,.int .i64 lo,.int .i64 hi] (.bool (decide (lo≤n)&&decide (n≤hi))):=by
 refine iF hm Tryz.func147 ?_;simp
theorem bT(n lo hi:Int):H0 188 [.int .i64 n,.int .i64 lo,.int .i64 hi] (.bool (decide (lo≤n)&&decide (n≤hi))):=by
 refine iF hm Tryz.func188 ?_;simp
theorem Fp(n:Int):H0 422 [.int .i64 n] (.bool (decide (1≤n)&&decide (n≤8))):=by
 refine iF hm Tryz.func422 ?_;simp;refine u0 (bE _ _ _) ?_;simp
theorem UX(n:Int):H0 99 [.int .i64 n] (.bool (decide (1≤n)&&decide (n≤8))):=by
 refine iF hm Tryz.func99 ?_;simp;refine u0 (bT _ _ _) ?_;simp
def oZ:List (List UInt8):=[[],[116,114,97,99,101],[115,119,105,110,103],[112,108,97,99,101],[99,108,97,115,104],[116,111,119,101,114],[102,114,97,109,101],[107,101,121],[116,117,110,101]]
def mN(n:Int):List UInt8:=if 1≤n∧n≤8 then oZ.getD n.toNat [] else[]
theorem Ro:iW Tryz.prog 100 [] [] (.sf 0 1) [some (.arr 1 (oZ.map λs=>[.str s]))]:=by
 refine nz hm Tryz.func100 bl rfl bl rfl (wW (ρ:=[0]) (φ:=[])) ?_;simp[oZ]
theorem My{n:Int}(h1:1≤n)(h2:n≤8):n=1∨n=2∨n=3∨n=4∨n=5∨n=6∨n=7∨n=8:=bd
theorem BB(n:Int):H0 423 [.int .i64 n] (.str (mN n)):=by
 refine iF hm Tryz.func423 ?_;simp;refine u0 (Fp _) ?_;simp;refine⟨λh=>?_,λh1 h2=>?_⟩
 ·simp[mN];omega
 ·rw[bX bd bd];rcases My h1 h2 with rfl|rfl|rfl|rfl|rfl|rfl|rfl|rfl<;>simp[mN,oZ]
def isSmall(b:UInt8):Bool:=decide ((97:Int)≤b.toNat)&&decide ((b.toNat:Int)≤122)
def isDigit(b:UInt8):Bool:=decide ((48:Int)≤b.toNat)&&decide ((b.toNat:Int)≤57)
def sF(s:List UInt8)(i:Nat):Bool:=isSmall (s.getD i 0)||(decide (i≠0)&&isDigit (s.getD i 0))
def isName(s:List UInt8):Bool:=decide (1≤s.length)&&decide (s.length≤10)&&(List.range s.length).all (sF s)
theorem H4(b:UInt8):H0 315 [.int .u8 b.toNat] (.bool (isSmall b)):=by
 refine iF hm Tryz.func315 ?_;simp[isSmall]
theorem BC(b:UInt8):H0 129 [.int .u8 b.toNat] (.bool (isDigit b)):=by
 refine iF hm Tryz.func129 ?_;simp[isDigit]
theorem dy(s:List UInt8):H0 231 [.str s] (.bool (isName s)):=by
 refine iF hm Tryz.func231 ?_;simp;refine⟨λh=>?_,λh1 h2=>?_⟩
 ·simp only[isName];rcases h with h|h
  ·simp[(bd:¬1≤s.length)]
  ·simp[(bd:¬s.length≤10)]
 ·have O:isName s=(List.range s.length).all (sF s):=kr
  rw[O];refine bc hm s.length (λi=>⟨[(16,.sl 1 (et s)),(17,.int .i64 s.length),(18,.int .i64 i)],[]⟩) (λi=>∀j,j<i→sF s j=true) bl ?_ bn (λi hi b=>?_) (λb=>?_)
  ·exact wk [] [] wa
  ·have hn:sF s i=true↔(((97:Int)≤s[i].toNat∧(s[i].toNat:Int)≤122)∨(¬i=0∧(48:Int)≤s[i].toNat∧(s[i].toNat:Int)≤57)):=by
    simp[sF,hi,isSmall,isDigit]
   simp[et,hi];refine⟨bd,bd,λc k=>⟨i,hi,?_⟩,λh=>⟨λj d=>?_,?_⟩⟩
   ·rw[←pt,hn];omega
   ·by_cases e:j=i
    ·subst e;rw[hn];omega
    ·exact b j bd
   ·refine wk [] [] ?_;simp;exact bX bd bd
  ·simp[et];exactλj d=>b j d
theorem dd(s:List UInt8):H0 192 [.str s] (.bool (isName s)):=by
 refine iF hm Tryz.func192 ?_;simp;have a:¬s=[]→0<s.length:=λh=>fV.2 h;refine⟨λh1 h2=>⟨⟨h1,h2⟩,a h1⟩,λh1 h2=>⟨h1,h2⟩,js.use (res:=.bool (isSmall (s.getD 0 0))) (λ_=>⟨rfl,?_⟩) rfl rfl ?_⟩
 ·have:=H4 (s.getD 0 0);simpa using this
 simp;have d:∀i,∀h:i<s.length,sF s i=(isSmall s[i]||(decide (i≠0)&&isDigit s[i])):=λi h=>by simp[sF,h]
 refine⟨λh1 h2=>⟨h1,h2⟩,λh=>?_,λh1 h2 f=>?_⟩
 ·rcases h with(h|h)|h
  ·simp[isName,h]
  ·simp[isName,(bd:¬s.length≤10)]
  ·by_cases h0:s=[]
   ·simp[isName,h0]
   ·have:=a h0;have hz:sF s 0=false:=by simpa[sF]using h
    have:(List.range s.length).all (sF s)=false:=by
     rw[←pt,ak];exactλhc=>by rw[hc 0 (bO.2 this)]at hz;cases hz
    simp only[isName,this,B3]
 ·have h0:=a h1;have O:isName s=(List.range s.length).all (sF s):=kr
  rw[O];refine bc hm s.length (λi=>⟨[(0,.str s),(3,.int .i64 i)],[]⟩) (λi=>∀j,j<i→sF s j=true) bl ?_ bn (λi hi c=>?_) (λc=>?_)
  ·exact wk [] [] bn
  ·simp[hi];refine u0 (H4 _) ?_;simp;refine⟨λh=>⟨h,hi⟩,js.use (res:=.bool (isDigit s[i])) (λ_=>⟨rfl,by simpa[hi]using BC s[i]⟩) rfl rfl ?_⟩;simp;refine⟨λk D=>⟨i,hi,?_⟩,λh=>⟨λj g=>?_,?_⟩⟩
   ·simp[d i hi,k,D]
   ·by_cases e:j=i
    ·subst e;rw[d j hi];by_cases D:isSmall s[j]=true
     ·simp[D]
     ·have b:isSmall s[j]=false:=k7
      have X:j≠0:=λe=>by subst e;simp[hi]at f;rw[f]at b;cases b
      simp[b,X,h b]
    ·exact c j bd
   ·refine wk [] [] ?_;simp;exact bX bd bd
  ·simp;exactλj g=>c j g
end
end Go.Proofs.YtepeckjhdoicpaaGreatDoor
