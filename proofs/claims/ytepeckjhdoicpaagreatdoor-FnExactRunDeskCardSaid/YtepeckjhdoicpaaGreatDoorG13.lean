import Derived.Test.YtepeckjhdoicpaaGreatDoorG12
set_option linter.all false
set_option maxRecDepth 100000
namespace Go.Proofs.YtepeckjhdoicpaaGreatDoor
open Go Go.Ab
section
variable[dw:Go.Ab.bI]
def tc(b:UInt8):Bool:=decide ((32:Int)≤b.toNat)&&decide ((b.toNat:Int)≤126)
def pF(s:List UInt8):Bool:=decide ((s.length:Int)≤60)&&s.all tc
theorem OK(b:UInt8):H0 350 [.int .u8 b.toNat] (.bool (!tc b)):=by
 refine iF hm Tryz.func350 ?_;simp[tc]
 congr 1<;>rw[←decide_not]<;>simp
theorem Mz(f:Nat)(p:UInt8→Bool)(hf:∀b:UInt8,H0 f [.int .u8 b.toNat] (.bool (p b)))(s:List UInt8)(hs:s.length≤9223372036854775807):
  H0 438 [.sl 1 (et s),.fn f []] (.int .i64 (gW p s)):=by
 refine iF hm Tryz.func438 ?_;simp[et];refine bc hm s.length (λi=>⟨[(0,.sl 1 (et s)),(1,.fn f []),(7,.int .i64 s.length),(8,.int .i64 i)],[]⟩) (λi=>∀j (h:j<s.length),j<i→p s[j]=false) bl ?_ bn (λi hi a=>?_) (λa=>?_)
 ·exact wk [] [] wa
 ·simp[et,hi];refine u0 (hf _) ?_;simp;refine⟨λh=>(jN hi h a).symm,λh=>⟨λj d Q=>?_,?_⟩⟩
  ·by_cases e:j=i
   ·subst e;exact h
   ·exact a j d bd
  ·refine wk [] [] ?_;simp;exact bX bd bd
 ·simp[et];exact(fZ λj d=>a j d d).symm
theorem Gb(f:Nat)(p:UInt8→Bool)(hf:∀b:UInt8,H0 f [.int .u8 b.toNat] (.bool (p b)))(s:List UInt8)(hs:s.length≤9223372036854775807):
  H0 349 [.sl 1 (et s),.fn f []] (.bool (s.any p)):=by
 refine iF hm Tryz.func349 ?_;simp;refine u0 (Mz f p hf s hs) ?_;simp;exact nC
theorem Rp(s:List UInt8)(hs:s.length≤9223372036854775807):H0 238 [.str s] (.bool (pF s)):=by
 refine iF hm Tryz.func238 ?_;simp;refine uy (Gb _ _ OK s hs) ?_;simp[pF];rw[List.all_eq_not_any_not]
theorem H6(s:List UInt8)(hs:s.length≤9223372036854775807):H0 313 [.str s] (.bool (pF s)):=by
 refine iF hm Tryz.func313 ?_;simp;refine bc hm s.length (λi=>⟨[(0,.str s),(3,.int .i64 i)],[]⟩) (λi=>∀j (h:j<s.length),j<i→tc s[j]=true) bl ?_ bn (λi hi b=>?_) (λb=>?_)
 ·exact wk [] [] bn
 ·simp[hi];have a:tc s[i]=true↔(32:Int)≤s[i].toNat∧(s[i].toNat:Int)≤126:=by simp[tc]
  refine⟨λh=>?_,λk D=>⟨λj d Q=>?_,?_⟩⟩
  ·have h0:¬tc s[i]=true:=by rw[a];omega
   have h1:s.all tc=false:=by
    rw[←pt,ak];exactλhc=>h0 (hc _ (ai hi))
   simp[pF,h1]
  ·by_cases e:j=i
   ·subst e;exact a.2 ⟨k,D⟩
   ·exact b j d bd
  ·refine wk [] [] ?_;simp;exact bX bd bd
 ·simp;have:s.all tc=true:=ak.2 λx hx=>by
   obtain⟨j,d,rfl⟩:=aX hx;exact b j d d
  simp[pF,this]
def ed(r:aM):Bool:=
 if r.kind=1 then isName r.key&&pF r.text
 else if r.kind=2 then isName r.key&&decide (r.text=[])
 else decide (r.kind=3)&&decide (r.key=[])&&decide (r.text=[])
theorem tZ(r:aM)(c:r.wf):H0 151 [.agg r.cells] (.bool (ed r)):=by
 refine iF hm Tryz.func151 ?_;simp[aM.cells];refine⟨λh=>?_,λh1=>⟨λh=>?_,λh2=>?_⟩⟩
 ·refine u0 (dy _) ?_;simp;refine uy (Rp _ c.2.2.2) ?_;simp[ed,h]
 ·refine u0 (dy _) ?_;simp[ed,h]
 ·simp[ed,h1,h2];exactλa b=>⟨a,b⟩
theorem OL(x:aM)(c:x.wf)(rows:List (List PV))(i:Nat)(h:rows[i]?=some x.cells):H0 184 [.pe 3 rows i 0] (.bool (ed x)):=by
 have hi:i<rows.length:=(aa.1 h).1;have hx:rows[i]=x.cells:=kz
 refine iF hm Tryz.func184 ?_;rw[aM.cells]at h hx;simp[hi,hx];refine⟨λh1=>?_,λh1=>⟨λh2=>?_,λh2=>⟨λa b=>⟨a,b⟩,?_⟩⟩⟩
 ·refine u0 (dd _) ?_;simp[hi,hx]
  first
   |refine uy (H6 _ c.2.2.2) ?_
   |refine⟨cb,uy (H6 _ c.2.2.2) ?_⟩
  simp[ed,h1]
 ·refine u0 (dd _) ?_;simp[hi,hx,ed,h2]
 ·simp[ed,h1,h2]
structure eD where
 steps:Int
 rest:Int
 notes:List Int
 pins:List ez
theorem eD.eq_iff{a b:eD}:a=b↔a.steps=b.steps∧a.rest=b.rest∧a.notes=b.notes∧a.pins=b.pins:=cn
instance:DecidableEq eD:=λ_ _=>decidable_of_iff _ eD.eq_iff.symm
def eD.cells(x:eD):List PV:=[.int .i64 x.steps,.int .i64 x.rest,.sl 1 (ar x.notes),.sl 2 (ez.rows x.pins)]
end
end Go.Proofs.YtepeckjhdoicpaaGreatDoor
