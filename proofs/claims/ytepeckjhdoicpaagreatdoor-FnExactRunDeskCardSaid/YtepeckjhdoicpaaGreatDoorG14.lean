import Derived.Test.YtepeckjhdoicpaaGreatDoorG9
import Derived.Test.YtepeckjhdoicpaaGreatDoorG7
set_option linter.all false
set_option maxRecDepth 100000
namespace Go.Proofs.YtepeckjhdoicpaaGreatDoor
open Go Go.Ab
section
variable[dw:Go.Ab.bI]
theorem wX(a:Int):H0 388 [.int .i64 a] (.bool false):=by
 refine iF hm Tryz.func388 ?_;simp
theorem UZ(a b:Int):H0 477 [.int .i64 a,.int .i64 b] (.bool (decide (a<b))):=by
 refine iF hm Tryz.func477 ?_;simp;refine u0 (wX _) ?_;simp;refine uy (wX _) ?_;simp
def iT(a b:Int):Int:=if a<b then -1 else if b<a then 1 else 0
theorem qK(a b:Int):H0 276 [.int .i64 a,.int .i64 b] (.int .i64 (iT a b)):=by
 refine iF hm Tryz.func276 ?_;simp;refine u0 (wX _) ?_;simp;refine u0 (wX _) ?_;simp[iT];grind
def ZD:List Int→Int
 |[]=>0
 |x::r=>if x=0 then ZD r else x
theorem Tm(l:List Int)(hl:l.length≤1048576):H0 348 [.sl 1 (ar l)] (.int .i64 (ZD l)):=by
 refine iF hm Tryz.func348 ?_;simp;refine bc hm l.length (λi=>⟨[(3,.int .i64 0),(6,.sl 1 (ar l)),(7,.int .i64 l.length),(8,.int .i64 i)],[]⟩) (λi=>ZD l=ZD (l.drop i)) bl ?_ bn (λi hi b=>?_) (λb=>?_)
 ·exact wk [] [] eR
 ·rw[cZ hi,ZD]at b;simp[ar,hi];refine⟨λh=>by simp[b,h],λh=>⟨by simp[b,h],?_⟩⟩;refine wk [] [] ?_;simp;exact bX bd bd
 ·simp at b;simp[b,ZD]
def qL(l:List Int)(i:Nat):Bool:=decide (i=0)||decide (l.getD (i-1) 0≤l.getD i 0)
def CJ(l:List Int):Bool:=(List.range l.length).all (qL l)
theorem JR(l:List Int)(hl:l.length≤1048576):H0 405 [.sl 1 (ar l)] (.bool (CJ l)):=by
 refine iF hm Tryz.func405 ?_;simp;refine bc hm (l.length-1) (λi=>⟨[(0,.sl 1 (ar l)),(3,.int .i64 ((l.length:Int)-1-i))],[]⟩) (λi=>∀j,l.length-i≤j→j<l.length→qL l j=true) bl ?_ (λj h1 h2=>bd) (λi hi b=>?_) (λb=>?_)
 ·refine wk [] [] ?_;simp[ar];exact bX bd bd
 ·obtain⟨k,hk⟩:∃k,k=l.length-1-i:=⟨_,rfl⟩;have s:(l.length:Int)-1-i=(k:Int):=bd
  have t:IntKind.i64.wrap ((k:Int)-1)=((k-1:Nat):Int):=bo
  have k0:0<k:=bd
  have A:k<l.length:=bd
  have Q:k-1<l.length:=bd
  rw[s];simp[ar,k0,A,t,Q];refine u0 (UZ _ _) ?_;simp;refine⟨λh=>?_,λh=>⟨λj h1 h2=>?_,?_⟩⟩
  ·refine bL A ?_;simp[qL,A,Q];omega
  ·by_cases e:j=k
   ·subst e;simp[qL,A,Q];omega
   ·exact b j bd h2
  ·refine wk [] [] ?_;simp;omega
 ·have:∀j,j<l.length→qL l j=true:=λj d=>by
   by_cases e:j=0
   ·simp[qL,e]
   ·exact b j bd d
  rw[CJ,bQ this];simp;intro h;omega
end
end Go.Proofs.YtepeckjhdoicpaaGreatDoor
