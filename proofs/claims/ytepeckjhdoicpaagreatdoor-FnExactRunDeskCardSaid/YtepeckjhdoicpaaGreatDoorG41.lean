import Derived.Test.YtepeckjhdoicpaaGreatDoorG40
set_option linter.all false
set_option maxRecDepth 100000
namespace Go.Proofs.YtepeckjhdoicpaaGreatDoor
open Go Go.Ab
section
variable[dw:Go.Ab.bI][Go.Ab.dj]
theorem UD(t:db)(ht:eh t=true)(ns:List Int)(a:vI ns)(by_:Int)(hb:-24≤by_∧by_≤24)(w o i0:Nat)(rows:List (List PV))(r:List PV)(b:rows[i0]?=some r)(h0:r[o]?=some (.str t.name))(h1:r[o+1]?=some (.sl 3 (aO.rows t.aU)))(hw:o+2≤w):
  H0 90 [.pe w rows i0 o,.sl 1 (ar ns),.int .i64 by_] (.int .i64 (uQ t ns by_)):=by
 have k:=Mk t ht ns a by_ hb w o i0 rows r b h0 h1 hw;have m:=Hv t ht ns a by_;have w1:IntKind.i64.wrap (10*yf t ns by_)=10*yf t ns by_:=bX bd bd;have c:IntKind.i64.wrap (DV t ns by_+10*yf t ns by_)=DV t ns by_+10*yf t ns by_:=bX bd bd;refine iF hm Tryz.func90 ?_;simp[db.cells]at k⊢;refine u0 k ?_;simp[w1,c,uQ]
theorem UE(t:db)(ns:List Int):lH t ns 1=(0,uQ t ns 0):=by
 have:gH 0=0:=bt
 simp[lH,this]
theorem DZ(t:db)(ht:eh t=true)(ns:List Int)(o:vI ns):H0 29 [.agg t.cells,.sl 1 (ar ns)] (.dn [.int .i64 (lH t ns 49).1,.int .i64 (lH t ns 49).2,.int .i64 0]):=by
 have k0:=UA t ht ns o;have A:=λb hb=>UD t ht ns o b hb 2 0 0 [t.cells] t.cells rfl rfl rfl bd;have eL:=UE t ns;refine iG hm Tryz.func29 ?_;simp[db.cells]at k0 A⊢;refine u0 k0 ?_;simp;refine u0 (A 0 bd bd) ?_;simp;refine lu hm 48 (λi=>⟨[(1,.sl 1 (ar ns)),(2,.pb 0 0),(8,.int .i64 (lH t ns (i+1)).1),(9,.int .i64 (lH t ns (i+1)).2),(10,.int .i64 (i+1))],[some (.box [.str t.name,.sl 3 (aO.rows t.aU)])]⟩) ?_ (λi hi=>?_) ?_
 ·exact wk [0] [] (by simp[eL])
 ·have w1:IntKind.i64.wrap ((i:Int)+1+1)=(i:Int)+1+1:=bX bd bd;have hc:(i:Int)+1≤48:=bd
  have G:=QY (i+1) bd;rw[Int.natCast_add,Int.natCast_one]at G;have m:=Bj (k:=i+1) bd;have hs:lH t ns (i+1+1)=if uQ t ns (gH (i+1))<(lH t ns (i+1)).2 then(gH (i+1),uQ t ns (gH (i+1))) else lH t ns (i+1):=rfl;rw[hs];generalize lH t ns (i+1)=B;simp[hc];refine u0 G ?_;simp;refine u0 (A _ m.1 m.2) ?_;simp;refine⟨λh=>?_,λh=>?_⟩
  ·refine u0 G ?_;simp;exact wk [0] [] (by simp[w1,h])
  ·exact wk [0] [] (by simp[w1,(bd:¬uQ t ns (gH (i+1))<B.2)])
 ·simp;exact wk [] [] bn
end
end Go.Proofs.YtepeckjhdoicpaaGreatDoor
