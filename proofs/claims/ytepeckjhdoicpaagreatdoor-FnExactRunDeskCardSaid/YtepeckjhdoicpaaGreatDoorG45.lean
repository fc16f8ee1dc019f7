import Derived.Test.YtepeckjhdoicpaaGreatDoorG44
set_option linter.all false
set_option maxRecDepth 100000
set_option maxHeartbeats 4000000
namespace Go.Proofs.YtepeckjhdoicpaaGreatDoor
open Go Go.Ab
section
variable[dw:Go.Ab.bI][Go.Ab.dj]
theorem IS(t:db)(per rest:Int)(hl:t.aU.length≤1048576):H0 176 [.agg t.cells,.int .i64 per,.int .i64 rest] (.dn [.agg (j4 t per rest).cells,.int .i64 (fT t per rest)]):=
 (J3 t per rest hl).less (wk [] [0,1] (by simp[eD.cells]))
theorem M1(d:aN)(f:eB d):nh Tryz.prog 182 [.pb 0 0] [some (.box d.cells)] [0] (.sl 1 (au (M3 d))) [some (.box d.cells)]:=by
 have l:=f.parts;have w:=yv d.ab f.small.BH;have hf:=Hk l;have a:=(Mw l).2.2;simp only[WJ,auC,f.BH,gk,aF.cells]at w;unfold M3;generalize Ca d.ab=T at w hf a⊢;have b:∀i (h:i<T.length),T[i].Z0.length+T[i].Ma.length≤1048576:=λi h=>by have:=(hf _ (ai h)).2.2;omega
 refine jb [] [0] hm Tryz.func182 bl rfl bl rfl (λ_ _ h=>h) cf ?_;simp[aN.cells];refine u2 w (aJ.flat _) ?_;simp[aJ.aj];by_cases h0:T=[]
 ·subst h0;simp;exact wk [0] [2] (by simp[au,TF,aN.cells])
 simp[h0];refine luL hm [] T.length (λi=>⟨[(0,.pb 0 0),(5,.sf 2 1),(20,.sf 1 3),(21,.int .i64 T.length),(22,.int .i64 i),(33,.own 0)],[some (.box d.cells),some (.arr 3 (aJ.rows T)),some (.arr 1 (au ((T.take i).map BQ)))]⟩) ?_ (λi hi=>?_) ?_
 ·refine(cg (t:=5) (z:=1) rfl).trans (wk [0,1,2] [] ?_);simp[aN.cells,au]
 ·have A:=BD T[i].kind T[i].Z0 T[i].Ma (b i hi);have w1:=wS i;have N:=aQ (List.take i (T.map BQ));rw[aw,aT]at N;simp[hi,aJ.aj,aJ.rows,aJ.cells,aN.cells];refine u0 A ?_;simp;refine⟨b4,bd,bd,wk [0,1,2] [] ?_⟩;have e:(T.map BQ).take (i+1)=(T.map BQ).take i++[BQ T[i]]:=e8
  simp[w1,au,BQ,e]
 ·rw[aI];simp[aN.cells];exact wk [0] [2] cf
end
end Go.Proofs.YtepeckjhdoicpaaGreatDoor
