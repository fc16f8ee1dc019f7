/- Contracts: the delay of a sequence. Contracts: what Go's library says of order. -/
import Derived.Test.YteckngloamnfdaaGreatDoorCj
import Derived.Test.YteckngloamnfdaaGreatDoorTPair
namespace Go.Proofs.YteckngloamnfdaaGreatDoor
open Go Go.Ab
set_option maxRecDepth 100000
theorem qjW (a b:Int):HFn Tryz.prog 272 [.int .i64 a, .int .i64 b] [] (.int .i64 (max a b)) []:=by
 refine qaa hm Tryz.func272 (by kernel_rfl) rfl (by kernel_rfl) rfl qab ?_
 simp
 omega
end Go.Proofs.YteckngloamnfdaaGreatDoor
namespace Go.Proofs.YteckngloamnfdaaGreatDoor
open Go Go.Ab
set_option maxRecDepth 100000
theorem qjX (a:Int):HFn Tryz.prog 341 [.int .i64 a] [] (.bool false) []:=by
 refine qaa hm Tryz.func341 (by kernel_rfl) rfl (by kernel_rfl) rfl qab ?_
 simp
def cmpI (a b:Int):Int:=if a<b then -1 else if b<a then 1 else 0
theorem qjY (a b:Int):HFn Tryz.prog 296 [.int .i64 a, .int .i64 b] [] (.int .i64 (cmpI a b)) []:=by
 refine qaa hm Tryz.func296 (by kernel_rfl) rfl (by kernel_rfl) rfl qab ?_
 simp
 refine CallZ.use0 (qjX _) rfl rfl ?_
 simp
 refine CallZ.use0 (qjX _) rfl rfl ?_
 simp[cmpI]
 grind
def orL:List Int→Int
 | []=>0
 | x::r=>if x=0 then orL r else x
theorem qpv (l:List Int) (hl:l.length≤1048576):HFn Tryz.prog 295 [.sl 1 (qad l)] [] (.int .i64 (orL l)) []:=by
 refine qaa hm Tryz.func295 (by kernel_rfl) rfl (by kernel_rfl) rfl qab ?_
 simp
 refine qac hm l.length (fun i=>⟨[(3, .int .i64 0),(6, .sl 1 (qad l)),(7, .int .i64 l.length),(8, .int .i64 i)],[]⟩) (fun i=>orL l=orL (l.drop i)) (by kernel_rfl) ?_ (by simp) (fun i hi hI =>?_) (fun hI =>?_)
 ·exact Wk.weak (ρ:=[]) (φ:=[]) (by simp[qad])
 ·rw[List.drop_eq_getElem_cons hi,orL]at hI
  simp[qad,hi]
  refine⟨fun h=>by simp[hI,h],fun h=>⟨by simp[hI,h],?_⟩⟩
  refine Wk.weak (ρ:=[]) (φ:=[]) ?_
  simp
  exact w64 (by omega) (by omega)
 ·simp at hI
  simp[hI,orL]
end Go.Proofs.YteckngloamnfdaaGreatDoor
