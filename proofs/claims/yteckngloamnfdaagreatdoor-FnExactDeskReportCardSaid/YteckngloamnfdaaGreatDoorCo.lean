/- The laws of the audit's troubles: a carillon in pinned memory is marked beside the engine. No condition. -/
import Derived.Test.YteckngloamnfdaaGreatDoorBz
import Derived.Test.YteckngloamnfdaaGreatDoorBn
namespace Go.Proofs.YteckngloamnfdaaGreatDoor
open Go Go.Ab
set_option maxRecDepth 100000
set_option maxHeartbeats 1000000 in
theorem qtY (c:Carillon) (hs:c.small):HFn Tryz.prog 18 [.agg c.cells] [] (.tup [.sf 0 3, .int .i64 (auC c)]) [trO (auR c (allL c))]:=by
 have kO:=qkW c [] 0 [c.cells] 0 (by simp) hs
 simp only[Nat.zero_add]at kO
 cases hv:carOk c
 ·rw[hv]at kO
  simp only[Carillon.cells]at kO
  refine qaa hm Tryz.func18 (by kernel_rfl) rfl (by kernel_rfl) rfl (fun _ _ h=>h) ?_
  simp[Carillon.cells]
  refine CallZ.use0 kO rfl rfl ?_
  simp
  refine (qco (t:=0) 0 3 rfl rfl).trans (Wk.weak (ρ:=[1]) (φ:=[]) ?_)
  simp[auC,auR,hv,Trouble.rows,trO]
 ·have kA:=qtX c [] 0 [c.cells] 0 (by simp) (qfp hs hv)
  rw[hv]at kO
  simp only[Nat.zero_add]at kA
  simp only[Carillon.cells]at kO kA
  refine qaa hm Tryz.func18 (by kernel_rfl) rfl (by kernel_rfl) rfl (fun _ _ h=>h) ?_
  simp[Carillon.cells]
  refine CallZ.use0 kO rfl rfl ?_
  simp
  refine CallZ.use kA rfl (.inr ⟨Trouble.flat _,trivial⟩) rfl rfl ?_
  simp
  refine Wk.weak (ρ:=[1]) (φ:=[]) ?_
  simp[auC,auR,hv]
end Go.Proofs.YteckngloamnfdaaGreatDoor
