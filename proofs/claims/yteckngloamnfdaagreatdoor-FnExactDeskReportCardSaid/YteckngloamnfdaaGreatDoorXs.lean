/- Contracts: lists of texts that the laws count and lay anew; sums of sizes. No condition. -/
import Derived.Test.YteckngloamnfdaaGreatDoorTPair
namespace Go.Proofs.YteckngloamnfdaaGreatDoor
open Go Go.Ab
set_option maxRecDepth 100000
theorem qaF (l:List (List UInt8)):(qae l).length=l.length:=by simp[qae]
theorem qdk (l:List (List UInt8)) {i:Nat} (h:i<(qae l).length):(qae l)[i]=[PV.str (l[i]'(by rw[qaF]at h; exact h))]:=by simp[qae]
theorem qnN {rows:List (List PV)} (h:∀r∈rows,fitsL [.str] r):∃l:List (List UInt8),rows=qae l∧∀x∈l,x.length≤9223372036854775807:=qbD fun r hr=>by
 have h:=h r hr
 obtain⟨_,_,rfl,h0,h⟩:=qah h
 obtain rfl:=qbH h
 obtain⟨v,rfl,w⟩:=qcb h0
 exact⟨v,rfl,w⟩
theorem qcq {α:Type} (f:α→Nat) {l:List α} {x:α} (h:x∈l):f x≤(l.map f).sum:=by
 induction l with
 | nil=>cases h
 | cons y r ih =>
  rcases List.mem_cons.1 h with rfl | h
  ·simp
  ·have:=ih h; simp; omega
def qc4 (l:List (List UInt8)):Nat:=l.length+(l.map List.length).sum
theorem qnO (l:List (List UInt8)) (left:Nat) (hl:left≤1048576) (hlen:l.length≤9223372036854775807) (hx:∀x∈l,x.length≤9223372036854775807):HFn Tryz.prog 180 [.sl 1 (qae l), .int .i64 left] [] (.int .i64 (szR (qc4 l) left)) []:=by
 refine qaa hm Tryz.func180 (by kernel_rfl) rfl (by kernel_rfl) rfl qab ?_
 simp[qaF]
 rw[w64 (n:=(left:Int)-l.length) (by omega) (by omega)]
 refine⟨fun h=>by rw[qam (by unfold qc4; omega)],fun h =>?_⟩
 refine qac hm l.length (fun i=>⟨[(0, .sl 1 (qae l)),(1, .int .i64 (left-l.length-sumT List.length l i)),(5, .int .i64 i)],[]⟩) (fun i=>l.length+sumT List.length l i≤left) (by kernel_rfl) ?_ (by rw[qaR]; omega) (fun i hi hI =>?_) (fun hI =>?_)
 ·exact Wk.weak (ρ:=[]) (φ:=[]) (by simp[qaR])
 ·have es:=qbF List.length hi
  have hle:=qbG List.length l (i+1)
  have hw:=hx _ (List.getElem_mem hi)
  simp[qaF,qdk,hi]
  rw[w64 (n:=(left:Int)-l.length-sumT List.length l i-l[i].length) (by omega) (by omega)]
  refine⟨fun h=>by rw[qam (by unfold qc4; omega)],fun h=>⟨by omega,Wk.weak (ρ:=[]) (φ:=[]) ?_⟩⟩
  simp
  rw[w64 (by omega) (by omega)]
  omega
 ·simp[qaF]
  rw[qbE]at hI ⊢
  rw[qal (by unfold qc4; omega)]
  unfold qc4
  omega
theorem qnP (l:List (List UInt8)) (hl:l.length≤1048576):HFn Tryz.prog 213 [.sl 1 (qae l)] [] (.sl 1 (qae l)) []:=by
 refine qaa hm Tryz.func213 (by kernel_rfl) rfl (by kernel_rfl) rfl (fun _ _ h=>h) ?_
 simp[qae]
 refine⟨by omega,by omega,?_⟩
 refine qac hm l.length (fun i=>⟨[(0, .sl 1 (qae l)),(3, .sf 0 1),(4, .int .i64 i)],[some (.arr 1 ((l.take i).map (fun s=>[PV.str s])++List.replicate (l.length-i) [.str []]))]⟩) (fun _=>True) (by kernel_rfl) ?_ trivial (fun i hi _ =>?_) (fun _ =>?_)
 ·exact Wk.weak (ρ:=[0]) (φ:=[]) (by simp[qae])
 ·obtain⟨X,hX,hXl,hXg⟩:=qbk (fun s=>[PV.str s]) l [.str []] hi
  rw[hX]
  have ea:=List.getElem?_eq_getElem hi
  simp[qae,hi,hXl,hXg]
  refine Wk.weak (ρ:=[0]) (φ:=[]) ?_
  simp
  rw[w64 (by omega) (by omega),←hX]
  exact⟨rfl,qbC (fun s=>[PV.str s]) l [.str []] hi⟩
 ·simp[qae]
  exact Wk.weak (ρ:=[]) (φ:=[0]) (by simp)
end Go.Proofs.YteckngloamnfdaaGreatDoor
