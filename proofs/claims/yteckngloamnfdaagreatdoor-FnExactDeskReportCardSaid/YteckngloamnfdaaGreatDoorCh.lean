/- Contracts: lists of orders. -/
import Derived.Test.YteckngloamnfdaaGreatDoorCe
namespace Go.Proofs.YteckngloamnfdaaGreatDoor
open Go Go.Ab
set_option maxRecDepth 100000
def qdl (l:List Order) (i:Nat):Bool:=match l[i]? with
 | some x=>qd8 x&&(decide (i=0)||match l[i-1]? with
  | some y=>Op.bytesLess y.id x.id
  | none=>true)
 | none=>true
def qcH (l:List Order):Bool:=(List.range l.length).all (qdl l)&&decide ((l.length:Int)≤12)
theorem qps (l:List Order) (hl:l.length≤1048576):HFn Tryz.prog 71 [.sl 5 (Order.rows l)] [] (.bool (qcH l)) []:=by
 refine qaa hm Tryz.func71 (by kernel_rfl) rfl (by kernel_rfl) rfl qab ?_
 simp[Order.rows]
 refine qac hm l.length (fun i=>⟨[(0, .sl 5 (Order.rows l)),(5, .sl 5 (Order.rows l)),(6, .int .i64 l.length),(7, .int .i64 i)],[]⟩) (fun i=>∀j,j<i→qdl l j=true) (by kernel_rfl) ?_ (by simp) (fun i hi hI =>?_) (fun hI =>?_)
 ·exact Wk.weak (ρ:=[]) (φ:=[]) (by simp[Order.rows])
 ·have e1:IntKind.i64.wrap ((i:Int)-1)=i-1:=w64 (by omega) (by omega)
  obtain⟨y,hy⟩:∃y,l[i-1]?=some y:=⟨_,List.getElem?_eq_getElem (by omega)⟩
  have hx:=List.getElem?_eq_getElem hi
  simp[Order.rows,Order.cells,hi]
  refine CallZ.use0 (qpq l[i]) rfl rfl ?_
  simp[Order.cells,hy,e1]
  have ho:qdl l i=(qd8 l[i]&&(decide (i=0)||Op.bytesLess y.id l[i].id)):=by simp[qdl,hx,hy]
  have hs:=qc2 y.id l[i].id
  iterate 6 refine⟨by grind,?_⟩
  refine⟨fun h =>?_,fun h1 h2=>⟨qaN hI ?_,?_⟩⟩
  ·have:qdl l i=false:=by
    rw[ho]
    rcases h with h | ⟨h,h'⟩
    ·simp[h]
    ·have h3:(Op.bytesLess l[i].id y.id||decide (l[i].id=y.id))=true:=by simpa using h'
     rw[hs]at h3
     have h4:¬i=0:=by omega
     simp at h3
     simp[h3,h4]
   simp only[qcH,qaG hi this,Bool.false_and]
  ·rw[ho]
   rw[h1,Bool.true_and]
   by_cases h4:i=0
   ·simp[h4]
   ·obtain⟨h5,h6⟩:=h2 (by omega)
    simp[h5,h6]at hs
    simp[hs]
  ·refine Wk.weak (ρ:=[]) (φ:=[]) ?_
   simp
   exact w64 (by omega) (by omega)
 ·simp[Order.rows]
  simp only[qcH,qaM hI,Bool.true_and]
theorem qpt (l:List Order) (hl:l.length≤1048576):HFn Tryz.prog 119 [.sl 5 (Order.rows l)] [] (.bool (qcH l)) []:=by
 refine qaa hm Tryz.func119 (by kernel_rfl) rfl (by kernel_rfl) rfl qab ?_
 simp[Order.rows]
 refine qac hm l.length (fun i=>⟨[(0, .sl 5 (Order.rows l)),(3, .int .i64 i)],[]⟩) (fun i=>∀j,j<i→qdl l j=true) (by kernel_rfl) ?_ (by simp) (fun i hi hI =>?_) (fun hI =>?_)
 ·exact Wk.weak (ρ:=[]) (φ:=[]) (by simp[Order.rows])
 ·have e1:IntKind.i64.wrap ((i:Int)-1)=i-1:=w64 (by omega) (by omega)
  obtain⟨y,hy⟩:∃y,l[i-1]?=some y:=⟨_,List.getElem?_eq_getElem (by omega)⟩
  have hx:=List.getElem?_eq_getElem hi
  simp[Order.rows,hi]
  refine CallZ.use0 (qpr l[i] _ _ (by simp[hi])) rfl rfl ?_
  simp[Order.cells,hi,hy,e1]
  have ho:qdl l i=(qd8 l[i]&&(decide (i=0)||Op.bytesLess y.id l[i].id)):=by simp[qdl,hx,hy]
  iterate 6 refine⟨by grind,?_⟩
  refine⟨fun h =>?_,fun h1 h2=>⟨qaN hI ?_,?_⟩⟩
  ·have:qdl l i=false:=by
    rw[ho]
    rcases h with h | ⟨h,h'⟩
    ·simp[h]
    ·have h4:¬i=0:=by omega
     simp[h',h4]
   simp only[qcH,qaG hi this,Bool.false_and]
  ·rw[ho,h1,Bool.true_and]
   by_cases h4:i=0
   ·simp[h4]
   ·simp[h2 (by omega)]
  ·refine Wk.weak (ρ:=[]) (φ:=[]) ?_
   simp
   exact w64 (by omega) (by omega)
 ·simp[Order.rows]
  simp only[qcH,qaM hI,Bool.true_and]
theorem qpu (l:List Order) (hl:l.length≤1048576):HFn Tryz.prog 55 [.sl 5 (Order.rows l)] [] (.bool (qcH l)) []:=by
 refine qaa hm Tryz.func55 (by kernel_rfl) rfl (by kernel_rfl) rfl qab ?_
 simp
 refine CallZ.use0 (qpt l hl) rfl rfl ?_
 simp
end Go.Proofs.YteckngloamnfdaaGreatDoor
