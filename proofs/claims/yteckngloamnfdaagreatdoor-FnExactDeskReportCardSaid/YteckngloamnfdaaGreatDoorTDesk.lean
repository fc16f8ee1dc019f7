/- The type Order as plain data, and what the functions of package laws do with it. No condition. The type Record as plain data, and what the functions of package laws do with it. No condition. The type Desk as plain data, and what the functions of package laws do with it. No condition. -/
import Derived.Test.YteckngloamnfdaaGreatDoorCd
import Derived.Test.YteckngloamnfdaaGreatDoorKe
import Derived.Test.YteckngloamnfdaaGreatDoorXs
import Derived.Test.YteckngloamnfdaaGreatDoorTNest
namespace Go.Proofs.YteckngloamnfdaaGreatDoor
open Go Go.Ab
set_option maxRecDepth 100000
structure Order where
 id:List UInt8
 mass:Int
 note:Int
 days:Int
 due:Int
theorem Order.eq_iff {a b:Order}:a=b↔a.id=b.id∧a.mass=b.mass∧a.note=b.note∧a.days=b.days∧a.due=b.due:=by cases a; cases b; simp
instance:DecidableEq Order:=fun _ _=>decidable_of_iff _ Order.eq_iff.symm
def Order.cells (x:Order):List PV:=[.str x.id, .int .i64 x.mass, .int .i64 x.note, .int .i64 x.days, .int .i64 x.due]
def Order.rows (l:List Order):List (List PV):=l.map Order.cells
def Order.sz (x:Order):Nat:=x.id.length
def Order.szS (l:List Order):Nat:=l.length+(l.map Order.sz).sum
def Order.wf (x:Order):Prop:=x.id.length≤9223372036854775807 ∧ -9223372036854775808≤x.mass∧x.mass≤9223372036854775807 ∧ -9223372036854775808≤x.note∧x.note≤9223372036854775807 ∧ -9223372036854775808≤x.days∧x.days≤9223372036854775807 ∧ -9223372036854775808≤x.due∧x.due≤9223372036854775807
theorem Order.fits {cs:List PV} (h:fitsL [.str, .int .i64, .int .i64, .int .i64, .int .i64] cs):∃x:Order,cs=x.cells∧x.wf:=by
 obtain⟨_,_,rfl,h0,h⟩:=qah h
 obtain⟨_,_,rfl,h1,h⟩:=qah h
 obtain⟨_,_,rfl,h2,h⟩:=qah h
 obtain⟨_,_,rfl,h3,h⟩:=qah h
 obtain⟨_,_,rfl,h4,h⟩:=qah h
 obtain rfl:=qbH h
 obtain⟨v0,rfl,w0⟩:=qcb h0
 obtain⟨v1,rfl,w1⟩:=qaq h1
 obtain⟨v2,rfl,w2⟩:=qaq h2
 obtain⟨v3,rfl,w3⟩:=qaq h3
 obtain⟨v4,rfl,w4⟩:=qaq h4
 exact⟨⟨v0,v1,v2,v3,v4⟩,rfl,w0,(lit64 w1).1,(lit64 w1).2,(lit64 w2).1,(lit64 w2).2,(lit64 w3).1,(lit64 w3).2,(lit64 w4).1,(lit64 w4).2⟩
theorem Order.fitsS {rows:List (List PV)} (h:∀r∈rows,fitsL [.str, .int .i64, .int .i64, .int .i64, .int .i64] r):∃l:List Order,rows=Order.rows l∧∀x∈l,x.wf:=qbD fun r hr=>Order.fits (h r hr)
theorem Order.flat (l:List Order):qbp (Order.rows l):=fun r hr c hc=>by
 obtain⟨x,_,rfl⟩:=List.mem_map.1 hr
 simp only[Order.cells,List.mem_cons,List.not_mem_nil,or_false]at hc
 rcases hc with rfl | rfl | rfl | rfl | rfl<;>rfl
theorem Order.rows_len (l:List Order):(Order.rows l).length=l.length:=by simp[Order.rows]
theorem qo9 (x:Order) (left:Nat) (hl:left≤1048576) (hx:x.wf):HFn Tryz.prog 52 [.agg x.cells, .int .i64 left] [] (.int .i64 (szR x.sz left)) []:=by
 unfold Order.wf at hx
 refine qaa hm Tryz.func52 (by kernel_rfl) rfl (by kernel_rfl) rfl qab ?_
 simp[Order.cells,Order.sz]
 rw[w64 (n:=(left:Int)-x.id.length) (by omega) (by omega)]
 refine⟨fun h=>by rw[qam (by omega)],fun h=>by rw[qal (by omega)]⟩
theorem qpa (l:List Order) (left:Nat) (hl:left≤1048576) (hlen:l.length≤9223372036854775807) (hx:∀x∈l,x.wf):HFn Tryz.prog 14 [.sl 5 (Order.rows l), .int .i64 left] [] (.int .i64 (szR (Order.szS l) left)) []:=by
 refine qaa hm Tryz.func14 (by kernel_rfl) rfl (by kernel_rfl) rfl qab ?_
 simp[Order.rows]
 rw[w64 (n:=(left:Int)-l.length) (by omega) (by omega)]
 refine⟨fun h=>by rw[qam (by unfold Order.szS; omega)],fun h =>?_⟩
 refine qac hm l.length (fun i=>⟨[(0, .sl 5 (Order.rows l)),(1, .int .i64 (left-l.length-sumT Order.sz l i)),(5, .int .i64 i)],[]⟩) (fun i=>l.length+sumT Order.sz l i≤left) (by kernel_rfl) ?_ (by rw[qaR]; omega) (fun i hi hI =>?_) (fun hI =>?_)
 ·exact Wk.weak (ρ:=[]) (φ:=[]) (by simp[Order.rows,qaR])
 ·have ea:=List.getElem?_eq_getElem hi
  have es:=qbF Order.sz hi
  have hle:=qbG Order.sz l (i+1)
  have e1:(left:Int)-l.length-sumT Order.sz l i=((left-l.length-sumT Order.sz l i:Nat):Int):=by omega
  rw[e1]
  simp[Order.rows,hi]
  refine CallZ.use0 (qo9 l[i] _ (by omega) (hx _ (List.getElem_mem hi))) rfl rfl ?_
  simp
  refine⟨fun h =>?_,fun h =>?_⟩
  ·have:=qaO h
   rw[qam (by unfold Order.szS; omega)]
  ·have hh:=qaI h
   refine⟨by omega,?_⟩
   refine Wk.weak (ρ:=[]) (φ:=[]) ?_
   simp
   rw[w64 (by omega) (by omega),qal hh]
   omega
 ·simp[Order.rows]
  rw[qbE]at hI ⊢
  rw[qal (by unfold Order.szS; omega)]
  unfold Order.szS
  omega
theorem qpb (x:Order):HFn Tryz.prog 68 [.agg x.cells] [] (.agg x.cells) []:=by
 refine qaa hm Tryz.func68 (by kernel_rfl) rfl (by kernel_rfl) rfl qab ?_
 simp[Order.cells]
theorem qjS (l:List Order) (hl:l.length≤1048576):HFn Tryz.prog 21 [.sl 5 (Order.rows l)] [] (.sf 0 5) [some (.arr 5 (Order.rows l))]:=by
 refine qaa hm Tryz.func21 (by kernel_rfl) rfl (by kernel_rfl) rfl (qcY (ρ:=[0]) (φ:=[])) ?_
 simp[Order.rows]
 refine⟨by omega,by omega,?_⟩
 refine qac hm l.length (fun i=>⟨[(0, .sl 5 (Order.rows l)),(3, .sf 0 5),(4, .int .i64 i)],[some (.arr 5 ((l.take i).map Order.cells++List.replicate (l.length-i) [.str [], .int .i64 0, .int .i64 0, .int .i64 0, .int .i64 0]))]⟩) (fun _=>True) (by kernel_rfl) ?_ trivial (fun i hi _ =>?_) (fun _ =>?_)
 ·exact Wk.weak (ρ:=[0]) (φ:=[]) (by simp[Order.rows])
 ·obtain⟨X,hX,hXl,hXg⟩:=qbk Order.cells l [.str [], .int .i64 0, .int .i64 0, .int .i64 0, .int .i64 0] hi
  rw[hX]
  have ea:=List.getElem?_eq_getElem hi
  simp[Order.rows,hi]
  refine CallZ.use0 (qpb _) rfl rfl ?_
  simp[Order.cells,hi,hXl,hXg]
  refine Wk.weak (ρ:=[0]) (φ:=[]) ?_
  simp
  rw[w64 (by omega) (by omega),←hX]
  exact⟨rfl,qbC Order.cells l [.str [], .int .i64 0, .int .i64 0, .int .i64 0, .int .i64 0] hi⟩
 ·simp[Order.rows]
theorem qpc (l:List Order) (hl:l.length≤1048576):HFn Tryz.prog 21 [.sl 5 (Order.rows l)] [] (.sl 5 (Order.rows l)) []:=(qjS l hl).less (Wk.weak (ρ:=[]) (φ:=[0]) (by simp))
theorem qpd (a b:Order):HFn Tryz.prog 89 [.agg a.cells, .agg b.cells] [] (.bool (decide (a=b))) []:=by
 refine qaa hm Tryz.func89 (by kernel_rfl) rfl (by kernel_rfl) rfl qab ?_
 simp[Order.cells,Order.eq_iff]
 grind
theorem qpe (a b:List Order) (ha:a.length≤9223372036854775807):HFn Tryz.prog 37 [.sl 5 (Order.rows a), .sl 5 (Order.rows b)] [] (.bool (decide (a=b))) []:=by
 refine qaa hm Tryz.func37 (by kernel_rfl) rfl (by kernel_rfl) rfl qab ?_
 simp[Order.rows]
 refine⟨fun h =>?_,fun h =>?_⟩
 ·exact fun e=>h (by rw[e])
 ·refine qac hm a.length (fun i=>⟨[(0, .sl 5 (Order.rows a)),(1, .sl 5 (Order.rows b)),(5, .int .i64 i)],[]⟩) (fun i=>a.take i=b.take i) (by kernel_rfl) ?_ (by simp) (fun i hi hI =>?_) (fun hI =>?_)
  ·exact Wk.weak (ρ:=[]) (φ:=[]) (by simp[Order.rows])
  ·have hl:a.length=b.length:=by omega
   have ea:=List.getElem?_eq_getElem hi
   have hi':i<b.length:=by omega
   have eb:=List.getElem?_eq_getElem hi'
   simp[Order.rows,hi,hi']
   refine CallZ.use0 (qpd a[i] b[i]) rfl rfl ?_
   simp
   refine⟨fun h e=>h (by simp[e]),fun h=>⟨qc0 hI ea eb h,?_⟩⟩
   refine Wk.weak (ρ:=[]) (φ:=[]) ?_
   simp
   exact w64 (by omega) (by omega)
  ·simp[Order.rows]
   exact qc1 hI (by omega)
def Order.mark (k:Int):Order:=⟨markT k,k+1,k+1+1,k+1+1+1,k+1+1+1+1⟩
def Order.marks (k:Int) (n:Nat):List Order:=(List.range n).map fun i:Nat=>Order.mark (k+5*i)
theorem qpf (l:List Order) (k:Int) (hk:0≤k) (ha:5*l.length+k≤1000000000):MFn Tryz.prog 40 [.sf 0 5, .int .i64 k] [some (.arr 5 (Order.rows l))] [0] (.int .i64 (k+5*l.length)) [some (.arr 5 (Order.rows (Order.marks k l.length)))]:=by
 refine qcn [0] hm Tryz.func40 (by kernel_rfl) rfl (by kernel_rfl) rfl (qcX (ρ:=[0]) (φ:=[])) (by simp[Order.rows,Order.marks]) ?_
 simp
 refine qac hm l.length (fun i=>⟨[(0, .sf 0 5),(1, .int .i64 (k+5*i)),(5, .int .i64 i),(49, .own 0)],[some (.arr 5 (Order.rows (Order.marks k i++l.drop i)))]⟩) (fun _=>True) (by kernel_rfl) ?_ trivial (fun i hi _ =>?_) (fun _ =>?_)
 ·refine Wk.weak (ρ:=[0]) (φ:=[]) ?_
  simp[Order.rows,Order.marks]
 ·obtain⟨X,hX,hl,hg⟩:=qa3 (fun j:Nat=>Order.mark (k+5*j)) l hi
  rw[show Order.marks k i++l.drop i=X from hX]
  simp[Order.rows,hl,hi]
  refine CallZ.use0 (qcp _ (by omega)) rfl rfl ?_
  simp[Order.cells,hl,hg,hi]
  rw[w64 (n:=k+5*(i:Int)+1) (by omega) (by omega)]
  rw[w64 (n:=k+5*(i:Int)+1+1) (by omega) (by omega)]
  rw[w64 (n:=k+5*(i:Int)+1+1+1) (by omega) (by omega)]
  rw[w64 (n:=k+5*(i:Int)+1+1+1+1) (by omega) (by omega)]
  rw[w64 (n:=k+5*(i:Int)+1+1+1+1+1) (by omega) (by omega)]
  refine Wk.weak (ρ:=[0]) (φ:=[]) ?_
  simp
  rw[w64 (by omega) (by omega),←hX]
  refine⟨by omega,?_⟩
  exact qc3 Order.cells (fun j:Nat=>Order.mark (k+5*j)) l hi
 ·simp[Order.rows,Order.marks]
end Go.Proofs.YteckngloamnfdaaGreatDoor
namespace Go.Proofs.YteckngloamnfdaaGreatDoor
open Go Go.Ab
set_option maxRecDepth 100000
structure Record where
 kind:Int
 key:List UInt8
 text:List UInt8
theorem Record.eq_iff {a b:Record}:a=b↔a.kind=b.kind∧a.key=b.key∧a.text=b.text:=by cases a; cases b; simp
instance:DecidableEq Record:=fun _ _=>decidable_of_iff _ Record.eq_iff.symm
def Record.cells (x:Record):List PV:=[.int .i64 x.kind, .str x.key, .str x.text]
def Record.rows (l:List Record):List (List PV):=l.map Record.cells
def Record.sz (x:Record):Nat:=x.key.length+x.text.length
def Record.szS (l:List Record):Nat:=l.length+(l.map Record.sz).sum
def Record.wf (x:Record):Prop := -9223372036854775808≤x.kind∧x.kind≤9223372036854775807∧x.key.length≤9223372036854775807∧x.text.length≤9223372036854775807
theorem Record.fits {cs:List PV} (h:fitsL [.int .i64, .str, .str] cs):∃x:Record,cs=x.cells∧x.wf:=by
 obtain⟨_,_,rfl,h0,h⟩:=qah h
 obtain⟨_,_,rfl,h1,h⟩:=qah h
 obtain⟨_,_,rfl,h2,h⟩:=qah h
 obtain rfl:=qbH h
 obtain⟨v0,rfl,w0⟩:=qaq h0
 obtain⟨v1,rfl,w1⟩:=qcb h1
 obtain⟨v2,rfl,w2⟩:=qcb h2
 exact⟨⟨v0,v1,v2⟩,rfl,(lit64 w0).1,(lit64 w0).2,w1,w2⟩
theorem Record.fitsS {rows:List (List PV)} (h:∀r∈rows,fitsL [.int .i64, .str, .str] r):∃l:List Record,rows=Record.rows l∧∀x∈l,x.wf:=qbD fun r hr=>Record.fits (h r hr)
theorem Record.flat (l:List Record):qbp (Record.rows l):=fun r hr c hc=>by
 obtain⟨x,_,rfl⟩:=List.mem_map.1 hr
 simp only[Record.cells,List.mem_cons,List.not_mem_nil,or_false]at hc
 rcases hc with rfl | rfl | rfl<;>rfl
theorem Record.rows_len (l:List Record):(Record.rows l).length=l.length:=by simp[Record.rows]
theorem qpg (x:Record) (left:Nat) (hl:left≤1048576) (hx:x.wf):HFn Tryz.prog 53 [.agg x.cells, .int .i64 left] [] (.int .i64 (szR x.sz left)) []:=by
 unfold Record.wf at hx
 refine qaa hm Tryz.func53 (by kernel_rfl) rfl (by kernel_rfl) rfl qab ?_
 simp[Record.cells,Record.sz]
 rw[w64 (n:=(left:Int)-x.key.length) (by omega) (by omega)]
 refine⟨fun h=>by rw[qam (by omega)],fun h =>?_⟩
 rw[w64 (n:=(left:Int)-x.key.length-x.text.length) (by omega) (by omega)]
 refine⟨fun h=>by rw[qam (by omega)],fun h=>by rw[qal (by omega)]; omega⟩
theorem qph (l:List Record) (left:Nat) (hl:left≤1048576) (hlen:l.length≤9223372036854775807) (hx:∀x∈l,x.wf):HFn Tryz.prog 15 [.sl 3 (Record.rows l), .int .i64 left] [] (.int .i64 (szR (Record.szS l) left)) []:=by
 refine qaa hm Tryz.func15 (by kernel_rfl) rfl (by kernel_rfl) rfl qab ?_
 simp[Record.rows]
 rw[w64 (n:=(left:Int)-l.length) (by omega) (by omega)]
 refine⟨fun h=>by rw[qam (by unfold Record.szS; omega)],fun h =>?_⟩
 refine qac hm l.length (fun i=>⟨[(0, .sl 3 (Record.rows l)),(1, .int .i64 (left-l.length-sumT Record.sz l i)),(5, .int .i64 i)],[]⟩) (fun i=>l.length+sumT Record.sz l i≤left) (by kernel_rfl) ?_ (by rw[qaR]; omega) (fun i hi hI =>?_) (fun hI =>?_)
 ·exact Wk.weak (ρ:=[]) (φ:=[]) (by simp[Record.rows,qaR])
 ·have ea:=List.getElem?_eq_getElem hi
  have es:=qbF Record.sz hi
  have hle:=qbG Record.sz l (i+1)
  have e1:(left:Int)-l.length-sumT Record.sz l i=((left-l.length-sumT Record.sz l i:Nat):Int):=by omega
  rw[e1]
  simp[Record.rows,hi]
  refine CallZ.use0 (qpg l[i] _ (by omega) (hx _ (List.getElem_mem hi))) rfl rfl ?_
  simp
  refine⟨fun h =>?_,fun h =>?_⟩
  ·have:=qaO h
   rw[qam (by unfold Record.szS; omega)]
  ·have hh:=qaI h
   refine⟨by omega,?_⟩
   refine Wk.weak (ρ:=[]) (φ:=[]) ?_
   simp
   rw[w64 (by omega) (by omega),qal hh]
   omega
 ·simp[Record.rows]
  rw[qbE]at hI ⊢
  rw[qal (by unfold Record.szS; omega)]
  unfold Record.szS
  omega
theorem qpi (x:Record):HFn Tryz.prog 69 [.agg x.cells] [] (.agg x.cells) []:=by
 refine qaa hm Tryz.func69 (by kernel_rfl) rfl (by kernel_rfl) rfl qab ?_
 simp[Record.cells]
theorem qjT (l:List Record) (hl:l.length≤1048576):HFn Tryz.prog 22 [.sl 3 (Record.rows l)] [] (.sf 0 3) [some (.arr 3 (Record.rows l))]:=by
 refine qaa hm Tryz.func22 (by kernel_rfl) rfl (by kernel_rfl) rfl (qcY (ρ:=[0]) (φ:=[])) ?_
 simp[Record.rows]
 refine⟨by omega,by omega,?_⟩
 refine qac hm l.length (fun i=>⟨[(0, .sl 3 (Record.rows l)),(3, .sf 0 3),(4, .int .i64 i)],[some (.arr 3 ((l.take i).map Record.cells++List.replicate (l.length-i) [.int .i64 0, .str [], .str []]))]⟩) (fun _=>True) (by kernel_rfl) ?_ trivial (fun i hi _ =>?_) (fun _ =>?_)
 ·exact Wk.weak (ρ:=[0]) (φ:=[]) (by simp[Record.rows])
 ·obtain⟨X,hX,hXl,hXg⟩:=qbk Record.cells l [.int .i64 0, .str [], .str []] hi
  rw[hX]
  have ea:=List.getElem?_eq_getElem hi
  simp[Record.rows,hi]
  refine CallZ.use0 (qpi _) rfl rfl ?_
  simp[Record.cells,hi,hXl,hXg]
  refine Wk.weak (ρ:=[0]) (φ:=[]) ?_
  simp
  rw[w64 (by omega) (by omega),←hX]
  exact⟨rfl,qbC Record.cells l [.int .i64 0, .str [], .str []] hi⟩
 ·simp[Record.rows]
theorem qpj (l:List Record) (hl:l.length≤1048576):HFn Tryz.prog 22 [.sl 3 (Record.rows l)] [] (.sl 3 (Record.rows l)) []:=(qjT l hl).less (Wk.weak (ρ:=[]) (φ:=[0]) (by simp))
theorem qpk (a b:Record):HFn Tryz.prog 90 [.agg a.cells, .agg b.cells] [] (.bool (decide (a=b))) []:=by
 refine qaa hm Tryz.func90 (by kernel_rfl) rfl (by kernel_rfl) rfl qab ?_
 simp[Record.cells,Record.eq_iff]
 grind
theorem qpl (a b:List Record) (ha:a.length≤9223372036854775807):HFn Tryz.prog 38 [.sl 3 (Record.rows a), .sl 3 (Record.rows b)] [] (.bool (decide (a=b))) []:=by
 refine qaa hm Tryz.func38 (by kernel_rfl) rfl (by kernel_rfl) rfl qab ?_
 simp[Record.rows]
 refine⟨fun h =>?_,fun h =>?_⟩
 ·exact fun e=>h (by rw[e])
 ·refine qac hm a.length (fun i=>⟨[(0, .sl 3 (Record.rows a)),(1, .sl 3 (Record.rows b)),(5, .int .i64 i)],[]⟩) (fun i=>a.take i=b.take i) (by kernel_rfl) ?_ (by simp) (fun i hi hI =>?_) (fun hI =>?_)
  ·exact Wk.weak (ρ:=[]) (φ:=[]) (by simp[Record.rows])
  ·have hl:a.length=b.length:=by omega
   have ea:=List.getElem?_eq_getElem hi
   have hi':i<b.length:=by omega
   have eb:=List.getElem?_eq_getElem hi'
   simp[Record.rows,hi,hi']
   refine CallZ.use0 (qpk a[i] b[i]) rfl rfl ?_
   simp
   refine⟨fun h e=>h (by simp[e]),fun h=>⟨qc0 hI ea eb h,?_⟩⟩
   refine Wk.weak (ρ:=[]) (φ:=[]) ?_
   simp
   exact w64 (by omega) (by omega)
  ·simp[Record.rows]
   exact qc1 hI (by omega)
def Record.mark (k:Int):Record:=⟨k,markT (k+1),markT (k+1+1)⟩
def Record.marks (k:Int) (n:Nat):List Record:=(List.range n).map fun i:Nat=>Record.mark (k+3*i)
theorem qpm (l:List Record) (k:Int) (hk:0≤k) (ha:3*l.length+k≤1000000000):MFn Tryz.prog 41 [.sf 0 3, .int .i64 k] [some (.arr 3 (Record.rows l))] [0] (.int .i64 (k+3*l.length)) [some (.arr 3 (Record.rows (Record.marks k l.length)))]:=by
 refine qcn [0] hm Tryz.func41 (by kernel_rfl) rfl (by kernel_rfl) rfl (qcX (ρ:=[0]) (φ:=[])) (by simp[Record.rows,Record.marks]) ?_
 simp
 refine qac hm l.length (fun i=>⟨[(0, .sf 0 3),(1, .int .i64 (k+3*i)),(5, .int .i64 i),(36, .own 0)],[some (.arr 3 (Record.rows (Record.marks k i++l.drop i)))]⟩) (fun _=>True) (by kernel_rfl) ?_ trivial (fun i hi _ =>?_) (fun _ =>?_)
 ·refine Wk.weak (ρ:=[0]) (φ:=[]) ?_
  simp[Record.rows,Record.marks]
 ·obtain⟨X,hX,hl,hg⟩:=qa3 (fun j:Nat=>Record.mark (k+3*j)) l hi
  rw[show Record.marks k i++l.drop i=X from hX]
  simp[Record.rows,Record.cells,hl,hg,hi]
  rw[w64 (n:=k+3*(i:Int)+1) (by omega) (by omega)]
  refine CallZ.use0 (qcp _ (by omega)) rfl rfl ?_
  simp[hl,hi]
  rw[w64 (n:=k+3*(i:Int)+1+1) (by omega) (by omega)]
  refine CallZ.use0 (qcp _ (by omega)) rfl rfl ?_
  simp[hl,hi]
  rw[w64 (n:=k+3*(i:Int)+1+1+1) (by omega) (by omega)]
  refine Wk.weak (ρ:=[0]) (φ:=[]) ?_
  simp
  rw[w64 (by omega) (by omega),←hX]
  refine⟨by omega,?_⟩
  exact qc3 Record.cells (fun j:Nat=>Record.mark (k+3*j)) l hi
 ·simp[Record.rows,Record.marks]
end Go.Proofs.YteckngloamnfdaaGreatDoor
namespace Go.Proofs.YteckngloamnfdaaGreatDoor
open Go Go.Ab
set_option maxRecDepth 100000
structure Desk where
 carillon:Carillon
 orders:List Order
 records:List Record
theorem Desk.eq_iff {a b:Desk}:a=b↔a.carillon=b.carillon∧a.orders=b.orders∧a.records=b.records:=by cases a; cases b; simp
instance:DecidableEq Desk:=fun _ _=>decidable_of_iff _ Desk.eq_iff.symm
def Desk.cells (x:Desk):List PV:=[.sl 5 (Ingot.rows x.carillon.ingots), .sl 3 (Melt.rows x.carillon.melts), .sl 5 (Bell.rows x.carillon.bells), .sl 5 (Hung.rows x.carillon.hung), .int .i64 x.carillon.chamber.width, .int .i64 x.carillon.chamber.length, .int .i64 x.carillon.chamber.height, .sl 5 (Place.rows x.carillon.places), .int .i64 x.carillon.gap, .str x.carillon.tower.name, .int .i64 x.carillon.tower.sway, .int .i64 x.carillon.tower.damping, .int .i64 x.carillon.tower.stiffness, .int .i64 x.carillon.tower.limit, .sl 6 (Beam.rows x.carillon.frame), .int .i64 x.carillon.stress, .int .i64 x.carillon.bending, .sl 4 (Action.rows x.carillon.clavier), .str x.carillon.tune.name, .sl 3 (Tone.rows x.carillon.tune.tones), .sl 5 (Order.rows x.orders), .sl 3 (Record.rows x.records)]
def Desk.sz (x:Desk):Nat:=Carillon.sz x.carillon+Order.szS x.orders+Record.szS x.records
structure Desk.wf (x:Desk):Prop where
 carillon:Carillon.wf x.carillon
 orders:(x.orders.length≤9223372036854775807∧∀y∈x.orders,y.wf)
 records:(x.records.length≤9223372036854775807∧∀y∈x.records,y.wf)
theorem Desk.fits {cs:List PV} (h:fitsL [.slc [.str, .int .i64, .int .i64, .int .i64, .int .i64], .slc [.str, .slc [.str], .int .i64], .slc [.str, .int .i64, .int .i64, .int .i64, .slc [.str, .int .i64]], .slc [.str, .int .i64, .int .i64, .int .i64, .int .i64], .int .i64, .int .i64, .int .i64, .slc [.str, .int .i64, .int .i64, .int .i64, .int .i64], .int .i64, .str, .int .i64, .int .i64, .int .i64, .int .i64, .slc [.str, .int .i64, .int .i64, .int .i64, .int .i64, .slc [.int .i64, .int .i64]], .int .i64, .int .i64, .slc [.int .i64, .slc [.int .i64, .int .i64], .int .i64, .int .i64], .str, .slc [.int .i64, .int .i64, .int .i64], .slc [.str, .int .i64, .int .i64, .int .i64, .int .i64], .slc [.int .i64, .str, .str]] cs):∃x:Desk,cs=x.cells∧x.wf:=by
 obtain⟨_,_,rfl,h0,h⟩:=qah h
 obtain⟨_,_,rfl,h1,h⟩:=qah h
 obtain⟨_,_,rfl,h2,h⟩:=qah h
 obtain⟨_,_,rfl,h3,h⟩:=qah h
 obtain⟨_,_,rfl,h4,h⟩:=qah h
 obtain⟨_,_,rfl,h5,h⟩:=qah h
 obtain⟨_,_,rfl,h6,h⟩:=qah h
 obtain⟨_,_,rfl,h7,h⟩:=qah h
 obtain⟨_,_,rfl,h8,h⟩:=qah h
 obtain⟨_,_,rfl,h9,h⟩:=qah h
 obtain⟨_,_,rfl,h10,h⟩:=qah h
 obtain⟨_,_,rfl,h11,h⟩:=qah h
 obtain⟨_,_,rfl,h12,h⟩:=qah h
 obtain⟨_,_,rfl,h13,h⟩:=qah h
 obtain⟨_,_,rfl,h14,h⟩:=qah h
 obtain⟨_,_,rfl,h15,h⟩:=qah h
 obtain⟨_,_,rfl,h16,h⟩:=qah h
 obtain⟨_,_,rfl,h17,h⟩:=qah h
 obtain⟨_,_,rfl,h18,h⟩:=qah h
 obtain⟨_,_,rfl,h19,h⟩:=qah h
 obtain⟨_,_,rfl,h20,h⟩:=qah h
 obtain⟨_,_,rfl,h21,h⟩:=qah h
 obtain rfl:=qbH h
 obtain⟨r0,rfl,l0,f0⟩:=qbT h0
 obtain⟨v0,rfl,w0⟩:=Ingot.fitsS f0
 rw[Ingot.rows_len]at l0
 obtain⟨r1,rfl,l1,f1⟩:=qbT h1
 obtain⟨v1,rfl,w1⟩:=Melt.fitsS f1
 rw[Melt.rows_len]at l1
 obtain⟨r2,rfl,l2,f2⟩:=qbT h2
 obtain⟨v2,rfl,w2⟩:=Bell.fitsS f2
 rw[Bell.rows_len]at l2
 obtain⟨r3,rfl,l3,f3⟩:=qbT h3
 obtain⟨v3,rfl,w3⟩:=Hung.fitsS f3
 rw[Hung.rows_len]at l3
 obtain⟨v4,rfl,w4⟩:=qaq h4
 obtain⟨v5,rfl,w5⟩:=qaq h5
 obtain⟨v6,rfl,w6⟩:=qaq h6
 obtain⟨r7,rfl,l7,f7⟩:=qbT h7
 obtain⟨v7,rfl,w7⟩:=Place.fitsS f7
 rw[Place.rows_len]at l7
 obtain⟨v8,rfl,w8⟩:=qaq h8
 obtain⟨v9,rfl,w9⟩:=qcb h9
 obtain⟨v10,rfl,w10⟩:=qaq h10
 obtain⟨v11,rfl,w11⟩:=qaq h11
 obtain⟨v12,rfl,w12⟩:=qaq h12
 obtain⟨v13,rfl,w13⟩:=qaq h13
 obtain⟨r14,rfl,l14,f14⟩:=qbT h14
 obtain⟨v14,rfl,w14⟩:=Beam.fitsS f14
 rw[Beam.rows_len]at l14
 obtain⟨v15,rfl,w15⟩:=qaq h15
 obtain⟨v16,rfl,w16⟩:=qaq h16
 obtain⟨r17,rfl,l17,f17⟩:=qbT h17
 obtain⟨v17,rfl,w17⟩:=Action.fitsS f17
 rw[Action.rows_len]at l17
 obtain⟨v18,rfl,w18⟩:=qcb h18
 obtain⟨r19,rfl,l19,f19⟩:=qbT h19
 obtain⟨v19,rfl,w19⟩:=Tone.fitsS f19
 rw[Tone.rows_len]at l19
 obtain⟨r20,rfl,l20,f20⟩:=qbT h20
 obtain⟨v20,rfl,w20⟩:=Order.fitsS f20
 rw[Order.rows_len]at l20
 obtain⟨r21,rfl,l21,f21⟩:=qbT h21
 obtain⟨v21,rfl,w21⟩:=Record.fitsS f21
 rw[Record.rows_len]at l21
 exact⟨⟨⟨v0,v1,v2,v3,⟨v4,v5,v6⟩,v7,v8,⟨v9,v10,v11,v12,v13⟩,v14,v15,v16,v17,⟨v18,v19⟩⟩,v20,v21⟩,rfl,⟨⟨⟨l0,w0⟩,⟨l1,w1⟩,⟨l2,w2⟩,⟨l3,w3⟩,⟨(lit64 w4).1,(lit64 w4).2,(lit64 w5).1,(lit64 w5).2,(lit64 w6).1,(lit64 w6).2⟩,⟨l7,w7⟩,lit64 w8,⟨w9,(lit64 w10).1,(lit64 w10).2,(lit64 w11).1,(lit64 w11).2,(lit64 w12).1,(lit64 w12).2,(lit64 w13).1,(lit64 w13).2⟩,⟨l14,w14⟩,lit64 w15,lit64 w16,⟨l17,w17⟩,⟨w18,⟨l19,w19⟩⟩⟩,⟨l20,w20⟩,⟨l21,w21⟩⟩⟩
theorem qpn (x:Desk) (left:Nat) (hl:left≤1048576) (hx:x.wf):HFn Tryz.prog 4 [.agg x.cells, .int .i64 left] [] (.int .i64 (szR x.sz left)) []:=by
 refine qaa hm Tryz.func4 (by kernel_rfl) rfl (by kernel_rfl) rfl qab ?_
 simp[Desk.cells]
 have k0:=qo6 x.carillon (left) (by omega) hx.carillon
 simp only[Carillon.cells]at k0
 refine CallZ.use0 k0 rfl rfl ?_
 simp
 refine⟨fun h =>?_,fun h =>?_⟩
 ·have:=qaO h
  rw[qam (by unfold Desk.sz; omega)]
 have h0:=qaI h
 rw[qal h0]
 rw[show (left:Int)-((Carillon.sz x.carillon:Nat):Int)=((left-Carillon.sz x.carillon:Nat):Int) by omega]
 have k1:=qpa x.orders (left-Carillon.sz x.carillon) (by omega) hx.orders.1 hx.orders.2
 refine CallZ.use0 k1 rfl rfl ?_
 simp
 refine⟨fun h =>?_,fun h =>?_⟩
 ·have:=qaO h
  rw[qam (by unfold Desk.sz; omega)]
 have h1:=qaI h
 rw[qal h1]
 rw[show ((left-Carillon.sz x.carillon:Nat):Int)-((Order.szS x.orders:Nat):Int)=((left-Carillon.sz x.carillon-Order.szS x.orders:Nat):Int) by omega]
 have k2:=qph x.records (left-Carillon.sz x.carillon-Order.szS x.orders) (by omega) hx.records.1 hx.records.2
 refine CallZ.use0 k2 rfl rfl ?_
 simp
 refine⟨fun h =>?_,fun h =>?_⟩
 ·have:=qaO h
  rw[qam (by unfold Desk.sz; omega)]
 have h2:=qaI h
 rw[qal h2]
 rw[qal (by unfold Desk.sz; omega)]
 unfold Desk.sz
 omega
theorem qpo (x:Desk) (h:x.sz≤1048576):HFn Tryz.prog 6 [.agg x.cells] [] (.agg x.cells) []:=by
 unfold Desk.sz at h
 refine qaa hm Tryz.func6 (by kernel_rfl) rfl (by kernel_rfl) rfl qab ?_
 simp[Desk.cells]
 have k0:=qo7 x.carillon (by omega)
 simp only[Carillon.cells]at k0
 refine CallZ.use0 k0 rfl rfl ?_
 simp
 have k1:=qpc x.orders (by unfold Order.szS at h; omega)
 refine CallZ.use0 k1 rfl rfl ?_
 simp
 have k2:=qpj x.records (by unfold Record.szS at h; omega)
 refine CallZ.use0 k2 rfl rfl ?_
 simp
theorem qjU (a:Desk) (h:a.wf):HFn Tryz.prog 9 [.agg a.cells, .agg a.cells] [] (.bool true) []:=by
 refine qaa hm Tryz.func9 (by kernel_rfl) rfl (by kernel_rfl) rfl qab ?_
 simp[Desk.cells]
 have k0:=qo8 a.carillon h.carillon
 simp only[Carillon.cells]at k0
 refine CallZ.use0 k0 rfl rfl ?_
 simp
 have k1:=qpe a.orders a.orders h.orders.1
 refine CallZ.use0 k1 rfl rfl ?_
 simp
 have k2:=qpl a.records a.records h.records.1
 refine CallZ.use0 k2 rfl rfl ?_
 simp
end Go.Proofs.YteckngloamnfdaaGreatDoor
