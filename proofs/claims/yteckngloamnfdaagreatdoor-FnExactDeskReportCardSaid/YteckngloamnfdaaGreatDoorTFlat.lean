/- The types Alloy, Ingot, Hung, Chamber, Place, Tower, Share, Load, Lever, Swing, Trouble as plain data, and what the functions of package laws do with them. No condition. -/
import Derived.Test.YteckngloamnfdaaGreatDoorCd
import Derived.Test.YteckngloamnfdaaGreatDoorKe
namespace Go.Proofs.YteckngloamnfdaaGreatDoor
open Go Go.Ab
set_option maxRecDepth 100000
structure Alloy where
 copper:Int
 tin:Int
 other:Int
theorem Alloy.eq_iff {a b:Alloy}:a=b↔a.copper=b.copper∧a.tin=b.tin∧a.other=b.other:=by cases a; cases b; simp
instance:DecidableEq Alloy:=fun _ _=>decidable_of_iff _ Alloy.eq_iff.symm
def Alloy.cells (x:Alloy):List PV:=[.int .i64 x.copper, .int .i64 x.tin, .int .i64 x.other]
theorem qnQ (x:Alloy):HFn Tryz.prog 212 [.agg x.cells] [] (.agg x.cells) []:=by
 refine qaa hm Tryz.func212 (by kernel_rfl) rfl (by kernel_rfl) rfl qab ?_
 simp[Alloy.cells]
theorem qnR (a b:Alloy):HFn Tryz.prog 254 [.agg a.cells, .agg b.cells] [] (.bool (decide (a=b))) []:=by
 refine qaa hm Tryz.func254 (by kernel_rfl) rfl (by kernel_rfl) rfl qab ?_
 simp[Alloy.cells,Alloy.eq_iff]
 grind
end Go.Proofs.YteckngloamnfdaaGreatDoor
namespace Go.Proofs.YteckngloamnfdaaGreatDoor
open Go Go.Ab
set_option maxRecDepth 100000
structure Ingot where
 id:List UInt8
 mass:Int
 alloyCopper:Int
 alloyTin:Int
 alloyOther:Int
theorem Ingot.eq_iff {a b:Ingot}:a=b↔a.id=b.id∧a.mass=b.mass∧a.alloyCopper=b.alloyCopper∧a.alloyTin=b.alloyTin∧a.alloyOther=b.alloyOther:=by cases a; cases b; simp
instance:DecidableEq Ingot:=fun _ _=>decidable_of_iff _ Ingot.eq_iff.symm
def Ingot.cells (x:Ingot):List PV:=[.str x.id, .int .i64 x.mass, .int .i64 x.alloyCopper, .int .i64 x.alloyTin, .int .i64 x.alloyOther]
def Ingot.rows (l:List Ingot):List (List PV):=l.map Ingot.cells
def Ingot.sz (x:Ingot):Nat:=x.id.length
def Ingot.szS (l:List Ingot):Nat:=l.length+(l.map Ingot.sz).sum
def Ingot.wf (x:Ingot):Prop:=x.id.length≤9223372036854775807 ∧ -9223372036854775808≤x.mass∧x.mass≤9223372036854775807 ∧ -9223372036854775808≤x.alloyCopper∧x.alloyCopper≤9223372036854775807 ∧ -9223372036854775808≤x.alloyTin∧x.alloyTin≤9223372036854775807 ∧ -9223372036854775808≤x.alloyOther∧x.alloyOther≤9223372036854775807
theorem Ingot.fits {cs:List PV} (h:fitsL [.str, .int .i64, .int .i64, .int .i64, .int .i64] cs):∃x:Ingot,cs=x.cells∧x.wf:=by
 obtain⟨_,_,rfl,h0,h⟩:=qah h
 obtain⟨_,_,rfl,h1,h⟩:=qah h
 obtain⟨_,_,rfl,h2,h⟩:=qah h
 obtain⟨_,_,rfl,h3,h⟩:=qah h
 obtain⟨_,_,rfl,h4,h⟩:=qah h
 obtain rfl:=qbH h
 obtain⟨v0,rfl,w0⟩:=qcb h0
 obtain⟨v1,rfl,w1⟩:=qaq h1
 obtain⟨v2,rfl,w2⟩:=qaq h2
 obtain⟨v3,rfl,w3⟩:=qaq h3
 obtain⟨v4,rfl,w4⟩:=qaq h4
 exact⟨⟨v0,v1,v2,v3,v4⟩,rfl,w0,(lit64 w1).1,(lit64 w1).2,(lit64 w2).1,(lit64 w2).2,(lit64 w3).1,(lit64 w3).2,(lit64 w4).1,(lit64 w4).2⟩
theorem Ingot.fitsS {rows:List (List PV)} (h:∀r∈rows,fitsL [.str, .int .i64, .int .i64, .int .i64, .int .i64] r):∃l:List Ingot,rows=Ingot.rows l∧∀x∈l,x.wf:=qbD fun r hr=>Ingot.fits (h r hr)
theorem Ingot.flat (l:List Ingot):qbp (Ingot.rows l):=fun r hr c hc=>by
 obtain⟨x,_,rfl⟩:=List.mem_map.1 hr
 simp only[Ingot.cells,List.mem_cons,List.not_mem_nil,or_false]at hc
 rcases hc with rfl | rfl | rfl | rfl | rfl<;>rfl
theorem Ingot.rows_len (l:List Ingot):(Ingot.rows l).length=l.length:=by simp[Ingot.rows]
theorem qnS (x:Ingot) (left:Nat) (hl:left≤1048576) (hx:x.wf):HFn Tryz.prog 99 [.agg x.cells, .int .i64 left] [] (.int .i64 (szR x.sz left)) []:=by
 unfold Ingot.wf at hx
 refine qaa hm Tryz.func99 (by kernel_rfl) rfl (by kernel_rfl) rfl qab ?_
 simp[Ingot.cells,Ingot.sz]
 rw[w64 (n:=(left:Int)-x.id.length) (by omega) (by omega)]
 refine⟨fun h=>by rw[qam (by omega)],fun h=>by rw[qal (by omega)]⟩
theorem qnT (l:List Ingot) (left:Nat) (hl:left≤1048576) (hlen:l.length≤9223372036854775807) (hx:∀x∈l,x.wf):HFn Tryz.prog 43 [.sl 5 (Ingot.rows l), .int .i64 left] [] (.int .i64 (szR (Ingot.szS l) left)) []:=by
 refine qaa hm Tryz.func43 (by kernel_rfl) rfl (by kernel_rfl) rfl qab ?_
 simp[Ingot.rows]
 rw[w64 (n:=(left:Int)-l.length) (by omega) (by omega)]
 refine⟨fun h=>by rw[qam (by unfold Ingot.szS; omega)],fun h =>?_⟩
 refine qac hm l.length (fun i=>⟨[(0, .sl 5 (Ingot.rows l)),(1, .int .i64 (left-l.length-sumT Ingot.sz l i)),(5, .int .i64 i)],[]⟩) (fun i=>l.length+sumT Ingot.sz l i≤left) (by kernel_rfl) ?_ (by rw[qaR]; omega) (fun i hi hI =>?_) (fun hI =>?_)
 ·exact Wk.weak (ρ:=[]) (φ:=[]) (by simp[Ingot.rows,qaR])
 ·have ea:=List.getElem?_eq_getElem hi
  have es:=qbF Ingot.sz hi
  have hle:=qbG Ingot.sz l (i+1)
  have e1:(left:Int)-l.length-sumT Ingot.sz l i=((left-l.length-sumT Ingot.sz l i:Nat):Int):=by omega
  rw[e1]
  simp[Ingot.rows,hi]
  refine CallZ.use0 (qnS l[i] _ (by omega) (hx _ (List.getElem_mem hi))) rfl rfl ?_
  simp
  refine⟨fun h =>?_,fun h =>?_⟩
  ·have:=qaO h
   rw[qam (by unfold Ingot.szS; omega)]
  ·have hh:=qaI h
   refine⟨by omega,?_⟩
   refine Wk.weak (ρ:=[]) (φ:=[]) ?_
   simp
   rw[w64 (by omega) (by omega),qal hh]
   omega
 ·simp[Ingot.rows]
  rw[qbE]at hI ⊢
  rw[qal (by unfold Ingot.szS; omega)]
  unfold Ingot.szS
  omega
theorem qnU (x:Ingot):HFn Tryz.prog 126 [.agg x.cells] [] (.agg x.cells) []:=by
 refine qaa hm Tryz.func126 (by kernel_rfl) rfl (by kernel_rfl) rfl qab ?_
 simp[Ingot.cells]
 refine CallZ.use0 (qnQ ⟨x.alloyCopper,x.alloyTin,x.alloyOther⟩) rfl rfl ?_
 simp[Alloy.cells]
theorem qjJ (l:List Ingot) (hl:l.length≤1048576):HFn Tryz.prog 58 [.sl 5 (Ingot.rows l)] [] (.sf 0 5) [some (.arr 5 (Ingot.rows l))]:=by
 refine qaa hm Tryz.func58 (by kernel_rfl) rfl (by kernel_rfl) rfl (qcY (ρ:=[0]) (φ:=[])) ?_
 simp[Ingot.rows]
 refine⟨by omega,by omega,?_⟩
 refine qac hm l.length (fun i=>⟨[(0, .sl 5 (Ingot.rows l)),(3, .sf 0 5),(4, .int .i64 i)],[some (.arr 5 ((l.take i).map Ingot.cells++List.replicate (l.length-i) [.str [], .int .i64 0, .int .i64 0, .int .i64 0, .int .i64 0]))]⟩) (fun _=>True) (by kernel_rfl) ?_ trivial (fun i hi _ =>?_) (fun _ =>?_)
 ·exact Wk.weak (ρ:=[0]) (φ:=[]) (by simp[Ingot.rows])
 ·obtain⟨X,hX,hXl,hXg⟩:=qbk Ingot.cells l [.str [], .int .i64 0, .int .i64 0, .int .i64 0, .int .i64 0] hi
  rw[hX]
  have ea:=List.getElem?_eq_getElem hi
  simp[Ingot.rows,hi]
  refine CallZ.use0 (qnU _) rfl rfl ?_
  simp[Ingot.cells,hi,hXl,hXg]
  refine Wk.weak (ρ:=[0]) (φ:=[]) ?_
  simp
  rw[w64 (by omega) (by omega),←hX]
  exact⟨rfl,qbC Ingot.cells l [.str [], .int .i64 0, .int .i64 0, .int .i64 0, .int .i64 0] hi⟩
 ·simp[Ingot.rows]
theorem qnV (l:List Ingot) (hl:l.length≤1048576):HFn Tryz.prog 58 [.sl 5 (Ingot.rows l)] [] (.sl 5 (Ingot.rows l)) []:=(qjJ l hl).less (Wk.weak (ρ:=[]) (φ:=[0]) (by simp))
theorem qnW (a b:Ingot):HFn Tryz.prog 168 [.agg a.cells, .agg b.cells] [] (.bool (decide (a=b))) []:=by
 refine qaa hm Tryz.func168 (by kernel_rfl) rfl (by kernel_rfl) rfl qab ?_
 by_cases h0:a.id=b.id
 rotate_left
 ·simp[Ingot.cells,Ingot.eq_iff,h0]
 by_cases h1:a.mass=b.mass
 rotate_left
 ·simp[Ingot.cells,Ingot.eq_iff,h0,h1]
 simp[Ingot.cells,Ingot.eq_iff,h0,h1]
 refine CallZ.use0 (qnR ⟨a.alloyCopper,a.alloyTin,a.alloyOther⟩ ⟨b.alloyCopper,b.alloyTin,b.alloyOther⟩) rfl rfl ?_
 simp[Alloy.eq_iff]
 try grind
theorem qnX (a b:List Ingot) (ha:a.length≤9223372036854775807):HFn Tryz.prog 79 [.sl 5 (Ingot.rows a), .sl 5 (Ingot.rows b)] [] (.bool (decide (a=b))) []:=by
 refine qaa hm Tryz.func79 (by kernel_rfl) rfl (by kernel_rfl) rfl qab ?_
 simp[Ingot.rows]
 refine⟨fun h =>?_,fun h =>?_⟩
 ·exact fun e=>h (by rw[e])
 ·refine qac hm a.length (fun i=>⟨[(0, .sl 5 (Ingot.rows a)),(1, .sl 5 (Ingot.rows b)),(5, .int .i64 i)],[]⟩) (fun i=>a.take i=b.take i) (by kernel_rfl) ?_ (by simp) (fun i hi hI =>?_) (fun hI =>?_)
  ·exact Wk.weak (ρ:=[]) (φ:=[]) (by simp[Ingot.rows])
  ·have hl:a.length=b.length:=by omega
   have ea:=List.getElem?_eq_getElem hi
   have hi':i<b.length:=by omega
   have eb:=List.getElem?_eq_getElem hi'
   simp[Ingot.rows,hi,hi']
   refine CallZ.use0 (qnW a[i] b[i]) rfl rfl ?_
   simp
   refine⟨fun h e=>h (by simp[e]),fun h=>⟨qc0 hI ea eb h,?_⟩⟩
   refine Wk.weak (ρ:=[]) (φ:=[]) ?_
   simp
   exact w64 (by omega) (by omega)
  ·simp[Ingot.rows]
   exact qc1 hI (by omega)
def Ingot.mark (k:Int):Ingot:=⟨markT k,k+1,k+1+1,k+1+1+1,k+1+1+1+1⟩
def Ingot.marks (k:Int) (n:Nat):List Ingot:=(List.range n).map fun i:Nat=>Ingot.mark (k+5*i)
theorem qnY (l:List Ingot) (k:Int) (hk:0≤k) (ha:5*l.length+k≤1000000000):MFn Tryz.prog 91 [.sf 0 5, .int .i64 k] [some (.arr 5 (Ingot.rows l))] [0] (.int .i64 (k+5*l.length)) [some (.arr 5 (Ingot.rows (Ingot.marks k l.length)))]:=by
 refine qcn [0] hm Tryz.func91 (by kernel_rfl) rfl (by kernel_rfl) rfl (qcX (ρ:=[0]) (φ:=[])) (by simp[Ingot.rows,Ingot.marks]) ?_
 simp
 refine qac hm l.length (fun i=>⟨[(0, .sf 0 5),(1, .int .i64 (k+5*i)),(5, .int .i64 i),(52, .own 0)],[some (.arr 5 (Ingot.rows (Ingot.marks k i++l.drop i)))]⟩) (fun _=>True) (by kernel_rfl) ?_ trivial (fun i hi _ =>?_) (fun _ =>?_)
 ·refine Wk.weak (ρ:=[0]) (φ:=[]) ?_
  simp[Ingot.rows,Ingot.marks]
 ·obtain⟨X,hX,hl,hg⟩:=qa3 (fun j:Nat=>Ingot.mark (k+5*j)) l hi
  rw[show Ingot.marks k i++l.drop i=X from hX]
  simp[Ingot.rows,hl,hi]
  refine CallZ.use0 (qcp _ (by omega)) rfl rfl ?_
  simp[Ingot.cells,hl,hg,hi]
  rw[w64 (n:=k+5*(i:Int)+1) (by omega) (by omega)]
  rw[w64 (n:=k+5*(i:Int)+1+1) (by omega) (by omega)]
  rw[w64 (n:=k+5*(i:Int)+1+1+1) (by omega) (by omega)]
  rw[w64 (n:=k+5*(i:Int)+1+1+1+1) (by omega) (by omega)]
  rw[w64 (n:=k+5*(i:Int)+1+1+1+1+1) (by omega) (by omega)]
  refine Wk.weak (ρ:=[0]) (φ:=[]) ?_
  simp
  rw[w64 (by omega) (by omega),←hX]
  refine⟨by omega,?_⟩
  exact qc3 Ingot.cells (fun j:Nat=>Ingot.mark (k+5*j)) l hi
 ·simp[Ingot.rows,Ingot.marks]
end Go.Proofs.YteckngloamnfdaaGreatDoor
namespace Go.Proofs.YteckngloamnfdaaGreatDoor
open Go Go.Ab
set_option maxRecDepth 100000
structure Hung where
 bell:List UInt8
 mass:Int
 arm:Int
 form:Int
 angle:Int
theorem Hung.eq_iff {a b:Hung}:a=b↔a.bell=b.bell∧a.mass=b.mass∧a.arm=b.arm∧a.form=b.form∧a.angle=b.angle:=by cases a; cases b; simp
instance:DecidableEq Hung:=fun _ _=>decidable_of_iff _ Hung.eq_iff.symm
def Hung.cells (x:Hung):List PV:=[.str x.bell, .int .i64 x.mass, .int .i64 x.arm, .int .i64 x.form, .int .i64 x.angle]
def Hung.rows (l:List Hung):List (List PV):=l.map Hung.cells
def Hung.sz (x:Hung):Nat:=x.bell.length
def Hung.szS (l:List Hung):Nat:=l.length+(l.map Hung.sz).sum
def Hung.wf (x:Hung):Prop:=x.bell.length≤9223372036854775807 ∧ -9223372036854775808≤x.mass∧x.mass≤9223372036854775807 ∧ -9223372036854775808≤x.arm∧x.arm≤9223372036854775807 ∧ -9223372036854775808≤x.form∧x.form≤9223372036854775807 ∧ -9223372036854775808≤x.angle∧x.angle≤9223372036854775807
theorem Hung.fits {cs:List PV} (h:fitsL [.str, .int .i64, .int .i64, .int .i64, .int .i64] cs):∃x:Hung,cs=x.cells∧x.wf:=by
 obtain⟨_,_,rfl,h0,h⟩:=qah h
 obtain⟨_,_,rfl,h1,h⟩:=qah h
 obtain⟨_,_,rfl,h2,h⟩:=qah h
 obtain⟨_,_,rfl,h3,h⟩:=qah h
 obtain⟨_,_,rfl,h4,h⟩:=qah h
 obtain rfl:=qbH h
 obtain⟨v0,rfl,w0⟩:=qcb h0
 obtain⟨v1,rfl,w1⟩:=qaq h1
 obtain⟨v2,rfl,w2⟩:=qaq h2
 obtain⟨v3,rfl,w3⟩:=qaq h3
 obtain⟨v4,rfl,w4⟩:=qaq h4
 exact⟨⟨v0,v1,v2,v3,v4⟩,rfl,w0,(lit64 w1).1,(lit64 w1).2,(lit64 w2).1,(lit64 w2).2,(lit64 w3).1,(lit64 w3).2,(lit64 w4).1,(lit64 w4).2⟩
theorem Hung.fitsS {rows:List (List PV)} (h:∀r∈rows,fitsL [.str, .int .i64, .int .i64, .int .i64, .int .i64] r):∃l:List Hung,rows=Hung.rows l∧∀x∈l,x.wf:=qbD fun r hr=>Hung.fits (h r hr)
theorem Hung.flat (l:List Hung):qbp (Hung.rows l):=fun r hr c hc=>by
 obtain⟨x,_,rfl⟩:=List.mem_map.1 hr
 simp only[Hung.cells,List.mem_cons,List.not_mem_nil,or_false]at hc
 rcases hc with rfl | rfl | rfl | rfl | rfl<;>rfl
theorem Hung.rows_len (l:List Hung):(Hung.rows l).length=l.length:=by simp[Hung.rows]
theorem qnZ (x:Hung) (left:Nat) (hl:left≤1048576) (hx:x.wf):HFn Tryz.prog 102 [.agg x.cells, .int .i64 left] [] (.int .i64 (szR x.sz left)) []:=by
 unfold Hung.wf at hx
 refine qaa hm Tryz.func102 (by kernel_rfl) rfl (by kernel_rfl) rfl qab ?_
 simp[Hung.cells,Hung.sz]
 rw[w64 (n:=(left:Int)-x.bell.length) (by omega) (by omega)]
 refine⟨fun h=>by rw[qam (by omega)],fun h=>by rw[qal (by omega)]⟩
theorem qn0 (l:List Hung) (left:Nat) (hl:left≤1048576) (hlen:l.length≤9223372036854775807) (hx:∀x∈l,x.wf):HFn Tryz.prog 46 [.sl 5 (Hung.rows l), .int .i64 left] [] (.int .i64 (szR (Hung.szS l) left)) []:=by
 refine qaa hm Tryz.func46 (by kernel_rfl) rfl (by kernel_rfl) rfl qab ?_
 simp[Hung.rows]
 rw[w64 (n:=(left:Int)-l.length) (by omega) (by omega)]
 refine⟨fun h=>by rw[qam (by unfold Hung.szS; omega)],fun h =>?_⟩
 refine qac hm l.length (fun i=>⟨[(0, .sl 5 (Hung.rows l)),(1, .int .i64 (left-l.length-sumT Hung.sz l i)),(5, .int .i64 i)],[]⟩) (fun i=>l.length+sumT Hung.sz l i≤left) (by kernel_rfl) ?_ (by rw[qaR]; omega) (fun i hi hI =>?_) (fun hI =>?_)
 ·exact Wk.weak (ρ:=[]) (φ:=[]) (by simp[Hung.rows,qaR])
 ·have ea:=List.getElem?_eq_getElem hi
  have es:=qbF Hung.sz hi
  have hle:=qbG Hung.sz l (i+1)
  have e1:(left:Int)-l.length-sumT Hung.sz l i=((left-l.length-sumT Hung.sz l i:Nat):Int):=by omega
  rw[e1]
  simp[Hung.rows,hi]
  refine CallZ.use0 (qnZ l[i] _ (by omega) (hx _ (List.getElem_mem hi))) rfl rfl ?_
  simp
  refine⟨fun h =>?_,fun h =>?_⟩
  ·have:=qaO h
   rw[qam (by unfold Hung.szS; omega)]
  ·have hh:=qaI h
   refine⟨by omega,?_⟩
   refine Wk.weak (ρ:=[]) (φ:=[]) ?_
   simp
   rw[w64 (by omega) (by omega),qal hh]
   omega
 ·simp[Hung.rows]
  rw[qbE]at hI ⊢
  rw[qal (by unfold Hung.szS; omega)]
  unfold Hung.szS
  omega
theorem qn1 (x:Hung):HFn Tryz.prog 129 [.agg x.cells] [] (.agg x.cells) []:=by
 refine qaa hm Tryz.func129 (by kernel_rfl) rfl (by kernel_rfl) rfl qab ?_
 simp[Hung.cells]
theorem qjK (l:List Hung) (hl:l.length≤1048576):HFn Tryz.prog 61 [.sl 5 (Hung.rows l)] [] (.sf 0 5) [some (.arr 5 (Hung.rows l))]:=by
 refine qaa hm Tryz.func61 (by kernel_rfl) rfl (by kernel_rfl) rfl (qcY (ρ:=[0]) (φ:=[])) ?_
 simp[Hung.rows]
 refine⟨by omega,by omega,?_⟩
 refine qac hm l.length (fun i=>⟨[(0, .sl 5 (Hung.rows l)),(3, .sf 0 5),(4, .int .i64 i)],[some (.arr 5 ((l.take i).map Hung.cells++List.replicate (l.length-i) [.str [], .int .i64 0, .int .i64 0, .int .i64 0, .int .i64 0]))]⟩) (fun _=>True) (by kernel_rfl) ?_ trivial (fun i hi _ =>?_) (fun _ =>?_)
 ·exact Wk.weak (ρ:=[0]) (φ:=[]) (by simp[Hung.rows])
 ·obtain⟨X,hX,hXl,hXg⟩:=qbk Hung.cells l [.str [], .int .i64 0, .int .i64 0, .int .i64 0, .int .i64 0] hi
  rw[hX]
  have ea:=List.getElem?_eq_getElem hi
  simp[Hung.rows,hi]
  refine CallZ.use0 (qn1 _) rfl rfl ?_
  simp[Hung.cells,hi,hXl,hXg]
  refine Wk.weak (ρ:=[0]) (φ:=[]) ?_
  simp
  rw[w64 (by omega) (by omega),←hX]
  exact⟨rfl,qbC Hung.cells l [.str [], .int .i64 0, .int .i64 0, .int .i64 0, .int .i64 0] hi⟩
 ·simp[Hung.rows]
theorem qn2 (l:List Hung) (hl:l.length≤1048576):HFn Tryz.prog 61 [.sl 5 (Hung.rows l)] [] (.sl 5 (Hung.rows l)) []:=(qjK l hl).less (Wk.weak (ρ:=[]) (φ:=[0]) (by simp))
theorem qn3 (a b:Hung):HFn Tryz.prog 171 [.agg a.cells, .agg b.cells] [] (.bool (decide (a=b))) []:=by
 refine qaa hm Tryz.func171 (by kernel_rfl) rfl (by kernel_rfl) rfl qab ?_
 simp[Hung.cells,Hung.eq_iff]
 grind
theorem qn4 (a b:List Hung) (ha:a.length≤9223372036854775807):HFn Tryz.prog 82 [.sl 5 (Hung.rows a), .sl 5 (Hung.rows b)] [] (.bool (decide (a=b))) []:=by
 refine qaa hm Tryz.func82 (by kernel_rfl) rfl (by kernel_rfl) rfl qab ?_
 simp[Hung.rows]
 refine⟨fun h =>?_,fun h =>?_⟩
 ·exact fun e=>h (by rw[e])
 ·refine qac hm a.length (fun i=>⟨[(0, .sl 5 (Hung.rows a)),(1, .sl 5 (Hung.rows b)),(5, .int .i64 i)],[]⟩) (fun i=>a.take i=b.take i) (by kernel_rfl) ?_ (by simp) (fun i hi hI =>?_) (fun hI =>?_)
  ·exact Wk.weak (ρ:=[]) (φ:=[]) (by simp[Hung.rows])
  ·have hl:a.length=b.length:=by omega
   have ea:=List.getElem?_eq_getElem hi
   have hi':i<b.length:=by omega
   have eb:=List.getElem?_eq_getElem hi'
   simp[Hung.rows,hi,hi']
   refine CallZ.use0 (qn3 a[i] b[i]) rfl rfl ?_
   simp
   refine⟨fun h e=>h (by simp[e]),fun h=>⟨qc0 hI ea eb h,?_⟩⟩
   refine Wk.weak (ρ:=[]) (φ:=[]) ?_
   simp
   exact w64 (by omega) (by omega)
  ·simp[Hung.rows]
   exact qc1 hI (by omega)
def Hung.mark (k:Int):Hung:=⟨markT k,k+1,k+1+1,k+1+1+1,k+1+1+1+1⟩
def Hung.marks (k:Int) (n:Nat):List Hung:=(List.range n).map fun i:Nat=>Hung.mark (k+5*i)
theorem qn5 (l:List Hung) (k:Int) (hk:0≤k) (ha:5*l.length+k≤1000000000):MFn Tryz.prog 94 [.sf 0 5, .int .i64 k] [some (.arr 5 (Hung.rows l))] [0] (.int .i64 (k+5*l.length)) [some (.arr 5 (Hung.rows (Hung.marks k l.length)))]:=by
 refine qcn [0] hm Tryz.func94 (by kernel_rfl) rfl (by kernel_rfl) rfl (qcX (ρ:=[0]) (φ:=[])) (by simp[Hung.rows,Hung.marks]) ?_
 simp
 refine qac hm l.length (fun i=>⟨[(0, .sf 0 5),(1, .int .i64 (k+5*i)),(5, .int .i64 i),(49, .own 0)],[some (.arr 5 (Hung.rows (Hung.marks k i++l.drop i)))]⟩) (fun _=>True) (by kernel_rfl) ?_ trivial (fun i hi _ =>?_) (fun _ =>?_)
 ·refine Wk.weak (ρ:=[0]) (φ:=[]) ?_
  simp[Hung.rows,Hung.marks]
 ·obtain⟨X,hX,hl,hg⟩:=qa3 (fun j:Nat=>Hung.mark (k+5*j)) l hi
  rw[show Hung.marks k i++l.drop i=X from hX]
  simp[Hung.rows,hl,hi]
  refine CallZ.use0 (qcp _ (by omega)) rfl rfl ?_
  simp[Hung.cells,hl,hg,hi]
  rw[w64 (n:=k+5*(i:Int)+1) (by omega) (by omega)]
  rw[w64 (n:=k+5*(i:Int)+1+1) (by omega) (by omega)]
  rw[w64 (n:=k+5*(i:Int)+1+1+1) (by omega) (by omega)]
  rw[w64 (n:=k+5*(i:Int)+1+1+1+1) (by omega) (by omega)]
  rw[w64 (n:=k+5*(i:Int)+1+1+1+1+1) (by omega) (by omega)]
  refine Wk.weak (ρ:=[0]) (φ:=[]) ?_
  simp
  rw[w64 (by omega) (by omega),←hX]
  refine⟨by omega,?_⟩
  exact qc3 Hung.cells (fun j:Nat=>Hung.mark (k+5*j)) l hi
 ·simp[Hung.rows,Hung.marks]
end Go.Proofs.YteckngloamnfdaaGreatDoor
namespace Go.Proofs.YteckngloamnfdaaGreatDoor
open Go Go.Ab
set_option maxRecDepth 100000
structure Chamber where
 width:Int
 length:Int
 height:Int
theorem Chamber.eq_iff {a b:Chamber}:a=b↔a.width=b.width∧a.length=b.length∧a.height=b.height:=by cases a; cases b; simp
instance:DecidableEq Chamber:=fun _ _=>decidable_of_iff _ Chamber.eq_iff.symm
def Chamber.cells (x:Chamber):List PV:=[.int .i64 x.width, .int .i64 x.length, .int .i64 x.height]
def Chamber.wf (x:Chamber):Prop := -9223372036854775808≤x.width∧x.width≤9223372036854775807 ∧ -9223372036854775808≤x.length∧x.length≤9223372036854775807 ∧ -9223372036854775808≤x.height∧x.height≤9223372036854775807
theorem qjL (x:Chamber):HFn Tryz.prog 62 [.agg x.cells] [] (.agg x.cells) []:=by
 refine qaa hm Tryz.func62 (by kernel_rfl) rfl (by kernel_rfl) rfl qab ?_
 simp[Chamber.cells]
theorem qn6 (a b:Chamber):HFn Tryz.prog 83 [.agg a.cells, .agg b.cells] [] (.bool (decide (a=b))) []:=by
 refine qaa hm Tryz.func83 (by kernel_rfl) rfl (by kernel_rfl) rfl qab ?_
 simp[Chamber.cells,Chamber.eq_iff]
 grind
end Go.Proofs.YteckngloamnfdaaGreatDoor
namespace Go.Proofs.YteckngloamnfdaaGreatDoor
open Go Go.Ab
set_option maxRecDepth 100000
structure Place where
 bell:List UInt8
 x:Int
 y:Int
 z:Int
 reach:Int
theorem Place.eq_iff {a b:Place}:a=b↔a.bell=b.bell∧a.x=b.x∧a.y=b.y∧a.z=b.z∧a.reach=b.reach:=by cases a; cases b; simp
instance:DecidableEq Place:=fun _ _=>decidable_of_iff _ Place.eq_iff.symm
def Place.cells (x:Place):List PV:=[.str x.bell, .int .i64 x.x, .int .i64 x.y, .int .i64 x.z, .int .i64 x.reach]
def Place.rows (l:List Place):List (List PV):=l.map Place.cells
def Place.sz (x:Place):Nat:=x.bell.length
def Place.szS (l:List Place):Nat:=l.length+(l.map Place.sz).sum
def Place.wf (x:Place):Prop:=x.bell.length≤9223372036854775807 ∧ -9223372036854775808≤x.x∧x.x≤9223372036854775807 ∧ -9223372036854775808≤x.y∧x.y≤9223372036854775807 ∧ -9223372036854775808≤x.z∧x.z≤9223372036854775807 ∧ -9223372036854775808≤x.reach∧x.reach≤9223372036854775807
theorem Place.fits {cs:List PV} (h:fitsL [.str, .int .i64, .int .i64, .int .i64, .int .i64] cs):∃x:Place,cs=x.cells∧x.wf:=by
 obtain⟨_,_,rfl,h0,h⟩:=qah h
 obtain⟨_,_,rfl,h1,h⟩:=qah h
 obtain⟨_,_,rfl,h2,h⟩:=qah h
 obtain⟨_,_,rfl,h3,h⟩:=qah h
 obtain⟨_,_,rfl,h4,h⟩:=qah h
 obtain rfl:=qbH h
 obtain⟨v0,rfl,w0⟩:=qcb h0
 obtain⟨v1,rfl,w1⟩:=qaq h1
 obtain⟨v2,rfl,w2⟩:=qaq h2
 obtain⟨v3,rfl,w3⟩:=qaq h3
 obtain⟨v4,rfl,w4⟩:=qaq h4
 exact⟨⟨v0,v1,v2,v3,v4⟩,rfl,w0,(lit64 w1).1,(lit64 w1).2,(lit64 w2).1,(lit64 w2).2,(lit64 w3).1,(lit64 w3).2,(lit64 w4).1,(lit64 w4).2⟩
theorem Place.fitsS {rows:List (List PV)} (h:∀r∈rows,fitsL [.str, .int .i64, .int .i64, .int .i64, .int .i64] r):∃l:List Place,rows=Place.rows l∧∀x∈l,x.wf:=qbD fun r hr=>Place.fits (h r hr)
theorem Place.flat (l:List Place):qbp (Place.rows l):=fun r hr c hc=>by
 obtain⟨x,_,rfl⟩:=List.mem_map.1 hr
 simp only[Place.cells,List.mem_cons,List.not_mem_nil,or_false]at hc
 rcases hc with rfl | rfl | rfl | rfl | rfl<;>rfl
theorem Place.rows_len (l:List Place):(Place.rows l).length=l.length:=by simp[Place.rows]
theorem qn7 (x:Place) (left:Nat) (hl:left≤1048576) (hx:x.wf):HFn Tryz.prog 103 [.agg x.cells, .int .i64 left] [] (.int .i64 (szR x.sz left)) []:=by
 unfold Place.wf at hx
 refine qaa hm Tryz.func103 (by kernel_rfl) rfl (by kernel_rfl) rfl qab ?_
 simp[Place.cells,Place.sz]
 rw[w64 (n:=(left:Int)-x.bell.length) (by omega) (by omega)]
 refine⟨fun h=>by rw[qam (by omega)],fun h=>by rw[qal (by omega)]⟩
theorem qn8 (l:List Place) (left:Nat) (hl:left≤1048576) (hlen:l.length≤9223372036854775807) (hx:∀x∈l,x.wf):HFn Tryz.prog 47 [.sl 5 (Place.rows l), .int .i64 left] [] (.int .i64 (szR (Place.szS l) left)) []:=by
 refine qaa hm Tryz.func47 (by kernel_rfl) rfl (by kernel_rfl) rfl qab ?_
 simp[Place.rows]
 rw[w64 (n:=(left:Int)-l.length) (by omega) (by omega)]
 refine⟨fun h=>by rw[qam (by unfold Place.szS; omega)],fun h =>?_⟩
 refine qac hm l.length (fun i=>⟨[(0, .sl 5 (Place.rows l)),(1, .int .i64 (left-l.length-sumT Place.sz l i)),(5, .int .i64 i)],[]⟩) (fun i=>l.length+sumT Place.sz l i≤left) (by kernel_rfl) ?_ (by rw[qaR]; omega) (fun i hi hI =>?_) (fun hI =>?_)
 ·exact Wk.weak (ρ:=[]) (φ:=[]) (by simp[Place.rows,qaR])
 ·have ea:=List.getElem?_eq_getElem hi
  have es:=qbF Place.sz hi
  have hle:=qbG Place.sz l (i+1)
  have e1:(left:Int)-l.length-sumT Place.sz l i=((left-l.length-sumT Place.sz l i:Nat):Int):=by omega
  rw[e1]
  simp[Place.rows,hi]
  refine CallZ.use0 (qn7 l[i] _ (by omega) (hx _ (List.getElem_mem hi))) rfl rfl ?_
  simp
  refine⟨fun h =>?_,fun h =>?_⟩
  ·have:=qaO h
   rw[qam (by unfold Place.szS; omega)]
  ·have hh:=qaI h
   refine⟨by omega,?_⟩
   refine Wk.weak (ρ:=[]) (φ:=[]) ?_
   simp
   rw[w64 (by omega) (by omega),qal hh]
   omega
 ·simp[Place.rows]
  rw[qbE]at hI ⊢
  rw[qal (by unfold Place.szS; omega)]
  unfold Place.szS
  omega
theorem qn9 (x:Place):HFn Tryz.prog 130 [.agg x.cells] [] (.agg x.cells) []:=by
 refine qaa hm Tryz.func130 (by kernel_rfl) rfl (by kernel_rfl) rfl qab ?_
 simp[Place.cells]
theorem qjM (l:List Place) (hl:l.length≤1048576):HFn Tryz.prog 63 [.sl 5 (Place.rows l)] [] (.sf 0 5) [some (.arr 5 (Place.rows l))]:=by
 refine qaa hm Tryz.func63 (by kernel_rfl) rfl (by kernel_rfl) rfl (qcY (ρ:=[0]) (φ:=[])) ?_
 simp[Place.rows]
 refine⟨by omega,by omega,?_⟩
 refine qac hm l.length (fun i=>⟨[(0, .sl 5 (Place.rows l)),(3, .sf 0 5),(4, .int .i64 i)],[some (.arr 5 ((l.take i).map Place.cells++List.replicate (l.length-i) [.str [], .int .i64 0, .int .i64 0, .int .i64 0, .int .i64 0]))]⟩) (fun _=>True) (by kernel_rfl) ?_ trivial (fun i hi _ =>?_) (fun _ =>?_)
 ·exact Wk.weak (ρ:=[0]) (φ:=[]) (by simp[Place.rows])
 ·obtain⟨X,hX,hXl,hXg⟩:=qbk Place.cells l [.str [], .int .i64 0, .int .i64 0, .int .i64 0, .int .i64 0] hi
  rw[hX]
  have ea:=List.getElem?_eq_getElem hi
  simp[Place.rows,hi]
  refine CallZ.use0 (qn9 _) rfl rfl ?_
  simp[Place.cells,hi,hXl,hXg]
  refine Wk.weak (ρ:=[0]) (φ:=[]) ?_
  simp
  rw[w64 (by omega) (by omega),←hX]
  exact⟨rfl,qbC Place.cells l [.str [], .int .i64 0, .int .i64 0, .int .i64 0, .int .i64 0] hi⟩
 ·simp[Place.rows]
theorem qoa (l:List Place) (hl:l.length≤1048576):HFn Tryz.prog 63 [.sl 5 (Place.rows l)] [] (.sl 5 (Place.rows l)) []:=(qjM l hl).less (Wk.weak (ρ:=[]) (φ:=[0]) (by simp))
theorem qob (a b:Place):HFn Tryz.prog 172 [.agg a.cells, .agg b.cells] [] (.bool (decide (a=b))) []:=by
 refine qaa hm Tryz.func172 (by kernel_rfl) rfl (by kernel_rfl) rfl qab ?_
 simp[Place.cells,Place.eq_iff]
 grind
theorem qoc (a b:List Place) (ha:a.length≤9223372036854775807):HFn Tryz.prog 84 [.sl 5 (Place.rows a), .sl 5 (Place.rows b)] [] (.bool (decide (a=b))) []:=by
 refine qaa hm Tryz.func84 (by kernel_rfl) rfl (by kernel_rfl) rfl qab ?_
 simp[Place.rows]
 refine⟨fun h =>?_,fun h =>?_⟩
 ·exact fun e=>h (by rw[e])
 ·refine qac hm a.length (fun i=>⟨[(0, .sl 5 (Place.rows a)),(1, .sl 5 (Place.rows b)),(5, .int .i64 i)],[]⟩) (fun i=>a.take i=b.take i) (by kernel_rfl) ?_ (by simp) (fun i hi hI =>?_) (fun hI =>?_)
  ·exact Wk.weak (ρ:=[]) (φ:=[]) (by simp[Place.rows])
  ·have hl:a.length=b.length:=by omega
   have ea:=List.getElem?_eq_getElem hi
   have hi':i<b.length:=by omega
   have eb:=List.getElem?_eq_getElem hi'
   simp[Place.rows,hi,hi']
   refine CallZ.use0 (qob a[i] b[i]) rfl rfl ?_
   simp
   refine⟨fun h e=>h (by simp[e]),fun h=>⟨qc0 hI ea eb h,?_⟩⟩
   refine Wk.weak (ρ:=[]) (φ:=[]) ?_
   simp
   exact w64 (by omega) (by omega)
  ·simp[Place.rows]
   exact qc1 hI (by omega)
def Place.mark (k:Int):Place:=⟨markT k,k+1,k+1+1,k+1+1+1,k+1+1+1+1⟩
def Place.marks (k:Int) (n:Nat):List Place:=(List.range n).map fun i:Nat=>Place.mark (k+5*i)
theorem qod (l:List Place) (k:Int) (hk:0≤k) (ha:5*l.length+k≤1000000000):MFn Tryz.prog 95 [.sf 0 5, .int .i64 k] [some (.arr 5 (Place.rows l))] [0] (.int .i64 (k+5*l.length)) [some (.arr 5 (Place.rows (Place.marks k l.length)))]:=by
 refine qcn [0] hm Tryz.func95 (by kernel_rfl) rfl (by kernel_rfl) rfl (qcX (ρ:=[0]) (φ:=[])) (by simp[Place.rows,Place.marks]) ?_
 simp
 refine qac hm l.length (fun i=>⟨[(0, .sf 0 5),(1, .int .i64 (k+5*i)),(5, .int .i64 i),(49, .own 0)],[some (.arr 5 (Place.rows (Place.marks k i++l.drop i)))]⟩) (fun _=>True) (by kernel_rfl) ?_ trivial (fun i hi _ =>?_) (fun _ =>?_)
 ·refine Wk.weak (ρ:=[0]) (φ:=[]) ?_
  simp[Place.rows,Place.marks]
 ·obtain⟨X,hX,hl,hg⟩:=qa3 (fun j:Nat=>Place.mark (k+5*j)) l hi
  rw[show Place.marks k i++l.drop i=X from hX]
  simp[Place.rows,hl,hi]
  refine CallZ.use0 (qcp _ (by omega)) rfl rfl ?_
  simp[Place.cells,hl,hg,hi]
  rw[w64 (n:=k+5*(i:Int)+1) (by omega) (by omega)]
  rw[w64 (n:=k+5*(i:Int)+1+1) (by omega) (by omega)]
  rw[w64 (n:=k+5*(i:Int)+1+1+1) (by omega) (by omega)]
  rw[w64 (n:=k+5*(i:Int)+1+1+1+1) (by omega) (by omega)]
  rw[w64 (n:=k+5*(i:Int)+1+1+1+1+1) (by omega) (by omega)]
  refine Wk.weak (ρ:=[0]) (φ:=[]) ?_
  simp
  rw[w64 (by omega) (by omega),←hX]
  refine⟨by omega,?_⟩
  exact qc3 Place.cells (fun j:Nat=>Place.mark (k+5*j)) l hi
 ·simp[Place.rows,Place.marks]
end Go.Proofs.YteckngloamnfdaaGreatDoor
namespace Go.Proofs.YteckngloamnfdaaGreatDoor
open Go Go.Ab
set_option maxRecDepth 100000
structure Tower where
 name:List UInt8
 sway:Int
 damping:Int
 stiffness:Int
 limit:Int
theorem Tower.eq_iff {a b:Tower}:a=b↔a.name=b.name∧a.sway=b.sway∧a.damping=b.damping∧a.stiffness=b.stiffness∧a.limit=b.limit:=by cases a; cases b; simp
instance:DecidableEq Tower:=fun _ _=>decidable_of_iff _ Tower.eq_iff.symm
def Tower.cells (x:Tower):List PV:=[.str x.name, .int .i64 x.sway, .int .i64 x.damping, .int .i64 x.stiffness, .int .i64 x.limit]
def Tower.sz (x:Tower):Nat:=x.name.length
def Tower.wf (x:Tower):Prop:=x.name.length≤9223372036854775807 ∧ -9223372036854775808≤x.sway∧x.sway≤9223372036854775807 ∧ -9223372036854775808≤x.damping∧x.damping≤9223372036854775807 ∧ -9223372036854775808≤x.stiffness∧x.stiffness≤9223372036854775807 ∧ -9223372036854775808≤x.limit∧x.limit≤9223372036854775807
theorem qoe (x:Tower) (left:Nat) (hl:left≤1048576) (hx:x.wf):HFn Tryz.prog 48 [.agg x.cells, .int .i64 left] [] (.int .i64 (szR x.sz left)) []:=by
 unfold Tower.wf at hx
 refine qaa hm Tryz.func48 (by kernel_rfl) rfl (by kernel_rfl) rfl qab ?_
 simp[Tower.cells,Tower.sz]
 rw[w64 (n:=(left:Int)-x.name.length) (by omega) (by omega)]
 refine⟨fun h=>by rw[qam (by omega)],fun h=>by rw[qal (by omega)]⟩
theorem qjN (x:Tower):HFn Tryz.prog 64 [.agg x.cells] [] (.agg x.cells) []:=by
 refine qaa hm Tryz.func64 (by kernel_rfl) rfl (by kernel_rfl) rfl qab ?_
 simp[Tower.cells]
theorem qof (a b:Tower):HFn Tryz.prog 85 [.agg a.cells, .agg b.cells] [] (.bool (decide (a=b))) []:=by
 refine qaa hm Tryz.func85 (by kernel_rfl) rfl (by kernel_rfl) rfl qab ?_
 simp[Tower.cells,Tower.eq_iff]
 grind
end Go.Proofs.YteckngloamnfdaaGreatDoor
namespace Go.Proofs.YteckngloamnfdaaGreatDoor
open Go Go.Ab
set_option maxRecDepth 100000
structure Share where
 melt:List UInt8
 mass:Int
theorem Share.eq_iff {a b:Share}:a=b↔a.melt=b.melt∧a.mass=b.mass:=by cases a; cases b; simp
instance:DecidableEq Share:=fun _ _=>decidable_of_iff _ Share.eq_iff.symm
def Share.cells (x:Share):List PV:=[.str x.melt, .int .i64 x.mass]
def Share.rows (l:List Share):List (List PV):=l.map Share.cells
def Share.sz (x:Share):Nat:=x.melt.length
def Share.szS (l:List Share):Nat:=l.length+(l.map Share.sz).sum
def Share.wf (x:Share):Prop:=x.melt.length≤9223372036854775807 ∧ -9223372036854775808≤x.mass∧x.mass≤9223372036854775807
theorem Share.fits {cs:List PV} (h:fitsL [.str, .int .i64] cs):∃x:Share,cs=x.cells∧x.wf:=by
 obtain⟨_,_,rfl,h0,h⟩:=qah h
 obtain⟨_,_,rfl,h1,h⟩:=qah h
 obtain rfl:=qbH h
 obtain⟨v0,rfl,w0⟩:=qcb h0
 obtain⟨v1,rfl,w1⟩:=qaq h1
 exact⟨⟨v0,v1⟩,rfl,w0,(lit64 w1).1,(lit64 w1).2⟩
theorem Share.fitsS {rows:List (List PV)} (h:∀r∈rows,fitsL [.str, .int .i64] r):∃l:List Share,rows=Share.rows l∧∀x∈l,x.wf:=qbD fun r hr=>Share.fits (h r hr)
theorem Share.flat (l:List Share):qbp (Share.rows l):=fun r hr c hc=>by
 obtain⟨x,_,rfl⟩:=List.mem_map.1 hr
 simp only[Share.cells,List.mem_cons,List.not_mem_nil,or_false]at hc
 rcases hc with rfl | rfl<;>rfl
theorem Share.rows_len (l:List Share):(Share.rows l).length=l.length:=by simp[Share.rows]
theorem qog (x:Share) (left:Nat) (hl:left≤1048576) (hx:x.wf):HFn Tryz.prog 259 [.agg x.cells, .int .i64 left] [] (.int .i64 (szR x.sz left)) []:=by
 unfold Share.wf at hx
 refine qaa hm Tryz.func259 (by kernel_rfl) rfl (by kernel_rfl) rfl qab ?_
 simp[Share.cells,Share.sz]
 rw[w64 (n:=(left:Int)-x.melt.length) (by omega) (by omega)]
 refine⟨fun h=>by rw[qam (by omega)],fun h=>by rw[qal (by omega)]⟩
theorem qoh (l:List Share) (left:Nat) (hl:left≤1048576) (hlen:l.length≤9223372036854775807) (hx:∀x∈l,x.wf):HFn Tryz.prog 181 [.sl 2 (Share.rows l), .int .i64 left] [] (.int .i64 (szR (Share.szS l) left)) []:=by
 refine qaa hm Tryz.func181 (by kernel_rfl) rfl (by kernel_rfl) rfl qab ?_
 simp[Share.rows]
 rw[w64 (n:=(left:Int)-l.length) (by omega) (by omega)]
 refine⟨fun h=>by rw[qam (by unfold Share.szS; omega)],fun h =>?_⟩
 refine qac hm l.length (fun i=>⟨[(0, .sl 2 (Share.rows l)),(1, .int .i64 (left-l.length-sumT Share.sz l i)),(5, .int .i64 i)],[]⟩) (fun i=>l.length+sumT Share.sz l i≤left) (by kernel_rfl) ?_ (by rw[qaR]; omega) (fun i hi hI =>?_) (fun hI =>?_)
 ·exact Wk.weak (ρ:=[]) (φ:=[]) (by simp[Share.rows,qaR])
 ·have ea:=List.getElem?_eq_getElem hi
  have es:=qbF Share.sz hi
  have hle:=qbG Share.sz l (i+1)
  have e1:(left:Int)-l.length-sumT Share.sz l i=((left-l.length-sumT Share.sz l i:Nat):Int):=by omega
  rw[e1]
  simp[Share.rows,hi]
  refine CallZ.use0 (qog l[i] _ (by omega) (hx _ (List.getElem_mem hi))) rfl rfl ?_
  simp
  refine⟨fun h =>?_,fun h =>?_⟩
  ·have:=qaO h
   rw[qam (by unfold Share.szS; omega)]
  ·have hh:=qaI h
   refine⟨by omega,?_⟩
   refine Wk.weak (ρ:=[]) (φ:=[]) ?_
   simp
   rw[w64 (by omega) (by omega),qal hh]
   omega
 ·simp[Share.rows]
  rw[qbE]at hI ⊢
  rw[qal (by unfold Share.szS; omega)]
  unfold Share.szS
  omega
theorem qoi (x:Share):HFn Tryz.prog 279 [.agg x.cells] [] (.agg x.cells) []:=by
 refine qaa hm Tryz.func279 (by kernel_rfl) rfl (by kernel_rfl) rfl qab ?_
 simp[Share.cells]
theorem qjO (l:List Share) (hl:l.length≤1048576):HFn Tryz.prog 214 [.sl 2 (Share.rows l)] [] (.sf 0 2) [some (.arr 2 (Share.rows l))]:=by
 refine qaa hm Tryz.func214 (by kernel_rfl) rfl (by kernel_rfl) rfl (qcY (ρ:=[0]) (φ:=[])) ?_
 simp[Share.rows]
 refine⟨by omega,by omega,?_⟩
 refine qac hm l.length (fun i=>⟨[(0, .sl 2 (Share.rows l)),(3, .sf 0 2),(4, .int .i64 i)],[some (.arr 2 ((l.take i).map Share.cells++List.replicate (l.length-i) [.str [], .int .i64 0]))]⟩) (fun _=>True) (by kernel_rfl) ?_ trivial (fun i hi _ =>?_) (fun _ =>?_)
 ·exact Wk.weak (ρ:=[0]) (φ:=[]) (by simp[Share.rows])
 ·obtain⟨X,hX,hXl,hXg⟩:=qbk Share.cells l [.str [], .int .i64 0] hi
  rw[hX]
  have ea:=List.getElem?_eq_getElem hi
  simp[Share.rows,hi]
  refine CallZ.use0 (qoi _) rfl rfl ?_
  simp[Share.cells,hi,hXl,hXg]
  refine Wk.weak (ρ:=[0]) (φ:=[]) ?_
  simp
  rw[w64 (by omega) (by omega),←hX]
  exact⟨rfl,qbC Share.cells l [.str [], .int .i64 0] hi⟩
 ·simp[Share.rows]
theorem qoj (l:List Share) (hl:l.length≤1048576):HFn Tryz.prog 214 [.sl 2 (Share.rows l)] [] (.sl 2 (Share.rows l)) []:=(qjO l hl).less (Wk.weak (ρ:=[]) (φ:=[0]) (by simp))
theorem qok (a b:Share):HFn Tryz.prog 324 [.agg a.cells, .agg b.cells] [] (.bool (decide (a=b))) []:=by
 refine qaa hm Tryz.func324 (by kernel_rfl) rfl (by kernel_rfl) rfl qab ?_
 simp[Share.cells,Share.eq_iff]
 grind
theorem qol (a b:List Share) (ha:a.length≤9223372036854775807):HFn Tryz.prog 255 [.sl 2 (Share.rows a), .sl 2 (Share.rows b)] [] (.bool (decide (a=b))) []:=by
 refine qaa hm Tryz.func255 (by kernel_rfl) rfl (by kernel_rfl) rfl qab ?_
 simp[Share.rows]
 refine⟨fun h =>?_,fun h =>?_⟩
 ·exact fun e=>h (by rw[e])
 ·refine qac hm a.length (fun i=>⟨[(0, .sl 2 (Share.rows a)),(1, .sl 2 (Share.rows b)),(5, .int .i64 i)],[]⟩) (fun i=>a.take i=b.take i) (by kernel_rfl) ?_ (by simp) (fun i hi hI =>?_) (fun hI =>?_)
  ·exact Wk.weak (ρ:=[]) (φ:=[]) (by simp[Share.rows])
  ·have hl:a.length=b.length:=by omega
   have ea:=List.getElem?_eq_getElem hi
   have hi':i<b.length:=by omega
   have eb:=List.getElem?_eq_getElem hi'
   simp[Share.rows,hi,hi']
   refine CallZ.use0 (qok a[i] b[i]) rfl rfl ?_
   simp
   refine⟨fun h e=>h (by simp[e]),fun h=>⟨qc0 hI ea eb h,?_⟩⟩
   refine Wk.weak (ρ:=[]) (φ:=[]) ?_
   simp
   exact w64 (by omega) (by omega)
  ·simp[Share.rows]
   exact qc1 hI (by omega)
def Share.mark (k:Int):Share:=⟨markT k,k+1⟩
def Share.marks (k:Int) (n:Nat):List Share:=(List.range n).map fun i:Nat=>Share.mark (k+2*i)
theorem qom (l:List Share) (k:Int) (hk:0≤k) (ha:2*l.length+k≤1000000000):MFn Tryz.prog 176 [.sf 0 2, .int .i64 k] [some (.arr 2 (Share.rows l))] [0] (.int .i64 (k+2*l.length)) [some (.arr 2 (Share.rows (Share.marks k l.length)))]:=by
 refine qcn [0] hm Tryz.func176 (by kernel_rfl) rfl (by kernel_rfl) rfl (qcX (ρ:=[0]) (φ:=[])) (by simp[Share.rows,Share.marks]) ?_
 simp
 refine qac hm l.length (fun i=>⟨[(0, .sf 0 2),(1, .int .i64 (k+2*i)),(5, .int .i64 i),(28, .own 0)],[some (.arr 2 (Share.rows (Share.marks k i++l.drop i)))]⟩) (fun _=>True) (by kernel_rfl) ?_ trivial (fun i hi _ =>?_) (fun _ =>?_)
 ·refine Wk.weak (ρ:=[0]) (φ:=[]) ?_
  simp[Share.rows,Share.marks]
 ·obtain⟨X,hX,hl,hg⟩:=qa3 (fun j:Nat=>Share.mark (k+2*j)) l hi
  rw[show Share.marks k i++l.drop i=X from hX]
  simp[Share.rows,hl,hi]
  refine CallZ.use0 (qcp _ (by omega)) rfl rfl ?_
  simp[Share.cells,hl,hg,hi]
  rw[w64 (n:=k+2*(i:Int)+1) (by omega) (by omega)]
  rw[w64 (n:=k+2*(i:Int)+1+1) (by omega) (by omega)]
  refine Wk.weak (ρ:=[0]) (φ:=[]) ?_
  simp
  rw[w64 (by omega) (by omega),←hX]
  refine⟨by omega,?_⟩
  exact qc3 Share.cells (fun j:Nat=>Share.mark (k+2*j)) l hi
 ·simp[Share.rows,Share.marks]
end Go.Proofs.YteckngloamnfdaaGreatDoor
namespace Go.Proofs.YteckngloamnfdaaGreatDoor
open Go Go.Ab
set_option maxRecDepth 100000
structure Load where
 k_at:Int
 weight:Int
theorem Load.eq_iff {a b:Load}:a=b↔a.k_at=b.k_at∧a.weight=b.weight:=by cases a; cases b; simp
instance:DecidableEq Load:=fun _ _=>decidable_of_iff _ Load.eq_iff.symm
def Load.cells (x:Load):List PV:=[.int .i64 x.k_at, .int .i64 x.weight]
def Load.rows (l:List Load):List (List PV):=l.map Load.cells
def Load.sz (_:Load):Nat:=0
def Load.szS (l:List Load):Nat:=l.length+(l.map Load.sz).sum
def Load.wf (x:Load):Prop := -9223372036854775808≤x.k_at∧x.k_at≤9223372036854775807 ∧ -9223372036854775808≤x.weight∧x.weight≤9223372036854775807
theorem Load.fits {cs:List PV} (h:fitsL [.int .i64, .int .i64] cs):∃x:Load,cs=x.cells∧x.wf:=by
 obtain⟨_,_,rfl,h0,h⟩:=qah h
 obtain⟨_,_,rfl,h1,h⟩:=qah h
 obtain rfl:=qbH h
 obtain⟨v0,rfl,w0⟩:=qaq h0
 obtain⟨v1,rfl,w1⟩:=qaq h1
 exact⟨⟨v0,v1⟩,rfl,(lit64 w0).1,(lit64 w0).2,(lit64 w1).1,(lit64 w1).2⟩
theorem Load.fitsS {rows:List (List PV)} (h:∀r∈rows,fitsL [.int .i64, .int .i64] r):∃l:List Load,rows=Load.rows l∧∀x∈l,x.wf:=qbD fun r hr=>Load.fits (h r hr)
theorem Load.flat (l:List Load):qbp (Load.rows l):=fun r hr c hc=>by
 obtain⟨x,_,rfl⟩:=List.mem_map.1 hr
 simp only[Load.cells,List.mem_cons,List.not_mem_nil,or_false]at hc
 rcases hc with rfl | rfl<;>rfl
theorem Load.rows_len (l:List Load):(Load.rows l).length=l.length:=by simp[Load.rows]
theorem qon (l:List Load) (left:Nat) (hl:left≤1048576) (hlen:l.length≤9223372036854775807) (_hx:∀x∈l,x.wf):HFn Tryz.prog 182 [.sl 2 (Load.rows l), .int .i64 left] [] (.int .i64 (szR (Load.szS l) left)) []:=by
 refine qaa hm Tryz.func182 (by kernel_rfl) rfl (by kernel_rfl) rfl qab ?_
 simp[Load.rows]
 rw[w64 (n:=(left:Int)-l.length) (by omega) (by omega)]
 have hz:Load.szS l=l.length:=by simp only[Load.szS]; rw[show (l.map Load.sz)=l.map (fun _=>0) from rfl,qfZ,Nat.add_zero]
 exact⟨fun h=>by rw[qam (by omega)],fun h=>by rw[qal (by omega)]; omega⟩
theorem qoo (x:Load):HFn Tryz.prog 280 [.agg x.cells] [] (.agg x.cells) []:=by
 refine qaa hm Tryz.func280 (by kernel_rfl) rfl (by kernel_rfl) rfl qab ?_
 simp[Load.cells]
theorem qjP (l:List Load) (hl:l.length≤1048576):HFn Tryz.prog 215 [.sl 2 (Load.rows l)] [] (.sf 0 2) [some (.arr 2 (Load.rows l))]:=by
 refine qaa hm Tryz.func215 (by kernel_rfl) rfl (by kernel_rfl) rfl (qcY (ρ:=[0]) (φ:=[])) ?_
 simp[Load.rows]
 refine⟨by omega,by omega,?_⟩
 refine qac hm l.length (fun i=>⟨[(0, .sl 2 (Load.rows l)),(3, .sf 0 2),(4, .int .i64 i)],[some (.arr 2 ((l.take i).map Load.cells++List.replicate (l.length-i) [.int .i64 0, .int .i64 0]))]⟩) (fun _=>True) (by kernel_rfl) ?_ trivial (fun i hi _ =>?_) (fun _ =>?_)
 ·exact Wk.weak (ρ:=[0]) (φ:=[]) (by simp[Load.rows])
 ·obtain⟨X,hX,hXl,hXg⟩:=qbk Load.cells l [.int .i64 0, .int .i64 0] hi
  rw[hX]
  have ea:=List.getElem?_eq_getElem hi
  simp[Load.rows,hi]
  refine CallZ.use0 (qoo _) rfl rfl ?_
  simp[Load.cells,hi,hXl,hXg]
  refine Wk.weak (ρ:=[0]) (φ:=[]) ?_
  simp
  rw[w64 (by omega) (by omega),←hX]
  exact⟨rfl,qbC Load.cells l [.int .i64 0, .int .i64 0] hi⟩
 ·simp[Load.rows]
theorem qop (l:List Load) (hl:l.length≤1048576):HFn Tryz.prog 215 [.sl 2 (Load.rows l)] [] (.sl 2 (Load.rows l)) []:=(qjP l hl).less (Wk.weak (ρ:=[]) (φ:=[0]) (by simp))
theorem qoq (a b:Load):HFn Tryz.prog 325 [.agg a.cells, .agg b.cells] [] (.bool (decide (a=b))) []:=by
 refine qaa hm Tryz.func325 (by kernel_rfl) rfl (by kernel_rfl) rfl qab ?_
 simp[Load.cells,Load.eq_iff]
 grind
theorem qor (a b:List Load) (ha:a.length≤9223372036854775807):HFn Tryz.prog 256 [.sl 2 (Load.rows a), .sl 2 (Load.rows b)] [] (.bool (decide (a=b))) []:=by
 refine qaa hm Tryz.func256 (by kernel_rfl) rfl (by kernel_rfl) rfl qab ?_
 simp[Load.rows]
 refine⟨fun h =>?_,fun h =>?_⟩
 ·exact fun e=>h (by rw[e])
 ·refine qac hm a.length (fun i=>⟨[(0, .sl 2 (Load.rows a)),(1, .sl 2 (Load.rows b)),(5, .int .i64 i)],[]⟩) (fun i=>a.take i=b.take i) (by kernel_rfl) ?_ (by simp) (fun i hi hI =>?_) (fun hI =>?_)
  ·exact Wk.weak (ρ:=[]) (φ:=[]) (by simp[Load.rows])
  ·have hl:a.length=b.length:=by omega
   have ea:=List.getElem?_eq_getElem hi
   have hi':i<b.length:=by omega
   have eb:=List.getElem?_eq_getElem hi'
   simp[Load.rows,hi,hi']
   refine CallZ.use0 (qoq a[i] b[i]) rfl rfl ?_
   simp
   refine⟨fun h e=>h (by simp[e]),fun h=>⟨qc0 hI ea eb h,?_⟩⟩
   refine Wk.weak (ρ:=[]) (φ:=[]) ?_
   simp
   exact w64 (by omega) (by omega)
  ·simp[Load.rows]
   exact qc1 hI (by omega)
def Load.mark (k:Int):Load:=⟨k,k+1⟩
def Load.marks (k:Int) (n:Nat):List Load:=(List.range n).map fun i:Nat=>Load.mark (k+2*i)
theorem qos (l:List Load) (k:Int) (hk:0≤k) (ha:2*l.length+k≤1000000000):MFn Tryz.prog 177 [.sf 0 2, .int .i64 k] [some (.arr 2 (Load.rows l))] [0] (.int .i64 (k+2*l.length)) [some (.arr 2 (Load.rows (Load.marks k l.length)))]:=by
 refine qcn [0] hm Tryz.func177 (by kernel_rfl) rfl (by kernel_rfl) rfl (qcX (ρ:=[0]) (φ:=[])) (by simp[Load.rows,Load.marks]) ?_
 simp
 refine qac hm l.length (fun i=>⟨[(0, .sf 0 2),(1, .int .i64 (k+2*i)),(5, .int .i64 i),(27, .own 0)],[some (.arr 2 (Load.rows (Load.marks k i++l.drop i)))]⟩) (fun _=>True) (by kernel_rfl) ?_ trivial (fun i hi _ =>?_) (fun _ =>?_)
 ·refine Wk.weak (ρ:=[0]) (φ:=[]) ?_
  simp[Load.rows,Load.marks]
 ·obtain⟨X,hX,hl,hg⟩:=qa3 (fun j:Nat=>Load.mark (k+2*j)) l hi
  rw[show Load.marks k i++l.drop i=X from hX]
  simp[Load.rows,Load.cells,hl,hg,hi]
  rw[w64 (n:=k+2*(i:Int)+1) (by omega) (by omega)]
  rw[w64 (n:=k+2*(i:Int)+1+1) (by omega) (by omega)]
  refine Wk.weak (ρ:=[0]) (φ:=[]) ?_
  simp
  rw[w64 (by omega) (by omega),←hX]
  refine⟨by omega,?_⟩
  exact qc3 Load.cells (fun j:Nat=>Load.mark (k+2*j)) l hi
 ·simp[Load.rows,Load.marks]
end Go.Proofs.YteckngloamnfdaaGreatDoor
namespace Go.Proofs.YteckngloamnfdaaGreatDoor
open Go Go.Ab
set_option maxRecDepth 100000
structure Lever where
 k_in:Int
 k_out:Int
theorem Lever.eq_iff {a b:Lever}:a=b↔a.k_in=b.k_in∧a.k_out=b.k_out:=by cases a; cases b; simp
instance:DecidableEq Lever:=fun _ _=>decidable_of_iff _ Lever.eq_iff.symm
def Lever.cells (x:Lever):List PV:=[.int .i64 x.k_in, .int .i64 x.k_out]
def Lever.rows (l:List Lever):List (List PV):=l.map Lever.cells
def Lever.sz (_:Lever):Nat:=0
def Lever.szS (l:List Lever):Nat:=l.length+(l.map Lever.sz).sum
def Lever.wf (x:Lever):Prop := -9223372036854775808≤x.k_in∧x.k_in≤9223372036854775807 ∧ -9223372036854775808≤x.k_out∧x.k_out≤9223372036854775807
theorem Lever.fits {cs:List PV} (h:fitsL [.int .i64, .int .i64] cs):∃x:Lever,cs=x.cells∧x.wf:=by
 obtain⟨_,_,rfl,h0,h⟩:=qah h
 obtain⟨_,_,rfl,h1,h⟩:=qah h
 obtain rfl:=qbH h
 obtain⟨v0,rfl,w0⟩:=qaq h0
 obtain⟨v1,rfl,w1⟩:=qaq h1
 exact⟨⟨v0,v1⟩,rfl,(lit64 w0).1,(lit64 w0).2,(lit64 w1).1,(lit64 w1).2⟩
theorem Lever.fitsS {rows:List (List PV)} (h:∀r∈rows,fitsL [.int .i64, .int .i64] r):∃l:List Lever,rows=Lever.rows l∧∀x∈l,x.wf:=qbD fun r hr=>Lever.fits (h r hr)
theorem Lever.flat (l:List Lever):qbp (Lever.rows l):=fun r hr c hc=>by
 obtain⟨x,_,rfl⟩:=List.mem_map.1 hr
 simp only[Lever.cells,List.mem_cons,List.not_mem_nil,or_false]at hc
 rcases hc with rfl | rfl<;>rfl
theorem Lever.rows_len (l:List Lever):(Lever.rows l).length=l.length:=by simp[Lever.rows]
theorem qot (l:List Lever) (left:Nat) (hl:left≤1048576) (hlen:l.length≤9223372036854775807) (_hx:∀x∈l,x.wf):HFn Tryz.prog 183 [.sl 2 (Lever.rows l), .int .i64 left] [] (.int .i64 (szR (Lever.szS l) left)) []:=by
 refine qaa hm Tryz.func183 (by kernel_rfl) rfl (by kernel_rfl) rfl qab ?_
 simp[Lever.rows]
 rw[w64 (n:=(left:Int)-l.length) (by omega) (by omega)]
 have hz:Lever.szS l=l.length:=by simp only[Lever.szS]; rw[show (l.map Lever.sz)=l.map (fun _=>0) from rfl,qfZ,Nat.add_zero]
 exact⟨fun h=>by rw[qam (by omega)],fun h=>by rw[qal (by omega)]; omega⟩
theorem qou (x:Lever):HFn Tryz.prog 281 [.agg x.cells] [] (.agg x.cells) []:=by
 refine qaa hm Tryz.func281 (by kernel_rfl) rfl (by kernel_rfl) rfl qab ?_
 simp[Lever.cells]
theorem qjQ (l:List Lever) (hl:l.length≤1048576):HFn Tryz.prog 216 [.sl 2 (Lever.rows l)] [] (.sf 0 2) [some (.arr 2 (Lever.rows l))]:=by
 refine qaa hm Tryz.func216 (by kernel_rfl) rfl (by kernel_rfl) rfl (qcY (ρ:=[0]) (φ:=[])) ?_
 simp[Lever.rows]
 refine⟨by omega,by omega,?_⟩
 refine qac hm l.length (fun i=>⟨[(0, .sl 2 (Lever.rows l)),(3, .sf 0 2),(4, .int .i64 i)],[some (.arr 2 ((l.take i).map Lever.cells++List.replicate (l.length-i) [.int .i64 0, .int .i64 0]))]⟩) (fun _=>True) (by kernel_rfl) ?_ trivial (fun i hi _ =>?_) (fun _ =>?_)
 ·exact Wk.weak (ρ:=[0]) (φ:=[]) (by simp[Lever.rows])
 ·obtain⟨X,hX,hXl,hXg⟩:=qbk Lever.cells l [.int .i64 0, .int .i64 0] hi
  rw[hX]
  have ea:=List.getElem?_eq_getElem hi
  simp[Lever.rows,hi]
  refine CallZ.use0 (qou _) rfl rfl ?_
  simp[Lever.cells,hi,hXl,hXg]
  refine Wk.weak (ρ:=[0]) (φ:=[]) ?_
  simp
  rw[w64 (by omega) (by omega),←hX]
  exact⟨rfl,qbC Lever.cells l [.int .i64 0, .int .i64 0] hi⟩
 ·simp[Lever.rows]
theorem qov (l:List Lever) (hl:l.length≤1048576):HFn Tryz.prog 216 [.sl 2 (Lever.rows l)] [] (.sl 2 (Lever.rows l)) []:=(qjQ l hl).less (Wk.weak (ρ:=[]) (φ:=[0]) (by simp))
theorem qow (a b:Lever):HFn Tryz.prog 326 [.agg a.cells, .agg b.cells] [] (.bool (decide (a=b))) []:=by
 refine qaa hm Tryz.func326 (by kernel_rfl) rfl (by kernel_rfl) rfl qab ?_
 simp[Lever.cells,Lever.eq_iff]
 grind
theorem qox (a b:List Lever) (ha:a.length≤9223372036854775807):HFn Tryz.prog 257 [.sl 2 (Lever.rows a), .sl 2 (Lever.rows b)] [] (.bool (decide (a=b))) []:=by
 refine qaa hm Tryz.func257 (by kernel_rfl) rfl (by kernel_rfl) rfl qab ?_
 simp[Lever.rows]
 refine⟨fun h =>?_,fun h =>?_⟩
 ·exact fun e=>h (by rw[e])
 ·refine qac hm a.length (fun i=>⟨[(0, .sl 2 (Lever.rows a)),(1, .sl 2 (Lever.rows b)),(5, .int .i64 i)],[]⟩) (fun i=>a.take i=b.take i) (by kernel_rfl) ?_ (by simp) (fun i hi hI =>?_) (fun hI =>?_)
  ·exact Wk.weak (ρ:=[]) (φ:=[]) (by simp[Lever.rows])
  ·have hl:a.length=b.length:=by omega
   have ea:=List.getElem?_eq_getElem hi
   have hi':i<b.length:=by omega
   have eb:=List.getElem?_eq_getElem hi'
   simp[Lever.rows,hi,hi']
   refine CallZ.use0 (qow a[i] b[i]) rfl rfl ?_
   simp
   refine⟨fun h e=>h (by simp[e]),fun h=>⟨qc0 hI ea eb h,?_⟩⟩
   refine Wk.weak (ρ:=[]) (φ:=[]) ?_
   simp
   exact w64 (by omega) (by omega)
  ·simp[Lever.rows]
   exact qc1 hI (by omega)
def Lever.mark (k:Int):Lever:=⟨k,k+1⟩
def Lever.marks (k:Int) (n:Nat):List Lever:=(List.range n).map fun i:Nat=>Lever.mark (k+2*i)
theorem qoy (l:List Lever) (k:Int) (hk:0≤k) (ha:2*l.length+k≤1000000000):MFn Tryz.prog 178 [.sf 0 2, .int .i64 k] [some (.arr 2 (Lever.rows l))] [0] (.int .i64 (k+2*l.length)) [some (.arr 2 (Lever.rows (Lever.marks k l.length)))]:=by
 refine qcn [0] hm Tryz.func178 (by kernel_rfl) rfl (by kernel_rfl) rfl (qcX (ρ:=[0]) (φ:=[])) (by simp[Lever.rows,Lever.marks]) ?_
 simp
 refine qac hm l.length (fun i=>⟨[(0, .sf 0 2),(1, .int .i64 (k+2*i)),(5, .int .i64 i),(27, .own 0)],[some (.arr 2 (Lever.rows (Lever.marks k i++l.drop i)))]⟩) (fun _=>True) (by kernel_rfl) ?_ trivial (fun i hi _ =>?_) (fun _ =>?_)
 ·refine Wk.weak (ρ:=[0]) (φ:=[]) ?_
  simp[Lever.rows,Lever.marks]
 ·obtain⟨X,hX,hl,hg⟩:=qa3 (fun j:Nat=>Lever.mark (k+2*j)) l hi
  rw[show Lever.marks k i++l.drop i=X from hX]
  simp[Lever.rows,Lever.cells,hl,hg,hi]
  rw[w64 (n:=k+2*(i:Int)+1) (by omega) (by omega)]
  rw[w64 (n:=k+2*(i:Int)+1+1) (by omega) (by omega)]
  refine Wk.weak (ρ:=[0]) (φ:=[]) ?_
  simp
  rw[w64 (by omega) (by omega),←hX]
  refine⟨by omega,?_⟩
  exact qc3 Lever.cells (fun j:Nat=>Lever.mark (k+2*j)) l hi
 ·simp[Lever.rows,Lever.marks]
end Go.Proofs.YteckngloamnfdaaGreatDoor
namespace Go.Proofs.YteckngloamnfdaaGreatDoor
open Go Go.Ab
set_option maxRecDepth 100000
structure Swing where
 bell:List UInt8
 rate:Int
 force:Int
theorem Swing.eq_iff {a b:Swing}:a=b↔a.bell=b.bell∧a.rate=b.rate∧a.force=b.force:=by cases a; cases b; simp
instance:DecidableEq Swing:=fun _ _=>decidable_of_iff _ Swing.eq_iff.symm
def Swing.cells (x:Swing):List PV:=[.str x.bell, .int .i64 x.rate, .int .i64 x.force]
def Swing.rows (l:List Swing):List (List PV):=l.map Swing.cells
theorem Swing.flat (l:List Swing):qbp (Swing.rows l):=fun r hr c hc=>by
 obtain⟨x,_,rfl⟩:=List.mem_map.1 hr
 simp only[Swing.cells,List.mem_cons,List.not_mem_nil,or_false]at hc
 rcases hc with rfl | rfl | rfl<;>rfl
theorem Swing.rows_len (l:List Swing):(Swing.rows l).length=l.length:=by simp[Swing.rows]
end Go.Proofs.YteckngloamnfdaaGreatDoor
namespace Go.Proofs.YteckngloamnfdaaGreatDoor
open Go Go.Ab
set_option maxRecDepth 100000
structure Trouble where
 kind:Int
 who:List UInt8
 what:List UInt8
theorem Trouble.eq_iff {a b:Trouble}:a=b↔a.kind=b.kind∧a.who=b.who∧a.what=b.what:=by cases a; cases b; simp
instance:DecidableEq Trouble:=fun _ _=>decidable_of_iff _ Trouble.eq_iff.symm
def Trouble.cells (x:Trouble):List PV:=[.int .i64 x.kind, .str x.who, .str x.what]
def Trouble.rows (l:List Trouble):List (List PV):=l.map Trouble.cells
theorem Trouble.flat (l:List Trouble):qbp (Trouble.rows l):=fun r hr c hc=>by
 obtain⟨x,_,rfl⟩:=List.mem_map.1 hr
 simp only[Trouble.cells,List.mem_cons,List.not_mem_nil,or_false]at hc
 rcases hc with rfl | rfl | rfl<;>rfl
theorem Trouble.rows_len (l:List Trouble):(Trouble.rows l).length=l.length:=by simp[Trouble.rows]
theorem Trouble.one (l:List Trouble):Go.Ab.rowsOne (Trouble.rows l):=fun r hr=>by obtain⟨x,_,rfl⟩:=List.mem_map.1 hr; rfl
end Go.Proofs.YteckngloamnfdaaGreatDoor
