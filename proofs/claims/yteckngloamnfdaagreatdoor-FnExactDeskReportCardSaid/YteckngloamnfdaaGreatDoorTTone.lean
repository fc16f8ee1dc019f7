/- The type Tone as plain data, and what the functions of package laws do with it. No condition. -/
import Derived.Test.YteckngloamnfdaaGreatDoorCd
import Derived.Test.YteckngloamnfdaaGreatDoorKe
namespace Go.Proofs.YteckngloamnfdaaGreatDoor
open Go Go.Ab
set_option maxRecDepth 100000
structure Tone where
 note:Int
 start:Int
 length:Int
theorem Tone.eq_iff {a b:Tone}:a=b↔a.note=b.note∧a.start=b.start∧a.length=b.length:=by cases a; cases b; simp
instance:DecidableEq Tone:=fun _ _=>decidable_of_iff _ Tone.eq_iff.symm
def Tone.cells (x:Tone):List PV:=[.int .i64 x.note, .int .i64 x.start, .int .i64 x.length]
def Tone.rows (l:List Tone):List (List PV):=l.map Tone.cells
def Tone.sz (_:Tone):Nat:=0
def Tone.szS (l:List Tone):Nat:=l.length+(l.map Tone.sz).sum
def Tone.wf (x:Tone):Prop := -9223372036854775808≤x.note∧x.note≤9223372036854775807 ∧ -9223372036854775808≤x.start∧x.start≤9223372036854775807 ∧ -9223372036854775808≤x.length∧x.length≤9223372036854775807
theorem Tone.fits {cs:List PV} (h:fitsL [.int .i64, .int .i64, .int .i64] cs):∃x:Tone,cs=x.cells∧x.wf:=by
 obtain⟨_,_,rfl,h0,h⟩:=qah h
 obtain⟨_,_,rfl,h1,h⟩:=qah h
 obtain⟨_,_,rfl,h2,h⟩:=qah h
 obtain rfl:=qbH h
 obtain⟨v0,rfl,w0⟩:=qaq h0
 obtain⟨v1,rfl,w1⟩:=qaq h1
 obtain⟨v2,rfl,w2⟩:=qaq h2
 exact⟨⟨v0,v1,v2⟩,rfl,(lit64 w0).1,(lit64 w0).2,(lit64 w1).1,(lit64 w1).2,(lit64 w2).1,(lit64 w2).2⟩
theorem Tone.fitsS {rows:List (List PV)} (h:∀r∈rows,fitsL [.int .i64, .int .i64, .int .i64] r):∃l:List Tone,rows=Tone.rows l∧∀x∈l,x.wf:=qbD fun r hr=>Tone.fits (h r hr)
theorem Tone.flat (l:List Tone):qbp (Tone.rows l):=fun r hr c hc=>by
 obtain⟨x,_,rfl⟩:=List.mem_map.1 hr
 simp only[Tone.cells,List.mem_cons,List.not_mem_nil,or_false]at hc
 rcases hc with rfl | rfl | rfl<;>rfl
theorem Tone.rows_len (l:List Tone):(Tone.rows l).length=l.length:=by simp[Tone.rows]
theorem qoz (l:List Tone) (left:Nat) (hl:left≤1048576) (hlen:l.length≤9223372036854775807) (_hx:∀x∈l,x.wf):HFn Tryz.prog 106 [.sl 3 (Tone.rows l), .int .i64 left] [] (.int .i64 (szR (Tone.szS l) left)) []:=by
 refine qaa hm Tryz.func106 (by kernel_rfl) rfl (by kernel_rfl) rfl qab ?_
 simp[Tone.rows]
 rw[w64 (n:=(left:Int)-l.length) (by omega) (by omega)]
 have hz:Tone.szS l=l.length:=by simp only[Tone.szS]; rw[show (l.map Tone.sz)=l.map (fun _=>0) from rfl,qfZ,Nat.add_zero]
 exact⟨fun h=>by rw[qam (by omega)],fun h=>by rw[qal (by omega)]; omega⟩
theorem qoA (x:Tone):HFn Tryz.prog 217 [.agg x.cells] [] (.agg x.cells) []:=by
 refine qaa hm Tryz.func217 (by kernel_rfl) rfl (by kernel_rfl) rfl qab ?_
 simp[Tone.cells]
theorem qjR (l:List Tone) (hl:l.length≤1048576):HFn Tryz.prog 133 [.sl 3 (Tone.rows l)] [] (.sf 0 3) [some (.arr 3 (Tone.rows l))]:=by
 refine qaa hm Tryz.func133 (by kernel_rfl) rfl (by kernel_rfl) rfl (qcY (ρ:=[0]) (φ:=[])) ?_
 simp[Tone.rows]
 refine⟨by omega,by omega,?_⟩
 refine qac hm l.length (fun i=>⟨[(0, .sl 3 (Tone.rows l)),(3, .sf 0 3),(4, .int .i64 i)],[some (.arr 3 ((l.take i).map Tone.cells++List.replicate (l.length-i) [.int .i64 0, .int .i64 0, .int .i64 0]))]⟩) (fun _=>True) (by kernel_rfl) ?_ trivial (fun i hi _ =>?_) (fun _ =>?_)
 ·exact Wk.weak (ρ:=[0]) (φ:=[]) (by simp[Tone.rows])
 ·obtain⟨X,hX,hXl,hXg⟩:=qbk Tone.cells l [.int .i64 0, .int .i64 0, .int .i64 0] hi
  rw[hX]
  have ea:=List.getElem?_eq_getElem hi
  simp[Tone.rows,hi]
  refine CallZ.use0 (qoA _) rfl rfl ?_
  simp[Tone.cells,hi,hXl,hXg]
  refine Wk.weak (ρ:=[0]) (φ:=[]) ?_
  simp
  rw[w64 (by omega) (by omega),←hX]
  exact⟨rfl,qbC Tone.cells l [.int .i64 0, .int .i64 0, .int .i64 0] hi⟩
 ·simp[Tone.rows]
theorem qoB (l:List Tone) (hl:l.length≤1048576):HFn Tryz.prog 133 [.sl 3 (Tone.rows l)] [] (.sl 3 (Tone.rows l)) []:=(qjR l hl).less (Wk.weak (ρ:=[]) (φ:=[0]) (by simp))
theorem qoC (a b:Tone):HFn Tryz.prog 258 [.agg a.cells, .agg b.cells] [] (.bool (decide (a=b))) []:=by
 refine qaa hm Tryz.func258 (by kernel_rfl) rfl (by kernel_rfl) rfl qab ?_
 simp[Tone.cells,Tone.eq_iff]
 grind
theorem qoD (a b:List Tone) (ha:a.length≤9223372036854775807):HFn Tryz.prog 175 [.sl 3 (Tone.rows a), .sl 3 (Tone.rows b)] [] (.bool (decide (a=b))) []:=by
 refine qaa hm Tryz.func175 (by kernel_rfl) rfl (by kernel_rfl) rfl qab ?_
 simp[Tone.rows]
 refine⟨fun h =>?_,fun h =>?_⟩
 ·exact fun e=>h (by rw[e])
 ·refine qac hm a.length (fun i=>⟨[(0, .sl 3 (Tone.rows a)),(1, .sl 3 (Tone.rows b)),(5, .int .i64 i)],[]⟩) (fun i=>a.take i=b.take i) (by kernel_rfl) ?_ (by simp) (fun i hi hI =>?_) (fun hI =>?_)
  ·exact Wk.weak (ρ:=[]) (φ:=[]) (by simp[Tone.rows])
  ·have hl:a.length=b.length:=by omega
   have ea:=List.getElem?_eq_getElem hi
   have hi':i<b.length:=by omega
   have eb:=List.getElem?_eq_getElem hi'
   simp[Tone.rows,hi,hi']
   refine CallZ.use0 (qoC a[i] b[i]) rfl rfl ?_
   simp
   refine⟨fun h e=>h (by simp[e]),fun h=>⟨qc0 hI ea eb h,?_⟩⟩
   refine Wk.weak (ρ:=[]) (φ:=[]) ?_
   simp
   exact w64 (by omega) (by omega)
  ·simp[Tone.rows]
   exact qc1 hI (by omega)
def Tone.mark (k:Int):Tone:=⟨k,k+1,k+1+1⟩
def Tone.marks (k:Int) (n:Nat):List Tone:=(List.range n).map fun i:Nat=>Tone.mark (k+3*i)
theorem qoE (l:List Tone) (k:Int) (hk:0≤k) (ha:3*l.length+k≤1000000000):MFn Tryz.prog 179 [.sf 0 3, .int .i64 k] [some (.arr 3 (Tone.rows l))] [0] (.int .i64 (k+3*l.length)) [some (.arr 3 (Tone.rows (Tone.marks k l.length)))]:=by
 refine qcn [0] hm Tryz.func179 (by kernel_rfl) rfl (by kernel_rfl) rfl (qcX (ρ:=[0]) (φ:=[])) (by simp[Tone.rows,Tone.marks]) ?_
 simp
 refine qac hm l.length (fun i=>⟨[(0, .sf 0 3),(1, .int .i64 (k+3*i)),(5, .int .i64 i),(34, .own 0)],[some (.arr 3 (Tone.rows (Tone.marks k i++l.drop i)))]⟩) (fun _=>True) (by kernel_rfl) ?_ trivial (fun i hi _ =>?_) (fun _ =>?_)
 ·refine Wk.weak (ρ:=[0]) (φ:=[]) ?_
  simp[Tone.rows,Tone.marks]
 ·obtain⟨X,hX,hl,hg⟩:=qa3 (fun j:Nat=>Tone.mark (k+3*j)) l hi
  rw[show Tone.marks k i++l.drop i=X from hX]
  simp[Tone.rows,Tone.cells,hl,hg,hi]
  rw[w64 (n:=k+3*(i:Int)+1) (by omega) (by omega)]
  rw[w64 (n:=k+3*(i:Int)+1+1) (by omega) (by omega)]
  rw[w64 (n:=k+3*(i:Int)+1+1+1) (by omega) (by omega)]
  refine Wk.weak (ρ:=[0]) (φ:=[]) ?_
  simp
  rw[w64 (by omega) (by omega),←hX]
  refine⟨by omega,?_⟩
  exact qc3 Tone.cells (fun j:Nat=>Tone.mark (k+3*j)) l hi
 ·simp[Tone.rows,Tone.marks]
end Go.Proofs.YteckngloamnfdaaGreatDoor
