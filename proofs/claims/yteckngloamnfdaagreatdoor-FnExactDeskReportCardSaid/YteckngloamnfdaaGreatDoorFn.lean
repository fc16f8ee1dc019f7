/- Contracts: valid carillons. No condition. Contracts: valid desks; the laws of ValidCarillon and ValidDesk. No condition. -/
import Derived.Test.YteckngloamnfdaaGreatDoorFl
import Derived.Test.YteckngloamnfdaaGreatDoorHg
import Derived.Test.YteckngloamnfdaaGreatDoorCh
namespace Go.Proofs.YteckngloamnfdaaGreatDoor
open Go Go.Ab
set_option maxRecDepth 100000
structure Carillon.small (c:Carillon):Prop where
 ingots:c.ingots.length≤1048576
 melts:c.melts.length≤1048576
 meltI:∀x∈c.melts,x.ingots.length≤1048576
 bells:c.bells.length≤1048576
 bellS:∀x∈c.bells,x.shares.length≤1048576
 hung:c.hung.length≤1048576
 places:c.places.length≤1048576
 frame:c.frame.length≤1048576
 beamL:∀x∈c.frame,x.loads.length≤1048576
 clavier:c.clavier.length≤1048576
 actL:∀x∈c.clavier,x.levers.length≤1048576
 tones:c.tune.tones.length≤1048576
theorem Carillon.small_of_sz {c:Carillon} (h:c.sz≤1048576):c.small:=by
 unfold Carillon.sz Ingot.szS Melt.szS Bell.szS Hung.szS Place.szS Beam.szS Action.szS Tune.sz Tone.szS at h
 refine⟨by omega,by omega,fun x hx =>?_,by omega,fun x hx =>?_,by omega,by omega,by omega,fun x hx =>?_,by omega,fun x hx =>?_,by omega⟩
 ·have:=qcq Melt.sz hx
  have e:x.ingots.length≤Melt.sz x:=by
   unfold Melt.sz qc4
   omega
  omega
 ·have:=qcq Bell.sz hx
  have e:x.shares.length≤Bell.sz x:=by
   unfold Bell.sz Share.szS
   omega
  omega
 ·have:=qcq Beam.sz hx
  have e:x.loads.length≤Beam.sz x:=by
   unfold Beam.sz Load.szS
   omega
  omega
 ·have:=qcq Action.sz hx
  have e:x.levers.length≤Action.sz x:=by
   unfold Action.sz Lever.szS
   omega
  omega
def carOk (c:Carillon):Bool:=qbw c.ingots&&qbc c.melts&&qcd c.bells&&(qcs c.hung&&qeb c.chamber&&qbL c.places&&(decide (0≤c.gap)&&decide (c.gap≤5000)))&&(qbW c.tower&&qc8 c.frame&&(decide (0≤c.stress)&&decide (c.stress≤1000000))&&(decide (0≤c.bending)&&decide (c.bending≤1000000)))&&qcx c.clavier&&qbK c.tune
set_option maxHeartbeats 4000000 in
theorem qkV (c:Carillon) (hs:c.small):HFn Tryz.prog 70 [.agg c.cells] [] (.bool (carOk c)) []:=by
 have kC:=qko c.chamber
 have kT:=qkp c.tower
 have kU:=qp1 c.tune hs.tones
 simp only[Chamber.cells,Tower.cells,Tune.cells]at kC kT kU
 refine qaa hm Tryz.func70 (by kernel_rfl) rfl (by kernel_rfl) rfl qab ?_
 simp[Carillon.cells]
 refine CallZ.use0 (qkr c.ingots hs.ingots) rfl rfl ?_
 simp
 repeat refine⟨by grind,?_⟩
 refine CallY.use (fun _=>⟨rfl,qhx c.melts hs.melts hs.meltI⟩) rfl rfl ?_
 simp
 repeat refine⟨by grind,?_⟩
 refine CallY.use (fun _=>⟨rfl,qkt c.bells hs.bells hs.bellS⟩) rfl rfl ?_
 simp
 repeat refine⟨by grind,?_⟩
 refine CallZ.use0 (qkb c.hung hs.hung) rfl rfl ?_
 simp
 repeat refine⟨by grind,?_⟩
 refine CallY.use (fun _=>⟨rfl,kC⟩) rfl rfl ?_
 simp
 repeat refine⟨by grind,?_⟩
 refine CallY.use (fun _=>⟨rfl,qhv c.places hs.places⟩) rfl rfl ?_
 simp
 repeat refine⟨by grind,?_⟩
 refine CallY.use (fun _=>⟨rfl,qkm c.gap⟩) rfl rfl ?_
 simp
 repeat refine⟨by grind,?_⟩
 refine CallZ.use0 (kT) rfl rfl ?_
 simp
 repeat refine⟨by grind,?_⟩
 refine CallY.use (fun _=>⟨rfl,qqx c.frame hs.frame hs.beamL⟩) rfl rfl ?_
 simp
 repeat refine⟨by grind,?_⟩
 refine CallY.use (fun _=>⟨rfl,qai _ _ _⟩) rfl rfl ?_
 simp
 repeat refine⟨by grind,?_⟩
 refine CallY.use (fun _=>⟨rfl,qai _ _ _⟩) rfl rfl ?_
 simp
 repeat refine⟨by grind,?_⟩
 refine CallY.use (fun _=>⟨rfl,qku c.clavier hs.clavier hs.actL⟩) rfl rfl ?_
 simp
 repeat refine⟨by grind,?_⟩
 refine CallY.use (fun _=>⟨rfl,kU⟩) rfl rfl ?_
 simp
 repeat refine⟨by grind,?_⟩
 simp[carOk]
 try grind
theorem qrl (c:Carillon) (tl:List PV) (w:Nat) (rows:List (List PV)) (i0:Nat) (hr:rows[i0]?=some (c.cells++tl)):HFn Tryz.prog 111 [.pe (w+20) rows i0 4] [] (.bool (qeb c.chamber)) []:=by
 have hi:i0<rows.length:=(List.getElem?_eq_some_iff.1 hr).1
 have hx:rows[i0]=c.cells++tl:=(List.getElem?_eq_some_iff.1 hr).2
 rw[Carillon.cells]at hr hx
 simp only[List.cons_append,List.nil_append]at hr hx
 refine qaa hm Tryz.func111 (by kernel_rfl) rfl (by kernel_rfl) rfl qab ?_
 simp[hi,hx]
 refine CallZ.use0 (qaj _ _ _) rfl rfl ?_
 simp[hi,hx]
 repeat refine⟨by grind,?_⟩
 refine CallY.use (fun _=>⟨rfl,qaj _ _ _⟩) rfl rfl ?_
 simp[hi,hx]
 repeat refine⟨by grind,?_⟩
 refine CallY.use (fun _=>⟨rfl,qaj _ _ _⟩) rfl rfl ?_
 simp
 repeat refine⟨by grind,?_⟩
 simp[qeb]
theorem qrm (c:Carillon) (tl:List PV) (w:Nat) (rows:List (List PV)) (i0:Nat) (hr:rows[i0]?=some (c.cells++tl)):HFn Tryz.prog 114 [.pe (w+20) rows i0 9] [] (.bool (qbW c.tower)) []:=by
 have hi:i0<rows.length:=(List.getElem?_eq_some_iff.1 hr).1
 have hx:rows[i0]=c.cells++tl:=(List.getElem?_eq_some_iff.1 hr).2
 rw[Carillon.cells]at hr hx
 simp only[List.cons_append,List.nil_append]at hr hx
 refine qaa hm Tryz.func114 (by kernel_rfl) rfl (by kernel_rfl) rfl qab ?_
 simp[hi,hx]
 refine CallZ.use0 (qba _) rfl rfl ?_
 simp[hi,hx]
 repeat refine⟨by grind,?_⟩
 refine CallY.use (fun _=>⟨rfl,qaj _ _ _⟩) rfl rfl ?_
 simp[hi,hx]
 repeat refine⟨by grind,?_⟩
 refine CallY.use (fun _=>⟨rfl,qaj _ _ _⟩) rfl rfl ?_
 simp[hi,hx]
 repeat refine⟨by grind,?_⟩
 refine CallY.use (fun _=>⟨rfl,qaj _ _ _⟩) rfl rfl ?_
 simp[hi,hx]
 repeat refine⟨by grind,?_⟩
 refine CallY.use (fun _=>⟨rfl,qaj _ _ _⟩) rfl rfl ?_
 simp
 repeat refine⟨by grind,?_⟩
 simp[qbW]
theorem qrn (c:Carillon) (tl:List PV) (w:Nat) (rows:List (List PV)) (i0:Nat) (hr:rows[i0]?=some (c.cells++tl)) (hl:c.tune.tones.length≤1048576):HFn Tryz.prog 118 [.pe (w+20) rows i0 18] [] (.bool (qbK c.tune)) []:=by
 have hi:i0<rows.length:=(List.getElem?_eq_some_iff.1 hr).1
 have hx:rows[i0]=c.cells++tl:=(List.getElem?_eq_some_iff.1 hr).2
 rw[Carillon.cells]at hr hx
 simp only[List.cons_append,List.nil_append]at hr hx
 generalize ht:c.tune=t at hl ⊢
 rw[ht]at hr hx
 refine qaa hm Tryz.func118 (by kernel_rfl) rfl (by kernel_rfl) rfl qab ?_
 simp
 refine qac hm t.tones.length (fun i=>⟨[(0, .pe (w+20) rows i0 18),(3, .int .i64 i)],[]⟩) (fun i=>∀j,j<i→qcu t.tones j=true) (by kernel_rfl) ?_ (by simp) (fun i hi' hI =>?_) (fun hI =>?_)
 ·exact Wk.weak (ρ:=[]) (φ:=[]) (by simp)
 ·have e1:IntKind.i64.wrap ((i:Int)-1)=i-1:=w64 (by omega) (by omega)
  have hil:i-1<t.tones.length:=by omega
  have ho:=qgb hi'
  simp[Tone.rows_len,hi,hx,hi']
  refine CallZ.use0 (qkk t.tones[i] _ i (by simp[Tone.rows,hi'])) rfl rfl ?_
  simp[Tone.rows_len,e1,hi,hx,hi']
  refine⟨fun a b=>⟨a,b⟩,fun a b=>⟨⟨a,b⟩,by omega,by omega⟩,fun a b=>⟨a,b⟩,CallY.use (res := .bool (qdK t.tones[i-1] t.tones[i])) (fun _=>⟨rfl,qkl t.tones[i-1] t.tones[i] _ _ (i-1) i (by simp[Tone.rows,hil]) (by simp[Tone.rows,hi'])⟩) rfl rfl ?_⟩
  simp
  refine⟨by grind,fun h =>?_,fun h1 h2=>⟨qaN hI ?_,?_⟩⟩
  ·have:qcu t.tones i=false:=by
    rw[ho]
    rcases h with h | ⟨h,h'⟩
    ·simp[h]
    ·have h4:¬i=0:=by omega
     simp[h',h4]
   simp[qbK,qaG hi' this]
  ·rw[ho,h1]
   by_cases h4:i=0
   ·simp[h4]
   ·simp[h2 (by omega)]
  ·refine Wk.weak (ρ:=[]) (φ:=[]) ?_
   simp
   exact w64 (by omega) (by omega)
 ·simp[Tone.rows_len,hi,hx]
  have hall:(List.range t.tones.length).all (qcu t.tones)=true:=qaM hI
  refine CallZ.use0 (qba t.name) rfl rfl ?_
  simp[qbK,hall,Tone.rows_len,hi,hx]
  have h128:((t.tones.length:Int)≤128)↔t.tones.length≤128:=by omega
  simp[h128]
set_option maxHeartbeats 4000000 in
theorem qkW (c:Carillon) (tl:List PV) (w:Nat) (rows:List (List PV)) (i0:Nat) (hr:rows[i0]?=some (c.cells++tl)) (hs:c.small):HFn Tryz.prog 54 [.pe (w+20) rows i0 0] [] (.bool (carOk c)) []:=by
 have hi:i0<rows.length:=(List.getElem?_eq_some_iff.1 hr).1
 have hx:rows[i0]=c.cells++tl:=(List.getElem?_eq_some_iff.1 hr).2
 have kC:=qrl c tl w rows i0 hr
 have kT:=qrm c tl w rows i0 hr
 have kU:=qrn c tl w rows i0 hr hs.tones
 rw[Carillon.cells]at hr hx
 simp only[List.cons_append,List.nil_append]at hr hx
 refine qaa hm Tryz.func54 (by kernel_rfl) rfl (by kernel_rfl) rfl qab ?_
 simp[hi,hx]
 refine CallZ.use0 (qks c.ingots hs.ingots) rfl rfl ?_
 simp[hi,hx]
 repeat refine⟨by grind,?_⟩
 refine CallY.use (fun _=>⟨rfl,qfg c.melts hs.melts hs.meltI⟩) rfl rfl ?_
 simp[hi,hx]
 repeat refine⟨by grind,?_⟩
 refine CallY.use (fun _=>⟨rfl,qhw c.bells hs.bells hs.bellS⟩) rfl rfl ?_
 simp[hi,hx]
 repeat refine⟨by grind,?_⟩
 refine CallY.use (fun _=>⟨rfl,qpI c.hung hs.hung⟩) rfl rfl ?_
 simp
 repeat refine⟨by grind,?_⟩
 refine⟨fun h =>?_,?_⟩
 ·rw[carOk]
  grind
 intro a1 a2 a3 a4
 refine CallZ.use0 (kC) rfl rfl ?_
 simp[hi,hx]
 repeat refine⟨by grind,?_⟩
 refine CallY.use (fun _=>⟨rfl,qqw c.places hs.places⟩) rfl rfl ?_
 simp[hi,hx]
 repeat refine⟨by grind,?_⟩
 refine CallY.use (fun _=>⟨rfl,qp5 c.gap⟩) rfl rfl ?_
 simp
 repeat refine⟨by grind,?_⟩
 refine CallY.use (fun _=>⟨rfl,kT⟩) rfl rfl ?_
 simp[hi,hx]
 repeat refine⟨by grind,?_⟩
 refine CallY.use (fun _=>⟨rfl,qqy c.frame hs.frame hs.beamL⟩) rfl rfl ?_
 simp[hi,hx]
 repeat refine⟨by grind,?_⟩
 refine⟨fun h =>?_,?_⟩
 ·rw[carOk]
  grind
 intro a5 a6 a7 a8 a9 a10
 refine CallZ.use0 (qaj _ _ _) rfl rfl ?_
 simp[hi,hx]
 repeat refine⟨by grind,?_⟩
 refine CallY.use (fun _=>⟨rfl,qaj _ _ _⟩) rfl rfl ?_
 simp[hi,hx]
 repeat refine⟨by grind,?_⟩
 refine CallY.use (fun _=>⟨rfl,qkv c.clavier hs.clavier hs.actL⟩) rfl rfl ?_
 simp
 repeat refine⟨by grind,?_⟩
 refine CallY.use (fun _=>⟨rfl,kU⟩) rfl rfl ?_
 simp
 repeat refine⟨by grind,?_⟩
 rw[carOk]
 grind
end Go.Proofs.YteckngloamnfdaaGreatDoor
namespace Go.Proofs.YteckngloamnfdaaGreatDoor
open Go Go.Ab
set_option maxRecDepth 100000
def qc9 (d:Desk):Bool:=carOk d.carillon&&qcH d.orders&&qcP d.records
structure Desk.small (d:Desk):Prop where
 car:d.carillon.small
 orders:d.orders.length≤1048576
 records:d.records.length≤1048576
theorem Desk.small_of_sz {d:Desk} (h:d.sz≤1048576):d.small:=by
 unfold Desk.sz Order.szS Record.szS at h
 exact⟨Carillon.small_of_sz (by omega),by omega,by omega⟩
theorem qro (d:Desk) (hs:d.small) (hw:d.wf):HFn Tryz.prog 23 [.agg d.cells] [] (.bool (qc9 d)) []:=by
 have kC:=qkV d.carillon hs.car
 simp only[Carillon.cells]at kC
 refine qaa hm Tryz.func23 (by kernel_rfl) rfl (by kernel_rfl) rfl qab ?_
 simp[Desk.cells]
 refine CallZ.use0 kC rfl rfl ?_
 simp
 refine CallY.use (fun _=>⟨rfl,qps d.orders hs.orders⟩) rfl rfl ?_
 simp
 repeat refine⟨by grind,?_⟩
 refine CallY.use (fun _=>⟨rfl,qrj d.records hs.records hw.records.2⟩) rfl rfl ?_
 simp[qc9]
theorem qrp (d:Desk) (hs:d.small) (hw:d.wf):HFn Tryz.prog 16 [.pe 22 [d.cells] 0 0] [] (.bool (qc9 d)) []:=by
 have kC:=qkW d.carillon [.sl 5 (Order.rows d.orders), .sl 3 (Record.rows d.records)] 2 [d.cells] 0 (by simp[Desk.cells,Carillon.cells]) hs.car
 simp only[Nat.reduceAdd]at kC
 rw[Desk.cells]at kC ⊢
 refine qaa hm Tryz.func16 (by kernel_rfl) rfl (by kernel_rfl) rfl qab ?_
 simp
 refine CallZ.use0 kC rfl rfl ?_
 simp
 refine CallY.use (fun _=>⟨rfl,qpu d.orders hs.orders⟩) rfl rfl ?_
 simp
 repeat refine⟨by grind,?_⟩
 refine CallY.use (fun _=>⟨rfl,qrk d.records hs.records hw.records.2⟩) rfl rfl ?_
 simp[qc9]
end Go.Proofs.YteckngloamnfdaaGreatDoor
