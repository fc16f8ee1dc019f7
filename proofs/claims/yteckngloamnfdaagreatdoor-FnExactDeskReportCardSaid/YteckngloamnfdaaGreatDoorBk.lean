/- Contracts: beams under their loads. No condition. -/
import Derived.Test.YteckngloamnfdaaGreatDoorBj
namespace Go.Proofs.YteckngloamnfdaaGreatDoor
open Go Go.Ab
set_option maxRecDepth 100000
structure BeamIn (b:Beam):Prop where
 s0:1≤b.span
 s1:b.span≤6000
 w0:20≤b.width
 w1:b.width≤1000
 d0:20≤b.depth
 d1:b.depth≤1000
 o0:1000≤b.wood
 o1:b.wood≤20000
 len:b.loads.length≤8
 ld:∀x∈b.loads,(0≤x.k_at∧x.k_at≤b.span)∧1≤x.weight∧x.weight≤200000
theorem qsV {b:Beam} (h:qbu b=true):BeamIn b:=by
 simp only[qbu,Bool.and_eq_true,decide_eq_true_eq]at h
 obtain⟨h1,h2⟩:=h
 refine⟨by omega,by omega,by omega,by omega,by omega,by omega,by omega,by omega,by omega,fun x hx =>?_⟩
 have:=qdn h1 x hx
 simp only[qbd,Bool.and_eq_true,decide_eq_true_eq]at this
 exact this
theorem qbB {a b A B:Int} (h0:0≤a) (h1:a≤A) (g0:0≤b) (g1:b≤B):0≤a*b∧a*b≤A*B :=
 ⟨Int.mul_nonneg h0 g0,Int.mul_le_mul h1 g1 g0 (by omega)⟩
def mom1 (b:Beam) (x:Int) (l:Load):Int:=l.weight*(b.span-l.k_at)*x
def mom2 (b:Beam) (x:Int) (l:Load):Int:=l.weight*(x-l.k_at)*b.span
def momU (b:Beam) (x:Int):List Load→Int
 | []=>0
 | l::r=>mom1 b x l-(if l.k_at<x then mom2 b x l else 0)+momU b x r
theorem qsW (b:Beam) (x:Int) (l r:List Load):momU b x (l++r)=momU b x l+momU b x r:=by
 induction l with
 | nil=>simp[momU]
 | cons y l ih=>simp only[List.cons_append,momU,ih]; omega
theorem qhO (b:Beam) (x:Int) (l:List Load) {i:Nat} (hi:i<l.length):momU b x (l.take (i+1))=momU b x (l.take i)+(mom1 b x l[i]-(if l[i].k_at<x then mom2 b x l[i] else 0)):=by
 rw[←List.take_append_getElem hi,qsW]
 simp[momU]
def bigM (b:Beam):Int:=200000*(b.span*b.span)
theorem qeR {b:Beam} (h:BeamIn b):0≤bigM b∧bigM b≤7200000000000:=by
 have:=h.s0
 have:=qbB (a:=b.span) (b:=b.span) (A:=6000) (B:=6000) (by omega) h.s1 (by omega) h.s1
 unfold bigM
 omega
theorem wd_in {b:Beam} (h:BeamIn b) {w d:Int} (w0:1≤w) (w1:w≤200000) (d0:0≤d) (d1:d≤b.span):0≤w*d∧w*d≤1200000000:=by
 have:=h.s1
 have:=qbB (a:=w) (b:=d) (A:=200000) (B:=6000) (by omega) w1 d0 (by omega)
 omega
theorem qlI {b:Beam} (_h:BeamIn b) {w d x:Int} (w0:1≤w) (w1:w≤200000) (d0:0≤d) (d1:d≤b.span) (x0:0≤x) (x1:x≤b.span):0≤w*d*x∧w*d*x≤bigM b:=by
 have e1:=qbB (a:=d) (b:=x) d0 d1 x0 x1
 have e2:=qbB (a:=w) (b:=d*x) (A:=200000) (B:=b.span*b.span) (by omega) w1 e1.1 e1.2
 rw[Int.mul_assoc]
 exact e2
theorem qhP {b:Beam} (h:BeamIn b) {x:Int} (x0:0≤x) (x1:x≤b.span) {l:Load} (hl:l∈b.loads):0≤mom1 b x l∧mom1 b x l≤bigM b:=by
 obtain⟨⟨a0,a1⟩,w0,w1⟩:=h.ld l hl
 exact qlI h w0 w1 (by omega) (by omega) x0 x1
theorem qhQ {b:Beam} (h:BeamIn b) {x:Int} (x1:x≤b.span) {l:Load} (hl:l∈b.loads) (hx:l.k_at<x):0≤mom2 b x l∧mom2 b x l≤bigM b:=by
 obtain⟨⟨a0,a1⟩,w0,w1⟩:=h.ld l hl
 have:=h.s0
 exact qlI h w0 w1 (by omega) (by omega) (by omega) (by omega)
theorem qlJ {b:Beam} (h:BeamIn b) {x:Int} (x0:0≤x) (x1:x≤b.span):∀i,i≤b.loads.length → -(bigM b*i)≤momU b x (b.loads.take i)∧momU b x (b.loads.take i)≤bigM b*i:=by
 intro i
 induction i with
 | zero=>simp[momU]
 | succ i ih =>
  intro hi
  have h1:=ih (by omega)
  have hi':i<b.loads.length:=by omega
  rw[qhO b x b.loads hi']
  have e1:=qhP h x0 x1 (List.getElem_mem hi')
  have e3:bigM b*((i+1:Nat):Int)=bigM b*i+bigM b:=by rw[Int.natCast_add,Int.mul_add]; simp
  split
  ·rename_i hx
   have e2:=qhQ h x1 (List.getElem_mem hi') hx
   omega
  ·omega
theorem qgy {b:Beam} (h:BeamIn b) {x:Int} (x0:0≤x) (x1:x≤b.span) {i:Nat} (hi:i≤b.loads.length) : -57600000000000≤momU b x (b.loads.take i)∧momU b x (b.loads.take i)≤57600000000000:=by
 obtain⟨m0,m1⟩:=qeR h
 have h8:=h.len
 have h1:=qlJ h x0 x1 i hi
 have h2:=qbB (a:=bigM b) (b:=(i:Int)) (A:=7200000000000) (B:=8) m0 m1 (by omega) (by omega)
 omega
def momV (b:Beam) (x:Int):Int:=momU b x b.loads
theorem qsX {b:Beam} (h:BeamIn b) {x:Int} (x0:0≤x) (x1:x≤b.span):momV b x≤8*bigM b:=by
 have h1:=qlJ h x0 x1 b.loads.length (Nat.le_refl _)
 rw[List.take_length]at h1
 have h8:=h.len
 obtain⟨m0,m1⟩:=qeR h
 have h2:=Int.mul_le_mul_of_nonneg_left (show (b.loads.length:Int)≤8 by omega) m0
 unfold momV
 omega
set_option maxHeartbeats 4000000 in
theorem qsY (b:Beam) (h:BeamIn b) (x:Int) (x0:0≤x) (x1:x≤b.span):HFn Tryz.prog 315 [.agg b.cells, .int .i64 x] [] (.int .i64 (momV b x)) []:=by
 have h8:=h.len
 have s0:=h.s0
 have s1:=h.s1
 obtain⟨m0,m1⟩:=qeR h
 refine qaa hm Tryz.func315 (by kernel_rfl) rfl (by kernel_rfl) rfl qab ?_
 simp[Beam.cells,Load.rows_len]
 refine qac hm b.loads.length (fun i=>⟨[(1, .int .i64 x),(2, .pb 0 0),(5, .int .i64 (momU b x (b.loads.take i))),(9, .sl 2 (Load.rows b.loads)),(10, .int .i64 b.loads.length),(11, .int .i64 i)],[some (.box b.cells)]⟩) (fun _=>True) (by kernel_rfl) ?_ trivial (fun i hi _ =>?_) (fun _ =>?_)
 ·exact Wk.weak (ρ:=[0]) (φ:=[]) (by simp[Beam.cells,momU])
 ·have w1:IntKind.i64.wrap ((i:Int)+1)=(i:Int)+1:=w64 (by omega) (by omega)
  have hmem:=List.getElem_mem hi
  obtain⟨⟨a0,a1⟩,v0,v1⟩:=h.ld _ hmem
  have u0:=qgy h x0 x1 (i:=i) (by omega)
  have u1:=qgy h x0 x1 (i:=i+1) (by omega)
  have st:=qhO b x b.loads hi
  obtain⟨p0,p1⟩:=qhP h x0 x1 hmem
  have c1:IntKind.i64.wrap (b.span-b.loads[i].k_at)=b.span-b.loads[i].k_at:=w64 (by omega) (by omega)
  obtain⟨q0,q1⟩:=wd_in h v0 v1 (d:=b.span-b.loads[i].k_at) (by omega) (by omega)
  have c2:IntKind.i64.wrap (b.loads[i].weight*(b.span-b.loads[i].k_at))=b.loads[i].weight*(b.span-b.loads[i].k_at):=w64 (by omega) (by omega)
  have c3:IntKind.i64.wrap (b.loads[i].weight*(b.span-b.loads[i].k_at)*x)=mom1 b x b.loads[i]:=w64 (n:=mom1 b x b.loads[i]) (by omega) (by omega)
  have c4:IntKind.i64.wrap (momU b x (b.loads.take i)+mom1 b x b.loads[i])=momU b x (b.loads.take i)+mom1 b x b.loads[i]:=w64 (by omega) (by omega)
  rw[st]at u1 ⊢
  by_cases hx:b.loads[i].k_at<x
  ·have c5:IntKind.i64.wrap (x-b.loads[i].k_at)=x-b.loads[i].k_at:=w64 (by omega) (by omega)
   obtain⟨r0,r1⟩:=wd_in h v0 v1 (d:=x-b.loads[i].k_at) (by omega) (by omega)
   obtain⟨t0,t1⟩:=qhQ h x1 hmem hx
   have c6:IntKind.i64.wrap (b.loads[i].weight*(x-b.loads[i].k_at))=b.loads[i].weight*(x-b.loads[i].k_at):=w64 (by omega) (by omega)
   have c7:IntKind.i64.wrap (b.loads[i].weight*(x-b.loads[i].k_at)*b.span)=mom2 b x b.loads[i]:=w64 (n:=mom2 b x b.loads[i]) (by omega) (by omega)
   have c8:IntKind.i64.wrap (momU b x (b.loads.take i)+mom1 b x b.loads[i]-mom2 b x b.loads[i])=momU b x (b.loads.take i)+mom1 b x b.loads[i]-mom2 b x b.loads[i]:=w64 (by omega) (by omega)
   generalize momU b x (b.loads.take i)=U at *
   simp[Beam.cells,Load.rows,Load.cells,hi,hx,c1,c2,c3,c4,c5,c6,c7,c8]
   refine Wk.weak (ρ:=[0]) (φ:=[]) ?_
   simp[w1]
   omega
  ·generalize momU b x (b.loads.take i)=U at *
   simp[Beam.cells,Load.rows,Load.cells,hi,hx,c1,c2,c3,c4]
   refine Wk.weak (ρ:=[0]) (φ:=[]) ?_
   simp[w1]
 ·rw[List.take_length]
  simp[momV]
set_option maxHeartbeats 4000000 in
theorem qsZ (b:Beam) (h:BeamIn b) (rows:List (List PV)) (i0:Nat) (hr:rows[i0]?=some b.cells) (x:Int) (x0:0≤x) (x1:x≤b.span):HFn Tryz.prog 336 [.pe 6 rows i0 0, .int .i64 x] [] (.int .i64 (momV b x)) []:=by
 have h8:=h.len
 have s0:=h.s0
 have s1:=h.s1
 obtain⟨m0,m1⟩:=qeR h
 have hi0:i0<rows.length:=(List.getElem?_eq_some_iff.1 hr).1
 have hx0:rows[i0]=b.cells:=(List.getElem?_eq_some_iff.1 hr).2
 rw[Beam.cells]at hr hx0
 refine qaa hm Tryz.func336 (by kernel_rfl) rfl (by kernel_rfl) rfl qab ?_
 simp
 refine qac hm b.loads.length (fun i=>⟨[(0, .pe 6 rows i0 0),(1, .int .i64 x),(5, .int .i64 (momU b x (b.loads.take i))),(6, .int .i64 i)],[]⟩) (fun _=>True) (by kernel_rfl) ?_ trivial (fun i hi _ =>?_) (fun _ =>?_)
 ·exact Wk.weak (ρ:=[]) (φ:=[]) (by simp[momU])
 ·have w1:IntKind.i64.wrap ((i:Int)+1)=(i:Int)+1:=w64 (by omega) (by omega)
  have hmem:=List.getElem_mem hi
  obtain⟨⟨a0,a1⟩,v0,v1⟩:=h.ld _ hmem
  have u0:=qgy h x0 x1 (i:=i) (by omega)
  have u1:=qgy h x0 x1 (i:=i+1) (by omega)
  have st:=qhO b x b.loads hi
  obtain⟨p0,p1⟩:=qhP h x0 x1 hmem
  have c1:IntKind.i64.wrap (b.span-b.loads[i].k_at)=b.span-b.loads[i].k_at:=w64 (by omega) (by omega)
  obtain⟨q0,q1⟩:=wd_in h v0 v1 (d:=b.span-b.loads[i].k_at) (by omega) (by omega)
  have c2:IntKind.i64.wrap (b.loads[i].weight*(b.span-b.loads[i].k_at))=b.loads[i].weight*(b.span-b.loads[i].k_at):=w64 (by omega) (by omega)
  have c3:IntKind.i64.wrap (b.loads[i].weight*(b.span-b.loads[i].k_at)*x)=mom1 b x b.loads[i]:=w64 (n:=mom1 b x b.loads[i]) (by omega) (by omega)
  have c4:IntKind.i64.wrap (momU b x (b.loads.take i)+mom1 b x b.loads[i])=momU b x (b.loads.take i)+mom1 b x b.loads[i]:=w64 (by omega) (by omega)
  rw[st]at u1 ⊢
  by_cases hx:b.loads[i].k_at<x
  ·have c5:IntKind.i64.wrap (x-b.loads[i].k_at)=x-b.loads[i].k_at:=w64 (by omega) (by omega)
   obtain⟨r0,r1⟩:=wd_in h v0 v1 (d:=x-b.loads[i].k_at) (by omega) (by omega)
   obtain⟨t0,t1⟩:=qhQ h x1 hmem hx
   have c6:IntKind.i64.wrap (b.loads[i].weight*(x-b.loads[i].k_at))=b.loads[i].weight*(x-b.loads[i].k_at):=w64 (by omega) (by omega)
   have c7:IntKind.i64.wrap (b.loads[i].weight*(x-b.loads[i].k_at)*b.span)=mom2 b x b.loads[i]:=w64 (n:=mom2 b x b.loads[i]) (by omega) (by omega)
   have c8:IntKind.i64.wrap (momU b x (b.loads.take i)+mom1 b x b.loads[i]-mom2 b x b.loads[i])=momU b x (b.loads.take i)+mom1 b x b.loads[i]-mom2 b x b.loads[i]:=w64 (by omega) (by omega)
   generalize momU b x (b.loads.take i)=U at *
   simp[hi0,hx0,Load.rows,Load.cells,hi,hx,c1,c2,c3,c4,c5,c6,c7,c8]
   refine Wk.weak (ρ:=[]) (φ:=[]) ?_
   simp[w1]
   omega
  ·generalize momU b x (b.loads.take i)=U at *
   simp[hi0,hx0,Load.rows,Load.cells,hi,hx,c1,c2,c3,c4]
   refine Wk.weak (ρ:=[]) (φ:=[]) ?_
   simp[w1]
 ·rw[List.take_length]
  simp[hi0,hx0,Load.rows_len,momV]
def bestM (b:Beam):List Load→Int×Int:=List.foldl (fun p l=>if p.2<momV b l.k_at then (l.k_at,momV b l.k_at) else p) (0,0)
theorem qhR (b:Beam) (l:List Load) {i:Nat} (hi:i<l.length):bestM b (l.take (i+1))=if (bestM b (l.take i)).2<momV b l[i].k_at then (l[i].k_at,momV b l[i].k_at) else bestM b (l.take i):=by
 unfold bestM
 rw[←List.take_append_getElem hi,List.foldl_append]
 rfl
theorem qs0 {b:Beam} (h:BeamIn b):∀i,0≤(bestM b (b.loads.take i)).2∧(bestM b (b.loads.take i)).2≤8*bigM b:=by
 obtain⟨m0,m1⟩:=qeR h
 intro i
 induction i with
 | zero=>simp[bestM]; omega
 | succ i ih =>
  by_cases hi:i<b.loads.length
  ·obtain⟨⟨a0,a1⟩,_⟩:=h.ld _ (List.getElem_mem hi)
   have:=qsX h a0 a1
   rw[qhR b b.loads hi]
   split
   ·simp only; omega
   ·exact ih
  ·rw[List.take_of_length_le (by omega)]
   rw[List.take_of_length_le (by omega)]at ih
   exact ih
def mostM (b:Beam):Int:=(bestM b b.loads).2
theorem qfq {b:Beam} (h:BeamIn b):0≤mostM b∧mostM b≤57600000000000∧mostM b≤b.span*(1600000*b.span):=by
 have h1:=qs0 h b.loads.length
 rw[List.take_length]at h1
 obtain⟨m0,m1⟩:=qeR h
 have e:b.span*(1600000*b.span)=8*bigM b:=by unfold bigM; grind
 unfold mostM
 omega
def avgM (b:Beam):Int:=nearV (mostM b) b.span
theorem qlK {b:Beam} (h:BeamIn b):0≤avgM b∧avgM b≤9600000000:=by
 have s0:=h.s0
 have s1:=h.s1
 obtain⟨h1,h2,h3⟩:=qfq h
 have:=qdH (a:=mostM b) (b:=b.span) (M:=1600000*b.span) (by omega) (by omega) (by
  have:=Int.mul_nonneg (show 0≤b.span by omega) (show 0≤1600000*b.span by omega)
  omega) h3
 refine⟨qdI (by omega) h1,?_⟩
 unfold avgM
 omega
def strV (b:Beam):Int:=nearV (6000*avgM b) (b.width*b.depth*b.depth)
set_option maxHeartbeats 2000000 in
theorem qs1 (b:Beam) (h:BeamIn b):HFn Tryz.prog 244 [.agg b.cells] [] (.tup [.int .i64 (bestM b b.loads).1, .int .i64 (avgM b)]) []:=by
 have h8:=h.len
 have s0:=h.s0
 have s1:=h.s1
 have km:=fun x=>qsY b h x
 have kn:=qbU (mostM b) b.span ⟨by have:=qfq h; omega,by have:=qfq h; omega⟩ (by omega) (by omega)
 simp only[Beam.cells]at km
 refine qaa hm Tryz.func244 (by kernel_rfl) rfl (by kernel_rfl) rfl qab ?_
 simp[Beam.cells,Load.rows_len]
 refine qac hm b.loads.length (fun i=>⟨[(1, .pb 0 0),(4, .int .i64 (bestM b (b.loads.take i)).1),(5, .int .i64 (bestM b (b.loads.take i)).2),(10, .sl 2 (Load.rows b.loads)),(11, .int .i64 b.loads.length),(12, .int .i64 i)],[some (.box b.cells)]⟩) (fun _=>True) (by kernel_rfl) ?_ trivial (fun i hi _ =>?_) (fun _ =>?_)
 ·exact Wk.weak (ρ:=[0]) (φ:=[]) (by simp[Beam.cells,bestM])
 ·have w1:IntKind.i64.wrap ((i:Int)+1)=(i:Int)+1:=w64 (by omega) (by omega)
  obtain⟨⟨a0,a1⟩,_⟩:=h.ld _ (List.getElem_mem hi)
  rw[qhR b b.loads hi]
  generalize bestM b (b.loads.take i)=U
  simp[Beam.cells,Load.rows,Load.cells,hi]
  refine CallZ.use0 (km b.loads[i].k_at a0 a1) rfl rfl ?_
  simp
  refine⟨fun hx=>Wk.weak (ρ:=[0]) (φ:=[]) ?_,fun hx=>Wk.weak (ρ:=[0]) (φ:=[]) ?_⟩
  ·simp[w1,hx]
  ·simp[w1,show ¬U.2<momV b b.loads[i].k_at by omega]
 ·rw[List.take_length]
  simp[Beam.cells]
  refine CallZ.use0 kn rfl rfl ?_
  simp[avgM]
theorem qlL {b:Beam} (h:BeamIn b):(0≤b.width*b.depth∧b.width*b.depth≤1000000)∧1≤b.width*b.depth*b.depth∧b.width*b.depth*b.depth≤1000000000:=by
 obtain⟨_,_,w0,w1,d0,d1,_⟩:=h
 have e1:=qbB (a:=b.width) (b:=b.depth) (A:=1000) (B:=1000) (by omega) w1 (by omega) d1
 have e2:=qbB (a:=b.width*b.depth) (b:=b.depth) (A:=1000000) (B:=1000) e1.1 (by omega) (by omega) d1
 have e3:0<b.width*b.depth*b.depth:=Int.mul_pos (Int.mul_pos (by omega) (by omega)) (by omega)
 omega
theorem qs2 (b:Beam) (h:BeamIn b):HFn Tryz.prog 159 [.agg b.cells] [] (.int .i64 (strV b)) []:=by
 obtain⟨a0,a1⟩:=qlK h
 obtain⟨⟨p0,p1⟩,q0,q1⟩:=qlL h
 have kg:=qs1 b h
 have kn:=qbU (6000*avgM b) (b.width*b.depth*b.depth) ⟨by omega,by omega⟩ (by omega) (by omega)
 have c1:IntKind.i64.wrap (6000*avgM b)=6000*avgM b:=w64 (by omega) (by omega)
 have c2:IntKind.i64.wrap (b.width*b.depth)=b.width*b.depth:=w64 (by omega) (by omega)
 have c3:IntKind.i64.wrap (b.width*b.depth*b.depth)=b.width*b.depth*b.depth:=w64 (by omega) (by omega)
 simp only[Beam.cells]at kg
 refine qaa hm Tryz.func159 (by kernel_rfl) rfl (by kernel_rfl) rfl qab ?_
 simp[Beam.cells]
 refine CallZ.use0 kg rfl rfl ?_
 simp[c1,c2,c3]
 refine CallZ.use0 kn rfl rfl ?_
 simp[strV]
set_option maxHeartbeats 2000000 in
theorem qs3 (b:Beam) (h:BeamIn b) (rows:List (List PV)) (i0:Nat) (hr:rows[i0]?=some b.cells):HFn Tryz.prog 276 [.pe 6 rows i0 0] [] (.tup [.int .i64 (bestM b b.loads).1, .int .i64 (mostM b)]) []:=by
 have h8:=h.len
 have km:=fun x=>qsZ b h rows i0 hr x
 have hi0:i0<rows.length:=(List.getElem?_eq_some_iff.1 hr).1
 have hx0:rows[i0]=b.cells:=(List.getElem?_eq_some_iff.1 hr).2
 rw[Beam.cells]at hr hx0
 refine qaa hm Tryz.func276 (by kernel_rfl) rfl (by kernel_rfl) rfl qab ?_
 simp
 refine qac hm b.loads.length (fun i=>⟨[(0, .pe 6 rows i0 0),(4, .int .i64 (bestM b (b.loads.take i)).1),(5, .int .i64 (bestM b (b.loads.take i)).2),(6, .int .i64 i)],[]⟩) (fun _=>True) (by kernel_rfl) ?_ trivial (fun i hi _ =>?_) (fun _ =>?_)
 ·exact Wk.weak (ρ:=[]) (φ:=[]) (by simp[bestM])
 ·have w1:IntKind.i64.wrap ((i:Int)+1)=(i:Int)+1:=w64 (by omega) (by omega)
  obtain⟨⟨a0,a1⟩,_⟩:=h.ld _ (List.getElem_mem hi)
  rw[qhR b b.loads hi]
  generalize bestM b (b.loads.take i)=U
  simp[hi0,hx0,Load.rows,Load.cells,hi]
  refine CallZ.use0 (km b.loads[i].k_at a0 a1) rfl rfl ?_
  simp[hi0,hx0,Load.rows,Load.cells,hi]
  refine⟨fun hx=>Wk.weak (ρ:=[]) (φ:=[]) ?_,fun hx=>Wk.weak (ρ:=[]) (φ:=[]) ?_⟩
  ·simp[w1,hx]
  ·simp[w1,show ¬U.2<momV b b.loads[i].k_at by omega]
 ·rw[List.take_length]
  simp[hi0,hx0,Load.rows_len,mostM]
theorem qs4 (b:Beam) (h:BeamIn b) (rows:List (List PV)) (i0:Nat) (hr:rows[i0]?=some b.cells):HFn Tryz.prog 206 [.pe 6 rows i0 0] [] (.int .i64 (strV b)) []:=by
 have s0:=h.s0
 have s1:=h.s1
 obtain⟨a0,a1⟩:=qlK h
 obtain⟨⟨p0,p1⟩,q0,q1⟩:=qlL h
 have kg:=qs3 b h rows i0 hr
 have ks:=qbV (mostM b) b.span ⟨by have:=qfq h; omega,by have:=qfq h; omega⟩ (by omega) (by omega)
 have kn:=qbV (6000*avgM b) (b.width*b.depth*b.depth) ⟨by omega,by omega⟩ (by omega) (by omega)
 have c1:IntKind.i64.wrap (6000*avgM b)=6000*avgM b:=w64 (by omega) (by omega)
 have c2:IntKind.i64.wrap (b.width*b.depth)=b.width*b.depth:=w64 (by omega) (by omega)
 have c3:IntKind.i64.wrap (b.width*b.depth*b.depth)=b.width*b.depth*b.depth:=w64 (by omega) (by omega)
 change HFn _ _ _ _ (.int .i64 (avgM b)) _ at ks
 have hi0:i0<rows.length:=(List.getElem?_eq_some_iff.1 hr).1
 have hx0:rows[i0]=b.cells:=(List.getElem?_eq_some_iff.1 hr).2
 rw[Beam.cells]at hr hx0
 refine qaa hm Tryz.func206 (by kernel_rfl) rfl (by kernel_rfl) rfl qab ?_
 simp
 refine CallZ.use0 kg rfl rfl ?_
 simp[hi0,hx0]
 refine CallZ.use0 ks rfl rfl ?_
 simp[hi0,hx0,c1,c2,c3]
 refine CallZ.use0 kn rfl rfl ?_
 simp[strV]
def halfA (b:Beam) (l:Load):Int:=min l.k_at (b.span-l.k_at)
def bend1 (b:Beam) (l:Load):Int:=l.weight*halfA b l*(3*b.span*b.span-4*halfA b l*halfA b l)
def bendU (b:Beam):List Load→Int
 | []=>0
 | l::r=>bend1 b l+bendU b r
theorem qs5 (b:Beam) (l r:List Load):bendU b (l++r)=bendU b l+bendU b r:=by
 induction l with
 | nil=>simp[bendU]
 | cons y l ih=>simp only[List.cons_append,bendU,ih]; omega
theorem qhS (b:Beam) (l:List Load) {i:Nat} (hi:i<l.length):bendU b (l.take (i+1))=bendU b (l.take i)+bend1 b l[i]:=by
 rw[←List.take_append_getElem hi,qs5]
 simp[bendU]
structure BendIn (b:Beam) (l:Load):Prop where
 a0:0≤halfA b l
 a1:halfA b l≤3000
 wa0:0≤l.weight*halfA b l
 wa1:l.weight*halfA b l≤600000000
 ss0:0≤3*b.span*b.span
 ss1:3*b.span*b.span≤108000000
 aa0:0≤4*halfA b l*halfA b l
 aa1:4*halfA b l*halfA b l≤36000000
 d0:0≤3*b.span*b.span-4*halfA b l*halfA b l
 d1:3*b.span*b.span-4*halfA b l*halfA b l≤108000000
 b0:0≤bend1 b l
 b1:bend1 b l≤64800000000000000
theorem qhT {b:Beam} (h:BeamIn b) {l:Load} (hl:l∈b.loads):BendIn b l:=by
 obtain⟨⟨t0,t1⟩,v0,v1⟩:=h.ld l hl
 have s0:=h.s0
 have s1:=h.s1
 have a0:0≤halfA b l:=by unfold halfA; omega
 have a2:2*halfA b l≤b.span:=by unfold halfA; omega
 have e1:=qbB (a:=l.weight) (b:=halfA b l) (A:=200000) (B:=3000) (by omega) v1 a0 (by omega)
 have e2:=qbB (a:=3*b.span) (b:=b.span) (A:=18000) (B:=6000) (by omega) (by omega) (by omega) s1
 have e3:=qbB (a:=4*halfA b l) (b:=halfA b l) (A:=12000) (B:=3000) (by omega) (by omega) a0 (by omega)
 have e4:=qbB (a:=2*halfA b l) (b:=2*halfA b l) (by omega) a2 (by omega) a2
 have e5:2*halfA b l*(2*halfA b l)=4*halfA b l*halfA b l:=by grind
 have e6:=Int.mul_nonneg (show 0≤b.span by omega) (show 0≤b.span by omega)
 have e7:3*b.span*b.span=3*(b.span*b.span):=Int.mul_assoc ..
 have d0:0≤3*b.span*b.span-4*halfA b l*halfA b l:=by omega
 have d1:3*b.span*b.span-4*halfA b l*halfA b l≤108000000:=by omega
 have e8:=qbB (a:=l.weight*halfA b l) (b:=3*b.span*b.span-4*halfA b l*halfA b l) (A:=600000000) (B:=108000000) e1.1 (by omega) d0 d1
 exact⟨a0,by omega,e1.1,by omega,by omega,by omega,by omega,by omega,d0,d1,e8.1,by unfold bend1; omega⟩
theorem qgz {b:Beam} (h:BeamIn b):∀i,0≤bendU b (b.loads.take i)∧bendU b (b.loads.take i)≤64800000000000000*i:=by
 intro i
 induction i with
 | zero=>simp[bendU]
 | succ i ih =>
  by_cases hi:i<b.loads.length
  ·rw[qhS b b.loads hi]
   have:=qhT h (List.getElem_mem hi)
   have h1:=this.b0
   have h2:=this.b1
   omega
  ·rw[List.take_of_length_le (by omega)]
   rw[List.take_of_length_le (by omega)]at ih
   omega
def denV (b:Beam):Int:=(b.wood*b.width*b.depth*b.depth*b.depth).tdiv 250
def benV (b:Beam):Int:=nearV (bendU b b.loads) (denV b)
structure DenIn (b:Beam):Prop where
 e1:IntKind.i64.wrap (b.wood*b.width)=b.wood*b.width
 e2:IntKind.i64.wrap (b.wood*b.width*b.depth)=b.wood*b.width*b.depth
 e3:IntKind.i64.wrap (b.wood*b.width*b.depth*b.depth)=b.wood*b.width*b.depth*b.depth
 e4:IntKind.i64.wrap (b.wood*b.width*b.depth*b.depth*b.depth)=b.wood*b.width*b.depth*b.depth*b.depth
 e5:IntKind.i64.wrap ((b.wood*b.width*b.depth*b.depth*b.depth).tdiv 250)=denV b
 d0:0<denV b
 d1:denV b≤80000000000000
theorem denIn {b:Beam} (h:BeamIn b):DenIn b:=by
 obtain⟨_,_,w0,w1,d0,d1,o0,o1,_⟩:=h
 have f1:=qbB (a:=b.wood) (b:=b.width) (A:=20000) (B:=1000) (by omega) o1 (by omega) w1
 have f2:=qbB (a:=b.wood*b.width) (b:=b.depth) (A:=20000000) (B:=1000) f1.1 (by omega) (by omega) d1
 have f3:=qbB (a:=b.wood*b.width*b.depth) (b:=b.depth) (A:=20000000000) (B:=1000) f2.1 (by omega) (by omega) d1
 have f4:=qbB (a:=b.wood*b.width*b.depth*b.depth) (b:=b.depth) (A:=20000000000000) (B:=1000) f3.1 (by omega) (by omega) d1
 have g1:=Int.mul_le_mul (a:=1000) (b:=1) o0 (show 1≤b.width by omega) (by decide) (by omega)
 have g2:=Int.mul_le_mul (a:=1000) (b:=1) (show 1000≤b.wood*b.width by omega) (show 1≤b.depth by omega) (by decide) (by omega)
 have g3:=Int.mul_le_mul (a:=1000) (b:=1) (show 1000≤b.wood*b.width*b.depth by omega) (show 1≤b.depth by omega) (by decide) (by omega)
 have g4:=Int.mul_le_mul (a:=1000) (b:=1) (show 1000≤b.wood*b.width*b.depth*b.depth by omega) (show 1≤b.depth by omega) (by decide) (by omega)
 have hd:denV b=(b.wood*b.width*b.depth*b.depth*b.depth)/250:=by unfold denV; rw[Int.tdiv_eq_ediv_of_nonneg (by omega)]
 refine⟨w64 (by omega) (by omega),w64 (by omega) (by omega),w64 (by omega) (by omega),w64 (by omega) (by omega),w64 (n:=denV b) (by omega) (by omega),by omega,by omega⟩
theorem qs6 (a b:Int):HFn Tryz.prog 277 [.int .i64 a, .int .i64 b] [] (.int .i64 (min a b)) []:=by
 refine qaa hm Tryz.func277 (by kernel_rfl) rfl (by kernel_rfl) rfl qab ?_
 simp
 refine⟨fun h=>by omega,fun h=>by omega⟩
set_option maxHeartbeats 4000000 in
theorem qs7 (b:Beam) (h:BeamIn b):HFn Tryz.prog 160 [.agg b.cells] [] (.int .i64 (benV b)) []:=by
 have h8:=h.len
 have s0:=h.s0
 have s1:=h.s1
 obtain⟨e1,e2,e3,e4,e5,d0,d1⟩:=denIn h
 have hb:=qgz h b.loads.length
 rw[List.take_length]at hb
 have kn:=qj2 (bendU b b.loads) (denV b) ⟨by omega,by omega⟩ d0 (by omega)
 refine qaa hm Tryz.func160 (by kernel_rfl) rfl (by kernel_rfl) rfl qab ?_
 simp[Beam.cells,Load.rows_len]
 refine qac hm b.loads.length (fun i=>⟨[(1, .pb 0 0),(3, .int .i64 (bendU b (b.loads.take i))),(8, .sl 2 (Load.rows b.loads)),(9, .int .i64 b.loads.length),(10, .int .i64 i)],[some (.box b.cells)]⟩) (fun _=>True) (by kernel_rfl) ?_ trivial (fun i hi _ =>?_) (fun _ =>?_)
 ·exact Wk.weak (ρ:=[0]) (φ:=[]) (by simp[Beam.cells,bendU])
 ·have w1:IntKind.i64.wrap ((i:Int)+1)=(i:Int)+1:=w64 (by omega) (by omega)
  obtain⟨⟨a0,a1⟩,v0,v1⟩:=h.ld _ (List.getElem_mem hi)
  obtain⟨p0,p1,p2,p3,p4,p5,p6,p7,p8,p9,p10,p11⟩:=qhT h (List.getElem_mem hi)
  have u:=qgz h i
  have c0:IntKind.i64.wrap (b.span-b.loads[i].k_at)=b.span-b.loads[i].k_at:=w64 (by omega) (by omega)
  have c1:min b.loads[i].k_at (b.span-b.loads[i].k_at)=halfA b b.loads[i]:=rfl
  have c2:IntKind.i64.wrap (b.loads[i].weight*halfA b b.loads[i])=b.loads[i].weight*halfA b b.loads[i]:=w64 (by omega) (by omega)
  have c3:IntKind.i64.wrap (3*b.span)=3*b.span:=w64 (by omega) (by omega)
  have c4:IntKind.i64.wrap (3*b.span*b.span)=3*b.span*b.span:=w64 (by omega) (by omega)
  have c5:IntKind.i64.wrap (4*halfA b b.loads[i])=4*halfA b b.loads[i]:=w64 (by omega) (by omega)
  have c6:IntKind.i64.wrap (4*halfA b b.loads[i]*halfA b b.loads[i])=4*halfA b b.loads[i]*halfA b b.loads[i]:=w64 (by omega) (by omega)
  have c7:IntKind.i64.wrap (3*b.span*b.span-4*halfA b b.loads[i]*halfA b b.loads[i])=3*b.span*b.span-4*halfA b b.loads[i]*halfA b b.loads[i]:=w64 (by omega) (by omega)
  have c8:IntKind.i64.wrap (b.loads[i].weight*halfA b b.loads[i]*(3*b.span*b.span-4*halfA b b.loads[i]*halfA b b.loads[i]))=bend1 b b.loads[i]:=w64 (n:=bend1 b b.loads[i]) (by omega) (by omega)
  have c9:IntKind.i64.wrap (bendU b (b.loads.take i)+bend1 b b.loads[i])=bendU b (b.loads.take i)+bend1 b b.loads[i]:=w64 (by omega) (by omega)
  rw[qhS b b.loads hi]
  generalize bendU b (b.loads.take i)=U at *
  simp[Beam.cells,Load.rows,Load.cells,hi,c0,c1,c2,c3,c4,c5,c6,c7,c8,c9]
  refine Wk.weak (ρ:=[0]) (φ:=[]) ?_
  simp[w1]
 ·rw[List.take_length]
  simp[Beam.cells,e1,e2,e3,e4,e5]
  refine CallZ.use0 kn rfl rfl ?_
  simp[benV]
set_option maxHeartbeats 4000000 in
theorem qs8 (b:Beam) (h:BeamIn b) (rows:List (List PV)) (i0:Nat) (hr:rows[i0]?=some b.cells):HFn Tryz.prog 207 [.pe 6 rows i0 0] [] (.int .i64 (benV b)) []:=by
 have h8:=h.len
 have s0:=h.s0
 have s1:=h.s1
 obtain⟨e1,e2,e3,e4,e5,d0,d1⟩:=denIn h
 have hb:=qgz h b.loads.length
 rw[List.take_length]at hb
 have kn:=qj3 (bendU b b.loads) (denV b) ⟨by omega,by omega⟩ d0 (by omega)
 have hi0:i0<rows.length:=(List.getElem?_eq_some_iff.1 hr).1
 have hx0:rows[i0]=b.cells:=(List.getElem?_eq_some_iff.1 hr).2
 rw[Beam.cells]at hr hx0
 refine qaa hm Tryz.func207 (by kernel_rfl) rfl (by kernel_rfl) rfl qab ?_
 simp
 refine qac hm b.loads.length (fun i=>⟨[(0, .pe 6 rows i0 0),(3, .int .i64 (bendU b (b.loads.take i))),(4, .int .i64 i)],[]⟩) (fun _=>True) (by kernel_rfl) ?_ trivial (fun i hi _ =>?_) (fun _ =>?_)
 ·exact Wk.weak (ρ:=[]) (φ:=[]) (by simp[bendU])
 ·have w1:IntKind.i64.wrap ((i:Int)+1)=(i:Int)+1:=w64 (by omega) (by omega)
  obtain⟨⟨a0,a1⟩,v0,v1⟩:=h.ld _ (List.getElem_mem hi)
  obtain⟨p0,p1,p2,p3,p4,p5,p6,p7,p8,p9,p10,p11⟩:=qhT h (List.getElem_mem hi)
  have u:=qgz h i
  have km:=qs6 b.loads[i].k_at (b.span-b.loads[i].k_at)
  have c0:IntKind.i64.wrap (b.span-b.loads[i].k_at)=b.span-b.loads[i].k_at:=w64 (by omega) (by omega)
  have c1:min b.loads[i].k_at (b.span-b.loads[i].k_at)=halfA b b.loads[i]:=rfl
  rw[c1]at km
  have c2:IntKind.i64.wrap (b.loads[i].weight*halfA b b.loads[i])=b.loads[i].weight*halfA b b.loads[i]:=w64 (by omega) (by omega)
  have c3:IntKind.i64.wrap (3*b.span)=3*b.span:=w64 (by omega) (by omega)
  have c4:IntKind.i64.wrap (3*b.span*b.span)=3*b.span*b.span:=w64 (by omega) (by omega)
  have c5:IntKind.i64.wrap (4*halfA b b.loads[i])=4*halfA b b.loads[i]:=w64 (by omega) (by omega)
  have c6:IntKind.i64.wrap (4*halfA b b.loads[i]*halfA b b.loads[i])=4*halfA b b.loads[i]*halfA b b.loads[i]:=w64 (by omega) (by omega)
  have c7:IntKind.i64.wrap (3*b.span*b.span-4*halfA b b.loads[i]*halfA b b.loads[i])=3*b.span*b.span-4*halfA b b.loads[i]*halfA b b.loads[i]:=w64 (by omega) (by omega)
  have c8:IntKind.i64.wrap (b.loads[i].weight*halfA b b.loads[i]*(3*b.span*b.span-4*halfA b b.loads[i]*halfA b b.loads[i]))=bend1 b b.loads[i]:=w64 (n:=bend1 b b.loads[i]) (by omega) (by omega)
  have c9:IntKind.i64.wrap (bendU b (b.loads.take i)+bend1 b b.loads[i])=bendU b (b.loads.take i)+bend1 b b.loads[i]:=w64 (by omega) (by omega)
  rw[qhS b b.loads hi]
  generalize bendU b (b.loads.take i)=U at *
  simp[hi0,hx0,Load.rows,Load.cells,hi,c0]
  refine CallZ.use0 km rfl rfl ?_
  simp[hi0,hx0,Load.rows,Load.cells,hi,c2,c3,c4,c5,c6,c7,c8,c9]
  refine Wk.weak (ρ:=[]) (φ:=[]) ?_
  simp[w1]
 ·rw[List.take_length]
  simp[hi0,hx0,Load.rows_len,e1,e2,e3,e4,e5]
  refine CallZ.use0 kn rfl rfl ?_
  simp[benV]
end Go.Proofs.YteckngloamnfdaaGreatDoor
