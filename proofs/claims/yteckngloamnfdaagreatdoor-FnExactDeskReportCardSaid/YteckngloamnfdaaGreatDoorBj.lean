/- Contracts: sway of a tower, beams under their loads, troubles of the tower. No condition. -/
import Derived.Test.YteckngloamnfdaaGreatDoorBi
import Derived.Test.YteckngloamnfdaaGreatDoorZd
namespace Go.Proofs.YteckngloamnfdaaGreatDoor
open Go Go.Ab
set_option maxRecDepth 100000
structure TowIn (t:Tower):Prop where
 s0:100≤t.sway
 s1:t.sway≤10000
 d0:5≤t.damping
 d1:t.damping≤500
 f0:1≤t.stiffness
 f1:t.stiffness≤1000000
theorem towIn {t:Tower} (h:qbW t=true):TowIn t:=by
 simp only[qbW,Bool.and_eq_true,decide_eq_true_eq]at h
 exact⟨by omega,by omega,by omega,by omega,by omega,by omega⟩
def rV (t:Tower) (rate:Int):Int:=nearV (1000*rate) t.sway
def aV (t:Tower) (rate:Int):Int:=1000-nearV (rV t rate*rV t rate) 1000
def bV (t:Tower) (rate:Int):Int:=nearV (2*t.damping*rV t rate) 1000
def facV (t:Tower) (rate:Int):Int:=nearV 1000000 (max 1 (rootV (aV t rate*aV t rate+bV t rate*bV t rate)))
theorem rV_in {t:Tower} (h:TowIn t) {rate:Int} (h0:0≤rate) (h1:rate≤15000):0≤rV t rate∧rV t rate≤150000:=by
 have:=h.s0
 refine⟨qdI (by omega) (by omega),(qdH (M:=150000) (by omega) (by decide) (by omega) (by omega)).2⟩
theorem rr_in {t:Tower} (h:TowIn t) {rate:Int} (h0:0≤rate) (h1:rate≤15000):0≤rV t rate*rV t rate∧rV t rate*rV t rate≤22500000000:=by
 obtain⟨r0,r1⟩:=rV_in h h0 h1
 exact⟨Int.mul_nonneg r0 r0,by have:=Int.mul_le_mul r1 r1 r0 (by omega); omega⟩
theorem aV_in {t:Tower} (h:TowIn t) {rate:Int} (h0:0≤rate) (h1:rate≤15000) : -22500000≤aV t rate∧aV t rate≤1000:=by
 obtain⟨r0,r1⟩:=rr_in h h0 h1
 have n0:=qdI (a:=rV t rate*rV t rate) (b:=1000) (by decide) r0
 have n1:=qdH (a:=rV t rate*rV t rate) (b:=1000) (M:=22500000) (by decide) (by decide) (by omega) (by omega)
 unfold aV
 omega
theorem dr_in {t:Tower} (h:TowIn t) {rate:Int} (h0:0≤rate) (h1:rate≤15000):0≤2*t.damping*rV t rate∧2*t.damping*rV t rate≤150000000:=by
 obtain⟨r0,r1⟩:=rV_in h h0 h1
 have:=h.d0
 have:=h.d1
 exact⟨Int.mul_nonneg (by omega) r0,by have:=Int.mul_le_mul (show 2*t.damping≤1000 by omega) r1 r0 (by omega); omega⟩
theorem bV_in {t:Tower} (h:TowIn t) {rate:Int} (h0:0≤rate) (h1:rate≤15000):0≤bV t rate∧bV t rate≤150000:=by
 obtain⟨r0,r1⟩:=dr_in h h0 h1
 exact⟨qdI (by decide) r0,(qdH (M:=150000) (by decide) (by decide) (by omega) (by omega)).2⟩
theorem ab_in {t:Tower} (h:TowIn t) {rate:Int} (h0:0≤rate) (h1:rate≤15000):(0≤aV t rate*aV t rate∧aV t rate*aV t rate≤506250000000000)∧0≤bV t rate*bV t rate∧bV t rate*bV t rate≤22500000000:=by
 obtain⟨a0,a1⟩:=aV_in h h0 h1
 obtain⟨b0,b1⟩:=bV_in h h0 h1
 have h3:=qeI (a:=aV t rate) (b:=aV t rate) (A:=22500000) (B:=22500000) (by decide) (by decide) (by omega) (by omega) (by omega) (by omega)
 exact⟨⟨sq_nn _,by omega⟩,Int.mul_nonneg b0 b0,by have:=Int.mul_le_mul b1 b1 b0 (by omega); omega⟩
theorem qgx {t:Tower} (_h:TowIn t) {rate:Int} (_h0:0≤rate) (_h1:rate≤15000):0≤facV t rate∧facV t rate≤1000000:=by
 have hp:0<max 1 (rootV (aV t rate*aV t rate+bV t rate*bV t rate)):=by omega
 have h1:1≤max 1 (rootV (aV t rate*aV t rate+bV t rate*bV t rate)):=by omega
 refine⟨qdI hp (by decide),(qdH (M:=1000000) hp (by decide) (by omega) (by omega)).2⟩
theorem qlB {t:Tower} (h:TowIn t) {rate:Int} (h0:0≤rate) (h1:rate≤15000):0≤rootV (aV t rate*aV t rate+bV t rate*bV t rate)∧rootV (aV t rate*aV t rate+bV t rate*bV t rate)≤30000000:=by
 obtain⟨⟨a0,a1⟩,b0,b1⟩:=ab_in h h0 h1
 exact qj1 (by decide) (by omega) (by omega)
set_option maxHeartbeats 2000000 in
theorem qlC (t:Tower) (rate:Int) (h:TowIn t) (h0:0≤rate) (h1:rate≤15000):HFn Tryz.prog 385 [.agg t.cells, .int .i64 rate] [] (.int .i64 (facV t rate)) []:=by
 obtain⟨r0,r1⟩:=rV_in h h0 h1
 obtain⟨rr0,rr1⟩:=rr_in h h0 h1
 obtain⟨a0,a1⟩:=aV_in h h0 h1
 obtain⟨d0,d1⟩:=dr_in h h0 h1
 obtain⟨b0,b1⟩:=bV_in h h0 h1
 obtain⟨⟨aa0,aa1⟩,bb0,bb1⟩:=ab_in h h0 h1
 obtain⟨m0,m1⟩:=qlB h h0 h1
 have s0:=h.s0
 have s1:=h.s1
 have e0:=h.d0
 have e1:=h.d1
 have k1:=qbU (1000*rate) t.sway ⟨by omega,by omega⟩ (by omega) (by omega)
 have k2:=qbU (rV t rate*rV t rate) 1000 ⟨by omega,by omega⟩ (by decide) (by decide)
 have k3:=qbU (2*t.damping*rV t rate) 1000 ⟨by omega,by omega⟩ (by decide) (by decide)
 have k4:=qhl (aV t rate*aV t rate+bV t rate*bV t rate) ⟨by omega,by omega⟩ (by omega)
 have k5:=qbU 1000000 (max 1 (rootV (aV t rate*aV t rate+bV t rate*bV t rate))) ⟨by decide,by decide⟩ (by omega) (by omega)
 have w1:IntKind.i64.wrap (1000*rate)=1000*rate:=w64 (by omega) (by omega)
 have w2:IntKind.i64.wrap (rV t rate*rV t rate)=rV t rate*rV t rate:=w64 (by omega) (by omega)
 have w3:IntKind.i64.wrap (2*t.damping)=2*t.damping:=w64 (by omega) (by omega)
 have w4:IntKind.i64.wrap (2*t.damping*rV t rate)=2*t.damping*rV t rate:=w64 (by omega) (by omega)
 have ea:IntKind.i64.wrap (1000-nearV (rV t rate*rV t rate) 1000)=aV t rate:=w64 (n:=1000-nearV (rV t rate*rV t rate) 1000) (by change _≤aV t rate; omega) (by change aV t rate≤_; omega)
 have w6:IntKind.i64.wrap (aV t rate*aV t rate)=aV t rate*aV t rate:=w64 (by omega) (by omega)
 have w7:IntKind.i64.wrap (bV t rate*bV t rate)=bV t rate*bV t rate:=w64 (by omega) (by omega)
 have w8:IntKind.i64.wrap (aV t rate*aV t rate+bV t rate*bV t rate)=aV t rate*aV t rate+bV t rate*bV t rate:=w64 (by omega) (by omega)
 change HFn _ _ _ _ (.int .i64 (rV t rate)) _ at k1
 change HFn _ _ _ _ (.int .i64 (bV t rate)) _ at k3
 refine qaa hm Tryz.func385 (by kernel_rfl) rfl (by kernel_rfl) rfl qab ?_
 simp[Tower.cells,w1]
 refine CallZ.use0 k1 rfl rfl ?_
 simp[w2]
 refine CallZ.use0 k2 rfl rfl ?_
 simp[ea,w3,w4]
 refine CallZ.use0 k3 rfl rfl ?_
 simp[w6,w7,w8]
 refine CallZ.use0 k4 rfl rfl ?_
 simp
 refine CallZ.use0 k5 rfl rfl ?_
 simp[facV]
set_option maxHeartbeats 2000000 in
theorem qlD (t:Tower) (rate:Int) (rows:List (List PV)) (i0:Nat) (hr:rows[i0]?=some t.cells) (h:TowIn t) (h0:0≤rate) (h1:rate≤15000):HFn Tryz.prog 392 [.pe 5 rows i0 0, .int .i64 rate] [] (.int .i64 (facV t rate)) []:=by
 obtain⟨r0,r1⟩:=rV_in h h0 h1
 obtain⟨rr0,rr1⟩:=rr_in h h0 h1
 obtain⟨a0,a1⟩:=aV_in h h0 h1
 obtain⟨d0,d1⟩:=dr_in h h0 h1
 obtain⟨b0,b1⟩:=bV_in h h0 h1
 obtain⟨⟨aa0,aa1⟩,bb0,bb1⟩:=ab_in h h0 h1
 obtain⟨m0,m1⟩:=qlB h h0 h1
 have s0:=h.s0
 have s1:=h.s1
 have e0:=h.d0
 have e1:=h.d1
 have hi:i0<rows.length:=(List.getElem?_eq_some_iff.1 hr).1
 have hx:rows[i0]=t.cells:=(List.getElem?_eq_some_iff.1 hr).2
 rw[Tower.cells]at hr hx
 have k1:=qbV (1000*rate) t.sway ⟨by omega,by omega⟩ (by omega) (by omega)
 have k2:=qbV (rV t rate*rV t rate) 1000 ⟨by omega,by omega⟩ (by decide) (by decide)
 have k3:=qbV (2*t.damping*rV t rate) 1000 ⟨by omega,by omega⟩ (by decide) (by decide)
 have k4:=qhm (aV t rate*aV t rate+bV t rate*bV t rate) ⟨by omega,by omega⟩ (by omega)
 have k6:=qjW 1 (rootV (aV t rate*aV t rate+bV t rate*bV t rate))
 have k5:=qbV 1000000 (max 1 (rootV (aV t rate*aV t rate+bV t rate*bV t rate))) ⟨by decide,by decide⟩ (by omega) (by omega)
 have w1:IntKind.i64.wrap (1000*rate)=1000*rate:=w64 (by omega) (by omega)
 have w2:IntKind.i64.wrap (rV t rate*rV t rate)=rV t rate*rV t rate:=w64 (by omega) (by omega)
 have w3:IntKind.i64.wrap (2*t.damping)=2*t.damping:=w64 (by omega) (by omega)
 have w4:IntKind.i64.wrap (2*t.damping*rV t rate)=2*t.damping*rV t rate:=w64 (by omega) (by omega)
 have ea:IntKind.i64.wrap (1000-nearV (rV t rate*rV t rate) 1000)=aV t rate:=w64 (n:=1000-nearV (rV t rate*rV t rate) 1000) (by change _≤aV t rate; omega) (by change aV t rate≤_; omega)
 have w6:IntKind.i64.wrap (aV t rate*aV t rate)=aV t rate*aV t rate:=w64 (by omega) (by omega)
 have w7:IntKind.i64.wrap (bV t rate*bV t rate)=bV t rate*bV t rate:=w64 (by omega) (by omega)
 have w8:IntKind.i64.wrap (aV t rate*aV t rate+bV t rate*bV t rate)=aV t rate*aV t rate+bV t rate*bV t rate:=w64 (by omega) (by omega)
 change HFn _ _ _ _ (.int .i64 (rV t rate)) _ at k1
 change HFn _ _ _ _ (.int .i64 (bV t rate)) _ at k3
 refine qaa hm Tryz.func392 (by kernel_rfl) rfl (by kernel_rfl) rfl qab ?_
 simp[hi,hx,w1]
 refine CallZ.use0 k1 rfl rfl ?_
 simp[w2]
 refine CallZ.use0 k2 rfl rfl ?_
 simp[hi,hx,ea,w3,w4]
 refine CallZ.use0 k3 rfl rfl ?_
 simp[w6,w7,w8]
 refine CallZ.use0 k4 rfl rfl ?_
 simp
 refine CallZ.use0 k6 rfl rfl ?_
 simp
 refine CallZ.use0 k5 rfl rfl ?_
 simp[facV]
structure SwIn (s:Swing):Prop where
 r0:100≤s.rate
 r1:s.rate≤5000
 f0:1≤s.force
 f1:s.force≤1000000
theorem swIn {s:Swing} (h:qbs s=true):SwIn s:=by
 simp only[qbs,Bool.and_eq_true,decide_eq_true_eq]at h
 exact⟨by omega,by omega,by omega,by omega⟩
def ampV (t:Tower) (s:Swing):Int:=IntKind.i64.wrap (nearV (facV t s.rate*s.force) (1000*t.stiffness)+nearV (facV t (3*s.rate)*s.force) (9000*t.stiffness))
theorem ff_in {f g:Int} (f0:0≤f) (f1:f≤1000000) (g0:1≤g) (g1:g≤1000000):0≤f*g∧f*g≤1000000000000 :=
 ⟨Int.mul_nonneg f0 (by omega),by have:=Int.mul_le_mul f1 g1 (by omega) (by omega); omega⟩
set_option maxHeartbeats 2000000 in
theorem qsJ (t:Tower) (s:Swing) (h:TowIn t) (k:SwIn s):HFn Tryz.prog 354 [.agg t.cells, .agg s.cells] [] (.int .i64 (ampV t s)) []:=by
 obtain⟨r0,r1,f0,f1⟩:=k
 have g0:=h.f0
 have g1:=h.f1
 obtain⟨a0,a1⟩:=qgx h (rate:=s.rate) (by omega) (by omega)
 obtain⟨b0,b1⟩:=qgx h (rate:=3*s.rate) (by omega) (by omega)
 obtain⟨x0,x1⟩:=ff_in a0 a1 f0 f1
 obtain⟨y0,y1⟩:=ff_in b0 b1 f0 f1
 have k1:=qlC t s.rate h (by omega) (by omega)
 have k2:=qlC t (3*s.rate) h (by omega) (by omega)
 have k3:=qbU (facV t s.rate*s.force) (1000*t.stiffness) ⟨by omega,by omega⟩ (by omega) (by omega)
 have k4:=qbU (facV t (3*s.rate)*s.force) (9000*t.stiffness) ⟨by omega,by omega⟩ (by omega) (by omega)
 have w1:IntKind.i64.wrap (3*s.rate)=3*s.rate:=w64 (by omega) (by omega)
 have w2:IntKind.i64.wrap (facV t s.rate*s.force)=facV t s.rate*s.force:=w64 (by omega) (by omega)
 have w3:IntKind.i64.wrap (facV t (3*s.rate)*s.force)=facV t (3*s.rate)*s.force:=w64 (by omega) (by omega)
 have w4:IntKind.i64.wrap (1000*t.stiffness)=1000*t.stiffness:=w64 (by omega) (by omega)
 have w5:IntKind.i64.wrap (9000*t.stiffness)=9000*t.stiffness:=w64 (by omega) (by omega)
 simp only[Tower.cells]at k1 k2
 refine qaa hm Tryz.func354 (by kernel_rfl) rfl (by kernel_rfl) rfl qab ?_
 simp[Tower.cells,Swing.cells]
 refine CallZ.use0 k1 rfl rfl ?_
 simp[w2,w4]
 refine CallZ.use0 k3 rfl rfl ?_
 simp[w1]
 refine CallZ.use0 k2 rfl rfl ?_
 simp[w3,w5]
 refine CallZ.use0 k4 rfl rfl ?_
 simp[ampV]
set_option maxHeartbeats 2000000 in
theorem qsK (t:Tower) (s:Swing) (rows:List (List PV)) (i0:Nat) (hr:rows[i0]?=some t.cells) (rows':List (List PV)) (j0:Nat) (hr':rows'[j0]?=some s.cells) (h:TowIn t) (k:SwIn s):HFn Tryz.prog 373 [.pe 5 rows i0 0, .pe 3 rows' j0 0] [] (.int .i64 (ampV t s)) []:=by
 obtain⟨r0,r1,f0,f1⟩:=k
 have g0:=h.f0
 have g1:=h.f1
 obtain⟨a0,a1⟩:=qgx h (rate:=s.rate) (by omega) (by omega)
 obtain⟨b0,b1⟩:=qgx h (rate:=3*s.rate) (by omega) (by omega)
 obtain⟨x0,x1⟩:=ff_in a0 a1 f0 f1
 obtain⟨y0,y1⟩:=ff_in b0 b1 f0 f1
 have k1:=qlD t s.rate rows i0 hr h (by omega) (by omega)
 have k2:=qlD t (3*s.rate) rows i0 hr h (by omega) (by omega)
 have k3:=qbV (facV t s.rate*s.force) (1000*t.stiffness) ⟨by omega,by omega⟩ (by omega) (by omega)
 have k4:=qbV (facV t (3*s.rate)*s.force) (9000*t.stiffness) ⟨by omega,by omega⟩ (by omega) (by omega)
 have w1:IntKind.i64.wrap (3*s.rate)=3*s.rate:=w64 (by omega) (by omega)
 have w2:IntKind.i64.wrap (facV t s.rate*s.force)=facV t s.rate*s.force:=w64 (by omega) (by omega)
 have w3:IntKind.i64.wrap (facV t (3*s.rate)*s.force)=facV t (3*s.rate)*s.force:=w64 (by omega) (by omega)
 have w4:IntKind.i64.wrap (1000*t.stiffness)=1000*t.stiffness:=w64 (by omega) (by omega)
 have w5:IntKind.i64.wrap (9000*t.stiffness)=9000*t.stiffness:=w64 (by omega) (by omega)
 have hi:i0<rows.length:=(List.getElem?_eq_some_iff.1 hr).1
 have hx:rows[i0]=t.cells:=(List.getElem?_eq_some_iff.1 hr).2
 have hj:j0<rows'.length:=(List.getElem?_eq_some_iff.1 hr').1
 have hy:rows'[j0]=s.cells:=(List.getElem?_eq_some_iff.1 hr').2
 rw[Tower.cells]at hr hx
 rw[Swing.cells]at hr' hy
 refine qaa hm Tryz.func373 (by kernel_rfl) rfl (by kernel_rfl) rfl qab ?_
 simp[hj,hy]
 refine CallZ.use0 k1 rfl rfl ?_
 simp[hi,hx,hj,hy,w2,w4]
 refine CallZ.use0 k3 rfl rfl ?_
 simp[hj,hy,w1]
 refine CallZ.use0 k2 rfl rfl ?_
 simp[hi,hx,hj,hy,w3,w5]
 refine CallZ.use0 k4 rfl rfl ?_
 simp[ampV]
def ampL (t:Tower) (l:List Swing):List Int:=l.map (ampV t)
def addL (l:List Int) (i:Nat):Int:=(l.take i).foldl (fun s x=>IntKind.i64.wrap (s+x)) 0
theorem qlE (l:List Int) {i:Nat} (hi:i<l.length):addL l (i+1)=IntKind.i64.wrap (addL l i+l[i]):=by
 unfold addL
 rw[←List.take_append_getElem hi,List.foldl_append]
 rfl
def qcS (a b:Swing):Bool:=Op.bytesLess a.bell b.bell
def qbo (l:List Swing):Bool:=upOk qbs qcS l&&decide ((l.length:Int)≤16)
theorem qlF {α β:Type} (f:α→β) (l:List α) {i:Nat} (hi:i<l.length):(l.take (i+1)).map f=(l.take i).map f++[f l[i]]:=by
 rw[←List.take_append_getElem hi,List.map_append]
 rfl
theorem qsL (x:Tower) (rows:List (List PV)) (i0:Nat) (hr:rows[i0]?=some x.cells):HFn Tryz.prog 114 [.pe 5 rows i0 0] [] (.bool (qbW x)) []:=by
 have hi:i0<rows.length:=(List.getElem?_eq_some_iff.1 hr).1
 have hx:rows[i0]=x.cells:=(List.getElem?_eq_some_iff.1 hr).2
 rw[Tower.cells]at hr hx
 refine qaa hm Tryz.func114 (by kernel_rfl) rfl (by kernel_rfl) rfl qab ?_
 simp[hi,hx]
 refine CallZ.use0 (qba _) rfl rfl ?_
 simp[hi,hx]
 iterate 4
  repeat refine⟨by grind,?_⟩
  refine CallY.use (fun _=>⟨rfl,qaj _ _ _⟩) rfl rfl ?_
  simp[hi,hx]
 repeat refine⟨by grind,?_⟩
 simp[qbW]
set_option maxHeartbeats 1000000 in
theorem qsM (l:List Swing) (hl:l.length≤1048576):HFn Tryz.prog 312 [.sl 3 (Swing.rows l)] [] (.bool (qbo l)) []:=by
 refine qaa hm Tryz.func312 (by kernel_rfl) rfl (by kernel_rfl) rfl qab ?_
 simp[Swing.rows]
 refine qac hm l.length (fun i=>⟨[(0, .sl 3 (Swing.rows l)),(5, .sl 3 (Swing.rows l)),(6, .int .i64 l.length),(7, .int .i64 i)],[]⟩) (fun i=>∀j,j<i→upAt qbs qcS l j=true) (by kernel_rfl) ?_ (by simp) (fun i hi hI =>?_) (fun hI =>?_)
 ·exact Wk.weak (ρ:=[]) (φ:=[]) (by simp[Swing.rows])
 ·have e1:IntKind.i64.wrap ((i:Int)-1)=i-1:=w64 (by omega) (by omega)
  obtain⟨y,hy⟩:∃y,l[i-1]?=some y:=⟨_,List.getElem?_eq_getElem (by omega)⟩
  have hx:=List.getElem?_eq_getElem hi
  have kv:=qj9 l[i]
  simp only[Swing.cells]at kv
  simp[Swing.rows,Swing.cells,hi]
  refine CallZ.use0 kv rfl rfl ?_
  simp[Swing.cells,hy,e1]
  have ho:=qbb qbs qcS hx hy
  have hs:=qc2 y.bell l[i].bell
  iterate 6 refine⟨by grind,?_⟩
  refine⟨fun h =>?_,fun h1 h2=>⟨qaN hI ?_,?_⟩⟩
  ·have:upAt qbs qcS l i=false:=by
    rw[ho,qcS]
    rcases h with h | ⟨h,h'⟩
    ·simp[h]
    ·have h3:(Op.bytesLess l[i].bell y.bell||decide (l[i].bell=y.bell))=true:=by simpa using h'
     rw[hs]at h3
     have h4:¬i=0:=by omega
     simp at h3
     simp[h3,h4]
   simp only[qbo,upOk,qaG hi this,Bool.false_and]
  ·rw[ho,qcS]
   rw[h1,Bool.true_and]
   by_cases h4:i=0
   ·simp[h4]
   ·obtain⟨h5,h6⟩:=h2 (by omega)
    simp[h5,h6]at hs
    simp[hs]
  ·refine Wk.weak (ρ:=[]) (φ:=[]) ?_
   simp
   exact w64 (by omega) (by omega)
 ·simp[Swing.rows]
  simp only[qbo,upOk,qaM hI,Bool.true_and]
set_option maxHeartbeats 1000000 in
theorem qsN (l:List Swing) (hl:l.length≤1048576):HFn Tryz.prog 334 [.sl 3 (Swing.rows l)] [] (.bool (qbo l)) []:=by
 refine qaa hm Tryz.func334 (by kernel_rfl) rfl (by kernel_rfl) rfl qab ?_
 simp[Swing.rows]
 refine qac hm l.length (fun i=>⟨[(0, .sl 3 (Swing.rows l)),(3, .int .i64 i)],[]⟩) (fun i=>∀j,j<i→upAt qbs qcS l j=true) (by kernel_rfl) ?_ (by simp) (fun i hi hI =>?_) (fun hI =>?_)
 ·exact Wk.weak (ρ:=[]) (φ:=[]) (by simp[Swing.rows])
 ·have e1:IntKind.i64.wrap ((i:Int)-1)=i-1:=w64 (by omega) (by omega)
  obtain⟨y,hy⟩:∃y,l[i-1]?=some y:=⟨_,List.getElem?_eq_getElem (by omega)⟩
  have hx:=List.getElem?_eq_getElem hi
  simp[Swing.rows,hi]
  refine CallZ.use0 (qka l[i] _ _ (by simp[hi])) rfl rfl ?_
  simp[Swing.cells,hi,hy,e1]
  have ho:=qbb qbs qcS hx hy
  iterate 6 refine⟨by grind,?_⟩
  refine⟨fun h =>?_,fun h1 h2=>⟨qaN hI ?_,?_⟩⟩
  ·have:upAt qbs qcS l i=false:=by
    rw[ho,qcS]
    rcases h with h | ⟨h,h'⟩
    ·simp[h]
    ·have h4:¬i=0:=by omega
     simp[h',h4]
   simp only[qbo,upOk,qaG hi this,Bool.false_and]
  ·rw[ho,qcS,h1,Bool.true_and]
   by_cases h4:i=0
   ·simp[h4]
   ·simp[h2 (by omega)]
  ·refine Wk.weak (ρ:=[]) (φ:=[]) ?_
   simp
   exact w64 (by omega) (by omega)
 ·simp[Swing.rows]
  simp only[qbo,upOk,qaM hI,Bool.true_and]
theorem qsO (l:List Int) (hl:l.length≤1048576):HFn Tryz.prog 313 [.sl 1 (qad l)] [] (.int .i64 (addL l l.length)) []:=by
 refine qaa hm Tryz.func313 (by kernel_rfl) rfl (by kernel_rfl) rfl qab ?_
 simp[qao]
 refine qac hm l.length (fun i=>⟨[(3, .int .i64 (addL l i)),(6, .sl 1 (qad l)),(7, .int .i64 l.length),(8, .int .i64 i)],[]⟩) (fun _=>True) (by kernel_rfl) ?_ trivial (fun i hi _ =>?_) (fun _ =>?_)
 ·exact Wk.weak (ρ:=[]) (φ:=[]) (by simp[addL])
 ·have w1:IntKind.i64.wrap ((i:Int)+1)=(i:Int)+1:=w64 (by omega) (by omega)
  rw[qlE l hi]
  simp[qao,qbN,hi]
  exact Wk.weak (ρ:=[]) (φ:=[]) (by simp[w1])
 ·simp
set_option maxHeartbeats 1000000 in
theorem qsP (t:Tower) (l:List Swing) (h:TowIn t) (hl:l.length≤16) (hs:∀s∈l,SwIn s):HFn Tryz.prog 314 [.agg t.cells, .sl 3 (Swing.rows l)] [] (.sf 0 1) [some (.arr 1 (qad (ampL t l)))]:=by
 refine qaa hm Tryz.func314 (by kernel_rfl) rfl (by kernel_rfl) rfl (fun _ _ h=>h) ?_
 have ka:=fun s hs=>qsJ t s h hs
 simp only[Tower.cells,Swing.cells]at ka
 simp[Tower.cells,Swing.rows_len]
 refine qac hm l.length (fun i=>⟨[(2, .pb 0 0),(5, .sf 1 1),(8, .sl 3 (Swing.rows l)),(9, .int .i64 l.length),(10, .int .i64 i)],[some (.box t.cells),some (.arr 1 (qad ((l.take i).map (ampV t))))]⟩) (fun _=>True) (by kernel_rfl) ?_ trivial (fun i hi _ =>?_) (fun _ =>?_)
 ·exact (qaA (t:=5) (z:=1) rfl).trans (Wk.weak (ρ:=[0,1]) (φ:=[]) (by simp[Tower.cells,qad]))
 ·have w1:IntKind.i64.wrap ((i:Int)+1)=(i:Int)+1:=w64 (by omega) (by omega)
  have hle:((l.take i).map (ampV t)).length≤16:=by rw[List.length_map,List.length_take]; omega
  have e:=qlF (ampV t) l hi
  rw[e]
  generalize (l.take i).map (ampV t)=T at hle ⊢
  simp[Tower.cells,Swing.rows,Swing.cells,hi]
  refine CallZ.use0 (ka l[i] (hs _ (List.getElem_mem hi))) rfl rfl ?_
  simp[qao]
  refine⟨by simp[rowsOne],by omega,by omega,Wk.weak (ρ:=[0,1]) (φ:=[]) ?_⟩
  simp[w1,qcf]
  rfl
 ·simp
  exact Wk.weak (ρ:=[1]) (φ:=[]) (by simp[ampL])
set_option maxHeartbeats 1000000 in
theorem qsQ (t:Tower) (l:List Swing) (rows:List (List PV)) (i0:Nat) (hr:rows[i0]?=some t.cells) (h:TowIn t) (hl:l.length≤16) (hs:∀s∈l,SwIn s):HFn Tryz.prog 335 [.pe 5 rows i0 0, .sl 3 (Swing.rows l)] [] (.sf 0 1) [some (.arr 1 (qad (ampL t l)))]:=by
 refine qaa hm Tryz.func335 (by kernel_rfl) rfl (by kernel_rfl) rfl (fun _ _ h=>h) ?_
 simp
 refine qac hm l.length (fun i=>⟨[(0, .pe 5 rows i0 0),(1, .sl 3 (Swing.rows l)),(5, .sf 0 1),(6, .int .i64 i)],[some (.arr 1 (qad ((l.take i).map (ampV t))))]⟩) (fun _=>True) (by kernel_rfl) ?_ trivial (fun i hi _ =>?_) (fun _ =>?_)
 ·exact (qaA (t:=5) (z:=1) rfl).trans (Wk.weak (ρ:=[0]) (φ:=[]) (by simp[qad]))
 ·have w1:IntKind.i64.wrap ((i:Int)+1)=(i:Int)+1:=w64 (by omega) (by omega)
  have hle:((l.take i).map (ampV t)).length≤16:=by rw[List.length_map,List.length_take]; omega
  have e:=qlF (ampV t) l hi
  rw[e]
  generalize (l.take i).map (ampV t)=T at hle ⊢
  simp[Swing.rows,hi]
  refine CallZ.use0 (qsK t l[i] rows i0 hr _ i (by simp[hi]) h (hs _ (List.getElem_mem hi))) rfl rfl ?_
  simp[qao]
  refine⟨by simp[rowsOne],by omega,by omega,Wk.weak (ρ:=[0]) (φ:=[]) ?_⟩
  simp[w1,qcf]
  rfl
 ·simp[Swing.rows_len]
  exact Wk.weak (ρ:=[0]) (φ:=[]) (by simp[ampL])
def swayV (t:Tower) (l:List Swing):Int:=addL (ampL t l) (ampL t l).length
def permV (t:Tower) (l:List Swing):Bool:=qbo l&&decide (swayV t l≤t.limit)
theorem qlG {l:List Swing} (h:qbo l=true):l.length≤16∧∀s∈l,SwIn s:=by
 simp only[qbo,Bool.and_eq_true,decide_eq_true_eq]at h
 exact⟨by omega,fun s hs=>swIn (qdn h.1 s hs)⟩
theorem qlH (t:Tower) (l:List Swing):(ampL t l).length=l.length:=by simp[ampL]
theorem qsR (t:Tower) (l:List Swing) (ht:qbW t=true) (hl:l.length≤1048576):HFn Tryz.prog 243 [.agg t.cells, .sl 3 (Swing.rows l)] [] (.tup [.int .i64 (if qbo l=true then swayV t l else 0), .int .i64 (if qbo l=true then 0 else 1)]) []:=by
 have kT:=qkp t
 have kV:=qsM l hl
 simp only[Tower.cells]at kT
 refine qaa hm Tryz.func243 (by kernel_rfl) rfl (by kernel_rfl) rfl qab ?_
 simp[Tower.cells]
 refine CallZ.use0 kT rfl rfl ?_
 simp[ht]
 first | refine CallZ.use0 kV rfl rfl ?_ | refine CallY.use (fun _=>⟨rfl,kV⟩) rfl rfl ?_
 cases hs:qbo l with
 | false=>simp
 | true =>
  obtain⟨h1,h2⟩:=qlG hs
  have ka:=qsP t l (towIn ht) h1 h2
  simp only[Tower.cells]at ka
  simp
  refine CallZ.use ka rfl (.inr ⟨qcc _,trivial⟩) rfl rfl ?_
  simp
  refine CallZ.use0 (qsO (ampL t l) (by rw[qlH]; omega)) rfl rfl ?_
  simp[swayV]
set_option maxHeartbeats 1000000 in
theorem qsS (t:Tower) (l:List Swing) (ht:qbW t=true) (hl:l.length≤1048576):HFn Tryz.prog 275 [.agg t.cells, .sl 3 (Swing.rows l)] [] (.tup [.int .i64 (if qbo l=true then swayV t l else 0), .int .i64 (if qbo l=true then 0 else 1)]) []:=by
 have kT:=qsL t [t.cells] 0 rfl
 have kV:=qsN l hl
 simp only[Tower.cells]at kT
 refine qaa hm Tryz.func275 (by kernel_rfl) rfl (by kernel_rfl) rfl qab ?_
 simp[Tower.cells]
 refine CallZ.use0 kT rfl rfl ?_
 simp[ht]
 first | refine CallZ.use0 kV rfl rfl ?_ | refine CallY.use (fun _=>⟨rfl,kV⟩) rfl rfl ?_
 cases hs:qbo l with
 | false=>simp
 | true =>
  obtain⟨h1,h2⟩:=qlG hs
  have ka:=qsQ t l [t.cells] 0 rfl (towIn ht) h1 h2
  simp only[Tower.cells]at ka
  have hlen:=qlH t l
  simp
  refine CallZ.use ka rfl (.inr ⟨qcc _,trivial⟩) rfl rfl ?_
  unfold swayV
  generalize ampL t l=A at hlen ⊢
  simp
  refine qac hm A.length (fun i=>⟨[(6, .sf 0 1),(7, .int .i64 (addL A i)),(8, .int .i64 i)],[some (.arr 1 (qad A))]⟩) (fun _=>True) (by kernel_rfl) ?_ trivial (fun i hi _ =>?_) (fun _ =>?_)
  ·exact Wk.weak (ρ:=[1]) (φ:=[]) (by simp[addL])
  ·have w1:IntKind.i64.wrap ((i:Int)+1)=(i:Int)+1:=w64 (by omega) (by omega)
   rw[qlE A hi]
   simp[qao,qbN,hi]
   exact Wk.weak (ρ:=[0]) (φ:=[]) (by simp[w1])
  ·simp[qao]
theorem qsT (t:Tower) (l:List Swing) (ht:qbW t=true) (hl:l.length≤1048576):HFn Tryz.prog 158 [.agg t.cells, .sl 3 (Swing.rows l)] [] (.bool (permV t l)) []:=by
 have k:=qsR t l ht hl
 simp only[Tower.cells]at k
 refine qaa hm Tryz.func158 (by kernel_rfl) rfl (by kernel_rfl) rfl qab ?_
 simp[Tower.cells]
 refine CallZ.use0 k rfl rfl ?_
 cases hs:qbo l<;>simp[permV,hs]
theorem qsU (t:Tower) (l:List Swing) (ht:qbW t=true) (hl:l.length≤1048576):HFn Tryz.prog 205 [.agg t.cells, .sl 3 (Swing.rows l)] [] (.bool (permV t l)) []:=by
 have k:=qsS t l ht hl
 simp only[Tower.cells]at k
 refine qaa hm Tryz.func205 (by kernel_rfl) rfl (by kernel_rfl) rfl qab ?_
 simp[Tower.cells]
 refine CallZ.use0 k rfl rfl ?_
 cases hs:qbo l<;>simp[permV,hs]
end Go.Proofs.YteckngloamnfdaaGreatDoor
