/- Contracts: places outside a chamber, places that clash. No condition. -/
import Derived.Test.YteckngloamnfdaaGreatDoorBi
import Derived.Test.YteckngloamnfdaaGreatDoorKe
namespace Go.Proofs.YteckngloamnfdaaGreatDoor
open Go Go.Ab
set_option maxRecDepth 100000
def fitsC (c:Chamber) (p:Place) (gap:Int):Bool :=
 (decide (IntKind.i64.wrap (p.reach+gap)≤p.x)&&decide (p.x≤IntKind.i64.wrap (c.width-IntKind.i64.wrap (p.reach+gap))))&&(decide (IntKind.i64.wrap (p.reach+gap)≤p.y)&&decide (p.y≤IntKind.i64.wrap (c.length-IntKind.i64.wrap (p.reach+gap))))&&(decide (IntKind.i64.wrap (p.reach+gap)≤p.z)&&decide (p.z≤IntKind.i64.wrap (c.height-IntKind.i64.wrap (p.reach+gap))))
theorem qtv (c:Chamber) (p:Place) (gap:Int):HFn Tryz.prog 240 [.agg c.cells, .agg p.cells, .int .i64 gap] [] (.bool (fitsC c p gap)) []:=by
 refine qaa hm Tryz.func240 (by kernel_rfl) rfl (by kernel_rfl) rfl qab ?_
 simp[Chamber.cells,Place.cells]
 refine CallZ.use0 (qai _ _ _) rfl rfl ?_
 simp
 repeat refine⟨by grind,?_⟩
 refine CallY.use (fun _=>⟨rfl,qai _ _ _⟩) rfl rfl ?_
 simp
 repeat refine⟨by grind,?_⟩
 refine CallY.use (fun _=>⟨rfl,qai _ _ _⟩) rfl rfl ?_
 simp[fitsC]
theorem qtw (c:Carillon) (tl:List PV) (w:Nat) (rows:List (List PV)) (i0:Nat) (hr:rows[i0]?=some (c.cells++tl)) (p:Place) (rows':List (List PV)) (j:Nat) (hr':rows'[j]?=some p.cells) (gap:Int) :
  HFn Tryz.prog 268 [.pe (w+20) rows i0 4, .pe 5 rows' j 0, .int .i64 gap] [] (.bool (fitsC c.chamber p gap)) []:=by
 have hi:i0<rows.length:=(List.getElem?_eq_some_iff.1 hr).1
 have hx:rows[i0]=c.cells++tl:=(List.getElem?_eq_some_iff.1 hr).2
 have hj:j<rows'.length:=(List.getElem?_eq_some_iff.1 hr').1
 have hy:rows'[j]=p.cells:=(List.getElem?_eq_some_iff.1 hr').2
 rw[Carillon.cells]at hr hx
 simp only[List.cons_append,List.nil_append]at hr hx
 rw[Place.cells]at hr' hy
 refine qaa hm Tryz.func268 (by kernel_rfl) rfl (by kernel_rfl) rfl qab ?_
 simp[hi,hx,hj,hy]
 refine CallZ.use0 (qaj _ _ _) rfl rfl ?_
 simp[hi,hx,hj,hy]
 repeat refine⟨by grind,?_⟩
 refine CallY.use (fun _=>⟨rfl,qaj _ _ _⟩) rfl rfl ?_
 simp[hi,hx,hj,hy]
 repeat refine⟨by grind,?_⟩
 refine CallY.use (fun _=>⟨rfl,qaj _ _ _⟩) rfl rfl ?_
 simp[fitsC]
def outTo (c:Chamber) (l:List Place) (gap:Int) (i:Nat):List Int:=((List.range i).filter fun j=>match l[j]? with
 | some p => !fitsC c p gap
 | none=>false).map fun (j:Nat)=>(j:Int)
theorem ql8 (c:Chamber) (l:List Place) (gap:Int) {i:Nat} (hi:i<l.length):outTo c l gap (i+1)=if fitsC c l[i] gap=true then outTo c l gap i else outTo c l gap i++[(i:Int)]:=by
 unfold outTo
 rw[List.range_succ,List.filter_append,List.map_append]
 cases h:fitsC c l[i] gap<;>simp[hi,h]
theorem qfu (c:Chamber) (l:List Place) (gap:Int) (i:Nat):(outTo c l gap i).length≤i:=by
 unfold outTo
 rw[List.length_map]
 exact Nat.le_trans (List.length_filter_le _ _) (by simp)
theorem ql9 {c:Chamber} {l:List Place} {gap:Int} {i:Nat} {k:Int} (h:k∈outTo c l gap i):∃j:Nat,k=j∧j<l.length:=by
 unfold outTo at h
 obtain⟨j,hj,rfl⟩:=List.mem_map.1 h
 rw[List.mem_filter]at hj
 refine⟨j,rfl,?_⟩
 by_cases hl:j<l.length
 ·exact hl
 ·have:=hj.2
  rw[List.getElem?_eq_none (by omega)]at this
  simp at this
theorem qeS {l:List Place} (h:qbL l=true):l.length≤24:=by
 simp only[qbL,Bool.and_eq_true,decide_eq_true_eq]at h
 omega
set_option maxHeartbeats 2000000 in
theorem qtx (c:Chamber) (l:List Place) (gap:Int) (hc:qeb c=true) (hl:qbL l=true) (hg:0≤gap∧gap≤5000) :
  HFn Tryz.prog 154 [.agg c.cells, .sl 5 (Place.rows l), .int .i64 gap] [] (.tup [.sf 0 1, .int .i64 0]) [some (.arr 1 (qad (outTo c l gap l.length)))]:=by
 have hlen:=qeS hl
 have kC:=qko c
 have kF:=fun p=>qtv c p gap
 simp only[Chamber.cells,Place.cells]at kC kF
 refine qaa hm Tryz.func154 (by kernel_rfl) rfl (by kernel_rfl) rfl (fun _ _ h=>h) ?_
 simp[Chamber.cells]
 refine CallZ.use0 kC rfl rfl ?_
 simp[hc]
 first | refine CallZ.use0 (qhv l (by omega)) rfl rfl ?_ | refine CallY.use (fun _=>⟨rfl,qhv l (by omega)⟩) rfl rfl ?_
 simp[hl]
 refine CallZ.use0 (qkm gap) rfl rfl ?_
 simp[hg]
 refine qac hm l.length (fun i=>⟨[(2, .int .i64 gap),(3, .pb 0 0),(8, .sf 1 1),(24, .sl 5 (Place.rows l)),(25, .int .i64 l.length),(26, .int .i64 i)],[some (.box [.int .i64 c.width, .int .i64 c.length, .int .i64 c.height]),some (.arr 1 (qad (outTo c l gap i)))]⟩) (fun _=>True) (by kernel_rfl) ?_ trivial (fun i hi _ =>?_) (fun _ =>?_)
 ·exact (qaA (t:=8) (z:=1) rfl).trans (Wk.weak (ρ:=[0,1]) (φ:=[]) (by simp[outTo,qad,Place.rows_len]))
 ·have w1:IntKind.i64.wrap ((i:Int)+1)=(i:Int)+1:=w64 (by omega) (by omega)
  have hle:=qfu c l gap i
  rw[ql8 c l gap hi]
  generalize outTo c l gap i=T at hle ⊢
  simp[Place.rows,Place.cells,hi]
  refine CallZ.use0 (kF l[i]) rfl rfl ?_
  simp[qao]
  refine⟨fun h=>⟨by simp[rowsOne],by omega,by omega,Wk.weak (ρ:=[0,1]) (φ:=[]) ?_⟩,fun h=>Wk.weak (ρ:=[0,1]) (φ:=[]) ?_⟩
  ·simp[w1,h,qcf]
   rfl
  ·simp[w1,h]
 ·simp
  exact Wk.weak (ρ:=[1]) (φ:=[]) (by simp)
set_option maxHeartbeats 2000000 in
theorem qty (c:Carillon) (tl:List PV) (w:Nat) (rows:List (List PV)) (i0:Nat) (hr:rows[i0]?=some (c.cells++tl)) (l:List Place) (gap:Int) (hlen:l.length≤24) :
  HFn Tryz.prog 201 [.pe (w+20) rows i0 4, .sl 5 (Place.rows l), .int .i64 gap] [] (.sf 0 1) [some (.arr 1 (qad (outTo c.chamber l gap l.length)))]:=by
 refine qaa hm Tryz.func201 (by kernel_rfl) rfl (by kernel_rfl) rfl (fun _ _ h=>h) ?_
 simp
 refine qac hm l.length (fun i=>⟨[(0, .pe (w+20) rows i0 4),(1, .sl 5 (Place.rows l)),(2, .int .i64 gap),(7, .sf 0 1),(8, .int .i64 i)],[some (.arr 1 (qad (outTo c.chamber l gap i)))]⟩) (fun _=>True) (by kernel_rfl) ?_ trivial (fun i hi _ =>?_) (fun _ =>?_)
 ·exact (qaA (t:=7) (z:=1) rfl).trans (Wk.weak (ρ:=[0]) (φ:=[]) (by simp[outTo,qad]))
 ·have w1:IntKind.i64.wrap ((i:Int)+1)=(i:Int)+1:=w64 (by omega) (by omega)
  have hle:=qfu c.chamber l gap i
  rw[ql8 c.chamber l gap hi]
  generalize outTo c.chamber l gap i=T at hle ⊢
  simp[Place.rows,hi]
  refine CallZ.use0 (qtw c tl w rows i0 hr l[i] _ i (by simp[hi]) gap) rfl rfl ?_
  simp[qao]
  refine⟨fun h=>⟨by simp[rowsOne],by omega,by omega,Wk.weak (ρ:=[0]) (φ:=[]) ?_⟩,fun h=>Wk.weak (ρ:=[0]) (φ:=[]) ?_⟩
  ·simp[w1,h,qcf]
   rfl
  ·simp[w1,h]
 ·simp[Place.rows_len]
  exact Wk.weak (ρ:=[0]) (φ:=[]) (by simp)
def qcj (a b:Place):Int:=(a.x-b.x)*(a.x-b.x)+(a.y-b.y)*(a.y-b.y)+(a.z-b.z)*(a.z-b.z)
def qb0 (a b:Place):Int:=IntKind.i64.wrap (IntKind.i64.wrap (rootV (qcj a b)-a.reach)-b.reach)
theorem sq_le {d M:Int} (h1 : -M≤d) (h2:d≤M):0≤d*d∧d*d≤M*M:=by
 refine⟨sq_nn d,?_⟩
 have h:=Int.mul_nonneg (show 0≤M-d by omega) (show 0≤M+d by omega)
 have e:(M-d)*(M+d)=M*M-d*d:=by grind
 omega
theorem qgC {p:Place} (h:qbg p=true):(0≤p.x∧p.x≤20000)∧(0≤p.y∧p.y≤20000)∧(0≤p.z∧p.z≤20000):=by
 simp only[qbg,Bool.and_eq_true,decide_eq_true_eq]at h
 omega
theorem qtz (a b:Place) (ha:qbg a=true) (hb:qbg b=true):HFn Tryz.prog 241 [.agg a.cells, .agg b.cells] [] (.int .i64 (qb0 a b)) []:=by
 obtain⟨⟨a1,a2⟩,⟨a3,a4⟩,a5,a6⟩:=qgC ha
 obtain⟨⟨b1,b2⟩,⟨b3,b4⟩,b5,b6⟩:=qgC hb
 have wx:IntKind.i64.wrap (a.x-b.x)=a.x-b.x:=w64 (by omega) (by omega)
 have wy:IntKind.i64.wrap (a.y-b.y)=a.y-b.y:=w64 (by omega) (by omega)
 have wz:IntKind.i64.wrap (a.z-b.z)=a.z-b.z:=w64 (by omega) (by omega)
 obtain⟨x1,x2⟩:=sq_le (d:=a.x-b.x) (M:=20000) (by omega) (by omega)
 obtain⟨y1,y2⟩:=sq_le (d:=a.y-b.y) (M:=20000) (by omega) (by omega)
 obtain⟨z1,z2⟩:=sq_le (d:=a.z-b.z) (M:=20000) (by omega) (by omega)
 have wxx:IntKind.i64.wrap ((a.x-b.x)*(a.x-b.x))=(a.x-b.x)*(a.x-b.x):=w64 (by omega) (by omega)
 have wyy:IntKind.i64.wrap ((a.y-b.y)*(a.y-b.y))=(a.y-b.y)*(a.y-b.y):=w64 (by omega) (by omega)
 have wzz:IntKind.i64.wrap ((a.z-b.z)*(a.z-b.z))=(a.z-b.z)*(a.z-b.z):=w64 (by omega) (by omega)
 have w1:IntKind.i64.wrap ((a.x-b.x)*(a.x-b.x)+(a.y-b.y)*(a.y-b.y))=(a.x-b.x)*(a.x-b.x)+(a.y-b.y)*(a.y-b.y):=w64 (by omega) (by omega)
 have w2:IntKind.i64.wrap ((a.x-b.x)*(a.x-b.x)+(a.y-b.y)*(a.y-b.y)+(a.z-b.z)*(a.z-b.z))=(a.x-b.x)*(a.x-b.x)+(a.y-b.y)*(a.y-b.y)+(a.z-b.z)*(a.z-b.z):=w64 (by omega) (by omega)
 have kr:=qhl (qcj a b) ⟨by unfold qcj; omega,by unfold qcj; omega⟩ (by unfold qcj; omega)
 rw[qcj]at kr
 refine qaa hm Tryz.func241 (by kernel_rfl) rfl (by kernel_rfl) rfl qab ?_
 simp[Place.cells,wx,wy,wz,wxx,wyy,wzz,w1,w2]
 refine CallZ.use0 kr rfl rfl ?_
 simp[qb0,qcj]
theorem qtA (a b:Place) (ra rb:List (List PV)) (i j:Nat) (h1:ra[i]?=some a.cells) (h2:rb[j]?=some b.cells) (ha:qbg a=true) (hb:qbg b=true):HFn Tryz.prog 269 [.pe 5 ra i 0, .pe 5 rb j 0] [] (.int .i64 (qb0 a b)) []:=by
 obtain⟨⟨a1,a2⟩,⟨a3,a4⟩,a5,a6⟩:=qgC ha
 obtain⟨⟨b1,b2⟩,⟨b3,b4⟩,b5,b6⟩:=qgC hb
 have wx:IntKind.i64.wrap (a.x-b.x)=a.x-b.x:=w64 (by omega) (by omega)
 have wy:IntKind.i64.wrap (a.y-b.y)=a.y-b.y:=w64 (by omega) (by omega)
 have wz:IntKind.i64.wrap (a.z-b.z)=a.z-b.z:=w64 (by omega) (by omega)
 obtain⟨x1,x2⟩:=sq_le (d:=a.x-b.x) (M:=20000) (by omega) (by omega)
 obtain⟨y1,y2⟩:=sq_le (d:=a.y-b.y) (M:=20000) (by omega) (by omega)
 obtain⟨z1,z2⟩:=sq_le (d:=a.z-b.z) (M:=20000) (by omega) (by omega)
 have wxx:IntKind.i64.wrap ((a.x-b.x)*(a.x-b.x))=(a.x-b.x)*(a.x-b.x):=w64 (by omega) (by omega)
 have wyy:IntKind.i64.wrap ((a.y-b.y)*(a.y-b.y))=(a.y-b.y)*(a.y-b.y):=w64 (by omega) (by omega)
 have wzz:IntKind.i64.wrap ((a.z-b.z)*(a.z-b.z))=(a.z-b.z)*(a.z-b.z):=w64 (by omega) (by omega)
 have w1:IntKind.i64.wrap ((a.x-b.x)*(a.x-b.x)+(a.y-b.y)*(a.y-b.y))=(a.x-b.x)*(a.x-b.x)+(a.y-b.y)*(a.y-b.y):=w64 (by omega) (by omega)
 have w2:IntKind.i64.wrap ((a.x-b.x)*(a.x-b.x)+(a.y-b.y)*(a.y-b.y)+(a.z-b.z)*(a.z-b.z))=(a.x-b.x)*(a.x-b.x)+(a.y-b.y)*(a.y-b.y)+(a.z-b.z)*(a.z-b.z):=w64 (by omega) (by omega)
 have kr:=qhm (qcj a b) ⟨by unfold qcj; omega,by unfold qcj; omega⟩ (by unfold qcj; omega)
 rw[qcj]at kr
 have hia:i<ra.length:=(List.getElem?_eq_some_iff.1 h1).1
 have hjb:j<rb.length:=(List.getElem?_eq_some_iff.1 h2).1
 have ga:ra[i]=a.cells:=(List.getElem?_eq_some_iff.1 h1).2
 have gb:rb[j]=b.cells:=(List.getElem?_eq_some_iff.1 h2).2
 rw[Place.cells]at h1 h2 ga gb
 refine qaa hm Tryz.func269 (by kernel_rfl) rfl (by kernel_rfl) rfl qab ?_
 simp[hia,hjb,ga,gb,wx,wy,wz,wxx,wyy,wzz,w1,w2]
 refine CallZ.use0 kr rfl rfl ?_
 simp[hia,hjb,ga,gb,qb0,qcj]
def hitB (l:List Place) (gap:Int) (i j:Nat):Bool:=match l[i]?,l[j]? with
 | some a,some b=>decide (qb0 a b<gap)
 | _,_=>false
def rowTo (l:List Place) (gap:Int) (i j:Nat):List (Nat×Nat):=((List.range j).filter fun k=>decide (i<k)&&hitB l gap i k).map fun k=>(i,k)
def qa1 (l:List Place) (gap:Int) (i:Nat):List (Nat×Nat):=((List.range i).map fun a=>rowTo l gap a l.length).flatten
def qaV (L:List (Nat×Nat)):List (List PV):=L.map fun x=>[.sl 1 (qad [(x.1:Int),(x.2:Int)])]
theorem qdT (L:List (Nat×Nat)):(qaV L).length=L.length:=by simp[qaV]
theorem qma (L M:List (Nat×Nat)):qaV (L++M)=qaV L++qaV M:=by simp[qaV]
theorem qmb (l:List Place) (gap:Int) (i j:Nat):rowTo l gap i (j+1)=if (decide (i<j)&&hitB l gap i j)=true then rowTo l gap i j++[(i,j)] else rowTo l gap i j:=by
 unfold rowTo
 rw[List.range_succ,List.filter_append,List.map_append]
 cases h:(decide (i<j)&&hitB l gap i j)<;>simp[h]
theorem qmc (l:List Place) (gap:Int) (i:Nat):rowTo l gap i (i+1)=[]:=by
 unfold rowTo
 rw[List.map_eq_nil_iff,List.filter_eq_nil_iff]
 intro k hk
 have:=List.mem_range.1 hk
 have h:¬i<k:=by omega
 simp[h]
theorem qhX (l:List Place) (gap:Int) (i j:Nat):(rowTo l gap i j).length≤j:=by
 unfold rowTo
 rw[List.length_map]
 exact Nat.le_trans (List.length_filter_le _ _) (by simp)
theorem qhY (l:List Place) (gap:Int) (i:Nat):qa1 l gap (i+1)=qa1 l gap i++rowTo l gap i l.length:=by
 unfold qa1
 rw[List.range_succ]
 simp
theorem qfv (l:List Place) (gap:Int) (i:Nat):(qa1 l gap i).length≤i*l.length:=by
 induction i with
 | zero=>simp[qa1]
 | succ i ih =>
  rw[qhY,List.length_append,Nat.add_mul]
  have:=qhX l gap i l.length
  omega
theorem qtB {l:List Place} {gap:Int} {i j:Nat} {x:Nat×Nat} (h:x∈rowTo l gap i j):x.1<l.length∧x.2<l.length:=by
 unfold rowTo at h
 obtain⟨k,hk,rfl⟩:=List.mem_map.1 h
 rw[List.mem_filter,Bool.and_eq_true]at hk
 have h2:=hk.2.2
 unfold hitB at h2
 by_cases h3:i<l.length
 ·by_cases h4:k<l.length
  ·exact⟨h3,h4⟩
  ·rw[List.getElem?_eq_none (by omega:l.length≤k)]at h2
   split at h2
   ·rename_i hh; cases hh
   ·cases h2
 ·rw[List.getElem?_eq_none (by omega:l.length≤i)]at h2
  split at h2
  ·rename_i hh _; cases hh
  ·cases h2
theorem qmd {l:List Place} {gap:Int} {i:Nat} {x:Nat×Nat} (h:x∈qa1 l gap i):x.1<l.length∧x.2<l.length:=by
 unfold qa1 at h
 obtain⟨r,hr,hx⟩:=List.mem_flatten.1 h
 obtain⟨a,_,rfl⟩:=List.mem_map.1 hr
 exact qtB hx
theorem qme {l:List Place} (gap:Int) {i j:Nat} (hi:i<l.length) (hj:j<l.length):hitB l gap i j=decide (qb0 l[i] l[j]<gap):=by simp[hitB,hi,hj]
theorem qgD {l:List Place} (h:qbL l=true) {i:Nat} (hi:i<l.length):qbg l[i]=true:=by
 simp only[qbL,Bool.and_eq_true]at h
 exact qdn h.1 _ (List.getElem_mem hi)
set_option maxHeartbeats 4000000 in
theorem qtC (l:List Place) (gap:Int) (hl:qbL l=true):HFn Tryz.prog 155 [.sl 5 (Place.rows l), .int .i64 gap] [] (.sl 1 (qaV (qa1 l gap l.length))) []:=by
 have hlen:=qeS hl
 refine qaa hm Tryz.func155 (by kernel_rfl) rfl (by kernel_rfl) rfl (fun _ _ h=>h) ?_
 simp[Place.rows_len]
 refine qac hm l.length (fun i=>⟨[(0, .sl 5 (Place.rows l)),(1, .int .i64 gap),(5, .sf 0 1),(9, .int .i64 l.length),(10, .int .i64 i)],[some (.arr 1 (qaV (qa1 l gap i)))]⟩) (fun _=>True) (by kernel_rfl) ?_ trivial (fun i hi _ =>?_) (fun _ =>?_)
 ·exact (qaA (t:=5) (z:=1) rfl).trans (Wk.weak (ρ:=[0]) (φ:=[]) (by simp[qa1,qaV]))
 ·have w1:IntKind.i64.wrap ((i:Int)+1)=(i:Int)+1:=w64 (by omega) (by omega)
  have hcl:=qfv l gap i
  have hcl2:i*l.length≤24*24:=Nat.mul_le_mul (by omega) hlen
  simp[hi]
  refine qjI hm [9] (l.length-(i+1)) (fun k=>⟨[(0, .sl 5 (Place.rows l)),(1, .int .i64 gap),(5, .sf 0 1),(6, .int .i64 i),(7, .int .i64 ((i+1+k:Nat):Int)),(9, .int .i64 l.length),(10, .int .i64 i)],[some (.arr 1 (qaV (qa1 l gap i++rowTo l gap i (i+1+k))))]⟩) (fun _=>True) (by kernel_rfl) ?_ trivial (fun k hk _ =>?_) (fun _ =>?_)
  ·refine Wk.weak (ρ:=[0]) (φ:=[]) ?_
   simp[qmc,w1]
  ·obtain⟨j,hj⟩:∃j,j=i+1+k:=⟨_,rfl⟩
   have hjl:j<l.length:=by omega
   have hij:i<j:=by omega
   have ej:i+1+(k+1)=j+1:=by omega
   have w2:IntKind.i64.wrap ((j:Int)+1)=(j:Int)+1:=w64 (by omega) (by omega)
   have hh:=qme gap hi hjl
   have hle:=qhX l gap i j
   rw[ej,←hj,qmb,hh]
   have hle2:(qa1 l gap i++rowTo l gap i j).length≤1000:=by rw[List.length_append]; omega
   rw[show (if (decide (i<j)&&decide (qb0 l[i] l[j]<gap))=true then rowTo l gap i j++[(i,j)] else rowTo l gap i j)=rowTo l gap i j++(if qb0 l[i] l[j]<gap then [(i,j)] else []) by by_cases h:qb0 l[i] l[j]<gap<;>simp[h,hij],←List.append_assoc]
   generalize qa1 l gap i++rowTo l gap i j=T at hle2 ⊢
   have kc:=qtz l[i] l[j] (qgD hl hi) (qgD hl hjl)
   simp only[Place.cells]at kc
   simp[Place.rows,Place.cells,hi,hjl]
   refine CallZ.use0 kc rfl rfl ?_
   simp
   refine⟨fun h =>?_,fun h=>Wk.weak (ρ:=[0]) (φ:=[]) ?_⟩
   ·refine qjH 4 (by kernel_rfl) ?_
    simp
    refine⟨⟨[(0, .sl 5 (Place.rows l)),(1, .int .i64 gap),(5, .sf 0 1),(6, .int .i64 i),(7, .int .i64 j),(9, .int .i64 l.length),(10, .int .i64 i),(32, .sf 0 1),(35, .sl 1 (qad [(i:Int),(j:Int)]))],[some (.arr 1 (qaV T))]⟩,Wk.weak (ρ:=[0]) (φ:=[1]) (by simp[qad,Place.rows]),?_⟩
    simp[qdT]
    refine⟨by simp[rowsOne],by omega,by omega,Wk.weak (ρ:=[0]) (φ:=[]) ?_⟩
    simp[w2,h,qma,Place.rows]
    simp[qaV]
   ·have h':¬qb0 l[i] l[j]<gap:=by omega
    simp[w2,h']
  ·rw[show i+1+(l.length-(i+1))=l.length by omega,←qhY]
   simp[Place.rows_len]
   refine Wk.weak (ρ:=[0]) (φ:=[]) ?_
   simp[w1]
 ·simp
  exact Wk.weak (ρ:=[]) (φ:=[0]) (by simp)
set_option maxHeartbeats 4000000 in
theorem qtD (l:List Place) (gap:Int) (hl:qbL l=true):HFn Tryz.prog 202 [.sl 5 (Place.rows l), .int .i64 gap] [] (.sl 1 (qaV (qa1 l gap l.length))) []:=by
 have hlen:=qeS hl
 refine qaa hm Tryz.func202 (by kernel_rfl) rfl (by kernel_rfl) rfl (fun _ _ h=>h) ?_
 simp
 refine qac hm l.length (fun i=>⟨[(0, .sl 5 (Place.rows l)),(1, .int .i64 gap),(5, .sf 0 1),(6, .int .i64 i)],[some (.arr 1 (qaV (qa1 l gap i)))]⟩) (fun _=>True) (by kernel_rfl) ?_ trivial (fun i hi _ =>?_) (fun _ =>?_)
 ·exact (qaA (t:=5) (z:=1) rfl).trans (Wk.weak (ρ:=[0]) (φ:=[]) (by simp[qa1,qaV]))
 ·have w1:IntKind.i64.wrap ((i:Int)+1)=(i:Int)+1:=w64 (by omega) (by omega)
  have hcl:=qfv l gap i
  have hcl2:i*l.length≤24*24:=Nat.mul_le_mul (by omega) hlen
  simp[Place.rows_len,hi]
  refine qjI hm [9] (l.length-(i+1)) (fun k=>⟨[(0, .sl 5 (Place.rows l)),(1, .int .i64 gap),(5, .sf 0 1),(6, .int .i64 i),(7, .int .i64 ((i+1+k:Nat):Int))],[some (.arr 1 (qaV (qa1 l gap i++rowTo l gap i (i+1+k))))]⟩) (fun _=>True) (by kernel_rfl) ?_ trivial (fun k hk _ =>?_) (fun _ =>?_)
  ·refine Wk.weak (ρ:=[0]) (φ:=[]) ?_
   simp[qmc,w1]
  ·obtain⟨j,hj⟩:∃j,j=i+1+k:=⟨_,rfl⟩
   have hjl:j<l.length:=by omega
   have hij:i<j:=by omega
   have ej:i+1+(k+1)=j+1:=by omega
   have w2:IntKind.i64.wrap ((j:Int)+1)=(j:Int)+1:=w64 (by omega) (by omega)
   have hh:=qme gap hi hjl
   have hle:=qhX l gap i j
   rw[ej,←hj,qmb,hh]
   have hle2:(qa1 l gap i++rowTo l gap i j).length≤1000:=by rw[List.length_append]; omega
   rw[show (if (decide (i<j)&&decide (qb0 l[i] l[j]<gap))=true then rowTo l gap i j++[(i,j)] else rowTo l gap i j)=rowTo l gap i j++(if qb0 l[i] l[j]<gap then [(i,j)] else []) by by_cases h:qb0 l[i] l[j]<gap<;>simp[h,hij],←List.append_assoc]
   generalize qa1 l gap i++rowTo l gap i j=T at hle2 ⊢
   simp[Place.rows_len,hi,hjl]
   refine CallZ.use0 (qtA l[i] l[j] (Place.rows l) (Place.rows l) i j (by simp[Place.rows,hi]) (by simp[Place.rows,hjl]) (qgD hl hi) (qgD hl hjl)) rfl rfl ?_
   simp
   refine⟨fun h =>?_,fun h=>Wk.weak (ρ:=[0]) (φ:=[]) ?_⟩
   ·refine qjH 4 (by kernel_rfl) ?_
    simp
    refine⟨⟨[(0, .sl 5 (Place.rows l)),(1, .int .i64 gap),(5, .sf 0 1),(6, .int .i64 i),(7, .int .i64 j),(32, .sf 0 1),(35, .sl 1 (qad [(i:Int),(j:Int)]))],[some (.arr 1 (qaV T))]⟩,Wk.weak (ρ:=[0]) (φ:=[1]) (by simp[qad,Place.rows]),?_⟩
    simp[qdT]
    refine⟨by simp[rowsOne],by omega,by omega,Wk.weak (ρ:=[0]) (φ:=[]) ?_⟩
    simp[w2,h,qma,Place.rows]
    simp[qaV]
   ·have h':¬qb0 l[i] l[j]<gap:=by omega
    simp[w2,h',Place.rows]
  ·rw[show i+1+(l.length-(i+1))=l.length by omega,←qhY]
   simp[Place.rows_len]
   refine Wk.weak (ρ:=[0]) (φ:=[]) ?_
   simp[w1]
 ·simp[Place.rows_len]
  exact Wk.weak (ρ:=[]) (φ:=[0]) (by simp)
def qhZ:List UInt8:=[109,105,115,115,105,110,103]
def qh0:List UInt8:=[111,117,116,115,105,100,101]
def qeg (ps:List Place) (k:Nat):List UInt8:=match ps[k]? with
 | some p=>p.bell
 | none=>[]
def qck (ps:List Place) (h:Hung):List Trouble:=if hasId Place.bell ps h.bell=true then [] else [⟨3,h.bell,qhZ⟩]
theorem qfw (ps:List Place) (h:Hung):(qck ps h).length≤1:=by unfold qck; split<;>simp
def outT (ps:List Place) (k:Int):Trouble:=⟨3,qeg ps k.toNat,qh0⟩
def qdt (ps:List Place) (x:Nat×Nat):Trouble:=⟨4,qeg ps x.1,qeg ps x.2⟩
def outsL (c:Carillon):List Int:=outTo c.chamber c.places c.gap c.places.length
def qdd (c:Carillon):List (Nat×Nat):=qa1 c.places c.gap c.places.length
def roomL (c:Carillon):List Trouble:=upTo (qck c.places) c.hung c.hung.length++(outsL c).map (outT c.places)++(qdd c).map (qdt c.places)
theorem qgE {α β:Type} (f:α→β) (l:List α) {i:Nat} (hi:i<l.length):(l.take (i+1)).map f=(l.take i).map f++[f l[i]]:=by
 rw[←List.take_append_getElem hi,List.map_append]
 rfl
theorem qtE (p:Place) (h:Hung) (rows:List (List PV)) (i0:Nat) (hr:rows[i0]?=some h.cells):HFn Tryz.prog 153 [.agg p.cells, .pe 5 rows i0 0] [] (.bool (decide (p.bell=h.bell))) []:=by
 have hi:i0<rows.length:=(List.getElem?_eq_some_iff.1 hr).1
 have hx0:rows[i0]=h.cells:=(List.getElem?_eq_some_iff.1 hr).2
 rw[Hung.cells]at hr hx0
 refine qaa hm Tryz.func153 (by kernel_rfl) rfl (by kernel_rfl) rfl qab ?_
 simp[hi,hx0,Place.cells]
theorem qmf (L:List (Nat×Nat)) {i:Nat} (h:i<(qaV L).length):(qaV L)[i]=[.sl 1 (qad [((L[i]'(by rw[qdT]at h; exact h)).1:Int),((L[i]'(by rw[qdT]at h; exact h)).2:Int)])]:=by simp[qaV]
set_option maxHeartbeats 8000000 in
theorem qtF (c:Carillon) (hc:CarOk c):HFn Tryz.prog 75 [.agg c.cells] [] (.sf 0 3) [trO (roomL c)]:=by
 have hl:=hc.hl
 have hp:=qeS hc.plac
 have hou:∀k∈outsL c,∃j:Nat,k=j∧j<c.places.length:=fun k hk=>ql9 hk
 have hcm:∀x∈qdd c,x.1<c.places.length∧x.2<c.places.length:=fun x hx=>qmd hx
 have hol:(outsL c).length≤24:=Nat.le_trans (qfu _ _ _ _) hp
 have hcl:(qdd c).length≤576:=Nat.le_trans (qfv _ _ _) (Nat.mul_le_mul hp hp)
 have kO:=qtx c.chamber c.places c.gap hc.cham hc.plac hc.gap
 have kC:=qtC c.places c.gap hc.plac
 have eO:outTo c.chamber c.places c.gap c.places.length=outsL c:=rfl
 have eC:qa1 c.places c.gap c.places.length=qdd c:=rfl
 rw[eO]at kO
 rw[eC]at kC
 unfold roomL
 generalize outsL c=O at *
 generalize qdd c=X at *
 simp only[Chamber.cells]at kO
 refine qaa hm Tryz.func75 (by kernel_rfl) rfl (by kernel_rfl) rfl (fun _ _ h=>h) ?_
 simp[Carillon.cells,Hung.rows_len]
 refine qac hm c.hung.length (fun i=>⟨[(1, .pb 0 0),(3, .sf 1 3),(13, .sl 5 (Hung.rows c.hung)),(14, .int .i64 c.hung.length),(15, .int .i64 i)],[some (.box c.cells),trO (upTo (qck c.places) c.hung i)]⟩) (fun _=>True) (by kernel_rfl) ?_ trivial (fun i hi _ =>?_) (fun _ =>?_)
 ·exact (qaA (t:=3) (z:=3) rfl).trans (Wk.weak (ρ:=[0,1]) (φ:=[]) (by simp[Carillon.cells,qbZ,Trouble.rows]))
 ·have w1:IntKind.i64.wrap ((i:Int)+1)=(i:Int)+1:=w64 (by omega) (by omega)
  have hlen:=qdb (qfw c.places) c.hung i
  have kI:HFn Tryz.prog 152 [.sl 5 (Place.rows c.places), .fn 153 [.pe 5 [c.hung[i].cells] 0 0]] [] (.bool (hasId Place.bell c.places c.hung[i].bell)) [] :=
   qqi 153 5 [c.hung[i].cells] 0 0 (fun b=>decide (b.bell=c.hung[i].bell)) c.places (fun b _=>qtE b c.hung[i] _ 0 rfl) (by omega)
  rw[qbP _ _ hi]
  generalize upTo (qck c.places) c.hung i=T at hlen ⊢
  simp only[Hung.cells]at kI
  simp[Carillon.cells,Hung.rows,Hung.cells,hi]
  refine CallZ.use0 kI rfl rfl ?_
  simp[Trouble.rows_len]
  refine⟨fun h=>⟨by simp[rowsOne],by omega,by omega,Wk.weak (ρ:=[0,1]) (φ:=[]) ?_⟩,fun h=>Wk.weak (ρ:=[0,1]) (φ:=[]) ?_⟩
  ·simp[w1,qck,h,Trouble.rows,Trouble.cells,qhZ]
  ·simp[w1,qck,h]
 ·have hlen:=qdb (qfw c.places) c.hung c.hung.length
  generalize upTo (qck c.places) c.hung c.hung.length=A at hlen ⊢
  simp[Carillon.cells]
  refine CallZ.use kO rfl (.inr ⟨qcc _,trivial⟩) rfl rfl ?_
  simp[qao]
  refine qac hm O.length (fun i=>⟨[(1, .pb 0 0),(3, .sf 1 3),(41, .sf 2 1),(42, .int .i64 O.length),(43, .int .i64 i)],[some (.box c.cells),trO (A++(O.take i).map (outT c.places)),some (.arr 1 (qad O))]⟩) (fun _=>True) (by kernel_rfl) ?_ trivial (fun i hi _ =>?_) (fun _ =>?_)
  ·exact Wk.weak (ρ:=[0,1,2]) (φ:=[]) (by simp[Carillon.cells])
  ·have w1:IntKind.i64.wrap ((i:Int)+1)=(i:Int)+1:=w64 (by omega) (by omega)
   obtain⟨j,ej,hj⟩:=hou O[i] (List.getElem_mem hi)
   have hTl:(A++(O.take i).map (outT c.places)).length≤100:=by rw[List.length_append,List.length_map,List.length_take]; omega
   rw[qgE _ _ hi,←List.append_assoc,ej]
   generalize A++(O.take i).map (outT c.places)=T at hTl ⊢
   have eg:(qad O)[i]'(by rw[qao]; exact hi)=[.int .i64 j]:=by rw[qbN,ej]
   simp[Carillon.cells,hi,qao,eg,hj,Place.rows,Place.cells,Trouble.rows_len]
   refine⟨by simp[rowsOne],by omega,by omega,Wk.weak (ρ:=[0,1,2]) (φ:=[]) ?_⟩
   simp[w1,outT,qeg,hj,Trouble.rows,Trouble.cells,qh0]
  ·have hBl:(A++O.map (outT c.places)).length≤100:=by rw[List.length_append,List.length_map]; omega
   rw[List.take_length]
   generalize hB:A++O.map (outT c.places)=B at hBl ⊢
   simp[Carillon.cells]
   refine CallZ.use0 kC rfl rfl ?_
   simp[qdT]
   refine qac hm X.length (fun i=>⟨[(1, .pb 0 0),(3, .sf 1 3),(62, .sl 1 (qaV X)),(63, .int .i64 X.length),(64, .int .i64 i)],[some (.box c.cells),trO (B++(X.take i).map (qdt c.places))]⟩) (fun _=>True) (by kernel_rfl) ?_ trivial (fun i hi _ =>?_) (fun _ =>?_)
   ·exact Wk.weak (ρ:=[0,1]) (φ:=[]) (by simp[Carillon.cells])
   ·have w1:IntKind.i64.wrap ((i:Int)+1)=(i:Int)+1:=w64 (by omega) (by omega)
    obtain⟨h1,h2⟩:=hcm X[i] (List.getElem_mem hi)
    have hTl:(B++(X.take i).map (qdt c.places)).length≤1000:=by rw[List.length_append,List.length_map,List.length_take]; omega
    rw[qgE _ _ hi,←List.append_assoc]
    generalize B++(X.take i).map (qdt c.places)=T at hTl ⊢
    simp[Carillon.cells,hi,qdT,qmf,qad,h1,h2,Place.rows,Place.cells,Trouble.rows_len]
    refine⟨by simp[rowsOne],rfl,by omega,by omega,Wk.weak (ρ:=[0,1]) (φ:=[]) ?_⟩
    simp[w1,qdt,qeg,h1,h2,Trouble.rows,Trouble.cells,qaV]
   ·rw[List.take_length]
    subst hB
    simp
    exact Wk.weak (ρ:=[1]) (φ:=[]) (by simp)
theorem qtG (c:Carillon) (tl:List PV) (w:Nat) (rows:List (List PV)) (i0:Nat) (hr:rows[i0]?=some (c.cells++tl)) (s:List UInt8) (hb:c.places.length≤1048576):HFn Tryz.prog 200 [.pe (w+20) rows i0 0, .str s] [] (.bool (hasId Place.bell c.places s)) []:=by
 have hi:i0<rows.length:=(List.getElem?_eq_some_iff.1 hr).1
 have hx:rows[i0]=c.cells++tl:=(List.getElem?_eq_some_iff.1 hr).2
 rw[Carillon.cells]at hr hx
 simp only[List.cons_append,List.nil_append]at hr hx
 refine qaa hm Tryz.func200 (by kernel_rfl) rfl (by kernel_rfl) rfl qab ?_
 simp
 refine qac hm c.places.length (fun i=>⟨[(0, .pe (w+20) rows i0 0),(1, .str s),(5, .int .i64 i)],[]⟩) (fun i=>∀j (h:j<c.places.length),j<i→¬c.places[j].bell=s) (by kernel_rfl) ?_ (by simp) (fun i hi' hI =>?_) (fun hI =>?_)
 ·exact Wk.weak (ρ:=[]) (φ:=[]) (by simp)
 ·have w1:IntKind.i64.wrap ((i:Int)+1)=(i:Int)+1:=w64 (by omega) (by omega)
  simp[hi,hx,Place.rows,Place.cells,hi']
  refine⟨fun h=>List.any_eq_true.2 ⟨_,List.getElem_mem hi',by simpa using h⟩,fun h=>⟨qch hi' hI h,Wk.weak (ρ:=[]) (φ:=[]) ?_⟩⟩
  simp[w1]
 ·simp[hi,hx,Place.rows_len]
  rw[hasId,List.any_eq_false]
  intro y hy
  obtain⟨j,hj,rfl⟩:=List.getElem_of_mem hy
  simpa using hI j hj hj
set_option maxHeartbeats 8000000 in
theorem qtH (c:Carillon) (tl:List PV) (w:Nat) (rows:List (List PV)) (i0:Nat) (hr:rows[i0]?=some (c.cells++tl)) (hc:CarOk c):HFn Tryz.prog 123 [.pe (w+20) rows i0 0] [] (.sf 0 3) [trO (roomL c)]:=by
 have hl:=hc.hl
 have hp:=qeS hc.plac
 have hou:∀k∈outsL c,∃j:Nat,k=j∧j<c.places.length:=fun k hk=>ql9 hk
 have hcm:∀x∈qdd c,x.1<c.places.length∧x.2<c.places.length:=fun x hx=>qmd hx
 have hol:(outsL c).length≤24:=Nat.le_trans (qfu _ _ _ _) hp
 have hcl:(qdd c).length≤576:=Nat.le_trans (qfv _ _ _) (Nat.mul_le_mul hp hp)
 have kO:=qty c tl w rows i0 hr c.places c.gap hp
 have kC:=qtD c.places c.gap hc.plac
 have kP:=fun s=>qtG c tl w rows i0 hr s (by omega)
 have eO:outTo c.chamber c.places c.gap c.places.length=outsL c:=rfl
 have eC:qa1 c.places c.gap c.places.length=qdd c:=rfl
 rw[eO]at kO
 rw[eC]at kC
 unfold roomL
 generalize outsL c=O at *
 generalize qdd c=X at *
 have hi:i0<rows.length:=(List.getElem?_eq_some_iff.1 hr).1
 have hx:rows[i0]=c.cells++tl:=(List.getElem?_eq_some_iff.1 hr).2
 rw[Carillon.cells]at hr hx
 simp only[List.cons_append,List.nil_append]at hr hx
 refine qaa hm Tryz.func123 (by kernel_rfl) rfl (by kernel_rfl) rfl (fun _ _ h=>h) ?_
 simp
 refine qac hm c.hung.length (fun i=>⟨[(0, .pe (w+20) rows i0 0),(3, .sf 0 3),(4, .int .i64 i)],[trO (upTo (qck c.places) c.hung i)]⟩) (fun _=>True) (by kernel_rfl) ?_ trivial (fun i hi' _ =>?_) (fun _ =>?_)
 ·exact (qaA (t:=3) (z:=3) rfl).trans (Wk.weak (ρ:=[0]) (φ:=[]) (by simp[qbZ,Trouble.rows]))
 ·have w1:IntKind.i64.wrap ((i:Int)+1)=(i:Int)+1:=w64 (by omega) (by omega)
  have hlen:=qdb (qfw c.places) c.hung i
  rw[qbP _ _ hi']
  generalize upTo (qck c.places) c.hung i=T at hlen ⊢
  simp[hi,hx,Hung.rows,Hung.cells,hi']
  refine CallZ.use0 (kP c.hung[i].bell) rfl rfl ?_
  simp[hi,hx,Hung.rows,Hung.cells,hi',Trouble.rows_len]
  refine⟨fun h=>⟨by simp[rowsOne],by omega,by omega,Wk.weak (ρ:=[0]) (φ:=[]) ?_⟩,fun h=>Wk.weak (ρ:=[0]) (φ:=[]) ?_⟩
  ·simp[w1,qck,h,Trouble.rows,Trouble.cells,qhZ]
  ·simp[w1,qck,h]
 ·have hlen:=qdb (qfw c.places) c.hung c.hung.length
  generalize upTo (qck c.places) c.hung c.hung.length=A at hlen ⊢
  simp[hi,hx,Hung.rows_len]
  refine CallZ.use kO rfl (.inr ⟨qcc _,trivial⟩) rfl rfl ?_
  simp
  refine qac hm O.length (fun i=>⟨[(0, .pe (w+20) rows i0 0),(3, .sf 0 3),(5, .sf 1 1),(6, .int .i64 i)],[trO (A++(O.take i).map (outT c.places)),some (.arr 1 (qad O))]⟩) (fun _=>True) (by kernel_rfl) ?_ trivial (fun i hi' _ =>?_) (fun _ =>?_)
  ·exact Wk.weak (ρ:=[0,1]) (φ:=[]) (by simp)
  ·have w1:IntKind.i64.wrap ((i:Int)+1)=(i:Int)+1:=w64 (by omega) (by omega)
   obtain⟨j,ej,hj⟩:=hou O[i] (List.getElem_mem hi')
   have hTl:(A++(O.take i).map (outT c.places)).length≤100:=by rw[List.length_append,List.length_map,List.length_take]; omega
   rw[qgE _ _ hi',←List.append_assoc,ej]
   generalize A++(O.take i).map (outT c.places)=T at hTl ⊢
   have eg:(qad O)[i]'(by rw[qao]; exact hi')=[.int .i64 j]:=by rw[qbN,ej]
   simp[hi,hx,hi',qao,eg,hj,Place.rows,Place.cells,Trouble.rows_len]
   refine⟨by simp[rowsOne],rfl,by omega,by omega,Wk.weak (ρ:=[0,1]) (φ:=[]) ?_⟩
   simp[w1,outT,qeg,hj,Trouble.rows,Trouble.cells,qh0]
  ·have hBl:(A++O.map (outT c.places)).length≤100:=by rw[List.length_append,List.length_map]; omega
   rw[List.take_length]
   generalize hB:A++O.map (outT c.places)=B at hBl ⊢
   simp[hi,hx,qao]
   refine CallZ.use0 kC rfl rfl ?_
   simp
   refine qac hm X.length (fun i=>⟨[(0, .pe (w+20) rows i0 0),(3, .sf 0 3),(7, .sl 1 (qaV X)),(8, .int .i64 i)],[trO (B++(X.take i).map (qdt c.places))]⟩) (fun _=>True) (by kernel_rfl) ?_ trivial (fun i hi' _ =>?_) (fun _ =>?_)
   ·exact Wk.weak (ρ:=[0]) (φ:=[]) (by simp)
   ·have w1:IntKind.i64.wrap ((i:Int)+1)=(i:Int)+1:=w64 (by omega) (by omega)
    obtain⟨h1,h2⟩:=hcm X[i] (List.getElem_mem hi')
    have hTl:(B++(X.take i).map (qdt c.places)).length≤1000:=by rw[List.length_append,List.length_map,List.length_take]; omega
    rw[qgE _ _ hi',←List.append_assoc]
    generalize B++(X.take i).map (qdt c.places)=T at hTl ⊢
    simp[hi,hx,hi',qdT,qmf,qad,h1,h2,Place.rows,Place.cells,Trouble.rows_len]
    refine⟨by simp[rowsOne],rfl,by omega,by omega,Wk.weak (ρ:=[0]) (φ:=[]) ?_⟩
    simp[w1,qdt,qeg,h1,h2,Trouble.rows,Trouble.cells]
   ·rw[List.take_length]
    subst hB
    simp[qdT]
    exact Wk.weak (ρ:=[0]) (φ:=[]) (by simp)
end Go.Proofs.YteckngloamnfdaaGreatDoor
