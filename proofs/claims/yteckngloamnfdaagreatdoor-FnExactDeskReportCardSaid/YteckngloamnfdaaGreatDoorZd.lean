/- Swings of hung bells: contracts. No condition. The swings of hung bells: contracts. No condition. -/
import Derived.Test.YteckngloamnfdaaGreatDoorZb
namespace Go.Proofs.YteckngloamnfdaaGreatDoor
open Go Go.Ab
set_option maxRecDepth 100000
theorem qj8 (h:Hung):HFn Tryz.prog 224 [.agg h.cells] [] (.bool (qbI h)) []:=by
 refine qaa hm Tryz.func224 (by kernel_rfl) rfl (by kernel_rfl) rfl qab ?_
 simp[Hung.cells]
 refine CallZ.use0 (qa9 _) rfl rfl ?_
 simp
 first | refine CallY.use (fun _=>⟨rfl,qfe _⟩) rfl rfl ?_ | refine⟨by intros; simp[*],CallY.use (fun _=>⟨rfl,qfe _⟩) rfl rfl ?_⟩
 simp
 first | refine CallY.use (fun _=>⟨rfl,qai _ _ _⟩) rfl rfl ?_ | refine⟨by intros; simp[*],CallY.use (fun _=>⟨rfl,qai _ _ _⟩) rfl rfl ?_⟩
 simp
 first | refine CallY.use (fun _=>⟨rfl,qai _ _ _⟩) rfl rfl ?_ | refine⟨by intros; simp[*],CallY.use (fun _=>⟨rfl,qai _ _ _⟩) rfl rfl ?_⟩
 simp
 first | refine CallY.use (fun _=>⟨rfl,qai _ _ _⟩) rfl rfl ?_ | refine⟨by intros; simp[*],CallY.use (fun _=>⟨rfl,qai _ _ _⟩) rfl rfl ?_⟩
 simp[qbI]
theorem qpH (h:Hung) (rows:List (List PV)) (i:Nat) (hr:rows[i]?=some h.cells):HFn Tryz.prog 188 [.pe 5 rows i 0] [] (.bool (qbI h)) []:=by
 have hi:i<rows.length:=(List.getElem?_eq_some_iff.1 hr).1
 have hx:rows[i]=h.cells:=by rw[List.getElem?_eq_getElem hi]at hr; exact Option.some.inj hr
 refine qaa hm Tryz.func188 (by kernel_rfl) rfl (by kernel_rfl) rfl qab ?_
 rw[Hung.cells]at hr hx
 simp[hi,hx]
 refine CallZ.use0 (qba _) rfl rfl ?_
 simp[hi,hx]
 first | refine CallY.use (fun _=>⟨rfl,qaj _ _ _⟩) rfl rfl ?_ | refine⟨by intros; simp[*],CallY.use (fun _=>⟨rfl,qaj _ _ _⟩) rfl rfl ?_⟩
 simp[hi,hx]
 first | refine CallY.use (fun _=>⟨rfl,qaj _ _ _⟩) rfl rfl ?_ | refine⟨by intros; simp[*],CallY.use (fun _=>⟨rfl,qaj _ _ _⟩) rfl rfl ?_⟩
 simp[hi,hx]
 first | refine CallY.use (fun _=>⟨rfl,qaj _ _ _⟩) rfl rfl ?_ | refine⟨by intros; simp[*],CallY.use (fun _=>⟨rfl,qaj _ _ _⟩) rfl rfl ?_⟩
 simp[hi,hx]
 first | refine CallY.use (fun _=>⟨rfl,qaj _ _ _⟩) rfl rfl ?_ | refine⟨by intros; simp[*],CallY.use (fun _=>⟨rfl,qaj _ _ _⟩) rfl rfl ?_⟩
 simp[qbI]
theorem qj9 (s:Swing):HFn Tryz.prog 311 [.agg s.cells] [] (.bool (qbs s)) []:=by
 refine qaa hm Tryz.func311 (by kernel_rfl) rfl (by kernel_rfl) rfl qab ?_
 simp[Swing.cells]
 refine CallZ.use0 (qa9 _) rfl rfl ?_
 simp
 first | refine CallY.use (fun _=>⟨rfl,qai _ _ _⟩) rfl rfl ?_ | refine⟨by intros; simp[*],CallY.use (fun _=>⟨rfl,qai _ _ _⟩) rfl rfl ?_⟩
 simp
 first | refine CallY.use (fun _=>⟨rfl,qai _ _ _⟩) rfl rfl ?_ | refine⟨by intros; simp[*],CallY.use (fun _=>⟨rfl,qai _ _ _⟩) rfl rfl ?_⟩
 simp[qbs]
theorem qka (s:Swing) (rows:List (List PV)) (i:Nat) (hr:rows[i]?=some s.cells):HFn Tryz.prog 274 [.pe 3 rows i 0] [] (.bool (qbs s)) []:=by
 have hi:i<rows.length:=(List.getElem?_eq_some_iff.1 hr).1
 have hx:rows[i]=s.cells:=by rw[List.getElem?_eq_getElem hi]at hr; exact Option.some.inj hr
 refine qaa hm Tryz.func274 (by kernel_rfl) rfl (by kernel_rfl) rfl qab ?_
 rw[Swing.cells]at hr hx
 simp[hi,hx]
 refine CallZ.use0 (qba _) rfl rfl ?_
 simp[hi,hx]
 first | refine CallY.use (fun _=>⟨rfl,qaj _ _ _⟩) rfl rfl ?_ | refine⟨by intros; simp[*],CallY.use (fun _=>⟨rfl,qaj _ _ _⟩) rfl rfl ?_⟩
 simp[hi,hx]
 first | refine CallY.use (fun _=>⟨rfl,qaj _ _ _⟩) rfl rfl ?_ | refine⟨by intros; simp[*],CallY.use (fun _=>⟨rfl,qaj _ _ _⟩) rfl rfl ?_⟩
 simp[qbs]
def qc5 (l:List Hung) (i:Nat):Bool:=match l[i]? with
 | some x=>qbI x&&(decide (i=0)||match l[i-1]? with
  | some y=>Op.bytesLess y.bell x.bell
  | none=>true)
 | none=>true
def qcs (l:List Hung):Bool:=(List.range l.length).all (qc5 l)&&decide ((l.length:Int)≤16)
theorem qhq {l:List Hung} (h:qcs l=true):l.length≤16∧∀x∈l,qbI x=true:=by
 simp only[qcs,Bool.and_eq_true,List.all_eq_true,List.mem_range,decide_eq_true_eq]at h
 refine⟨by omega,fun x hx =>?_⟩
 obtain⟨i,hi,rfl⟩:=List.getElem_of_mem hx
 have:=h.1 i hi
 simp only[qc5,List.getElem?_eq_getElem hi,Bool.and_eq_true]at this
 exact this.1
theorem qkb (l:List Hung) (hl:l.length≤1048576):HFn Tryz.prog 137 [.sl 5 (Hung.rows l)] [] (.bool (qcs l)) []:=by
 refine qaa hm Tryz.func137 (by kernel_rfl) rfl (by kernel_rfl) rfl qab ?_
 simp[Hung.rows]
 refine qac hm l.length (fun i=>⟨[(0, .sl 5 (Hung.rows l)),(5, .sl 5 (Hung.rows l)),(6, .int .i64 l.length),(7, .int .i64 i)],[]⟩) (fun i=>∀j,j<i→qc5 l j=true) (by kernel_rfl) ?_ (by simp) (fun i hi hI =>?_) (fun hI =>?_)
 ·exact Wk.weak (ρ:=[]) (φ:=[]) (by simp[Hung.rows])
 ·have e1:IntKind.i64.wrap ((i:Int)-1)=i-1:=w64 (by omega) (by omega)
  obtain⟨y,hy⟩:∃y,l[i-1]?=some y:=⟨_,List.getElem?_eq_getElem (by omega)⟩
  have hx:=List.getElem?_eq_getElem hi
  have kv:=qj8 l[i]
  simp only[Hung.cells]at kv
  simp[Hung.rows,Hung.cells,hi]
  refine CallZ.use0 kv rfl rfl ?_
  simp[Hung.cells,hy,e1]
  have ho:qc5 l i=(qbI l[i]&&(decide (i=0)||Op.bytesLess y.bell l[i].bell)):=by simp[qc5,hx,hy]
  have hs:=qc2 y.bell l[i].bell
  iterate 6 refine⟨by grind,?_⟩
  refine⟨fun h =>?_,fun h1 h2=>⟨qaN hI ?_,?_⟩⟩
  ·have:qc5 l i=false:=by
    rw[ho]
    rcases h with h | ⟨h,h'⟩
    ·simp[h]
    ·have h3:(Op.bytesLess l[i].bell y.bell||decide (l[i].bell=y.bell))=true:=by simpa using h'
     rw[hs]at h3
     have h4:¬i=0:=by omega
     simp at h3
     simp[h3,h4]
   simp only[qcs,qaG hi this,Bool.false_and]
  ·rw[ho]
   rw[h1,Bool.true_and]
   by_cases h4:i=0
   ·simp[h4]
   ·obtain⟨h5,h6⟩:=h2 (by omega)
    simp[h5,h6]at hs
    simp[hs]
  ·refine Wk.weak (ρ:=[]) (φ:=[]) ?_
   simp
   exact w64 (by omega) (by omega)
 ·simp[Hung.rows]
  simp only[qcs,qaM hI,Bool.true_and]
theorem qpI (l:List Hung) (hl:l.length≤1048576):HFn Tryz.prog 110 [.sl 5 (Hung.rows l)] [] (.bool (qcs l)) []:=by
 refine qaa hm Tryz.func110 (by kernel_rfl) rfl (by kernel_rfl) rfl qab ?_
 simp[Hung.rows]
 refine qac hm l.length (fun i=>⟨[(0, .sl 5 (Hung.rows l)),(3, .int .i64 i)],[]⟩) (fun i=>∀j,j<i→qc5 l j=true) (by kernel_rfl) ?_ (by simp) (fun i hi hI =>?_) (fun hI =>?_)
 ·exact Wk.weak (ρ:=[]) (φ:=[]) (by simp[Hung.rows])
 ·have e1:IntKind.i64.wrap ((i:Int)-1)=i-1:=w64 (by omega) (by omega)
  obtain⟨y,hy⟩:∃y,l[i-1]?=some y:=⟨_,List.getElem?_eq_getElem (by omega)⟩
  have hx:=List.getElem?_eq_getElem hi
  simp[Hung.rows,hi]
  refine CallZ.use0 (qpH l[i] _ _ (by simp[hi])) rfl rfl ?_
  simp[Hung.cells,hi,hy,e1]
  have ho:qc5 l i=(qbI l[i]&&(decide (i=0)||Op.bytesLess y.bell l[i].bell)):=by simp[qc5,hx,hy]
  iterate 6 refine⟨by grind,?_⟩
  refine⟨fun h =>?_,fun h1 h2=>⟨qaN hI ?_,?_⟩⟩
  ·have:qc5 l i=false:=by
    rw[ho]
    rcases h with h | ⟨h,h'⟩
    ·simp[h]
    ·have h4:¬i=0:=by omega
     simp[h',h4]
   simp only[qcs,qaG hi this,Bool.false_and]
  ·rw[ho,h1,Bool.true_and]
   by_cases h4:i=0
   ·simp[h4]
   ·simp[h2 (by omega)]
  ·refine Wk.weak (ρ:=[]) (φ:=[]) ?_
   simp
   exact w64 (by omega) (by omega)
 ·simp[Hung.rows]
  simp only[qcs,qaM hI,Bool.true_and]
theorem qkc {n:Nat} (h:n≤1000):Mid (n:Int):=⟨by omega,by omega⟩
theorem qpJ (h:Hung) (hk:qbI h=true):HFn Tryz.prog 350 [.agg h.cells, .fn 351 []] [] (.tup [.int .i64 (bestV h h.angle.toNat).1, .int .i64 (bestV h h.angle.toNat).2, .int .i64 0]) []:=by
 have k:=qf9 hk
 have kv:=qj8 h
 rw[hk]at kv
 have hh:=fun d hd=>qpF h k d hd
 have g0:=k.g0
 have g1:=k.g1
 obtain⟨G,hG⟩:∃G:Nat,h.angle=G:=⟨h.angle.toNat,by omega⟩
 have hGn:h.angle.toNat=G:=by omega
 rw[hGn]
 simp only[Hung.cells]at kv hh
 refine qaa hm Tryz.func350 (by kernel_rfl) rfl (by kernel_rfl) rfl qab ?_
 simp[Hung.cells]
 refine CallZ.use0 kv rfl rfl ?_
 simp
 refine CallZ.use0 (hh 0 ⟨by decide,by decide⟩) rfl rfl ?_
 simp
 refine qac hm G (fun i=>⟨[(1, .fn 351 []),(2, .pb 0 0),(7, .int .i64 (bestV h i).1),(8, .int .i64 (bestV h i).2),(9, .int .i64 ((i+1:Nat):Int))],[some (.box [.str h.bell, .int .i64 h.mass, .int .i64 h.arm, .int .i64 h.form, .int .i64 h.angle])]⟩) (fun _=>True) (by kernel_rfl) ?_ trivial (fun i hi _ =>?_) (fun _ =>?_)
 ·refine Wk.weak (ρ:=[0]) (φ:=[]) ?_
  simp[bestV]
 ·have w1:IntKind.i64.wrap (((i+1:Nat):Int)+1)=((i+1+1:Nat):Int):=by rw[w64 (by omega) (by omega)]; omega
  have hc:=hh ((i+1:Nat):Int) (qkc (by omega))
  have hB:bestV h (i+1)=if (bestV h i).1<horV h ((i+1:Nat):Int) then (horV h ((i+1:Nat):Int),((i+1:Nat):Int)) else bestV h i:=rfl
  have hle:((i+1:Nat):Int)≤h.angle:=by omega
  obtain⟨d,hd⟩:∃d,d=((i+1:Nat):Int):=⟨_,rfl⟩
  rw[←hd]at w1 hc hB hle ⊢
  simp[hle]
  refine CallZ.use0 hc rfl rfl ?_
  simp
  refine⟨fun g =>?_,fun g =>?_⟩
  ·rw[if_pos g]at hB
   refine Wk.weak (ρ:=[0]) (φ:=[]) ?_
   simp[hB,w1]
  ·rw[if_neg (by omega)]at hB
   refine Wk.weak (ρ:=[0]) (φ:=[]) ?_
   simp[hB,w1]
 ·have hgt:¬((G+1:Nat):Int)≤h.angle:=by omega
  obtain⟨d,hd⟩:∃d,d=((G+1:Nat):Int):=⟨_,rfl⟩
  rw[←hd]at hgt ⊢
  simp[hgt]
theorem qpK (h:Hung) (hk:qbI h=true):HFn Tryz.prog 309 [.agg h.cells] [] (.tup [.int .i64 (bestV h h.angle.toNat).1, .int .i64 (bestV h h.angle.toNat).2, .int .i64 0]) []:=by
 have kg:=qpJ h hk
 simp only[Hung.cells]at kg
 refine qaa hm Tryz.func309 (by kernel_rfl) rfl (by kernel_rfl) rfl qab ?_
 simp[Hung.cells]
 refine CallZ.use0 kg rfl rfl ?_
 simp
def prevB (h:Hung):Nat→Int×Int
 | 0=>(0,0)
 | i+1=>bestV h i
theorem qpL (h:Hung) (hk:qbI h=true) (rows:List (List PV)) (j:Nat) (hr:rows[j]?=some h.cells):HFn Tryz.prog 270 [.pe 5 rows j 0, .bool false] [] (.tup [.int .i64 (bestV h h.angle.toNat).1, .int .i64 (bestV h h.angle.toNat).2]) []:=by
 have k:=qf9 hk
 have hi:j<rows.length:=(List.getElem?_eq_some_iff.1 hr).1
 have hx:rows[j]=h.cells:=by rw[List.getElem?_eq_getElem hi]at hr; exact Option.some.inj hr
 have hh:=fun d hd=>qpG h k d hd rows j hr
 have g0:=k.g0
 have g1:=k.g1
 obtain⟨G,hG⟩:∃G:Nat,h.angle=G:=⟨h.angle.toNat,by omega⟩
 have hGn:h.angle.toNat=G:=by omega
 rw[hGn]
 rw[Hung.cells]at hx
 refine qaa hm Tryz.func270 (by kernel_rfl) rfl (by kernel_rfl) rfl qab ?_
 simp
 refine qac hm (G+1) (fun i=>⟨[(0, .pe 5 rows j 0),(1, .bool false),(6, .int .i64 (prevB h i).1),(7, .int .i64 (prevB h i).2),(8, .int .i64 i)],[]⟩) (fun _=>True) (by kernel_rfl) ?_ trivial (fun i hi2 _ =>?_) (fun _ =>?_)
 ·exact Wk.weak (ρ:=[]) (φ:=[]) (by simp[prevB])
 ·have w1:IntKind.i64.wrap ((i:Int)+1)=(i:Int)+1:=w64 (by omega) (by omega)
  have hc:=hh (i:Int) (qkc (by omega))
  have hle:(i:Int)≤h.angle:=by omega
  have hB:prevB h (i+1)=bestV h i:=rfl
  simp[hi,hx,hle]
  refine CallZ.use0 hc rfl rfl ?_
  cases i with
  | zero =>
   simp
   refine Wk.weak (ρ:=[]) (φ:=[]) ?_
   simp[prevB,bestV]
   exact w64 (by omega) (by omega)
  | succ i =>
   have hP:prevB h (i+1)=bestV h i:=rfl
   have hb2:bestV h (i+1)=if (bestV h i).1<horV h ((i+1:Nat):Int) then (horV h ((i+1:Nat):Int),((i+1:Nat):Int)) else bestV h i:=rfl
   have hd0:¬((i+1:Nat):Int)=0:=by omega
   rw[hB,hP]
   obtain⟨d,hd⟩:∃d,d=((i+1:Nat):Int):=⟨_,rfl⟩
   rw[←hd]at w1 hb2 hd0 ⊢
   have hd2:((i+1+1:Nat):Int)=d+1:=by omega
   simp[hd0]
   refine⟨fun g =>?_,fun g =>?_⟩
   ·rw[if_pos g]at hb2
    refine Wk.weak (ρ:=[]) (φ:=[]) ?_
    simp[hb2,hd]
    exact w64 (by omega) (by omega)
   ·rw[if_neg (by omega)]at hb2
    refine Wk.weak (ρ:=[]) (φ:=[]) ?_
    simp[hb2,hd]
    exact w64 (by omega) (by omega)
 ·have hgt:¬((G:Int)+1)≤h.angle:=by omega
  have hP:prevB h (G+1)=bestV h G:=rfl
  rw[hP]
  simp[hi,hx,hgt]
theorem qpM (h:Hung) (k:HungIn h):HFn Tryz.prog 352 [.agg h.cells] [] (.int .i64 (lenOf h)) []:=by
 have h1:=k.a0
 have h2:=k.a1
 have h3:=k.f0
 have h4:=k.f1
 have w1:IntKind.i64.wrap (1000*h.arm)=1000*h.arm:=w64 (by omega) (by omega)
 refine qaa hm Tryz.func352 (by kernel_rfl) rfl (by kernel_rfl) rfl qab ?_
 simp[Hung.cells,w1]
 refine CallZ.use0 (qbU _ _ ⟨by omega,by omega⟩ (by omega) (by omega)) rfl rfl ?_
 simp[lenOf]
theorem qkd {h:Hung} (k:HungIn h):Mid (h.angle.tdiv 2)∧IntKind.i64.wrap (h.angle.tdiv 2)=h.angle.tdiv 2:=by
 have h1:=k.g0
 have h2:=k.g1
 have e:h.angle.tdiv 2=h.angle/2:=Int.tdiv_eq_ediv_of_nonneg (by omega)
 refine⟨⟨by omega,by omega⟩,?_⟩
 rw[e]
 exact w64 (by omega) (by omega)
set_option maxHeartbeats 1000000 in
theorem qpN (h:Hung) (k:HungIn h):HFn Tryz.prog 310 [.agg h.cells] [] (.int .i64 (perV h)) []:=by
 obtain⟨l0,l1⟩:=qhp k
 obtain⟨r0,r1,n0,n1⟩:=r_le k
 obtain⟨s0,s1,q0,q1⟩:=q_le h
 obtain⟨y0,y1,z0,z1,p0,p1⟩:=qga k
 obtain⟨m1,m2⟩:=qkd k
 have kl:=qpM h k
 have kr:=qhl ((40243*lenOf h).tdiv 100) ⟨by omega,by omega⟩ n0
 have er:rootV ((40243*lenOf h).tdiv 100)=rOf h:=rfl
 rw[er]at kr
 have ks:=qhn (h.angle.tdiv 2) m1
 have kn:=qbU (rOf h*(16000*qOf h+9*qOf h*qOf h)) 64000000 ⟨by omega,by omega⟩ (by decide) (by decide)
 have hp:perV h=rOf h+nearV (rOf h*(16000*qOf h+9*qOf h*qOf h)) 64000000:=rfl
 have hq:(sinV (h.angle.tdiv 2)*sinV (h.angle.tdiv 2)).tdiv 1000=qOf h:=rfl
 have w1:IntKind.i64.wrap (40243*lenOf h)=40243*lenOf h:=w64 (by omega) (by omega)
 have w2:IntKind.i64.wrap ((40243*lenOf h).tdiv 100)=(40243*lenOf h).tdiv 100:=w64 (by omega) (by omega)
 have w3:IntKind.i64.wrap (sinV (h.angle.tdiv 2)*sinV (h.angle.tdiv 2))=sinV (h.angle.tdiv 2)*sinV (h.angle.tdiv 2):=w64 (by omega) (by omega)
 have w4:IntKind.i64.wrap (qOf h)=qOf h:=w64 (by omega) (by omega)
 have w5:IntKind.i64.wrap (16000*qOf h)=16000*qOf h:=w64 (by omega) (by omega)
 have w6:IntKind.i64.wrap (9*qOf h)=9*qOf h:=w64 (by omega) (by omega)
 have w7:IntKind.i64.wrap (9*qOf h*qOf h)=9*qOf h*qOf h:=w64 (by omega) (by omega)
 have w8:IntKind.i64.wrap (16000*qOf h+9*qOf h*qOf h)=16000*qOf h+9*qOf h*qOf h:=w64 (by omega) (by omega)
 have w9:IntKind.i64.wrap (rOf h*(16000*qOf h+9*qOf h*qOf h))=rOf h*(16000*qOf h+9*qOf h*qOf h):=w64 (by omega) (by omega)
 have wa:IntKind.i64.wrap (perV h)=perV h:=w64 (by omega) (by omega)
 simp only[Hung.cells]at kl
 refine qaa hm Tryz.func310 (by kernel_rfl) rfl (by kernel_rfl) rfl qab ?_
 simp[Hung.cells]
 refine CallZ.use0 kl rfl rfl ?_
 simp[w1,w2]
 refine CallZ.use0 kr rfl rfl ?_
 simp[m2]
 refine CallZ.use0 ks rfl rfl ?_
 simp[w3,hq,w4,w5,w6,w7,w8,w9]
 refine CallZ.use0 kn rfl rfl ?_
 simp[←hp,wa]
set_option maxHeartbeats 1000000 in
theorem qpO (h:Hung) (k:HungIn h) (rows:List (List PV)) (j:Nat) (hr:rows[j]?=some h.cells):HFn Tryz.prog 273 [.pe 5 rows j 0] [] (.int .i64 (perV h)) []:=by
 have hi:j<rows.length:=(List.getElem?_eq_some_iff.1 hr).1
 have hx:rows[j]=h.cells:=by rw[List.getElem?_eq_getElem hi]at hr; exact Option.some.inj hr
 have h1:=k.a0
 have h2:=k.a1
 have h3:=k.f0
 have h4:=k.f1
 obtain⟨l0,l1⟩:=qhp k
 obtain⟨r0,r1,n0,n1⟩:=r_le k
 obtain⟨s0,s1,q0,q1⟩:=q_le h
 obtain⟨y0,y1,z0,z1,p0,p1⟩:=qga k
 obtain⟨m1,m2⟩:=qkd k
 have kl:=qbV (1000*h.arm) h.form ⟨by omega,by omega⟩ (by omega) (by omega)
 have el:nearV (1000*h.arm) h.form=lenOf h:=rfl
 rw[el]at kl
 have kr:=qhm ((40243*lenOf h).tdiv 100) ⟨by omega,by omega⟩ n0
 have er:rootV ((40243*lenOf h).tdiv 100)=rOf h:=rfl
 rw[er]at kr
 have ks:=qho (h.angle.tdiv 2) m1
 have kn:=qbV (rOf h*(16000*qOf h+9*qOf h*qOf h)) 64000000 ⟨by omega,by omega⟩ (by decide) (by decide)
 have hp:perV h=rOf h+nearV (rOf h*(16000*qOf h+9*qOf h*qOf h)) 64000000:=rfl
 have hq:(sinV (h.angle.tdiv 2)*sinV (h.angle.tdiv 2)).tdiv 1000=qOf h:=rfl
 have w0:IntKind.i64.wrap (1000*h.arm)=1000*h.arm:=w64 (by omega) (by omega)
 have w1:IntKind.i64.wrap (40243*lenOf h)=40243*lenOf h:=w64 (by omega) (by omega)
 have w2:IntKind.i64.wrap ((40243*lenOf h).tdiv 100)=(40243*lenOf h).tdiv 100:=w64 (by omega) (by omega)
 have w3:IntKind.i64.wrap (sinV (h.angle.tdiv 2)*sinV (h.angle.tdiv 2))=sinV (h.angle.tdiv 2)*sinV (h.angle.tdiv 2):=w64 (by omega) (by omega)
 have w4:IntKind.i64.wrap (qOf h)=qOf h:=w64 (by omega) (by omega)
 have w5:IntKind.i64.wrap (16000*qOf h)=16000*qOf h:=w64 (by omega) (by omega)
 have w6:IntKind.i64.wrap (9*qOf h)=9*qOf h:=w64 (by omega) (by omega)
 have w7:IntKind.i64.wrap (9*qOf h*qOf h)=9*qOf h*qOf h:=w64 (by omega) (by omega)
 have w8:IntKind.i64.wrap (16000*qOf h+9*qOf h*qOf h)=16000*qOf h+9*qOf h*qOf h:=w64 (by omega) (by omega)
 have w9:IntKind.i64.wrap (rOf h*(16000*qOf h+9*qOf h*qOf h))=rOf h*(16000*qOf h+9*qOf h*qOf h):=w64 (by omega) (by omega)
 have wa:IntKind.i64.wrap (perV h)=perV h:=w64 (by omega) (by omega)
 refine qaa hm Tryz.func273 (by kernel_rfl) rfl (by kernel_rfl) rfl qab ?_
 rw[Hung.cells]at hx
 simp[hi,hx,w0]
 refine CallZ.use0 kl rfl rfl ?_
 simp[w1,w2]
 refine CallZ.use0 kr rfl rfl ?_
 simp[hi,hx,m2]
 refine CallZ.use0 ks rfl rfl ?_
 simp[w3,hq,w4,w5,w6,w7,w8,w9]
 refine CallZ.use0 kn rfl rfl ?_
 simp[←hp,wa]
end Go.Proofs.YteckngloamnfdaaGreatDoor
namespace Go.Proofs.YteckngloamnfdaaGreatDoor
open Go Go.Ab
set_option maxRecDepth 100000
def qct (h:Hung):Bool:=qbs (qa0 h)
def sfine (l:List Hung):Bool:=l.all qct
def sCode (l:List Hung):Int:=if sfine l=true then 0 else 6
def qa4 (l:List Hung):List Swing:=if sfine l=true then l.map qa0 else []
theorem qke (l:List Hung):(qa4 l).length≤l.length:=by
 unfold qa4
 split<;>simp
theorem qkf {l:List Hung} (h:∀j,j<l.length→∀(hj:j<l.length),qct l[j]=true):sfine l=true:=show l.all qct=true from List.all_eq_true.2 fun x hx=>by
 obtain⟨i,hi,rfl⟩:=List.getElem_of_mem hx
 exact h i hi hi
theorem qkg {l:List Hung} {i:Nat} (hi:i<l.length) (h:qct l[i]=false):sfine l=false:=by
 cases e:sfine l with
 | false=>rfl
 | true =>
  have:=List.all_eq_true.1 (show l.all qct=true from e) _ (List.getElem_mem hi)
  rw[h]at this
  cases this
theorem qkh {l:List Hung} {i:Nat} (hi:i<l.length):(l.take (i+1)).map qa0=(l.take i).map qa0++[qa0 l[i]]:=by
 rw[←List.take_append_getElem hi,List.map_append]
 rfl
theorem qki {l:List Hung} {i:Nat} (hI:∀j,j<i→∀(hj:j<l.length),qct l[j]=true) {hi:i<l.length} (h:qct l[i]=true):∀j,j<i+1→∀(hj:j<l.length),qct l[j]=true:=fun j hj hjl=>by
 by_cases e:j=i
 ·subst e; exact h
 ·exact hI j (by omega) hjl
set_option maxHeartbeats 2000000 in
theorem qpP (l:List Hung) (hl:l.length≤1048576) (hv:∀h∈l,qbI h=true):HFn Tryz.prog 242 [.sl 5 (Hung.rows l)] [] (.tup [.sf 0 3, .bool (sfine l)]) [some (.arr 3 (Swing.rows (qa4 l)))]:=by
 refine qaa hm Tryz.func242 (by kernel_rfl) rfl (by kernel_rfl) rfl (fun _ _ h=>h) ?_
 simp[Hung.rows_len]
 refine qac hm l.length (fun i=>⟨[(4, .sf 0 3),(11, .sl 5 (Hung.rows l)),(12, .int .i64 l.length),(13, .int .i64 i)],[some (.arr 3 (Swing.rows ((l.take i).map qa0)))]⟩) (fun i=>∀j,j<i→∀(hj:j<l.length),qct l[j]=true) (by kernel_rfl) ?_ (by simp) (fun i hi hI =>?_) (fun hI =>?_)
 ·refine (qaA (t:=4) (z:=3) rfl).trans (Wk.weak (ρ:=[0]) (φ:=[]) ?_)
  simp[Swing.rows]
 ·have w1:IntKind.i64.wrap ((i:Int)+1)=(i:Int)+1:=w64 (by omega) (by omega)
  have hk:=hv _ (List.getElem_mem hi)
  have k:=qf9 hk
  obtain⟨_,_,_,_,p0,p1⟩:=qga k
  have kg:=qpK l[i] hk
  have kp:=qpN l[i] k
  have kn:=qbU 1000000 (max (perV l[i]) 1) ⟨by decide,by decide⟩ (by omega) (by omega)
  have er:nearV 1000000 (max (perV l[i]) 1)=rateV l[i]:=rfl
  rw[er]at kn
  have ks:=qj9 (qa0 l[i])
  have hs:(qa0 l[i]).cells=[.str l[i].bell, .int .i64 (rateV l[i]), .int .i64 (bestV l[i] l[i].angle.toNat).1]:=rfl
  have hf:qbs (qa0 l[i])=qct l[i]:=rfl
  rw[hs,hf]at ks
  have hsc:=qkh hi
  have hget:(Hung.rows l)[i]'(by rw[Hung.rows_len]; exact hi)=[.str l[i].bell, .int .i64 l[i].mass, .int .i64 l[i].arm, .int .i64 l[i].form, .int .i64 l[i].angle]:=by simp[Hung.rows,Hung.cells]
  have hrl:(Swing.rows ((l.take i).map qa0)).length=i:=by rw[Swing.rows_len,List.length_map,List.length_take]; omega
  have hrs:Swing.rows ((l.take (i+1)).map qa0)=Swing.rows ((l.take i).map qa0)++[[.str l[i].bell, .int .i64 (rateV l[i]), .int .i64 (bestV l[i] l[i].angle.toNat).1]]:=by
   rw[hsc]
   simp[Swing.rows,←hs]
  simp only[Hung.cells]at kg kp
  simp[Hung.rows_len,hi,hget]
  refine CallZ.use0 kg rfl rfl ?_
  simp
  refine CallZ.use0 kp rfl rfl ?_
  simp
  refine CallZ.use0 kn rfl rfl ?_
  simp
  refine CallZ.use0 ks rfl rfl ?_
  simp[←List.map_take,hrl]
  refine⟨fun g =>?_,fun g =>?_⟩
  ·have e1:sfine l=false:=qkg hi g
   have e2:qa4 l=[]:=by unfold qa4; rw[if_neg (by rw[e1]; decide)]
   rw[e1,e2]
   refine (qco (t:=0) 0 3 rfl rfl).trans (Wk.weak (ρ:=[3]) (φ:=[]) ?_)
   simp[Swing.rows]
  ·refine⟨by simp[rowsOne],by omega,by omega,fun j hj hjl=>qki hI g j hj hjl,Wk.weak (ρ:=[0]) (φ:=[]) ?_⟩
   simp[w1,hrs,-List.map_take]
 ·have e1:=qkf (l:=l) hI
  have e2:qa4 l=l.map qa0:=by unfold qa4; rw[if_pos e1]
  rw[e1,e2]
  simp
  refine Wk.weak (ρ:=[0]) (φ:=[]) ?_
  simp
set_option maxHeartbeats 2000000 in
theorem qpQ (l:List Hung) (hl:l.length≤1048576) (hv:∀h∈l,qbI h=true):HFn Tryz.prog 203 [.sl 5 (Hung.rows l)] [] (.tup [.sf 0 3, .int .i64 (sCode l)]) [some (.arr 3 (Swing.rows (qa4 l)))]:=by
 refine qaa hm Tryz.func203 (by kernel_rfl) rfl (by kernel_rfl) rfl (fun _ _ h=>h) ?_
 simp
 refine qac hm l.length (fun i=>⟨[(0, .sl 5 (Hung.rows l)),(4, .sf 0 3),(5, .int .i64 i)],[some (.arr 3 (Swing.rows ((l.take i).map qa0)))]⟩) (fun i=>∀j,j<i→∀(hj:j<l.length),qct l[j]=true) (by kernel_rfl) ?_ (by simp) (fun i hi hI =>?_) (fun hI =>?_)
 ·refine (qaA (t:=4) (z:=3) rfl).trans (Wk.weak (ρ:=[0]) (φ:=[]) ?_)
  simp[Swing.rows]
 ·have w1:IntKind.i64.wrap ((i:Int)+1)=(i:Int)+1:=w64 (by omega) (by omega)
  have hk:=hv _ (List.getElem_mem hi)
  have k:=qf9 hk
  obtain⟨_,_,_,_,p0,p1⟩:=qga k
  have hg0:(Hung.rows l)[i]?=some l[i].cells:=by simp[Hung.rows,hi]
  have kg:=qpL l[i] hk (Hung.rows l) i hg0
  have kp:=qpO l[i] k (Hung.rows l) i hg0
  have kn:=qbV 1000000 (max 1 (perV l[i])) ⟨by decide,by decide⟩ (by omega) (by omega)
  have er:nearV 1000000 (max 1 (perV l[i]))=rateV l[i]:=by unfold rateV; rw[Int.max_comm]
  rw[er]at kn
  have ks:=qka (qa0 l[i]) [(qa0 l[i]).cells] 0 rfl
  have hs:(qa0 l[i]).cells=[.str l[i].bell, .int .i64 (rateV l[i]), .int .i64 (bestV l[i] l[i].angle.toNat).1]:=rfl
  have hf:qbs (qa0 l[i])=qct l[i]:=rfl
  rw[hs,hf]at ks
  have hsc:=qkh hi
  have hget:(Hung.rows l)[i]'(by rw[Hung.rows_len]; exact hi)=[.str l[i].bell, .int .i64 l[i].mass, .int .i64 l[i].arm, .int .i64 l[i].form, .int .i64 l[i].angle]:=by simp[Hung.rows,Hung.cells]
  have hrl:(Swing.rows ((l.take i).map qa0)).length=i:=by rw[Swing.rows_len,List.length_map,List.length_take]; omega
  have hrs:Swing.rows ((l.take (i+1)).map qa0)=Swing.rows ((l.take i).map qa0)++[[.str l[i].bell, .int .i64 (rateV l[i]), .int .i64 (bestV l[i] l[i].angle.toNat).1]]:=by
   rw[hsc]
   simp[Swing.rows,←hs]
  simp[Hung.rows_len,hi]
  refine CallZ.use0 kg rfl rfl ?_
  simp[Hung.rows_len,hi,hget]
  refine CallZ.use0 kp rfl rfl ?_
  simp
  refine CallZ.use0 (qjW _ _) rfl rfl ?_
  simp
  refine CallZ.use0 kn rfl rfl ?_
  simp
  refine CallZ.use0 ks rfl rfl ?_
  simp[←List.map_take,hrl]
  refine⟨fun g =>?_,fun g =>?_⟩
  ·have e1:sfine l=false:=qkg hi g
   have e2:qa4 l=[]:=by unfold qa4; rw[if_neg (by rw[e1]; decide)]
   have e3:sCode l=6:=by unfold sCode; rw[if_neg (by rw[e1]; decide)]
   rw[e2,e3]
   refine (qco (t:=0) 0 3 rfl rfl).trans (Wk.weak (ρ:=[2]) (φ:=[]) ?_)
   simp[Swing.rows]
  ·refine⟨by simp[rowsOne],by omega,by omega,fun j hj hjl=>qki hI g j hj hjl,Wk.weak (ρ:=[0]) (φ:=[]) ?_⟩
   simp[w1,hrs,-List.map_take]
 ·have e1:=qkf (l:=l) hI
  have e2:qa4 l=l.map qa0:=by unfold qa4; rw[if_pos e1]
  have e3:sCode l=0:=by unfold sCode; rw[if_pos e1]
  rw[e2,e3]
  simp[Hung.rows_len]
  refine Wk.weak (ρ:=[0]) (φ:=[]) ?_
  simp
def qd9 (l:List Hung):Int:=if qcs l=true then (sCode l) else 1
def swOut (l:List Hung):List Swing:=if qcs l=true then qa4 l else []
theorem qpR (l:List Hung) (hl:l.length≤1048576):HFn Tryz.prog 156 [.sl 5 (Hung.rows l)] [] (.tup [.sf 0 3, .int .i64 (qd9 l)]) [some (.arr 3 (Swing.rows (swOut l)))]:=by
 refine qaa hm Tryz.func156 (by kernel_rfl) rfl (by kernel_rfl) rfl (fun _ _ h=>h) ?_
 simp
 refine CallZ.use0 (qkb l hl) rfl rfl ?_
 simp
 refine⟨fun g =>?_,fun g =>?_⟩
 ·have e1:qd9 l=1:=by unfold qd9; rw[if_neg (by rw[g]; decide)]
  have e2:swOut l=[]:=by unfold swOut; rw[if_neg (by rw[g]; decide)]
  rw[e1,e2]
  refine (qco (t:=0) 0 3 rfl rfl).trans (Wk.weak (ρ:=[0]) (φ:=[]) ?_)
  simp[Swing.rows]
 ·have e1:qd9 l=sCode l:=by unfold qd9; rw[if_pos g]
  have e2:swOut l=qa4 l:=by unfold swOut; rw[if_pos g]
  rw[e1,e2]
  have ks:=qpP l hl (qhq g).2
  simp only[qa4,sCode]at ks ⊢
  refine CallZ.use ks rfl (.inr ⟨Swing.flat _,trivial⟩) rfl rfl ?_
  cases sfine l with
  | true =>
   simp
   refine Wk.weak (ρ:=[0]) (φ:=[]) ?_
   simp
  | false =>
   simp
   refine (qco (t:=0) 0 3 rfl rfl).trans (Wk.weak (ρ:=[1]) (φ:=[]) ?_)
   simp[Swing.rows]
end Go.Proofs.YteckngloamnfdaaGreatDoor
