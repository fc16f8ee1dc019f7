/- Contracts: the parts of a carillon are valid, one by one. No condition.; Contracts: slices.IndexFunc and slices.ContainsFunc at structs and at texts. No condition.; Contracts: bells, beams, keys and melts are valid, one by one. No condition.; Contracts: lists of the parts of a carillon are valid. No condition.; Contracts: melts and claviers are valid. No condition. -/
import Derived.Test.YteckngloamnfdaaGreatDoorZd
import Derived.Test.YteckngloamnfdaaGreatDoorUc
import Derived.Test.YteckngloamnfdaaGreatDoorTDesk
namespace Go.Proofs.YteckngloamnfdaaGreatDoor
open Go Go.Ab
set_option maxRecDepth 100000
def upAt {α:Type} (ok:α→Bool) (lt:α→α→Bool) (l:List α) (i:Nat):Bool:=match l[i]? with
 | some x=>ok x&&(decide (i=0)||match l[i-1]? with
  | some y=>lt y x
  | none=>true)
 | none=>true
def upOk {α:Type} (ok:α→Bool) (lt:α→α→Bool) (l:List α):Bool:=(List.range l.length).all (upAt ok lt l)
theorem qbb {α:Type} (ok:α→Bool) (lt:α→α→Bool) {l:List α} {i:Nat} {x y:α} (hx:l[i]?=some x) (hy:l[i-1]?=some y):upAt ok lt l i=(ok x&&(decide (i=0)||lt y x)):=by simp[upAt,hx,hy]
theorem qdn {α:Type} {ok:α→Bool} {lt:α→α→Bool} {l:List α} (h:upOk ok lt l=true):∀x∈l,ok x=true:=by
 simp only[upOk,List.all_eq_true,List.mem_range]at h
 intro x hx
 obtain⟨i,hi,rfl⟩:=List.getElem_of_mem hx
 have:=h i hi
 simp only[upAt,List.getElem?_eq_getElem hi,Bool.and_eq_true]at this
 exact this.1
theorem qp4 {α:Type} {ok:α→Bool} {lt:α→α→Bool} {l:List α} (h:upOk ok lt l=true) {i:Nat} (hi:i<l.length) (h0:0<i):lt (l[i-1]'(by omega)) l[i]=true:=by
 simp only[upOk,List.all_eq_true,List.mem_range]at h
 have:=h i hi
 have e2:l[i-1]?=some (l[i-1]'(by omega)):=List.getElem?_eq_getElem (by omega)
 simp only[upAt,List.getElem?_eq_getElem hi,e2,Bool.and_eq_true,Bool.or_eq_true,decide_eq_true_eq]at this
 rcases this.2 with h | h
 ·omega
 ·exact h
theorem qdo (n:Int):HFn Tryz.prog 337 [.int .i64 n] [] (.bool (decide (0≤n)&&decide (n≤1000000))) []:=by
 refine qaa hm Tryz.func337 (by kernel_rfl) rfl (by kernel_rfl) rfl qab ?_
 simp
 refine CallZ.use0 (qai _ _ _) rfl rfl ?_
 simp
theorem qhr (n:Int):HFn Tryz.prog 288 [.int .i64 n] [] (.bool (decide (1≤n)&&decide (n≤5000))) []:=by
 refine qaa hm Tryz.func288 (by kernel_rfl) rfl (by kernel_rfl) rfl qab ?_
 simp
 refine CallZ.use0 (qai _ _ _) rfl rfl ?_
 simp
theorem qkm (n:Int):HFn Tryz.prog 140 [.int .i64 n] [] (.bool (decide (0≤n)&&decide (n≤5000))) []:=by
 refine qaa hm Tryz.func140 (by kernel_rfl) rfl (by kernel_rfl) rfl qab ?_
 simp
 refine CallZ.use0 (qai _ _ _) rfl rfl ?_
 simp
theorem qp5 (n:Int):HFn Tryz.prog 113 [.int .i64 n] [] (.bool (decide (0≤n)&&decide (n≤5000))) []:=by
 refine qaa hm Tryz.func113 (by kernel_rfl) rfl (by kernel_rfl) rfl qab ?_
 simp
 refine CallZ.use0 (qaj _ _ _) rfl rfl ?_
 simp
theorem qp6 (n:Int):HFn Tryz.prog 290 [.int .i64 n] [] (.bool (decide (20≤n)&&decide (n≤1000))) []:=by
 refine qaa hm Tryz.func290 (by kernel_rfl) rfl (by kernel_rfl) rfl qab ?_
 simp
 refine CallZ.use0 (qai _ _ _) rfl rfl ?_
 simp
theorem qkn (n:Int):HFn Tryz.prog 293 [.int .i64 n] [] (.bool (decide (1≤n)&&decide (n≤100000))) []:=by
 refine qaa hm Tryz.func293 (by kernel_rfl) rfl (by kernel_rfl) rfl qab ?_
 simp
 refine CallZ.use0 (qai _ _ _) rfl rfl ?_
 simp
theorem qp7 (n:Int):HFn Tryz.prog 294 [.int .i64 n] [] (.bool (decide (0≤n)&&decide (n≤10000))) []:=by
 refine qaa hm Tryz.func294 (by kernel_rfl) rfl (by kernel_rfl) rfl qab ?_
 simp
 refine CallZ.use0 (qai _ _ _) rfl rfl ?_
 simp
def qff (c t r:Int):Bool:=(decide (0≤c)&&decide (c≤1000000))&&(decide (0≤t)&&decide (t≤1000000))&&(decide (0≤r)&&decide (r≤1000000))&&decide (IntKind.i64.wrap (IntKind.i64.wrap (c+t)+r)=1000000)
def qcv (x:Ingot):Bool:=qaB x.id&&(decide (1≤x.mass)&&decide (x.mass≤20000000))&&qff x.alloyCopper x.alloyTin x.alloyOther
def qbg (x:Place):Bool:=qaB x.bell&&(decide (0≤x.x)&&decide (x.x≤20000))&&(decide (0≤x.y)&&decide (x.y≤20000))&&(decide (0≤x.z)&&decide (x.z≤20000))&&(decide (1≤x.reach)&&decide (x.reach≤5000))
def qeb (x:Chamber):Bool:=(decide (1≤x.width)&&decide (x.width≤20000))&&(decide (1≤x.length)&&decide (x.length≤20000))&&(decide (1≤x.height)&&decide (x.height≤20000))
def qbW (x:Tower):Bool:=qaB x.name&&(decide (100≤x.sway)&&decide (x.sway≤10000))&&(decide (5≤x.damping)&&decide (x.damping≤500))&&(decide (1≤x.stiffness)&&decide (x.stiffness≤1000000))&&(decide (0≤x.limit)&&decide (x.limit≤100000))
theorem qhs (c t r:Int):HFn Tryz.prog 282 [.agg [.int .i64 c, .int .i64 t, .int .i64 r]] [] (.bool (qff c t r)) []:=by
 refine qaa hm Tryz.func282 (by kernel_rfl) rfl (by kernel_rfl) rfl qab ?_
 simp[]
 first | refine CallZ.use0 (qdo _) rfl rfl ?_ | refine CallY.use (fun _=>⟨rfl,qdo _⟩) rfl rfl ?_ | refine⟨by intros; simp[*],CallY.use (fun _=>⟨rfl,qdo _⟩) rfl rfl ?_⟩
 simp[]
 first | refine CallZ.use0 (qdo _) rfl rfl ?_ | refine CallY.use (fun _=>⟨rfl,qdo _⟩) rfl rfl ?_ | refine⟨by intros; simp[*],CallY.use (fun _=>⟨rfl,qdo _⟩) rfl rfl ?_⟩
 simp[]
 first | refine CallZ.use0 (qdo _) rfl rfl ?_ | refine CallY.use (fun _=>⟨rfl,qdo _⟩) rfl rfl ?_ | refine⟨by intros; simp[*],CallY.use (fun _=>⟨rfl,qdo _⟩) rfl rfl ?_⟩
 simp[]
 simp[qff]
 exact fun a b c d e f=>⟨⟨⟨a,b⟩,c,d⟩,e,f⟩
theorem qht (x:Ingot) (rows:List (List PV)) (i:Nat) (hr:rows[i]?=some x.cells):HFn Tryz.prog 260 [.pe 5 rows i 2] [] (.bool (qff x.alloyCopper x.alloyTin x.alloyOther)) []:=by
 have hi:i<rows.length:=(List.getElem?_eq_some_iff.1 hr).1
 have hx:rows[i]=x.cells:=(List.getElem?_eq_some_iff.1 hr).2
 rw[Ingot.cells]at hr hx
 refine qaa hm Tryz.func260 (by kernel_rfl) rfl (by kernel_rfl) rfl qab ?_
 simp[hi,hx]
 first | refine CallZ.use0 (qaj _ _ _) rfl rfl ?_ | refine CallY.use (fun _=>⟨rfl,qaj _ _ _⟩) rfl rfl ?_ | refine⟨by intros; simp[*],CallY.use (fun _=>⟨rfl,qaj _ _ _⟩) rfl rfl ?_⟩
 simp[hi,hx]
 first | refine CallZ.use0 (qaj _ _ _) rfl rfl ?_ | refine CallY.use (fun _=>⟨rfl,qaj _ _ _⟩) rfl rfl ?_ | refine⟨by intros; simp[*],CallY.use (fun _=>⟨rfl,qaj _ _ _⟩) rfl rfl ?_⟩
 simp[hi,hx]
 first | refine CallZ.use0 (qaj _ _ _) rfl rfl ?_ | refine CallY.use (fun _=>⟨rfl,qaj _ _ _⟩) rfl rfl ?_ | refine⟨by intros; simp[*],CallY.use (fun _=>⟨rfl,qaj _ _ _⟩) rfl rfl ?_⟩
 simp[hi,hx]
 simp[qff]
 exact fun a b c d e f=>⟨⟨⟨a,b⟩,c,d⟩,e,f⟩
theorem qp8 (x:Ingot):HFn Tryz.prog 218 [.agg x.cells] [] (.bool (qcv x)) []:=by
 refine qaa hm Tryz.func218 (by kernel_rfl) rfl (by kernel_rfl) rfl qab ?_
 simp[Ingot.cells]
 first | refine CallZ.use0 (qa9 _) rfl rfl ?_ | refine CallY.use (fun _=>⟨rfl,qa9 _⟩) rfl rfl ?_ | refine⟨by intros; simp[*],CallY.use (fun _=>⟨rfl,qa9 _⟩) rfl rfl ?_⟩
 simp
 first | refine CallZ.use0 (qai _ _ _) rfl rfl ?_ | refine CallY.use (fun _=>⟨rfl,qai _ _ _⟩) rfl rfl ?_ | refine⟨by intros; simp[*],CallY.use (fun _=>⟨rfl,qai _ _ _⟩) rfl rfl ?_⟩
 simp
 first | refine CallZ.use0 (qhs _ _ _) rfl rfl ?_ | refine CallY.use (fun _=>⟨rfl,qhs _ _ _⟩) rfl rfl ?_ | refine⟨by intros; simp[*],CallY.use (fun _=>⟨rfl,qhs _ _ _⟩) rfl rfl ?_⟩
 simp
 simp[qcv,Bool.and_assoc]
theorem qp9 (x:Ingot) (rows:List (List PV)) (i:Nat) (hr:rows[i]?=some x.cells):HFn Tryz.prog 184 [.pe 5 rows i 0] [] (.bool (qcv x)) []:=by
 have hi:i<rows.length:=(List.getElem?_eq_some_iff.1 hr).1
 have hx:rows[i]=x.cells:=(List.getElem?_eq_some_iff.1 hr).2
 rw[Ingot.cells]at hr hx
 refine qaa hm Tryz.func184 (by kernel_rfl) rfl (by kernel_rfl) rfl qab ?_
 simp[hi,hx]
 first | refine CallZ.use0 (qba _) rfl rfl ?_ | refine CallY.use (fun _=>⟨rfl,qba _⟩) rfl rfl ?_ | refine⟨by intros; simp[*],CallY.use (fun _=>⟨rfl,qba _⟩) rfl rfl ?_⟩
 simp[hi,hx]
 first | refine CallZ.use0 (qaj _ _ _) rfl rfl ?_ | refine CallY.use (fun _=>⟨rfl,qaj _ _ _⟩) rfl rfl ?_ | refine⟨by intros; simp[*],CallY.use (fun _=>⟨rfl,qaj _ _ _⟩) rfl rfl ?_⟩
 simp
 first | refine CallZ.use0 (qht x rows i (by simp[hr,Ingot.cells])) rfl rfl ?_ | refine CallY.use (fun _=>⟨rfl,qht x rows i (by simp[hr,Ingot.cells])⟩) rfl rfl ?_ | refine⟨by intros; simp[*],CallY.use (fun _=>⟨rfl,qht x rows i (by simp[hr,Ingot.cells])⟩) rfl rfl ?_⟩
 simp
 simp[qcv,Bool.and_assoc]
theorem qqa (x:Place):HFn Tryz.prog 225 [.agg x.cells] [] (.bool (qbg x)) []:=by
 refine qaa hm Tryz.func225 (by kernel_rfl) rfl (by kernel_rfl) rfl qab ?_
 simp[Place.cells]
 first | refine CallZ.use0 (qa9 _) rfl rfl ?_ | refine CallY.use (fun _=>⟨rfl,qa9 _⟩) rfl rfl ?_ | refine⟨by intros; simp[*],CallY.use (fun _=>⟨rfl,qa9 _⟩) rfl rfl ?_⟩
 simp
 first | refine CallZ.use0 (qai _ _ _) rfl rfl ?_ | refine CallY.use (fun _=>⟨rfl,qai _ _ _⟩) rfl rfl ?_ | refine⟨by intros; simp[*],CallY.use (fun _=>⟨rfl,qai _ _ _⟩) rfl rfl ?_⟩
 simp
 first | refine CallZ.use0 (qai _ _ _) rfl rfl ?_ | refine CallY.use (fun _=>⟨rfl,qai _ _ _⟩) rfl rfl ?_ | refine⟨by intros; simp[*],CallY.use (fun _=>⟨rfl,qai _ _ _⟩) rfl rfl ?_⟩
 simp
 first | refine CallZ.use0 (qai _ _ _) rfl rfl ?_ | refine CallY.use (fun _=>⟨rfl,qai _ _ _⟩) rfl rfl ?_ | refine⟨by intros; simp[*],CallY.use (fun _=>⟨rfl,qai _ _ _⟩) rfl rfl ?_⟩
 simp
 first | refine CallZ.use0 (qhr _) rfl rfl ?_ | refine CallY.use (fun _=>⟨rfl,qhr _⟩) rfl rfl ?_ | refine⟨by intros; simp[*],CallY.use (fun _=>⟨rfl,qhr _⟩) rfl rfl ?_⟩
 simp
 simp[qbg,Bool.and_assoc]
theorem qqb (x:Place) (rows:List (List PV)) (i:Nat) (hr:rows[i]?=some x.cells):HFn Tryz.prog 189 [.pe 5 rows i 0] [] (.bool (qbg x)) []:=by
 have hi:i<rows.length:=(List.getElem?_eq_some_iff.1 hr).1
 have hx:rows[i]=x.cells:=(List.getElem?_eq_some_iff.1 hr).2
 rw[Place.cells]at hr hx
 refine qaa hm Tryz.func189 (by kernel_rfl) rfl (by kernel_rfl) rfl qab ?_
 simp[hi,hx]
 first | refine CallZ.use0 (qba _) rfl rfl ?_ | refine CallY.use (fun _=>⟨rfl,qba _⟩) rfl rfl ?_ | refine⟨by intros; simp[*],CallY.use (fun _=>⟨rfl,qba _⟩) rfl rfl ?_⟩
 simp[hi,hx]
 first | refine CallZ.use0 (qaj _ _ _) rfl rfl ?_ | refine CallY.use (fun _=>⟨rfl,qaj _ _ _⟩) rfl rfl ?_ | refine⟨by intros; simp[*],CallY.use (fun _=>⟨rfl,qaj _ _ _⟩) rfl rfl ?_⟩
 simp[hi,hx]
 first | refine CallZ.use0 (qaj _ _ _) rfl rfl ?_ | refine CallY.use (fun _=>⟨rfl,qaj _ _ _⟩) rfl rfl ?_ | refine⟨by intros; simp[*],CallY.use (fun _=>⟨rfl,qaj _ _ _⟩) rfl rfl ?_⟩
 simp[hi,hx]
 first | refine CallZ.use0 (qaj _ _ _) rfl rfl ?_ | refine CallY.use (fun _=>⟨rfl,qaj _ _ _⟩) rfl rfl ?_ | refine⟨by intros; simp[*],CallY.use (fun _=>⟨rfl,qaj _ _ _⟩) rfl rfl ?_⟩
 simp[hi,hx]
 first | refine CallZ.use0 (qaj _ _ _) rfl rfl ?_ | refine CallY.use (fun _=>⟨rfl,qaj _ _ _⟩) rfl rfl ?_ | refine⟨by intros; simp[*],CallY.use (fun _=>⟨rfl,qaj _ _ _⟩) rfl rfl ?_⟩
 simp
 simp[qbg,Bool.and_assoc]
theorem qko (x:Chamber):HFn Tryz.prog 138 [.agg x.cells] [] (.bool (qeb x)) []:=by
 refine qaa hm Tryz.func138 (by kernel_rfl) rfl (by kernel_rfl) rfl qab ?_
 simp[Chamber.cells]
 first | refine CallZ.use0 (qai _ _ _) rfl rfl ?_ | refine CallY.use (fun _=>⟨rfl,qai _ _ _⟩) rfl rfl ?_ | refine⟨by intros; simp[*],CallY.use (fun _=>⟨rfl,qai _ _ _⟩) rfl rfl ?_⟩
 simp
 first | refine CallZ.use0 (qai _ _ _) rfl rfl ?_ | refine CallY.use (fun _=>⟨rfl,qai _ _ _⟩) rfl rfl ?_ | refine⟨by intros; simp[*],CallY.use (fun _=>⟨rfl,qai _ _ _⟩) rfl rfl ?_⟩
 simp
 first | refine CallZ.use0 (qai _ _ _) rfl rfl ?_ | refine CallY.use (fun _=>⟨rfl,qai _ _ _⟩) rfl rfl ?_ | refine⟨by intros; simp[*],CallY.use (fun _=>⟨rfl,qai _ _ _⟩) rfl rfl ?_⟩
 simp
 simp[qeb,Bool.and_assoc]
theorem qkp (x:Tower):HFn Tryz.prog 141 [.agg x.cells] [] (.bool (qbW x)) []:=by
 refine qaa hm Tryz.func141 (by kernel_rfl) rfl (by kernel_rfl) rfl qab ?_
 simp[Tower.cells]
 first | refine CallZ.use0 (qa9 _) rfl rfl ?_ | refine CallY.use (fun _=>⟨rfl,qa9 _⟩) rfl rfl ?_ | refine⟨by intros; simp[*],CallY.use (fun _=>⟨rfl,qa9 _⟩) rfl rfl ?_⟩
 simp
 first | refine CallZ.use0 (qai _ _ _) rfl rfl ?_ | refine CallY.use (fun _=>⟨rfl,qai _ _ _⟩) rfl rfl ?_ | refine⟨by intros; simp[*],CallY.use (fun _=>⟨rfl,qai _ _ _⟩) rfl rfl ?_⟩
 simp
 first | refine CallZ.use0 (qai _ _ _) rfl rfl ?_ | refine CallY.use (fun _=>⟨rfl,qai _ _ _⟩) rfl rfl ?_ | refine⟨by intros; simp[*],CallY.use (fun _=>⟨rfl,qai _ _ _⟩) rfl rfl ?_⟩
 simp
 first | refine CallZ.use0 (qai _ _ _) rfl rfl ?_ | refine CallY.use (fun _=>⟨rfl,qai _ _ _⟩) rfl rfl ?_ | refine⟨by intros; simp[*],CallY.use (fun _=>⟨rfl,qai _ _ _⟩) rfl rfl ?_⟩
 simp
 first | refine CallZ.use0 (qai _ _ _) rfl rfl ?_ | refine CallY.use (fun _=>⟨rfl,qai _ _ _⟩) rfl rfl ?_ | refine⟨by intros; simp[*],CallY.use (fun _=>⟨rfl,qai _ _ _⟩) rfl rfl ?_⟩
 simp
 simp[qbW,Bool.and_assoc]
end Go.Proofs.YteckngloamnfdaaGreatDoor
namespace Go.Proofs.YteckngloamnfdaaGreatDoor
open Go Go.Ab
set_option maxRecDepth 100000
theorem qqc (f:Nat) (z:Nat) (rs:List (List PV)) (i0 o0:Nat) (p:Melt→Bool) (l:List Melt) (hf:∀x∈l,HFn Tryz.prog f (.agg x.cells::[.pe z rs i0 o0]) [] (.bool (p x)) []) (hs:l.length≤9223372036854775807) :
  HFn Tryz.prog 284 [.sl 3 (Melt.rows l), .fn f [.pe z rs i0 o0]] [] (.int .i64 (findI p l)) []:=by
 refine qaa hm Tryz.func284 (by kernel_rfl) rfl (by kernel_rfl) rfl qab ?_
 simp[Melt.rows_len]
 refine qac hm l.length (fun i=>⟨[(0, .sl 3 (Melt.rows l)),(1, .fn f [.pe z rs i0 o0]),(7, .int .i64 l.length),(8, .int .i64 i)],[]⟩) (fun i=>∀j (h:j<l.length),j<i→p l[j]=false) (by kernel_rfl) ?_ (by simp) (fun i hi hI =>?_) (fun hI =>?_)
 ·exact Wk.weak (ρ:=[]) (φ:=[]) (by simp)
 ·have kf:=hf l[i] (List.getElem_mem hi)
  simp only[Melt.cells]at kf
  simp[Melt.rows_len,Melt.row_get,Melt.cells,hi]
  refine CallZ.use0 kf rfl rfl ?_
  simp
  refine⟨fun h=>(qb9 hi h hI).symm,fun h=>⟨fun j hj hji =>?_,?_⟩⟩
  ·by_cases e:j=i
   ·subst e; exact h
   ·exact hI j hj (by omega)
  ·refine Wk.weak (ρ:=[]) (φ:=[]) ?_
   simp
   exact w64 (by omega) (by omega)
 ·simp[Melt.rows_len]
  exact (qca fun j hj=>hI j hj hj).symm
theorem qgc (f:Nat) (z:Nat) (rs:List (List PV)) (i0 o0:Nat) (p:Melt→Bool) (l:List Melt) (hf:∀x∈l,HFn Tryz.prog f (.agg x.cells::[.pe z rs i0 o0]) [] (.bool (p x)) []) (hs:l.length≤9223372036854775807) :
  HFn Tryz.prog 220 [.sl 3 (Melt.rows l), .fn f [.pe z rs i0 o0]] [] (.bool (l.any p)) []:=by
 refine qaa hm Tryz.func220 (by kernel_rfl) rfl (by kernel_rfl) rfl qab ?_
 simp
 refine CallZ.use0 (qqc f z rs i0 o0 p l hf hs) rfl rfl ?_
 simp
 exact qdi
theorem qhu (f:Nat) (z:Nat) (rs:List (List PV)) (i0 o0:Nat) (p:Bell→Bool) (l:List Bell) (hf:∀x∈l,HFn Tryz.prog f (.agg x.cells::[.pe z rs i0 o0]) [] (.bool (p x)) []) (hs:l.length≤9223372036854775807) :
  HFn Tryz.prog 150 [.sl 5 (Bell.rows l), .fn f [.pe z rs i0 o0]] [] (.int .i64 (findI p l)) []:=by
 refine qaa hm Tryz.func150 (by kernel_rfl) rfl (by kernel_rfl) rfl qab ?_
 simp[Bell.rows_len]
 refine qac hm l.length (fun i=>⟨[(0, .sl 5 (Bell.rows l)),(1, .fn f [.pe z rs i0 o0]),(7, .int .i64 l.length),(8, .int .i64 i)],[]⟩) (fun i=>∀j (h:j<l.length),j<i→p l[j]=false) (by kernel_rfl) ?_ (by simp) (fun i hi hI =>?_) (fun hI =>?_)
 ·exact Wk.weak (ρ:=[]) (φ:=[]) (by simp)
 ·have kf:=hf l[i] (List.getElem_mem hi)
  simp only[Bell.cells]at kf
  simp[Bell.rows_len,Bell.row_get,Bell.cells,hi]
  refine CallZ.use0 kf rfl rfl ?_
  simp
  refine⟨fun h=>(qb9 hi h hI).symm,fun h=>⟨fun j hj hji =>?_,?_⟩⟩
  ·by_cases e:j=i
   ·subst e; exact h
   ·exact hI j hj (by omega)
  ·refine Wk.weak (ρ:=[]) (φ:=[]) ?_
   simp
   exact w64 (by omega) (by omega)
 ·simp[Bell.rows_len]
  exact (qca fun j hj=>hI j hj hj).symm
theorem qqd (f:Nat) (z:Nat) (rs:List (List PV)) (i0 o0:Nat) (p:Bell→Bool) (l:List Bell) (hf:∀x∈l,HFn Tryz.prog f (.agg x.cells::[.pe z rs i0 o0]) [] (.bool (p x)) []) (hs:l.length≤9223372036854775807) :
  HFn Tryz.prog 164 [.sl 5 (Bell.rows l), .fn f [.pe z rs i0 o0]] [] (.bool (l.any p)) []:=by
 refine qaa hm Tryz.func164 (by kernel_rfl) rfl (by kernel_rfl) rfl qab ?_
 simp
 refine CallZ.use0 (qhu f z rs i0 o0 p l hf hs) rfl rfl ?_
 simp
 exact qdi
theorem qqe (f:Nat) (z:Nat) (rs:List (List PV)) (i0 o0:Nat) (p:Action→Bool) (l:List Action) (hf:∀x∈l,HFn Tryz.prog f (.agg x.cells::[.pe z rs i0 o0]) [] (.bool (p x)) []) (hs:l.length≤9223372036854775807) :
  HFn Tryz.prog 248 [.sl 4 (Action.rows l), .fn f [.pe z rs i0 o0]] [] (.int .i64 (findI p l)) []:=by
 refine qaa hm Tryz.func248 (by kernel_rfl) rfl (by kernel_rfl) rfl qab ?_
 simp[Action.rows_len]
 refine qac hm l.length (fun i=>⟨[(0, .sl 4 (Action.rows l)),(1, .fn f [.pe z rs i0 o0]),(7, .int .i64 l.length),(8, .int .i64 i)],[]⟩) (fun i=>∀j (h:j<l.length),j<i→p l[j]=false) (by kernel_rfl) ?_ (by simp) (fun i hi hI =>?_) (fun hI =>?_)
 ·exact Wk.weak (ρ:=[]) (φ:=[]) (by simp)
 ·have kf:=hf l[i] (List.getElem_mem hi)
  simp only[Action.cells]at kf
  simp[Action.rows_len,Action.row_get,Action.cells,hi]
  refine CallZ.use0 kf rfl rfl ?_
  simp
  refine⟨fun h=>(qb9 hi h hI).symm,fun h=>⟨fun j hj hji =>?_,?_⟩⟩
  ·by_cases e:j=i
   ·subst e; exact h
   ·exact hI j hj (by omega)
  ·refine Wk.weak (ρ:=[]) (φ:=[]) ?_
   simp
   exact w64 (by omega) (by omega)
 ·simp[Action.rows_len]
  exact (qca fun j hj=>hI j hj hj).symm
theorem qqf (f:Nat) (p:Lever→Bool) (l:List Lever) (hf:∀x∈l,HFn Tryz.prog f (.agg x.cells::[]) [] (.bool (p x)) []) (hs:l.length≤9223372036854775807) :
  HFn Tryz.prog 340 [.sl 2 (Lever.rows l), .fn f []] [] (.int .i64 (findI p l)) []:=by
 refine qaa hm Tryz.func340 (by kernel_rfl) rfl (by kernel_rfl) rfl qab ?_
 simp[Lever.rows_len]
 refine qac hm l.length (fun i=>⟨[(0, .sl 2 (Lever.rows l)),(1, .fn f []),(7, .int .i64 l.length),(8, .int .i64 i)],[]⟩) (fun i=>∀j (h:j<l.length),j<i→p l[j]=false) (by kernel_rfl) ?_ (by simp) (fun i hi hI =>?_) (fun hI =>?_)
 ·exact Wk.weak (ρ:=[]) (φ:=[]) (by simp)
 ·have kf:=hf l[i] (List.getElem_mem hi)
  simp only[Lever.cells]at kf
  simp[Lever.rows,Lever.cells,hi]
  refine CallZ.use0 kf rfl rfl ?_
  simp
  refine⟨fun h=>(qb9 hi h hI).symm,fun h=>⟨fun j hj hji =>?_,?_⟩⟩
  ·by_cases e:j=i
   ·subst e; exact h
   ·exact hI j hj (by omega)
  ·refine Wk.weak (ρ:=[]) (φ:=[]) ?_
   simp
   exact w64 (by omega) (by omega)
 ·simp[Lever.rows_len]
  exact (qca fun j hj=>hI j hj hj).symm
theorem qqg (f:Nat) (p:Lever→Bool) (l:List Lever) (hf:∀x∈l,HFn Tryz.prog f (.agg x.cells::[]) [] (.bool (p x)) []) (hs:l.length≤9223372036854775807) :
  HFn Tryz.prog 291 [.sl 2 (Lever.rows l), .fn f []] [] (.bool (l.any p)) []:=by
 refine qaa hm Tryz.func291 (by kernel_rfl) rfl (by kernel_rfl) rfl qab ?_
 simp
 refine CallZ.use0 (qqf f p l hf hs) rfl rfl ?_
 simp
 exact qdi
theorem qqh (f:Nat) (z:Nat) (rs:List (List PV)) (i0 o0:Nat) (p:Place→Bool) (l:List Place) (hf:∀x∈l,HFn Tryz.prog f (.agg x.cells::[.pe z rs i0 o0]) [] (.bool (p x)) []) (hs:l.length≤9223372036854775807) :
  HFn Tryz.prog 239 [.sl 5 (Place.rows l), .fn f [.pe z rs i0 o0]] [] (.int .i64 (findI p l)) []:=by
 refine qaa hm Tryz.func239 (by kernel_rfl) rfl (by kernel_rfl) rfl qab ?_
 simp[Place.rows_len]
 refine qac hm l.length (fun i=>⟨[(0, .sl 5 (Place.rows l)),(1, .fn f [.pe z rs i0 o0]),(7, .int .i64 l.length),(8, .int .i64 i)],[]⟩) (fun i=>∀j (h:j<l.length),j<i→p l[j]=false) (by kernel_rfl) ?_ (by simp) (fun i hi hI =>?_) (fun hI =>?_)
 ·exact Wk.weak (ρ:=[]) (φ:=[]) (by simp)
 ·have kf:=hf l[i] (List.getElem_mem hi)
  simp only[Place.cells]at kf
  simp[Place.rows,Place.cells,hi]
  refine CallZ.use0 kf rfl rfl ?_
  simp
  refine⟨fun h=>(qb9 hi h hI).symm,fun h=>⟨fun j hj hji =>?_,?_⟩⟩
  ·by_cases e:j=i
   ·subst e; exact h
   ·exact hI j hj (by omega)
  ·refine Wk.weak (ρ:=[]) (φ:=[]) ?_
   simp
   exact w64 (by omega) (by omega)
 ·simp[Place.rows_len]
  exact (qca fun j hj=>hI j hj hj).symm
theorem qqi (f:Nat) (z:Nat) (rs:List (List PV)) (i0 o0:Nat) (p:Place→Bool) (l:List Place) (hf:∀x∈l,HFn Tryz.prog f (.agg x.cells::[.pe z rs i0 o0]) [] (.bool (p x)) []) (hs:l.length≤9223372036854775807) :
  HFn Tryz.prog 152 [.sl 5 (Place.rows l), .fn f [.pe z rs i0 o0]] [] (.bool (l.any p)) []:=by
 refine qaa hm Tryz.func152 (by kernel_rfl) rfl (by kernel_rfl) rfl qab ?_
 simp
 refine CallZ.use0 (qqh f z rs i0 o0 p l hf hs) rfl rfl ?_
 simp
 exact qdi
theorem qqj (f:Nat) (z:Nat) (rs:List (List PV)) (i0 o0:Nat) (p:(List UInt8)→Bool) (l:List (List UInt8)) (hf:∀x∈l,HFn Tryz.prog f (.str x::[.pe z rs i0 o0]) [] (.bool (p x)) []) (hs:l.length≤9223372036854775807) :
  HFn Tryz.prog 338 [.sl 1 (qae l), .fn f [.pe z rs i0 o0]] [] (.int .i64 (findI p l)) []:=by
 refine qaa hm Tryz.func338 (by kernel_rfl) rfl (by kernel_rfl) rfl qab ?_
 simp[qaF]
 refine qac hm l.length (fun i=>⟨[(0, .sl 1 (qae l)),(1, .fn f [.pe z rs i0 o0]),(7, .int .i64 l.length),(8, .int .i64 i)],[]⟩) (fun i=>∀j (h:j<l.length),j<i→p l[j]=false) (by kernel_rfl) ?_ (by simp) (fun i hi hI =>?_) (fun hI =>?_)
 ·exact Wk.weak (ρ:=[]) (φ:=[]) (by simp)
 ·have kf:=hf l[i] (List.getElem_mem hi)
  skip
  simp[qaF,qdk,hi]
  refine CallZ.use0 kf rfl rfl ?_
  simp
  refine⟨fun h=>(qb9 hi h hI).symm,fun h=>⟨fun j hj hji =>?_,?_⟩⟩
  ·by_cases e:j=i
   ·subst e; exact h
   ·exact hI j hj (by omega)
  ·refine Wk.weak (ρ:=[]) (φ:=[]) ?_
   simp
   exact w64 (by omega) (by omega)
 ·simp[qaF]
  exact (qca fun j hj=>hI j hj hj).symm
theorem qqk (f:Nat) (z:Nat) (rs:List (List PV)) (i0 o0:Nat) (p:(List UInt8)→Bool) (l:List (List UInt8)) (hf:∀x∈l,HFn Tryz.prog f (.str x::[.pe z rs i0 o0]) [] (.bool (p x)) []) (hs:l.length≤9223372036854775807) :
  HFn Tryz.prog 285 [.sl 1 (qae l), .fn f [.pe z rs i0 o0]] [] (.bool (l.any p)) []:=by
 refine qaa hm Tryz.func285 (by kernel_rfl) rfl (by kernel_rfl) rfl qab ?_
 simp
 refine CallZ.use0 (qqj f z rs i0 o0 p l hf hs) rfl rfl ?_
 simp
 exact qdi
theorem qql (l:List (List UInt8)) (v:List UInt8) (hl:l.length≤9223372036854775807):HFn Tryz.prog 339 [.sl 1 (qae l), .str v] [] (.int .i64 (findI (fun x=>decide (v=x)) l)) []:=by
 refine qaa hm Tryz.func339 (by kernel_rfl) rfl (by kernel_rfl) rfl qab ?_
 simp[qaF]
 refine qac hm l.length (fun i=>⟨[(0, .sl 1 (qae l)),(1, .str v),(7, .int .i64 l.length),(8, .int .i64 i)],[]⟩) (fun i=>∀j (h:j<l.length),j<i→decide (v=l[j])=false) (by kernel_rfl) ?_ (by simp) (fun i hi hI =>?_) (fun hI =>?_)
 ·exact Wk.weak (ρ:=[]) (φ:=[]) (by simp)
 ·simp[qaF,qdk,hi]
  refine⟨fun h=>(qb9 hi (by simpa using h) hI).symm,fun h=>⟨fun j hj hji =>?_,?_⟩⟩
  ·by_cases e:j=i
   ·subst e; exact h
   ·simpa using hI j hj (by omega)
  ·refine Wk.weak (ρ:=[]) (φ:=[]) ?_
   simp
   exact w64 (by omega) (by omega)
 ·simp[qaF]
  exact (qca fun j hj=>hI j hj hj).symm
theorem qqm (l:List (List UInt8)) (v:List UInt8) (hl:l.length≤9223372036854775807):HFn Tryz.prog 287 [.sl 1 (qae l), .str v] [] (.bool (l.any fun x=>decide (v=x))) []:=by
 refine qaa hm Tryz.func287 (by kernel_rfl) rfl (by kernel_rfl) rfl qab ?_
 simp
 refine CallZ.use0 (qql l v hl) rfl rfl ?_
 simp
 exact qdi
end Go.Proofs.YteckngloamnfdaaGreatDoor
namespace Go.Proofs.YteckngloamnfdaaGreatDoor
open Go Go.Ab
set_option maxRecDepth 100000
def qcw (x:Share):Bool:=qaB x.melt&&(decide (1≤x.mass)&&decide (x.mass≤20000000))
def qcI (a b:Share):Bool:=Op.bytesLess a.melt b.melt
def massS (l:List Share) (i:Nat):Int:=(l.take i).foldl (fun s x=>IntKind.i64.wrap (s+x.mass)) 0
theorem qkq (l:List Share) {i:Nat} (hi:i<l.length):massS l (i+1)=IntKind.i64.wrap (massS l i+l[i].mass):=by
 unfold massS
 rw[←List.take_append_getElem hi,List.foldl_append]
 rfl
def qbt (x:Bell):Bool:=upOk qcw qcI x.shares&&(qaB x.id&&(decide (0≤x.note)&&decide (x.note≤127))&&(decide (1≤x.mass)&&decide (x.mass≤20000000))&&(decide (0≤x.feed)&&decide (x.feed≤20000000))&&decide (1≤(x.shares.length:Int))&&decide ((x.shares.length:Int)≤4)&&decide (massS x.shares x.shares.length=IntKind.i64.wrap (x.mass+x.feed)))
def qbd (b:Beam) (x:Load):Bool:=(decide (0≤x.k_at)&&decide (x.k_at≤b.span))&&(decide (1≤x.weight)&&decide (x.weight≤200000))
def qcJ (a b:Load):Bool:=decide (a.k_at≤b.k_at)
def qbu (x:Beam):Bool:=upOk (qbd x) qcJ x.loads&&(qaB x.name&&(decide (1≤x.span)&&decide (x.span≤6000))&&(decide (20≤x.width)&&decide (x.width≤1000))&&(decide (20≤x.depth)&&decide (x.depth≤1000))&&(decide (1000≤x.wood)&&decide (x.wood≤20000))&&decide ((x.loads.length:Int)≤8))
def qc6 (x:Lever):Bool := !(decide (1≤x.k_in)&&decide (x.k_in≤100000)) || !(decide (1≤x.k_out)&&decide (x.k_out≤100000))
def qbX (x:Action):Bool:=(decide (0≤x.note)&&decide (x.note≤127))&&decide ((x.levers.length:Int)≤6) && !x.levers.any qc6&&(decide (0≤x.slack)&&decide (x.slack≤10000))&&(decide (0≤x.weight)&&decide (x.weight≤1000000))
def qeL (l:List (List UInt8)):Bool:=upOk qaB Op.bytesLess l
def qbv (x:Melt):Bool:=qaB x.id&&decide (1≤(x.ingots.length:Int))&&decide ((x.ingots.length:Int)≤16)&&qeL x.ingots&&(decide (1≤x.mass)&&decide (x.mass≤320000000))
set_option maxHeartbeats 1000000 in
theorem qqn (x:Bell) (hl:x.shares.length≤1048576):HFn Tryz.prog 223 [.agg x.cells] [] (.bool (qbt x)) []:=by
 refine qaa hm Tryz.func223 (by kernel_rfl) rfl (by kernel_rfl) rfl qab ?_
 simp[Bell.cells,Share.rows_len]
 refine qac hm x.shares.length (fun i=>⟨[(1, .pb 0 0),(3, .int .i64 (massS x.shares i)),(7, .sl 2 (Share.rows x.shares)),(8, .int .i64 x.shares.length),(9, .int .i64 i)],[some (.box [.str x.id, .int .i64 x.note, .int .i64 x.mass, .int .i64 x.feed, .sl 2 (Share.rows x.shares)])]⟩) (fun i=>∀j,j<i→upAt qcw qcI x.shares j=true) (by kernel_rfl) ?_ (by simp) (fun i hi hI =>?_) (fun hI =>?_)
 ·exact Wk.weak (ρ:=[0]) (φ:=[]) (by simp[massS])
 ·have e1:IntKind.i64.wrap ((i:Int)-1)=i-1:=w64 (by omega) (by omega)
  obtain⟨y,hy⟩:∃y,x.shares[i-1]?=some y:=⟨_,List.getElem?_eq_getElem (by omega)⟩
  have hx:=List.getElem?_eq_getElem hi
  have ho:=qbb qcw qcI hx hy
  have hs:=qc2 y.melt x.shares[i].melt
  rw[qkq _ hi]
  simp[Share.rows,Share.cells,hi]
  refine CallZ.use0 (qa9 _) rfl rfl ?_
  simp
  refine CallY.use (fun _=>⟨rfl,qfe _⟩) rfl rfl ?_
  simp[Share.cells,hy,e1]
  repeat refine⟨by grind,?_⟩
  refine⟨fun h =>?_,fun h1 h2 h3 h4=>⟨qaN hI ?_,?_⟩⟩
  ·have:upAt qcw qcI x.shares i=false:=by
    rw[ho,qcw,qcI]
    grind
   simp only[qbt,upOk,qaG hi this,Bool.false_and]
  ·rw[ho,qcw,qcI]
   grind
  ·refine Wk.weak (ρ:=[0]) (φ:=[]) ?_
   simp
   exact w64 (by omega) (by omega)
 ·simp[Share.rows]
  refine CallZ.use0 (qa9 _) rfl rfl ?_
  simp
  refine CallY.use (fun _=>⟨rfl,qai _ _ _⟩) rfl rfl ?_
  simp
  repeat refine⟨by grind,?_⟩
  refine CallY.use (fun _=>⟨rfl,qfe _⟩) rfl rfl ?_
  simp
  repeat refine⟨by grind,?_⟩
  refine CallY.use (fun _=>⟨rfl,qai _ _ _⟩) rfl rfl ?_
  simp
  repeat refine⟨by grind,?_⟩
  simp only[qbt,upOk,qaM hI,Bool.true_and]
set_option maxHeartbeats 1000000 in
theorem qqo (x:Bell) (rows:List (List PV)) (i0:Nat) (hr:rows[i0]?=some x.cells) (hl:x.shares.length≤1048576):HFn Tryz.prog 187 [.pe 5 rows i0 0] [] (.bool (qbt x)) []:=by
 have hi0:i0<rows.length:=(List.getElem?_eq_some_iff.1 hr).1
 have hx0:rows[i0]=x.cells:=(List.getElem?_eq_some_iff.1 hr).2
 rw[Bell.cells]at hr hx0
 refine qaa hm Tryz.func187 (by kernel_rfl) rfl (by kernel_rfl) rfl qab ?_
 simp[hi0,hx0]
 refine CallZ.use0 (qba _) rfl rfl ?_
 simp[hi0,hx0]
 iterate 3
  repeat refine⟨by grind,?_⟩
  refine CallY.use (fun _=>⟨rfl,qaj _ _ _⟩) rfl rfl ?_
  simp[hi0,hx0,Share.rows_len]
 repeat refine⟨by grind,?_⟩
 refine⟨fun h =>?_,?_⟩
 ·rw[qbt]
  grind
 intros
 refine qac hm x.shares.length (fun i=>⟨[(0, .pe 5 rows i0 0),(3, .int .i64 (massS x.shares i)),(4, .int .i64 i)],[]⟩) (fun i=>∀j,j<i→upAt qcw qcI x.shares j=true) (by kernel_rfl) ?_ (by simp) (fun i hi hI =>?_) (fun hI =>?_)
 ·exact Wk.weak (ρ:=[]) (φ:=[]) (by simp[massS])
 ·have e1:IntKind.i64.wrap ((i:Int)-1)=i-1:=w64 (by omega) (by omega)
  obtain⟨y,hy⟩:∃y,x.shares[i-1]?=some y:=⟨_,List.getElem?_eq_getElem (by omega)⟩
  have hx:=List.getElem?_eq_getElem hi
  have ho:=qbb qcw qcI hx hy
  rw[qkq _ hi]
  simp[hi0,hx0,Share.rows,Share.cells,hi]
  refine CallZ.use0 (qba _) rfl rfl ?_
  simp[hi0,hx0,Share.rows,Share.cells,hi]
  repeat refine⟨by grind,?_⟩
  refine CallY.use (fun _=>⟨rfl,qaj _ _ _⟩) rfl rfl ?_
  simp[hi0,hx0,Share.rows,Share.cells,hi,hy,e1]
  repeat refine⟨by grind,?_⟩
  refine⟨fun h =>?_,fun h1 h2 h3 h4=>⟨qaN hI ?_,?_⟩⟩
  ·have:upAt qcw qcI x.shares i=false:=by
    rw[ho,qcw,qcI]
    grind
   simp only[qbt,upOk,qaG hi this,Bool.false_and]
  ·rw[ho,qcw,qcI]
   grind
  ·refine Wk.weak (ρ:=[]) (φ:=[]) ?_
   simp
   exact w64 (by omega) (by omega)
 ·simp[hi0,hx0,Share.rows]
  simp only[qbt,upOk,qaM hI,Bool.true_and]
  grind
theorem qqp (b:Beam) (x:Load):HFn Tryz.prog 289 [.agg b.cells, .agg x.cells] [] (.bool (qbd b x)) []:=by
 refine qaa hm Tryz.func289 (by kernel_rfl) rfl (by kernel_rfl) rfl qab ?_
 simp[Beam.cells,Load.cells]
 refine CallZ.use0 (qai _ _ _) rfl rfl ?_
 simp
 repeat refine⟨by grind,?_⟩
 refine CallY.use (fun _=>⟨rfl,qai _ _ _⟩) rfl rfl ?_
 simp[qbd]
theorem qqq (b:Beam) (x:Load) (rows rows':List (List PV)) (i j:Nat) (hr:rows[i]?=some b.cells) (hr':rows'[j]?=some x.cells):HFn Tryz.prog 263 [.pe 6 rows i 0, .pe 2 rows' j 0] [] (.bool (qbd b x)) []:=by
 have hi:i<rows.length:=(List.getElem?_eq_some_iff.1 hr).1
 have hx:rows[i]=b.cells:=(List.getElem?_eq_some_iff.1 hr).2
 have hj:j<rows'.length:=(List.getElem?_eq_some_iff.1 hr').1
 have hy:rows'[j]=x.cells:=(List.getElem?_eq_some_iff.1 hr').2
 rw[Beam.cells]at hr hx
 rw[Load.cells]at hr' hy
 refine qaa hm Tryz.func263 (by kernel_rfl) rfl (by kernel_rfl) rfl qab ?_
 simp[hi,hx,hj,hy]
 refine CallZ.use0 (qaj _ _ _) rfl rfl ?_
 simp[hj,hy]
 repeat refine⟨by grind,?_⟩
 refine CallY.use (fun _=>⟨rfl,qaj _ _ _⟩) rfl rfl ?_
 simp[qbd]
set_option maxHeartbeats 1000000 in
theorem qqr (x:Beam) (hl:x.loads.length≤1048576):HFn Tryz.prog 227 [.agg x.cells] [] (.bool (qbu x)) []:=by
 refine qaa hm Tryz.func227 (by kernel_rfl) rfl (by kernel_rfl) rfl qab ?_
 simp[Beam.cells,Load.rows_len]
 refine qac hm x.loads.length (fun i=>⟨[(1, .pb 0 0),(6, .sl 2 (Load.rows x.loads)),(7, .int .i64 x.loads.length),(8, .int .i64 i)],[some (.box [.str x.name, .int .i64 x.span, .int .i64 x.width, .int .i64 x.depth, .int .i64 x.wood, .sl 2 (Load.rows x.loads)])]⟩) (fun i=>∀j,j<i→upAt (qbd x) qcJ x.loads j=true) (by kernel_rfl) ?_ (by simp) (fun i hi hI =>?_) (fun hI =>?_)
 ·exact Wk.weak (ρ:=[0]) (φ:=[]) (by simp)
 ·have e1:IntKind.i64.wrap ((i:Int)-1)=i-1:=w64 (by omega) (by omega)
  obtain⟨y,hy⟩:∃y,x.loads[i-1]?=some y:=⟨_,List.getElem?_eq_getElem (by omega)⟩
  have hx:=List.getElem?_eq_getElem hi
  have ho:=qbb (qbd x) qcJ hx hy
  have kl:=qqp x x.loads[i]
  simp only[Beam.cells,Load.cells]at kl
  simp[Load.rows,Load.cells,hi]
  refine CallZ.use0 kl rfl rfl ?_
  simp[Load.cells,hy,e1]
  repeat refine⟨by grind,?_⟩
  refine⟨fun h =>?_,fun h1 h2=>⟨qaN hI ?_,?_⟩⟩
  ·have:upAt (qbd x) qcJ x.loads i=false:=by
    rw[ho,qcJ]
    grind
   simp only[qbu,upOk,qaG hi this,Bool.false_and]
  ·rw[ho,qcJ]
   grind
  ·refine Wk.weak (ρ:=[0]) (φ:=[]) ?_
   simp
   exact w64 (by omega) (by omega)
 ·simp[Load.rows]
  refine CallZ.use0 (qa9 _) rfl rfl ?_
  simp
  refine CallY.use (fun _=>⟨rfl,qai _ _ _⟩) rfl rfl ?_
  simp
  iterate 2
   repeat refine⟨by grind,?_⟩
   refine CallY.use (fun _=>⟨rfl,qp6 _⟩) rfl rfl ?_
   simp
  repeat refine⟨by grind,?_⟩
  refine CallY.use (fun _=>⟨rfl,qai _ _ _⟩) rfl rfl ?_
  simp
  repeat refine⟨by grind,?_⟩
  simp only[qbu,upOk,qaM hI,Bool.true_and]
set_option maxHeartbeats 1000000 in
theorem qqs (x:Beam) (rows:List (List PV)) (i0:Nat) (hr:rows[i0]?=some x.cells) (hl:x.loads.length≤1048576):HFn Tryz.prog 191 [.pe 6 rows i0 0] [] (.bool (qbu x)) []:=by
 have hi0:i0<rows.length:=(List.getElem?_eq_some_iff.1 hr).1
 have hx0:rows[i0]=x.cells:=(List.getElem?_eq_some_iff.1 hr).2
 have hr0:=hr
 rw[Beam.cells]at hr hx0
 refine qaa hm Tryz.func191 (by kernel_rfl) rfl (by kernel_rfl) rfl qab ?_
 simp[hi0,hx0]
 refine CallZ.use0 (qba _) rfl rfl ?_
 simp[hi0,hx0]
 iterate 4
  repeat refine⟨by grind,?_⟩
  refine CallY.use (fun _=>⟨rfl,qaj _ _ _⟩) rfl rfl ?_
  simp[hi0,hx0]
 repeat refine⟨by grind,?_⟩
 refine⟨fun h =>?_,?_⟩
 ·rw[qbu]
  grind
 intros
 refine qac hm x.loads.length (fun i=>⟨[(0, .pe 6 rows i0 0),(3, .int .i64 i)],[]⟩) (fun i=>∀j,j<i→upAt (qbd x) qcJ x.loads j=true) (by kernel_rfl) ?_ (by simp) (fun i hi hI =>?_) (fun hI =>?_)
 ·exact Wk.weak (ρ:=[]) (φ:=[]) (by simp)
 ·have e1:IntKind.i64.wrap ((i:Int)-1)=i-1:=w64 (by omega) (by omega)
  obtain⟨y,hy⟩:∃y,x.loads[i-1]?=some y:=⟨_,List.getElem?_eq_getElem (by omega)⟩
  have hx:=List.getElem?_eq_getElem hi
  have ho:=qbb (qbd x) qcJ hx hy
  have kl:=qqq x x.loads[i] rows (List.map Load.cells x.loads) i0 i hr0 (by simp[hi])
  simp[hi0,hx0,Load.rows,hi]
  refine CallZ.use0 kl rfl rfl ?_
  simp[hi0,hx0,Load.rows,Load.cells,hi,hy,e1]
  repeat refine⟨by grind,?_⟩
  refine⟨fun h =>?_,fun h1 h2=>⟨qaN hI ?_,?_⟩⟩
  ·have:upAt (qbd x) qcJ x.loads i=false:=by
    rw[ho,qcJ]
    grind
   simp only[qbu,upOk,qaG hi this,Bool.false_and]
  ·rw[ho,qcJ]
   grind
  ·refine Wk.weak (ρ:=[]) (φ:=[]) ?_
   simp
   exact w64 (by omega) (by omega)
 ·simp[hi0,hx0,Load.rows]
  simp only[qbu,upOk,qaM hI,Bool.true_and]
  grind
theorem qqt (x:Lever):HFn Tryz.prog 292 [.agg x.cells] [] (.bool (qc6 x)) []:=by
 refine qaa hm Tryz.func292 (by kernel_rfl) rfl (by kernel_rfl) rfl qab ?_
 simp[Lever.cells]
 refine CallZ.use0 (qkn _) rfl rfl ?_
 simp
 repeat refine⟨by grind,?_⟩
 refine CallY.use (fun _=>⟨rfl,qkn _⟩) rfl rfl ?_
 simp[qc6]
 try exact fun a b=>⟨a,b⟩
theorem qqu (x:Action) (hl:x.levers.length≤1048576):HFn Tryz.prog 228 [.agg x.cells] [] (.bool (qbX x)) []:=by
 refine qaa hm Tryz.func228 (by kernel_rfl) rfl (by kernel_rfl) rfl qab ?_
 simp[Action.cells]
 refine CallZ.use0 (qai _ _ _) rfl rfl ?_
 simp[Lever.rows_len]
 repeat refine⟨by grind,?_⟩
 refine CallY.use (fun _=>⟨rfl,qqg _ qc6 x.levers (fun y _=>qqt y) (by omega)⟩) rfl rfl ?_
 simp
 repeat refine⟨by grind,?_⟩
 refine CallY.use (fun _=>⟨rfl,qp7 _⟩) rfl rfl ?_
 simp
 repeat refine⟨by grind,?_⟩
 refine CallY.use (fun _=>⟨rfl,qai _ _ _⟩) rfl rfl ?_
 simp
 repeat refine⟨by grind,?_⟩
 simp[qbX]
theorem qqv (x:Action) (rows:List (List PV)) (i0:Nat) (hr:rows[i0]?=some x.cells) (hl:x.levers.length≤1048576):HFn Tryz.prog 192 [.pe 4 rows i0 0] [] (.bool (qbX x)) []:=by
 have hi0:i0<rows.length:=(List.getElem?_eq_some_iff.1 hr).1
 have hx0:rows[i0]=x.cells:=(List.getElem?_eq_some_iff.1 hr).2
 rw[Action.cells]at hr hx0
 refine qaa hm Tryz.func192 (by kernel_rfl) rfl (by kernel_rfl) rfl qab ?_
 simp[hi0,hx0]
 refine CallZ.use0 (qaj _ _ _) rfl rfl ?_
 simp[hi0,hx0,Lever.rows_len]
 repeat refine⟨by grind,?_⟩
 iterate 2
  refine CallY.use (fun _=>⟨rfl,qaj _ _ _⟩) rfl rfl ?_
  simp[hi0,hx0]
  repeat refine⟨by grind,?_⟩
 refine⟨fun h =>?_,?_⟩
 ·rw[qbX]
  grind
 intro a1 a2 a3 a4 a5 a6 a7
 refine qac hm x.levers.length (fun i=>⟨[(0, .pe 4 rows i0 0),(3, .int .i64 i)],[]⟩) (fun i=>∀j (hj:j<x.levers.length),j<i→qc6 x.levers[j]=false) (by kernel_rfl) ?_ (by simp) (fun i hi hI =>?_) (fun hI =>?_)
 ·exact Wk.weak (ρ:=[]) (φ:=[]) (by simp)
 ·simp[hi0,hx0,Lever.rows,Lever.cells,hi]
  refine CallZ.use0 (qaj _ _ _) rfl rfl ?_
  simp[hi0,hx0,Lever.rows,Lever.cells,hi]
  repeat refine⟨by grind,?_⟩
  refine CallY.use (fun _=>⟨rfl,qaj _ _ _⟩) rfl rfl ?_
  simp
  repeat refine⟨by grind,?_⟩
  refine⟨fun h =>?_,fun h1 h2 h3 h4=>⟨fun j hj hji =>?_,?_⟩⟩
  ·have hb:qc6 x.levers[i]=true:=by
    rw[qc6]
    grind
   have:x.levers.any qc6=true:=List.any_eq_true.2 ⟨_,List.getElem_mem hi,hb⟩
   simp[qbX,this]
  ·by_cases e:j=i
   ·subst e
    simp[qc6,h1,h2,h3,h4]
   ·exact hI j hj (by omega)
  ·refine Wk.weak (ρ:=[]) (φ:=[]) ?_
   simp
   exact w64 (by omega) (by omega)
 ·simp[hi0,hx0,Lever.rows]
  have:x.levers.any qc6=false:=by
   rw[List.any_eq_false]
   intro y hy
   obtain⟨j,hj,rfl⟩:=List.getElem_of_mem hy
   simp[hI j hj hj]
  simp[qbX,this,a1,a2,a3,a4,a5,a6,a7]
end Go.Proofs.YteckngloamnfdaaGreatDoor
namespace Go.Proofs.YteckngloamnfdaaGreatDoor
open Go Go.Ab
set_option maxRecDepth 100000
def qcK (a b:Ingot):Bool:=Op.bytesLess a.id b.id
def qc7 (a b:Melt):Bool:=Op.bytesLess a.id b.id
def qcL (a b:Bell):Bool:=Op.bytesLess a.id b.id
def qcM (a b:Place):Bool:=Op.bytesLess a.bell b.bell
def qcN (a b:Beam):Bool:=Op.bytesLess a.name b.name
def qcO (a b:Action):Bool:=decide (a.note<b.note)
def qbw (l:List Ingot):Bool:=upOk qcv qcK l&&decide ((l.length:Int)≤16)
def qcd (l:List Bell):Bool:=upOk qbt qcL l&&decide ((l.length:Int)≤24)
def qbL (l:List Place):Bool:=upOk qbg qcM l&&decide ((l.length:Int)≤24)
def qc8 (l:List Beam):Bool:=upOk qbu qcN l&&decide ((l.length:Int)≤24)
def qcx (l:List Action):Bool:=upOk qbX qcO l&&decide ((l.length:Int)≤48)
set_option maxHeartbeats 1000000 in
theorem qkr (l:List Ingot) (hl:l.length≤1048576):HFn Tryz.prog 134 [.sl 5 (Ingot.rows l)] [] (.bool (qbw l)) []:=by
 refine qaa hm Tryz.func134 (by kernel_rfl) rfl (by kernel_rfl) rfl qab ?_
 simp[Ingot.rows]
 refine qac hm l.length (fun i=>⟨[(0, .sl 5 (Ingot.rows l)),(5, .sl 5 (Ingot.rows l)),(6, .int .i64 l.length),(7, .int .i64 i)],[]⟩) (fun i=>∀j,j<i→upAt qcv qcK l j=true) (by kernel_rfl) ?_ (by simp) (fun i hi hI =>?_) (fun hI =>?_)
 ·exact Wk.weak (ρ:=[]) (φ:=[]) (by simp[Ingot.rows])
 ·have e1:IntKind.i64.wrap ((i:Int)-1)=i-1:=w64 (by omega) (by omega)
  obtain⟨y,hy⟩:∃y,l[i-1]?=some y:=⟨_,List.getElem?_eq_getElem (by omega)⟩
  have hx:=List.getElem?_eq_getElem hi
  have kv:=qp8 l[i]
  simp only[Ingot.cells]at kv
  simp[Ingot.rows,Ingot.cells,hi]
  refine CallZ.use0 kv rfl rfl ?_
  simp[Ingot.cells,hy,e1]
  have ho:=qbb qcv qcK hx hy
  have hs:=qc2 y.id l[i].id
  iterate 6 refine⟨by grind,?_⟩
  refine⟨fun h =>?_,fun h1 h2=>⟨qaN hI ?_,?_⟩⟩
  ·have:upAt qcv qcK l i=false:=by
    rw[ho,qcK]
    rcases h with h | ⟨h,h'⟩
    ·simp[h]
    ·have h3:(Op.bytesLess l[i].id y.id||decide (l[i].id=y.id))=true:=by simpa using h'
     rw[hs]at h3
     have h4:¬i=0:=by omega
     simp at h3
     simp[h3,h4]
   simp only[qbw,upOk,qaG hi this,Bool.false_and]
  ·rw[ho,qcK]
   rw[h1,Bool.true_and]
   by_cases h4:i=0
   ·simp[h4]
   ·obtain⟨h5,h6⟩:=h2 (by omega)
    simp[h5,h6]at hs
    simp[hs]
  ·refine Wk.weak (ρ:=[]) (φ:=[]) ?_
   simp
   exact w64 (by omega) (by omega)
 ·simp[Ingot.rows]
  simp only[qbw,upOk,qaM hI,Bool.true_and]
set_option maxHeartbeats 1000000 in
theorem qks (l:List Ingot) (hl:l.length≤1048576):HFn Tryz.prog 107 [.sl 5 (Ingot.rows l)] [] (.bool (qbw l)) []:=by
 refine qaa hm Tryz.func107 (by kernel_rfl) rfl (by kernel_rfl) rfl qab ?_
 simp[Ingot.rows]
 refine qac hm l.length (fun i=>⟨[(0, .sl 5 (Ingot.rows l)),(3, .int .i64 i)],[]⟩) (fun i=>∀j,j<i→upAt qcv qcK l j=true) (by kernel_rfl) ?_ (by simp) (fun i hi hI =>?_) (fun hI =>?_)
 ·exact Wk.weak (ρ:=[]) (φ:=[]) (by simp[Ingot.rows])
 ·have e1:IntKind.i64.wrap ((i:Int)-1)=i-1:=w64 (by omega) (by omega)
  obtain⟨y,hy⟩:∃y,l[i-1]?=some y:=⟨_,List.getElem?_eq_getElem (by omega)⟩
  have hx:=List.getElem?_eq_getElem hi
  simp[Ingot.rows,hi]
  refine CallZ.use0 (qp9 l[i] _ _ (by simp[hi])) rfl rfl ?_
  simp[Ingot.cells,hi,hy,e1]
  have ho:=qbb qcv qcK hx hy
  iterate 6 refine⟨by grind,?_⟩
  refine⟨fun h =>?_,fun h1 h2=>⟨qaN hI ?_,?_⟩⟩
  ·have:upAt qcv qcK l i=false:=by
    rw[ho,qcK]
    rcases h with h | ⟨h,h'⟩
    ·simp[h]
    ·have h4:¬i=0:=by omega
     simp[h',h4]
   simp only[qbw,upOk,qaG hi this,Bool.false_and]
  ·rw[ho,qcK,h1,Bool.true_and]
   by_cases h4:i=0
   ·simp[h4]
   ·simp[h2 (by omega)]
  ·refine Wk.weak (ρ:=[]) (φ:=[]) ?_
   simp
   exact w64 (by omega) (by omega)
 ·simp[Ingot.rows]
  simp only[qbw,upOk,qaM hI,Bool.true_and]
set_option maxHeartbeats 1000000 in
theorem qhv (l:List Place) (hl:l.length≤1048576):HFn Tryz.prog 139 [.sl 5 (Place.rows l)] [] (.bool (qbL l)) []:=by
 refine qaa hm Tryz.func139 (by kernel_rfl) rfl (by kernel_rfl) rfl qab ?_
 simp[Place.rows]
 refine qac hm l.length (fun i=>⟨[(0, .sl 5 (Place.rows l)),(5, .sl 5 (Place.rows l)),(6, .int .i64 l.length),(7, .int .i64 i)],[]⟩) (fun i=>∀j,j<i→upAt qbg qcM l j=true) (by kernel_rfl) ?_ (by simp) (fun i hi hI =>?_) (fun hI =>?_)
 ·exact Wk.weak (ρ:=[]) (φ:=[]) (by simp[Place.rows])
 ·have e1:IntKind.i64.wrap ((i:Int)-1)=i-1:=w64 (by omega) (by omega)
  obtain⟨y,hy⟩:∃y,l[i-1]?=some y:=⟨_,List.getElem?_eq_getElem (by omega)⟩
  have hx:=List.getElem?_eq_getElem hi
  have kv:=qqa l[i]
  simp only[Place.cells]at kv
  simp[Place.rows,Place.cells,hi]
  refine CallZ.use0 kv rfl rfl ?_
  simp[Place.cells,hy,e1]
  have ho:=qbb qbg qcM hx hy
  have hs:=qc2 y.bell l[i].bell
  iterate 6 refine⟨by grind,?_⟩
  refine⟨fun h =>?_,fun h1 h2=>⟨qaN hI ?_,?_⟩⟩
  ·have:upAt qbg qcM l i=false:=by
    rw[ho,qcM]
    rcases h with h | ⟨h,h'⟩
    ·simp[h]
    ·have h3:(Op.bytesLess l[i].bell y.bell||decide (l[i].bell=y.bell))=true:=by simpa using h'
     rw[hs]at h3
     have h4:¬i=0:=by omega
     simp at h3
     simp[h3,h4]
   simp only[qbL,upOk,qaG hi this,Bool.false_and]
  ·rw[ho,qcM]
   rw[h1,Bool.true_and]
   by_cases h4:i=0
   ·simp[h4]
   ·obtain⟨h5,h6⟩:=h2 (by omega)
    simp[h5,h6]at hs
    simp[hs]
  ·refine Wk.weak (ρ:=[]) (φ:=[]) ?_
   simp
   exact w64 (by omega) (by omega)
 ·simp[Place.rows]
  simp only[qbL,upOk,qaM hI,Bool.true_and]
set_option maxHeartbeats 1000000 in
theorem qqw (l:List Place) (hl:l.length≤1048576):HFn Tryz.prog 112 [.sl 5 (Place.rows l)] [] (.bool (qbL l)) []:=by
 refine qaa hm Tryz.func112 (by kernel_rfl) rfl (by kernel_rfl) rfl qab ?_
 simp[Place.rows]
 refine qac hm l.length (fun i=>⟨[(0, .sl 5 (Place.rows l)),(3, .int .i64 i)],[]⟩) (fun i=>∀j,j<i→upAt qbg qcM l j=true) (by kernel_rfl) ?_ (by simp) (fun i hi hI =>?_) (fun hI =>?_)
 ·exact Wk.weak (ρ:=[]) (φ:=[]) (by simp[Place.rows])
 ·have e1:IntKind.i64.wrap ((i:Int)-1)=i-1:=w64 (by omega) (by omega)
  obtain⟨y,hy⟩:∃y,l[i-1]?=some y:=⟨_,List.getElem?_eq_getElem (by omega)⟩
  have hx:=List.getElem?_eq_getElem hi
  simp[Place.rows,hi]
  refine CallZ.use0 (qqb l[i] _ _ (by simp[hi])) rfl rfl ?_
  simp[Place.cells,hi,hy,e1]
  have ho:=qbb qbg qcM hx hy
  iterate 6 refine⟨by grind,?_⟩
  refine⟨fun h =>?_,fun h1 h2=>⟨qaN hI ?_,?_⟩⟩
  ·have:upAt qbg qcM l i=false:=by
    rw[ho,qcM]
    rcases h with h | ⟨h,h'⟩
    ·simp[h]
    ·have h4:¬i=0:=by omega
     simp[h',h4]
   simp only[qbL,upOk,qaG hi this,Bool.false_and]
  ·rw[ho,qcM,h1,Bool.true_and]
   by_cases h4:i=0
   ·simp[h4]
   ·simp[h2 (by omega)]
  ·refine Wk.weak (ρ:=[]) (φ:=[]) ?_
   simp
   exact w64 (by omega) (by omega)
 ·simp[Place.rows]
  simp only[qbL,upOk,qaM hI,Bool.true_and]
set_option maxHeartbeats 1000000 in
theorem qkt (l:List Bell) (hl:l.length≤1048576) (hw:∀x∈l,x.shares.length≤1048576):HFn Tryz.prog 136 [.sl 5 (Bell.rows l)] [] (.bool (qcd l)) []:=by
 refine qaa hm Tryz.func136 (by kernel_rfl) rfl (by kernel_rfl) rfl qab ?_
 simp[Bell.rows]
 refine qac hm l.length (fun i=>⟨[(0, .sl 5 (Bell.rows l)),(5, .sl 5 (Bell.rows l)),(6, .int .i64 l.length),(7, .int .i64 i)],[]⟩) (fun i=>∀j,j<i→upAt qbt qcL l j=true) (by kernel_rfl) ?_ (by simp) (fun i hi hI =>?_) (fun hI =>?_)
 ·exact Wk.weak (ρ:=[]) (φ:=[]) (by simp[Bell.rows])
 ·have e1:IntKind.i64.wrap ((i:Int)-1)=i-1:=w64 (by omega) (by omega)
  obtain⟨y,hy⟩:∃y,l[i-1]?=some y:=⟨_,List.getElem?_eq_getElem (by omega)⟩
  have hx:=List.getElem?_eq_getElem hi
  have kv:=qqn l[i] (hw _ (List.getElem_mem hi))
  simp only[Bell.cells]at kv
  simp[Bell.rows,Bell.cells,hi]
  refine CallZ.use0 kv rfl rfl ?_
  simp[Bell.cells,hy,e1]
  have ho:=qbb qbt qcL hx hy
  have hs:=qc2 y.id l[i].id
  iterate 6 refine⟨by grind,?_⟩
  refine⟨fun h =>?_,fun h1 h2=>⟨qaN hI ?_,?_⟩⟩
  ·have:upAt qbt qcL l i=false:=by
    rw[ho,qcL]
    rcases h with h | ⟨h,h'⟩
    ·simp[h]
    ·have h3:(Op.bytesLess l[i].id y.id||decide (l[i].id=y.id))=true:=by simpa using h'
     rw[hs]at h3
     have h4:¬i=0:=by omega
     simp at h3
     simp[h3,h4]
   simp only[qcd,upOk,qaG hi this,Bool.false_and]
  ·rw[ho,qcL]
   rw[h1,Bool.true_and]
   by_cases h4:i=0
   ·simp[h4]
   ·obtain⟨h5,h6⟩:=h2 (by omega)
    simp[h5,h6]at hs
    simp[hs]
  ·refine Wk.weak (ρ:=[]) (φ:=[]) ?_
   simp
   exact w64 (by omega) (by omega)
 ·simp[Bell.rows]
  simp only[qcd,upOk,qaM hI,Bool.true_and]
set_option maxHeartbeats 1000000 in
theorem qhw (l:List Bell) (hl:l.length≤1048576) (hw:∀x∈l,x.shares.length≤1048576):HFn Tryz.prog 109 [.sl 5 (Bell.rows l)] [] (.bool (qcd l)) []:=by
 refine qaa hm Tryz.func109 (by kernel_rfl) rfl (by kernel_rfl) rfl qab ?_
 simp[Bell.rows]
 refine qac hm l.length (fun i=>⟨[(0, .sl 5 (Bell.rows l)),(3, .int .i64 i)],[]⟩) (fun i=>∀j,j<i→upAt qbt qcL l j=true) (by kernel_rfl) ?_ (by simp) (fun i hi hI =>?_) (fun hI =>?_)
 ·exact Wk.weak (ρ:=[]) (φ:=[]) (by simp[Bell.rows])
 ·have e1:IntKind.i64.wrap ((i:Int)-1)=i-1:=w64 (by omega) (by omega)
  obtain⟨y,hy⟩:∃y,l[i-1]?=some y:=⟨_,List.getElem?_eq_getElem (by omega)⟩
  have hx:=List.getElem?_eq_getElem hi
  simp[Bell.rows,hi]
  refine CallZ.use0 (qqo l[i] _ _ (by simp[hi]) (hw _ (List.getElem_mem hi))) rfl rfl ?_
  simp[Bell.cells,hi,hy,e1]
  have ho:=qbb qbt qcL hx hy
  iterate 6 refine⟨by grind,?_⟩
  refine⟨fun h =>?_,fun h1 h2=>⟨qaN hI ?_,?_⟩⟩
  ·have:upAt qbt qcL l i=false:=by
    rw[ho,qcL]
    rcases h with h | ⟨h,h'⟩
    ·simp[h]
    ·have h4:¬i=0:=by omega
     simp[h',h4]
   simp only[qcd,upOk,qaG hi this,Bool.false_and]
  ·rw[ho,qcL,h1,Bool.true_and]
   by_cases h4:i=0
   ·simp[h4]
   ·simp[h2 (by omega)]
  ·refine Wk.weak (ρ:=[]) (φ:=[]) ?_
   simp
   exact w64 (by omega) (by omega)
 ·simp[Bell.rows]
  simp only[qcd,upOk,qaM hI,Bool.true_and]
set_option maxHeartbeats 1000000 in
theorem qqx (l:List Beam) (hl:l.length≤1048576) (hw:∀x∈l,x.loads.length≤1048576):HFn Tryz.prog 142 [.sl 6 (Beam.rows l)] [] (.bool (qc8 l)) []:=by
 refine qaa hm Tryz.func142 (by kernel_rfl) rfl (by kernel_rfl) rfl qab ?_
 simp[Beam.rows]
 refine qac hm l.length (fun i=>⟨[(0, .sl 6 (Beam.rows l)),(5, .sl 6 (Beam.rows l)),(6, .int .i64 l.length),(7, .int .i64 i)],[]⟩) (fun i=>∀j,j<i→upAt qbu qcN l j=true) (by kernel_rfl) ?_ (by simp) (fun i hi hI =>?_) (fun hI =>?_)
 ·exact Wk.weak (ρ:=[]) (φ:=[]) (by simp[Beam.rows])
 ·have e1:IntKind.i64.wrap ((i:Int)-1)=i-1:=w64 (by omega) (by omega)
  obtain⟨y,hy⟩:∃y,l[i-1]?=some y:=⟨_,List.getElem?_eq_getElem (by omega)⟩
  have hx:=List.getElem?_eq_getElem hi
  have kv:=qqr l[i] (hw _ (List.getElem_mem hi))
  simp only[Beam.cells]at kv
  simp[Beam.rows,Beam.cells,hi]
  refine CallZ.use0 kv rfl rfl ?_
  simp[Beam.cells,hy,e1]
  have ho:=qbb qbu qcN hx hy
  have hs:=qc2 y.name l[i].name
  iterate 6 refine⟨by grind,?_⟩
  refine⟨fun h =>?_,fun h1 h2=>⟨qaN hI ?_,?_⟩⟩
  ·have:upAt qbu qcN l i=false:=by
    rw[ho,qcN]
    rcases h with h | ⟨h,h'⟩
    ·simp[h]
    ·have h3:(Op.bytesLess l[i].name y.name||decide (l[i].name=y.name))=true:=by simpa using h'
     rw[hs]at h3
     have h4:¬i=0:=by omega
     simp at h3
     simp[h3,h4]
   simp only[qc8,upOk,qaG hi this,Bool.false_and]
  ·rw[ho,qcN]
   rw[h1,Bool.true_and]
   by_cases h4:i=0
   ·simp[h4]
   ·obtain⟨h5,h6⟩:=h2 (by omega)
    simp[h5,h6]at hs
    simp[hs]
  ·refine Wk.weak (ρ:=[]) (φ:=[]) ?_
   simp
   exact w64 (by omega) (by omega)
 ·simp[Beam.rows]
  simp only[qc8,upOk,qaM hI,Bool.true_and]
set_option maxHeartbeats 1000000 in
theorem qqy (l:List Beam) (hl:l.length≤1048576) (hw:∀x∈l,x.loads.length≤1048576):HFn Tryz.prog 115 [.sl 6 (Beam.rows l)] [] (.bool (qc8 l)) []:=by
 refine qaa hm Tryz.func115 (by kernel_rfl) rfl (by kernel_rfl) rfl qab ?_
 simp[Beam.rows]
 refine qac hm l.length (fun i=>⟨[(0, .sl 6 (Beam.rows l)),(3, .int .i64 i)],[]⟩) (fun i=>∀j,j<i→upAt qbu qcN l j=true) (by kernel_rfl) ?_ (by simp) (fun i hi hI =>?_) (fun hI =>?_)
 ·exact Wk.weak (ρ:=[]) (φ:=[]) (by simp[Beam.rows])
 ·have e1:IntKind.i64.wrap ((i:Int)-1)=i-1:=w64 (by omega) (by omega)
  obtain⟨y,hy⟩:∃y,l[i-1]?=some y:=⟨_,List.getElem?_eq_getElem (by omega)⟩
  have hx:=List.getElem?_eq_getElem hi
  simp[Beam.rows,hi]
  refine CallZ.use0 (qqs l[i] _ _ (by simp[hi]) (hw _ (List.getElem_mem hi))) rfl rfl ?_
  simp[Beam.cells,hi,hy,e1]
  have ho:=qbb qbu qcN hx hy
  iterate 6 refine⟨by grind,?_⟩
  refine⟨fun h =>?_,fun h1 h2=>⟨qaN hI ?_,?_⟩⟩
  ·have:upAt qbu qcN l i=false:=by
    rw[ho,qcN]
    rcases h with h | ⟨h,h'⟩
    ·simp[h]
    ·have h4:¬i=0:=by omega
     simp[h',h4]
   simp only[qc8,upOk,qaG hi this,Bool.false_and]
  ·rw[ho,qcN,h1,Bool.true_and]
   by_cases h4:i=0
   ·simp[h4]
   ·simp[h2 (by omega)]
  ·refine Wk.weak (ρ:=[]) (φ:=[]) ?_
   simp
   exact w64 (by omega) (by omega)
 ·simp[Beam.rows]
  simp only[qc8,upOk,qaM hI,Bool.true_and]
end Go.Proofs.YteckngloamnfdaaGreatDoor
namespace Go.Proofs.YteckngloamnfdaaGreatDoor
open Go Go.Ab
set_option maxRecDepth 100000
set_option maxHeartbeats 1000000 in
theorem qku (l:List Action) (hl:l.length≤1048576) (hw:∀x∈l,x.levers.length≤1048576):HFn Tryz.prog 144 [.sl 4 (Action.rows l)] [] (.bool (qcx l)) []:=by
 refine qaa hm Tryz.func144 (by kernel_rfl) rfl (by kernel_rfl) rfl qab ?_
 simp[Action.rows]
 refine qac hm l.length (fun i=>⟨[(0, .sl 4 (Action.rows l)),(5, .sl 4 (Action.rows l)),(6, .int .i64 l.length),(7, .int .i64 i)],[]⟩) (fun i=>∀j,j<i→upAt qbX qcO l j=true) (by kernel_rfl) ?_ (by simp) (fun i hi hI =>?_) (fun hI =>?_)
 ·exact Wk.weak (ρ:=[]) (φ:=[]) (by simp[Action.rows])
 ·have e1:IntKind.i64.wrap ((i:Int)-1)=i-1:=w64 (by omega) (by omega)
  obtain⟨y,hy⟩:∃y,l[i-1]?=some y:=⟨_,List.getElem?_eq_getElem (by omega)⟩
  have hx:=List.getElem?_eq_getElem hi
  have kv:=qqu l[i] (hw _ (List.getElem_mem hi))
  simp only[Action.cells]at kv
  simp[Action.rows,Action.cells,hi]
  refine CallZ.use0 kv rfl rfl ?_
  simp[Action.cells,hy,e1]
  have ho:=qbb qbX qcO hx hy
  repeat refine⟨by grind,?_⟩
  refine⟨fun h =>?_,fun h1 h2=>⟨qaN hI ?_,?_⟩⟩
  ·have:upAt qbX qcO l i=false:=by
    rw[ho,qcO]
    grind
   simp only[qcx,upOk,qaG hi this,Bool.false_and]
  ·rw[ho,qcO]
   grind
  ·refine Wk.weak (ρ:=[]) (φ:=[]) ?_
   simp
   exact w64 (by omega) (by omega)
 ·simp[Action.rows]
  simp only[qcx,upOk,qaM hI,Bool.true_and]
set_option maxHeartbeats 1000000 in
theorem qkv (l:List Action) (hl:l.length≤1048576) (hw:∀x∈l,x.levers.length≤1048576):HFn Tryz.prog 117 [.sl 4 (Action.rows l)] [] (.bool (qcx l)) []:=by
 refine qaa hm Tryz.func117 (by kernel_rfl) rfl (by kernel_rfl) rfl qab ?_
 simp[Action.rows]
 refine qac hm l.length (fun i=>⟨[(0, .sl 4 (Action.rows l)),(3, .int .i64 i)],[]⟩) (fun i=>∀j,j<i→upAt qbX qcO l j=true) (by kernel_rfl) ?_ (by simp) (fun i hi hI =>?_) (fun hI =>?_)
 ·exact Wk.weak (ρ:=[]) (φ:=[]) (by simp[Action.rows])
 ·have e1:IntKind.i64.wrap ((i:Int)-1)=i-1:=w64 (by omega) (by omega)
  obtain⟨y,hy⟩:∃y,l[i-1]?=some y:=⟨_,List.getElem?_eq_getElem (by omega)⟩
  have hx:=List.getElem?_eq_getElem hi
  simp[Action.rows,hi]
  refine CallZ.use0 (qqv l[i] _ _ (by simp[hi]) (hw _ (List.getElem_mem hi))) rfl rfl ?_
  simp[Action.cells,hi,hy,e1]
  have ho:=qbb qbX qcO hx hy
  repeat refine⟨by grind,?_⟩
  refine⟨fun h =>?_,fun h1 h2=>⟨qaN hI ?_,?_⟩⟩
  ·have:upAt qbX qcO l i=false:=by
    rw[ho,qcO]
    grind
   simp only[qcx,upOk,qaG hi this,Bool.false_and]
  ·rw[ho,qcO]
   grind
  ·refine Wk.weak (ρ:=[]) (φ:=[]) ?_
   simp
   exact w64 (by omega) (by omega)
 ·simp[Action.rows]
  simp only[qcx,upOk,qaM hI,Bool.true_and]
set_option maxHeartbeats 1000000 in
theorem qqz (l:List (List UInt8)) (hl:l.length≤1048576):HFn Tryz.prog 283 [.sl 1 (qae l)] [] (.bool (qeL l)) []:=by
 refine qaa hm Tryz.func283 (by kernel_rfl) rfl (by kernel_rfl) rfl qab ?_
 simp[qaF]
 refine qac hm l.length (fun i=>⟨[(0, .sl 1 (qae l)),(5, .sl 1 (qae l)),(6, .int .i64 l.length),(7, .int .i64 i)],[]⟩) (fun i=>∀j,j<i→upAt qaB Op.bytesLess l j=true) (by kernel_rfl) ?_ (by simp) (fun i hi hI =>?_) (fun hI =>?_)
 ·exact Wk.weak (ρ:=[]) (φ:=[]) (by simp)
 ·have e1:IntKind.i64.wrap ((i:Int)-1)=i-1:=w64 (by omega) (by omega)
  obtain⟨y,hy⟩:∃y,l[i-1]?=some y:=⟨_,List.getElem?_eq_getElem (by omega)⟩
  have hx:=List.getElem?_eq_getElem hi
  have ho:=qbb qaB Op.bytesLess hx hy
  have hs:=qc2 y l[i]
  simp[qae,hi]
  refine CallZ.use0 (qa9 _) rfl rfl ?_
  simp[hy,e1]
  repeat refine⟨by grind,?_⟩
  refine⟨fun h =>?_,fun h1 h2=>⟨qaN hI ?_,?_⟩⟩
  ·have:upAt qaB Op.bytesLess l i=false:=by
    rw[ho]
    grind
   simp only[qeL,upOk,qaG hi this]
  ·rw[ho]
   grind
  ·refine Wk.weak (ρ:=[]) (φ:=[]) ?_
   simp
   exact w64 (by omega) (by omega)
 ·simp[qaF]
  simp only[qeL,upOk,qaM hI]
set_option maxHeartbeats 1000000 in
theorem qqA (x:Melt) (hl:x.ingots.length≤1048576):HFn Tryz.prog 219 [.agg x.cells] [] (.bool (qbv x)) []:=by
 refine qaa hm Tryz.func219 (by kernel_rfl) rfl (by kernel_rfl) rfl qab ?_
 simp[Melt.cells]
 refine CallZ.use0 (qa9 _) rfl rfl ?_
 simp[qaF]
 repeat refine⟨by grind,?_⟩
 refine CallY.use (fun _=>⟨rfl,qqz x.ingots hl⟩) rfl rfl ?_
 simp
 repeat refine⟨by grind,?_⟩
 refine CallY.use (fun _=>⟨rfl,qai _ _ _⟩) rfl rfl ?_
 simp
 repeat refine⟨by grind,?_⟩
 simp[qbv]
set_option maxHeartbeats 1000000 in
theorem qqB (x:Melt) (rows:List (List PV)) (i0:Nat) (hr:rows[i0]?=some x.cells) (hl:x.ingots.length≤1048576):HFn Tryz.prog 185 [.pe 3 rows i0 0] [] (.bool (qbv x)) []:=by
 have hi0:i0<rows.length:=(List.getElem?_eq_some_iff.1 hr).1
 have hx0:rows[i0]=x.cells:=(List.getElem?_eq_some_iff.1 hr).2
 rw[Melt.cells]at hr hx0
 refine qaa hm Tryz.func185 (by kernel_rfl) rfl (by kernel_rfl) rfl qab ?_
 simp[hi0,hx0]
 refine CallZ.use0 (qba _) rfl rfl ?_
 simp[hi0,hx0,qaF]
 repeat refine⟨by grind,?_⟩
 refine CallY.use (fun _=>⟨rfl,qaj _ _ _⟩) rfl rfl ?_
 simp
 repeat refine⟨by grind,?_⟩
 refine⟨fun h =>?_,?_⟩
 ·rw[qbv]
  grind
 intros
 refine qac hm x.ingots.length (fun i=>⟨[(0, .pe 3 rows i0 0),(3, .int .i64 i)],[]⟩) (fun i=>∀j,j<i→upAt qaB Op.bytesLess x.ingots j=true) (by kernel_rfl) ?_ (by simp) (fun i hi hI =>?_) (fun hI =>?_)
 ·exact Wk.weak (ρ:=[]) (φ:=[]) (by simp)
 ·have e1:IntKind.i64.wrap ((i:Int)-1)=i-1:=w64 (by omega) (by omega)
  obtain⟨y,hy⟩:∃y,x.ingots[i-1]?=some y:=⟨_,List.getElem?_eq_getElem (by omega)⟩
  have hx:=List.getElem?_eq_getElem hi
  have ho:=qbb qaB Op.bytesLess hx hy
  simp[hi0,hx0,qae,hi]
  refine CallZ.use0 (qba _) rfl rfl ?_
  simp[hi0,hx0,qae,hi,hy,e1]
  repeat refine⟨by grind,?_⟩
  refine⟨fun h =>?_,fun h1 h2=>⟨qaN hI ?_,?_⟩⟩
  ·have:upAt qaB Op.bytesLess x.ingots i=false:=by
    rw[ho]
    grind
   simp[qbv,qeL,upOk,qaG hi this]
  ·rw[ho]
   grind
  ·refine Wk.weak (ρ:=[]) (φ:=[]) ?_
   simp
   exact w64 (by omega) (by omega)
 ·simp[hi0,hx0,qaF]
  simp only[qbv,qeL,upOk,qaM hI]
  grind
def hasIn (l:List (List UInt8)) (s:List UInt8):Bool:=l.any fun x=>decide (s=x)
def qbM (a b:Melt):Bool:=a.ingots.any (hasIn b.ingots)
theorem qkw (a b:Melt):qbM a b=qbM b a:=by
 rw[Bool.eq_iff_iff]
 simp only[qbM,hasIn,List.any_eq_true,decide_eq_true_eq]
 exact⟨fun ⟨x,h1,y,h2,e⟩=>⟨y,h2,x,h1,e.symm⟩,fun ⟨x,h1,y,h2,e⟩=>⟨y,h2,x,h1,e.symm⟩⟩
theorem qqC (b:Melt) (rows:List (List PV)) (i0:Nat) (hr:rows[i0]?=some b.cells) (hl:b.ingots.length≤1048576) (s:List UInt8):HFn Tryz.prog 286 [.str s, .pe 3 rows i0 0] [] (.bool (hasIn b.ingots s)) []:=by
 have hi0:i0<rows.length:=(List.getElem?_eq_some_iff.1 hr).1
 have hx0:rows[i0]=b.cells:=(List.getElem?_eq_some_iff.1 hr).2
 rw[Melt.cells]at hr hx0
 refine qaa hm Tryz.func286 (by kernel_rfl) rfl (by kernel_rfl) rfl qab ?_
 simp[hi0,hx0]
 refine CallZ.use0 (qqm b.ingots s (by omega)) rfl rfl ?_
 simp[hasIn]
theorem qqD (a b:Melt) (ha:a.ingots.length≤1048576) (hb:b.ingots.length≤1048576):HFn Tryz.prog 222 [.agg a.cells, .agg b.cells] [] (.bool (qbM a b)) []:=by
 refine qaa hm Tryz.func222 (by kernel_rfl) rfl (by kernel_rfl) rfl qab ?_
 have k:=qqk 286 3 [b.cells] 0 0 (hasIn b.ingots) a.ingots (fun x _=>qqC b [b.cells] 0 rfl hb x) (by omega)
 simp only[Melt.cells]at k
 simp[Melt.cells]
 refine CallZ.use0 k rfl rfl ?_
 simp[qbM]
theorem qqE (x y:Melt) (rows:List (List PV)) (i0:Nat) (hr:rows[i0]?=some x.cells) (hx:x.ingots.length≤1048576) (hy:y.ingots.length≤1048576):HFn Tryz.prog 221 [.agg y.cells, .pe 3 rows i0 0] [] (.bool (qbM x y)) []:=by
 have hi0:i0<rows.length:=(List.getElem?_eq_some_iff.1 hr).1
 have hx0:rows[i0]=x.cells:=(List.getElem?_eq_some_iff.1 hr).2
 have k:=qqD x y hx hy
 rw[Melt.cells]at hr hx0
 simp only[Melt.cells]at k
 refine qaa hm Tryz.func221 (by kernel_rfl) rfl (by kernel_rfl) rfl qab ?_
 simp[hi0,hx0,Melt.cells]
 refine CallZ.use0 k rfl rfl ?_
 simp
def qbY (l:List Melt) (i:Nat):Bool:=upAt qbv qc7 l i&&match l[i]? with
 | some x => !(l.take i).any (qbM x)
 | none=>true
def qbc (l:List Melt):Bool:=(List.range l.length).all (qbY l)&&decide ((l.length:Int)≤12)
set_option maxHeartbeats 1000000 in
theorem qhx (l:List Melt) (hl:l.length≤1048576) (hw:∀x∈l,x.ingots.length≤1048576):HFn Tryz.prog 135 [.sl 3 (Melt.rows l)] [] (.bool (qbc l)) []:=by
 refine qaa hm Tryz.func135 (by kernel_rfl) rfl (by kernel_rfl) rfl qab ?_
 simp[Melt.rows_len]
 refine qac hm l.length (fun i=>⟨[(0, .sl 3 (Melt.rows l)),(5, .sl 3 (Melt.rows l)),(6, .int .i64 l.length),(7, .int .i64 i)],[]⟩) (fun i=>∀j,j<i→qbY l j=true) (by kernel_rfl) ?_ (by simp) (fun i hi hI =>?_) (fun hI =>?_)
 ·exact Wk.weak (ρ:=[]) (φ:=[]) (by simp)
 ·have e1:IntKind.i64.wrap ((i:Int)-1)=i-1:=w64 (by omega) (by omega)
  obtain⟨y,hy⟩:∃y,l[i-1]?=some y:=⟨_,List.getElem?_eq_getElem (by omega)⟩
  have hx:=List.getElem?_eq_getElem hi
  have kv:=qqA l[i] (hw _ (List.getElem_mem hi))
  have kc:=qgc 221 3 [l[i].cells] 0 0 (qbM l[i]) (l.take i) (fun z hz=>qqE l[i] z [l[i].cells] 0 rfl (hw _ (List.getElem_mem hi)) (hw _ (List.mem_of_mem_take hz))) (by rw[List.length_take]; omega)
  simp only[Melt.cells]at kv kc
  simp[Melt.rows,Melt.cells,hi]
  refine CallZ.use0 kv rfl rfl ?_
  simp[Melt.cells,hy,e1]
  have ho:=qbb qbv qc7 hx hy
  have hs:=qc2 y.id l[i].id
  repeat refine⟨by grind,?_⟩
  refine⟨fun h =>?_,fun h1 h2 =>?_⟩
  ·have:qbY l i=false:=by
    rw[qbY,ho,qc7]
    grind
   simp only[qbc,qaG hi this,Bool.false_and]
  ·have hup:upAt qbv qc7 l i=true:=by
    rw[ho,qc7]
    grind
   have er:Melt.rows (l.take i)=(List.map Melt.cells l).take i:=by simp[Melt.rows,List.map_take]
   rw[er]at kc
   refine⟨by omega,CallZ.use0 kc rfl rfl ?_⟩
   simp only[put]
   simp
   refine⟨fun a h1 h2 =>?_,fun h=>⟨qaN hI ?_,?_⟩⟩
   ·have:qbY l i=false:=by
     have h3:(l.take i).any (qbM l[i])=true:=List.any_eq_true.2 ⟨a,h1,h2⟩
     simp[qbY,hx,h3]
    simp only[qbc,qaG hi this,Bool.false_and]
   ·have h3:(l.take i).any (qbM l[i])=false:=by
     rw[List.any_eq_false]
     exact fun a ha=>by simp[h a ha]
    simp[qbY,hup,hx,h3]
   ·refine Wk.weak (ρ:=[]) (φ:=[]) ?_
    simp
    exact w64 (by omega) (by omega)
 ·simp[Melt.rows_len]
  simp only[qbc,qaM hI,Bool.true_and]
theorem qqF (a b:Melt) (ra rb:List (List PV)) (i0 j0:Nat) (h1:ra[i0]?=some a.cells) (h2:rb[j0]?=some b.cells) (ha:a.ingots.length≤1048576) (hb:b.ingots.length≤1048576):HFn Tryz.prog 186 [.pe 3 ra i0 0, .pe 3 rb j0 0] [] (.bool (qbM a b)) []:=by
 have hia:i0<ra.length:=(List.getElem?_eq_some_iff.1 h1).1
 have hjb:j0<rb.length:=(List.getElem?_eq_some_iff.1 h2).1
 have ga:ra[i0]=a.cells:=(List.getElem?_eq_some_iff.1 h1).2
 have gb:rb[j0]=b.cells:=(List.getElem?_eq_some_iff.1 h2).2
 rw[Melt.cells]at h1 h2 ga gb
 refine qaa hm Tryz.func186 (by kernel_rfl) rfl (by kernel_rfl) rfl qab ?_
 simp
 refine qac hm a.ingots.length (fun i=>⟨[(0, .pe 3 ra i0 0),(1, .pe 3 rb j0 0),(5, .int .i64 i)],[]⟩) (fun i=>∀j (h:j<a.ingots.length),j<i→hasIn b.ingots a.ingots[j]=false) (by kernel_rfl) ?_ (by simp) (fun i hi hI =>?_) (fun hI =>?_)
 ·exact Wk.weak (ρ:=[]) (φ:=[]) (by simp)
 ·simp[hia,ga,qaF,hi]
  refine qac hm b.ingots.length (fun k=>⟨[(0, .pe 3 ra i0 0),(1, .pe 3 rb j0 0),(5, .int .i64 i),(6, .int .i64 k)],[]⟩) (fun k=>∀j (h:j<b.ingots.length),j<k→¬a.ingots[i]=b.ingots[j]) (by kernel_rfl) ?_ (by simp) (fun k hk hK =>?_) (fun hK =>?_)
  ·exact Wk.weak (ρ:=[]) (φ:=[]) (by simp)
  ·simp[hia,hjb,ga,gb,qaF,qdk,hi,hk]
   refine⟨fun h =>?_,fun h=>⟨fun j hj hjk =>?_,?_⟩⟩
   ·refine List.any_eq_true.2 ⟨_,List.getElem_mem hi,List.any_eq_true.2 ⟨_,List.getElem_mem hk,by simpa using h⟩⟩
   ·by_cases e:j=k
    ·subst e; exact h
    ·exact hK j hj (by omega)
   ·refine Wk.weak (ρ:=[]) (φ:=[]) ?_
    simp
    exact w64 (by omega) (by omega)
  ·simp[hjb,gb,qaF]
   refine⟨fun j hj hji =>?_,?_⟩
   ·by_cases e:j=i
    ·subst e
     rw[hasIn,List.any_eq_false]
     intro y hy
     obtain⟨m,hm',rfl⟩:=List.getElem_of_mem hy
     simpa using hK m hm' hm'
    ·exact hI j hj (by omega)
   ·refine Wk.weak (ρ:=[]) (φ:=[]) ?_
    simp
    exact w64 (by omega) (by omega)
 ·simp[hia,ga,qaF]
  rw[qbM,List.any_eq_false]
  intro y hy
  obtain⟨m,hm',rfl⟩:=List.getElem_of_mem hy
  simp[hI m hm' hm']
set_option maxHeartbeats 1000000 in
theorem qfg (l:List Melt) (hl:l.length≤1048576) (hw:∀x∈l,x.ingots.length≤1048576):HFn Tryz.prog 108 [.sl 3 (Melt.rows l)] [] (.bool (qbc l)) []:=by
 refine qaa hm Tryz.func108 (by kernel_rfl) rfl (by kernel_rfl) rfl qab ?_
 simp
 refine qac hm l.length (fun i=>⟨[(0, .sl 3 (Melt.rows l)),(3, .int .i64 i)],[]⟩) (fun i=>∀j,j<i→qbY l j=true) (by kernel_rfl) ?_ (by simp) (fun i hi hI =>?_) (fun hI =>?_)
 ·exact Wk.weak (ρ:=[]) (φ:=[]) (by simp)
 ·have e1:IntKind.i64.wrap ((i:Int)-1)=i-1:=w64 (by omega) (by omega)
  obtain⟨y,hy⟩:∃y,l[i-1]?=some y:=⟨_,List.getElem?_eq_getElem (by omega)⟩
  have hx:=List.getElem?_eq_getElem hi
  have ho:=qbb qbv qc7 hx hy
  simp[Melt.rows,hi]
  refine CallZ.use0 (qqB l[i] _ _ (by simp[hi]) (hw _ (List.getElem_mem hi))) rfl rfl ?_
  simp[Melt.cells,hi,hy,e1]
  repeat refine⟨by grind,?_⟩
  refine⟨fun h =>?_,fun h1 h2 =>?_⟩
  ·have:qbY l i=false:=by
    rw[qbY,ho,qc7]
    grind
   simp only[qbc,qaG hi this,Bool.false_and]
  ·have hup:upAt qbv qc7 l i=true:=by
    rw[ho,qc7]
    grind
   refine qac hm i (fun k=>⟨[(0, .sl 3 (Melt.rows l)),(3, .int .i64 i),(4, .int .i64 k)],[]⟩) (fun k=>∀j (h:j<l.length),j<k→qbM l[j] l[i]=false) (by kernel_rfl) ?_ (by simp) (fun k hk hK =>?_) (fun hK =>?_)
   ·exact Wk.weak (ρ:=[]) (φ:=[]) (by simp[Melt.rows])
   ·have hkl:k<l.length:=by omega
    simp[Melt.rows_len,hi,hkl,hk]
    refine CallZ.use0 (qqF l[k] l[i] (Melt.rows l) (Melt.rows l) k i (by simp[Melt.rows,hkl]) (by simp[Melt.rows,hi]) (hw _ (List.getElem_mem hkl)) (hw _ (List.getElem_mem hi))) rfl rfl ?_
    simp
    refine⟨fun h =>?_,fun h=>⟨fun j hj hjk =>?_,?_⟩⟩
    ·have:qbY l i=false:=by
      have h3:(l.take i).any (qbM l[i])=true:=List.any_eq_true.2 ⟨l[k],List.mem_take_iff_getElem.2 ⟨k,by omega,rfl⟩,by rw[qkw]; exact h⟩
      simp[qbY,hx,h3]
     simp only[qbc,qaG hi this,Bool.false_and]
    ·by_cases e:j=k
     ·subst e; exact h
     ·exact hK j hj (by omega)
    ·refine Wk.weak (ρ:=[]) (φ:=[]) ?_
     simp
     exact w64 (by omega) (by omega)
   ·simp[Melt.rows_len]
    refine⟨qaN hI ?_,?_⟩
    ·have h3:(l.take i).any (qbM l[i])=false:=by
      rw[List.any_eq_false]
      intro a ha
      obtain⟨k,hk,rfl⟩:=List.mem_take_iff_getElem.1 ha
      rw[qkw,hK k (by omega) (by omega)]
      simp
     simp[qbY,hup,hx,h3]
    ·refine Wk.weak (ρ:=[]) (φ:=[]) ?_
     simp[Melt.rows]
     exact w64 (by omega) (by omega)
 ·simp[Melt.rows_len]
  simp only[qbc,qaM hI,Bool.true_and]
end Go.Proofs.YteckngloamnfdaaGreatDoor
