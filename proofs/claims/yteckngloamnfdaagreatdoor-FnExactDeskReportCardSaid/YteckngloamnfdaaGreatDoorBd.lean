/- Contracts: melts that are possible, bells whose metal is traced. No condition. -/
import Derived.Test.YteckngloamnfdaaGreatDoorFn
import Derived.Test.YteckngloamnfdaaGreatDoorHg
namespace Go.Proofs.YteckngloamnfdaaGreatDoor
open Go Go.Ab
set_option maxRecDepth 100000
def qbn {α:Type} (id:α→List UInt8) (l:List α):Prop:=∀i j (hi:i<l.length) (hj:j<l.length),i<j→id l[i]<id l[j]
theorem qgt {α:Type} {id:α→List UInt8} {l:List α} (h:qbn id l) (s:List UInt8):qge l fun x=>cmpS (id x) s:=fun i j hi hj hij hle=>by
 have h1:=h i j hi hj hij
 simp only at hle ⊢
 rw[qeM,qcG]
 by_cases e:id l[j]=s
 ·rw[e]at h1; simpa using h1
 ·have h2:cmpS (id l[j]) s<0:=by
   have:=mt qfh.1 e
   omega
  rw[qeM,qcG]at h2
  simpa using List.lt_trans h1 (by simpa using h2)
theorem qr0 {α:Type} {id:α→List UInt8} {l:List α} (step:∀k (hk:k+1<l.length),id l[k]<id l[k+1]):qbn id l:=by
 intro i j hi hj hij
 induction j with
 | zero=>omega
 | succ j ih =>
  by_cases e:i=j
  ·subst e; exact step i hj
  ·exact List.lt_trans (ih (by omega) (by omega)) (step j hj)
theorem qk9 {α:Type} {ok:α→Bool} {lt:α→α→Bool} {id:α→List UInt8} (hlt:∀a b,lt a b=Op.bytesLess (id a) (id b)) {l:List α} (h:upOk ok lt l=true):qbn id l :=
 qr0 fun k hk=>by
  have:=qp4 h hk (by omega)
  rw[hlt,qcG]at this
  simpa using this
theorem qr1 {l:List Ingot} (h:qbw l=true):qbn Ingot.id l:=by
 simp only[qbw,Bool.and_eq_true]at h
 exact qk9 (fun _ _=>rfl) h.1
theorem qla {l:List Melt} (h:qbc l=true):upOk qbv qc7 l=true:=by
 simp only[qbc,Bool.and_eq_true,List.all_eq_true,qbY]at h
 simp only[upOk,List.all_eq_true]
 exact fun i hi=>(h.1 i hi).1
theorem qr2 {l:List Melt} (h:qbc l=true):qbn Melt.id l:=qk9 (fun _ _=>rfl) (qla h)
def ixOf {α:Type} (id:α→List UInt8) (l:List α) (s:List UInt8):Int:=findI (fun x=>decide (id x=s)) l
def hasId {α:Type} (id:α→List UInt8) (l:List α) (s:List UInt8):Bool:=l.any fun x=>decide (id x=s)
theorem qlb {α:Type} (id:α→List UInt8) (l:List α) (s:List UInt8):findG l (fun x=>cmpS (id x) s)=ixOf id l s:=by
 unfold findG ixOf
 congr 1
 funext x
 simp[qfh]
theorem qlc {α:Type} (id:α→List UInt8) (l:List α) (s:List UInt8):decide (0≤ixOf id l s)=hasId id l s:=qdi
theorem qhJ {α:Type} {id:α→List UInt8} {l:List α} (h:qbn id l) (s:List UInt8):qdM l (fun x=>cmpS (id x) s)=hasId id l s:=by
 have h1:=qhz (qgt h s)
 rw[qlb]at h1
 rw[←qlc,h1]
 cases qdM l (fun x=>cmpS (id x) s)<;>simp
theorem qld {α:Type} {id:α→List UInt8} {l:List α} (h:qbn id l) {s:List UInt8} (hh:hasId id l s=true):((cutG l fun x=>cmpS (id x) s:Nat):Int)=ixOf id l s:=by
 have h1:=qhz (qgt h s)
 rw[qlb,qhJ h,hh,if_pos rfl]at h1
 exact h1.symm
theorem qhK {α:Type} {id:α→List UInt8} {l:List α} {s:List UInt8} (hh:hasId id l s=true):∃i:Nat,ixOf id l s=i∧∃hi:i<l.length,id l[i]=s:=by
 unfold ixOf findI
 cases e:l.findIdx? (fun x=>decide (id x=s)) with
 | none =>
  exfalso
  obtain⟨x,h1,h2⟩:=List.any_eq_true.1 hh
  have:=List.findIdx?_eq_none_iff.1 e x h1
  simp[this]at h2
 | some i =>
  obtain⟨h1,h2,_⟩:=List.findIdx?_eq_some_iff_getElem.1 e
  exact⟨i,rfl,h1,by simpa using h2⟩
theorem qr3 {α:Type} {id:α→List UInt8} {l:List α} (h:qbn id l) {i j:Nat} (hi:i<l.length) (hj:j<l.length) (e:id l[i]=id l[j]):i=j:=by
 rcases Nat.lt_trichotomy i j with h1 | h1 | h1
 ·have:=h i j hi hj h1
  rw[e]at this
  exact absurd this (List.lt_irrefl _)
 ·exact h1
 ·have:=h j i hj hi h1
  rw[e]at this
  exact absurd this (List.lt_irrefl _)
theorem qle (x:Ingot) (s:List UInt8):HFn Tryz.prog 399 [.agg x.cells, .str s] [] (.int .i64 (cmpS x.id s)) []:=by
 refine qaa hm Tryz.func399 (by kernel_rfl) rfl (by kernel_rfl) rfl qab ?_
 simp[Ingot.cells]
 refine CallZ.use0 (qkz _ _) rfl rfl ?_
 simp
theorem qlf (x:Melt) (s:List UInt8):HFn Tryz.prog 380 [.agg x.cells, .str s] [] (.int .i64 (cmpS x.id s)) []:=by
 refine qaa hm Tryz.func380 (by kernel_rfl) rfl (by kernel_rfl) rfl qab ?_
 simp[Melt.cells]
 refine CallZ.use0 (qkz _ _) rfl rfl ?_
 simp
theorem qr4 (l:List Ingot) (s:List UInt8) (c:Nat→Int) (p:Nat) (hl:l.length≤1048576) (hp:Cut l.length c p) (hc:∀i (h:i<l.length),c i=cmpS l[i].id s) :
  HFn Tryz.prog 398 [.sl 5 (Ingot.rows l), .str s, .fn 399 []] [] (.tup [.int .i64 p, .bool (decide (p<l.length)&&decide (c p=0))]) []:=by
 refine qaa hm Tryz.func398 (by kernel_rfl) rfl (by kernel_rfl) rfl qab ?_
 simp
 refine qeB hm (ι:={x:Nat×Nat // x.1≤p∧p≤x.2∧x.2≤l.length}) (fun x=>⟨[(0, .sl 5 (Ingot.rows l)),(1, .str s),(2, .fn 399 []),(8, .int .i64 l.length),(9, .int .i64 x.1.1),(10, .int .i64 x.1.2)],[]⟩) (fun x=>x.1.2-x.1.1) (by kernel_rfl) ⟨(0,l.length),by have:=hp.le; omega⟩ ?_ ?_
 ·refine Wk.weak (ρ:=[]) (φ:=[]) ?_
  simp[Ingot.rows]
 ·rintro ⟨⟨i,j⟩,h1,h2,h3⟩
  simp only at h1 h2 h3 ⊢
  by_cases hij:i<j
  ·obtain⟨k,hk⟩:∃k,k=(i+j)/2:=⟨_,rfl⟩
   have hmid:=qhy i j (by omega)
   rw[←hk]at hmid
   have hm1:k<l.length:=by omega
   have hw1:IntKind.i64.wrap ((k:Int)+1)=((k+1:Nat):Int):=by rw[w64 (by omega) (by omega)]; omega
   have kc:=qle l[k] s
   simp only[Ingot.cells]at kc
   simp[hmid,hij,Ingot.rows,Ingot.cells,hm1]
   refine CallZ.use0 kc rfl rfl ?_
   have c1:=hp.lo k
   have c2:=hp.hi k
   rw[hc k hm1]at c1 c2
   simp
   refine⟨fun h =>?_,fun h =>?_⟩
   ·refine⟨k+1,j,Wk.weak (ρ:=[]) (φ:=[]) ?_,by omega,by omega⟩
    simp[hw1]
   ·refine⟨i,k,Wk.weak (ρ:=[]) (φ:=[]) ?_,by omega,by omega⟩
    simp
  ·obtain rfl:i=p:=by omega
   obtain rfl:i=j:=by omega
   simp
   by_cases hip:i<l.length
   ·have kc:=qle l[i] s
    simp only[Ingot.cells]at kc
    simp[Ingot.rows,Ingot.cells,hip]
    refine CallY.use (res := .int .i64 (cmpS l[i].id s)) (fun _=>⟨rfl,kc⟩) rfl rfl ?_
    simp[hc i hip]
   ·simp[Ingot.rows,hip]
    refine CallY.use (res := .int .i64 0) (fun h=>absurd h (by simp)) rfl rfl ?_
    simp
theorem qr5 (l:List Melt) (s:List UInt8) (c:Nat→Int) (p:Nat) (hl:l.length≤1048576) (hp:Cut l.length c p) (hc:∀i (h:i<l.length),c i=cmpS l[i].id s) :
  HFn Tryz.prog 379 [.sl 3 (Melt.rows l), .str s, .fn 380 []] [] (.tup [.int .i64 p, .bool (decide (p<l.length)&&decide (c p=0))]) []:=by
 refine qaa hm Tryz.func379 (by kernel_rfl) rfl (by kernel_rfl) rfl qab ?_
 simp
 refine qeB hm (ι:={x:Nat×Nat // x.1≤p∧p≤x.2∧x.2≤l.length}) (fun x=>⟨[(0, .sl 3 (Melt.rows l)),(1, .str s),(2, .fn 380 []),(8, .int .i64 l.length),(9, .int .i64 x.1.1),(10, .int .i64 x.1.2)],[]⟩) (fun x=>x.1.2-x.1.1) (by kernel_rfl) ⟨(0,l.length),by have:=hp.le; omega⟩ ?_ ?_
 ·refine Wk.weak (ρ:=[]) (φ:=[]) ?_
  simp[Melt.rows]
 ·rintro ⟨⟨i,j⟩,h1,h2,h3⟩
  simp only at h1 h2 h3 ⊢
  by_cases hij:i<j
  ·obtain⟨k,hk⟩:∃k,k=(i+j)/2:=⟨_,rfl⟩
   have hmid:=qhy i j (by omega)
   rw[←hk]at hmid
   have hm1:k<l.length:=by omega
   have hw1:IntKind.i64.wrap ((k:Int)+1)=((k+1:Nat):Int):=by rw[w64 (by omega) (by omega)]; omega
   have kc:=qlf l[k] s
   simp only[Melt.cells]at kc
   simp[hmid,hij,Melt.rows,Melt.cells,hm1]
   refine CallZ.use0 kc rfl rfl ?_
   have c1:=hp.lo k
   have c2:=hp.hi k
   rw[hc k hm1]at c1 c2
   simp
   refine⟨fun h =>?_,fun h =>?_⟩
   ·refine⟨k+1,j,Wk.weak (ρ:=[]) (φ:=[]) ?_,by omega,by omega⟩
    simp[hw1]
   ·refine⟨i,k,Wk.weak (ρ:=[]) (φ:=[]) ?_,by omega,by omega⟩
    simp
  ·obtain rfl:i=p:=by omega
   obtain rfl:i=j:=by omega
   simp
   by_cases hip:i<l.length
   ·have kc:=qlf l[i] s
    simp only[Melt.cells]at kc
    simp[Melt.rows,Melt.cells,hip]
    refine CallY.use (res := .int .i64 (cmpS l[i].id s)) (fun _=>⟨rfl,kc⟩) rfl rfl ?_
    simp[hc i hip]
   ·simp[Melt.rows,hip]
    refine CallY.use (res := .int .i64 0) (fun h=>absurd h (by simp)) rfl rfl ?_
    simp
theorem qr6 (l:List Ingot) (s:List UInt8) (hl:l.length≤1048576) (h:qbn Ingot.id l) :
  HFn Tryz.prog 394 [.sl 5 (Ingot.rows l), .str s] [] (.tup [.int .i64 (cutG l fun x=>cmpS x.id s:Nat), .bool (hasId Ingot.id l s)]) []:=by
 have k:=qr4 l s (cAt l fun x=>cmpS x.id s) (cutG l fun x=>cmpS x.id s) hl (qeN (qgt h s)) (fun i hi=>qce hi)
 rw[←qeO,qhJ h]at k
 refine qaa hm Tryz.func394 (by kernel_rfl) rfl (by kernel_rfl) rfl qab ?_
 simp
 refine CallZ.use0 k rfl rfl ?_
 simp
theorem qlg (l:List Melt) (s:List UInt8) (hl:l.length≤1048576) (h:qbn Melt.id l) :
  HFn Tryz.prog 349 [.sl 3 (Melt.rows l), .str s] [] (.tup [.int .i64 (cutG l fun x=>cmpS x.id s:Nat), .bool (hasId Melt.id l s)]) []:=by
 have k:=qr5 l s (cAt l fun x=>cmpS x.id s) (cutG l fun x=>cmpS x.id s) hl (qeN (qgt h s)) (fun i hi=>qce hi)
 rw[←qeO,qhJ h]at k
 refine qaa hm Tryz.func349 (by kernel_rfl) rfl (by kernel_rfl) rfl qab ?_
 simp
 refine CallZ.use0 k rfl rfl ?_
 simp
def qbO (l:List Ingot) (ns:List (List UInt8)):Bool:=ns.all (hasId Ingot.id l)
def ixN (l:List Ingot) (ns:List (List UInt8)):List Int:=ns.map (ixOf Ingot.id l)
def choN (l:List Ingot) (ns:List (List UInt8)):List Int:=if qbO l ns=true then ixN l ns else []
def qds (l:List Ingot) (k:Int):Int:=match l[k.toNat]? with
 | some x=>x.mass
 | none=>0
def sumA (l:List Ingot) (ks:List Int) (i:Nat):Int:=(ks.take i).foldl (fun s k=>IntKind.i64.wrap (s+qds l k)) 0
theorem qhL (l:List Ingot) (ks:List Int) {i:Nat} (hi:i<ks.length):sumA l ks (i+1)=IntKind.i64.wrap (sumA l ks i+qds l ks[i]):=by
 unfold sumA
 rw[←List.take_append_getElem hi,List.foldl_append]
 rfl
def qbe (l:List Ingot) (ns:List (List UInt8)):Int:=sumA l (choN l ns) (choN l ns).length
theorem qlh {l:List Ingot} {ns:List (List UInt8)} {k:Int} (h:k∈choN l ns):0≤k∧k<l.length:=by
 unfold choN at h
 split at h
 ·rename_i hk
  obtain⟨s,hs,rfl⟩:=List.mem_map.1 h
  obtain⟨i,e,hi,_⟩:=qhK (List.all_eq_true.1 hk s hs)
  rw[e]
  omega
 ·cases h
theorem qhM (l:List Ingot) (ns:List (List UInt8)):(choN l ns).length≤ns.length:=by
 unfold choN
 split
 ·simp[ixN]
 ·simp
theorem qr7 {l:List Ingot} (hl:∀x∈l,0≤x.mass∧x.mass≤20000000) (ks:List Int) (hk:ks.length≤16) (i:Nat) (hi:i≤ks.length):0≤sumA l ks i∧sumA l ks i≤20000000*i:=by
 induction i with
 | zero=>simp[sumA]
 | succ i ih =>
  have h1:=ih (by omega)
  rw[qhL l ks (by omega)]
  have h2:0≤qds l ks[i]∧qds l ks[i]≤20000000:=by
   unfold qds
   split
   ·rename_i x e
    exact hl x (List.mem_of_getElem? e)
   ·omega
  rw[w64 (by omega) (by omega)]
  omega
theorem qli {l:List Ingot} (hl:∀x∈l,0≤x.mass∧x.mass≤20000000) {ns:List (List UInt8)} (hn:ns.length≤16):0≤qbe l ns∧qbe l ns≤320000000:=by
 have h1:=qhM l ns
 have:=qr7 hl (choN l ns) (by omega) _ (Nat.le_refl _)
 unfold qbe
 omega
def mostN (l:List Ingot) (ns:List (List UInt8)):Int:=qbe l ns-nearV (qbe l ns*20000) 1000000
theorem qlj (l:List Ingot) (ns:List (List UInt8)) {i:Nat} (hi:i<ns.length):(ixN l ns).take (i+1)=(ixN l ns).take i++[ixOf Ingot.id l ns[i]]:=by
 rw[←List.take_append_getElem (show i<(ixN l ns).length by simpa[ixN]using hi)]
 simp[ixN]
theorem qgu (l:List Ingot) (ns:List (List UInt8)):(ixN l ns).length=ns.length:=by simp[ixN]
theorem qlk {l:List Ingot} {ns:List (List UInt8)} {i:Nat} (hi:i<ns.length) (h:hasId Ingot.id l ns[i]=false):qbO l ns=false:=by
 rw[qbO,List.all_eq_false]
 exact⟨_,List.getElem_mem hi,by simp[h]⟩
theorem qll {l:List Ingot} {ns:List (List UInt8)} (h:∀j (hj:j<ns.length),j<ns.length→hasId Ingot.id l ns[j]=true):qbO l ns=true:=by
 rw[qbO,List.all_eq_true]
 intro s hs
 obtain⟨j,hj,rfl⟩:=List.getElem_of_mem hs
 exact h j hj hj
set_option maxHeartbeats 1000000 in
theorem qlm (l:List Ingot) (x:Melt) (hl:l.length≤1048576) (hx:x.ingots.length≤1048576) (h:qbn Ingot.id l) :
  HFn Tryz.prog 377 [.sl 5 (Ingot.rows l), .agg x.cells] [] (.tup [.sf 0 1, .bool (qbO l x.ingots)]) [some (.arr 1 (qad (choN l x.ingots)))]:=by
 refine qaa hm Tryz.func377 (by kernel_rfl) rfl (by kernel_rfl) rfl (fun _ _ h=>h) ?_
 simp[Melt.cells,qaF]
 refine qac hm x.ingots.length (fun i=>⟨[(0, .sl 5 (Ingot.rows l)),(6, .sf 0 1),(12, .sl 1 (qae x.ingots)),(13, .int .i64 x.ingots.length),(14, .int .i64 i)],[some (.arr 1 (qad ((ixN l x.ingots).take i)))]⟩) (fun i=>∀j (h:j<x.ingots.length),j<i→hasId Ingot.id l x.ingots[j]=true) (by kernel_rfl) ?_ (by simp) (fun i hi hI =>?_) (fun hI =>?_)
 ·refine (qaA (t:=6) (z:=1) rfl).trans (Wk.weak (ρ:=[1]) (φ:=[]) ?_)
  simp[qad]
 ·have w1:IntKind.i64.wrap ((i:Int)+1)=(i:Int)+1:=w64 (by omega) (by omega)
  have hlen:((ixN l x.ingots).take i).length=i:=by rw[List.length_take,qgu]; omega
  rw[qlj l x.ingots hi]
  generalize (ixN l x.ingots).take i=T at hlen ⊢
  simp[qaF,qdk,hi]
  refine CallZ.use0 (qr6 l x.ingots[i] hl h) rfl rfl ?_
  simp[qao]
  refine⟨fun hn =>?_,fun hh =>?_⟩
  ·have hk:=qlk hi hn
   refine (qco (t:=0) 0 1 rfl rfl).trans (Wk.weak (ρ:=[1]) (φ:=[]) ?_)
   simp[choN,hk,qad]
  ·rw[qld h hh]
   refine⟨by simp[rowsOne],by omega,by omega,⟨fun j hj hji =>?_,Wk.weak (ρ:=[0]) (φ:=[]) ?_⟩⟩
   ·by_cases e:j=i
    ·subst e; exact hh
    ·exact hI j hj (by omega)
   ·simp[w1,qcf]
    rfl
 ·simp
  have hk:=qll hI
  refine Wk.weak (ρ:=[0]) (φ:=[]) ?_
  simp[hk,choN,←qgu l x.ingots]
theorem qln (l:List Ingot) {k:Int} (h0:0≤k) (h1:k<l.length):qds l k=(l[k.toNat]'(by omega)).mass:=by
 have e:=List.getElem?_eq_getElem (show k.toNat<l.length by omega)
 simp[qds,e]
set_option maxHeartbeats 1000000 in
theorem qr8 (l:List Ingot) (ks:List Int) (_hl:l.length≤1048576) (hk:ks.length≤1048576) (hin:∀k∈ks,0≤k∧k<l.length) :
  ∃a b:Int,HFn Tryz.prog 395 [.sl 5 (Ingot.rows l), .sl 1 (qad ks)] [] (.tup [.int .i64 (sumA l ks ks.length), .int .i64 a, .int .i64 b]) []:=by
 let t:Nat→Int:=fun i=>(ks.take i).foldl (fun s k=>IntKind.i64.wrap (s+IntKind.i64.wrap (qds l k*(match l[k.toNat]? with | some x=>x.alloyTin | none=>0)))) 0
 let o:Nat→Int:=fun i=>(ks.take i).foldl (fun s k=>IntKind.i64.wrap (s+IntKind.i64.wrap (qds l k*(match l[k.toNat]? with | some x=>x.alloyOther | none=>0)))) 0
 refine⟨t ks.length,o ks.length,?_⟩
 refine qaa hm Tryz.func395 (by kernel_rfl) rfl (by kernel_rfl) rfl qab ?_
 simp[qao]
 refine qac hm ks.length (fun i=>⟨[(0, .sl 5 (Ingot.rows l)),(7, .int .i64 (sumA l ks i)),(8, .int .i64 (t i)),(9, .int .i64 (o i)),(13, .sl 1 (qad ks)),(14, .int .i64 ks.length),(15, .int .i64 i)],[]⟩) (fun _=>True) (by kernel_rfl) ?_ trivial (fun i hi _ =>?_) (fun _ =>?_)
 ·exact Wk.weak (ρ:=[]) (φ:=[]) (by simp[sumA,t,o])
 ·have w1:IntKind.i64.wrap ((i:Int)+1)=(i:Int)+1:=w64 (by omega) (by omega)
  obtain⟨h0,h1⟩:=hin ks[i] (List.getElem_mem hi)
  have hn:ks[i].toNat<l.length:=by omega
  have em:=qln l h0 h1
  have ts:t (i+1)=IntKind.i64.wrap (t i+IntKind.i64.wrap (l[ks[i].toNat].mass*l[ks[i].toNat].alloyTin)):=by
   simp only[t]
   rw[←List.take_append_getElem hi,List.foldl_append]
   simp[em,hn]
  have os:o (i+1)=IntKind.i64.wrap (o i+IntKind.i64.wrap (l[ks[i].toNat].mass*l[ks[i].toNat].alloyOther)):=by
   simp only[o]
   rw[←List.take_append_getElem hi,List.foldl_append]
   simp[em,hn]
  rw[qhL l ks hi,ts,os,em]
  generalize t i=ti
  generalize o i=oi
  simp (maxSteps:=2000000) [qao,qbN,hi,Ingot.rows,Ingot.cells,h0,h1,hn]
  refine Wk.weak (ρ:=[]) (φ:=[]) ?_
  simp[w1]
 ·simp
theorem qr9 (l:List Ingot) (x:Melt) (hl:l.length≤1048576) (hx:x.ingots.length≤1048576) (h:qbn Ingot.id l) :
  HFn Tryz.prog 378 [.sl 5 (Ingot.rows l), .agg x.cells] [] (.int .i64 (qbe l x.ingots)) []:=by
 have kc:=qlm l x hl hx h
 obtain⟨a,b,ks⟩:=qr8 l (choN l x.ingots) hl (Nat.le_trans (qhM _ _) hx) (fun k hk=>qlh hk)
 simp only[Melt.cells]at kc
 refine qaa hm Tryz.func378 (by kernel_rfl) rfl (by kernel_rfl) rfl qab ?_
 simp[Melt.cells]
 refine CallZ.use kc rfl (.inr ⟨qcc _,trivial⟩) rfl rfl ?_
 simp
 refine CallZ.use0 ks rfl rfl ?_
 simp[qbe]
structure IngOk (l:List Ingot):Prop where
 len:l.length≤1048576
 rise:qbn Ingot.id l
 mass:∀x∈l,0≤x.mass∧x.mass≤20000000
theorem qlo {l:List Ingot} (h:qbw l=true):IngOk l:=by
 have hr:=qr1 h
 simp only[qbw,Bool.and_eq_true,decide_eq_true_eq]at h
 refine⟨by omega,hr,fun x hx =>?_⟩
 have:=qdn h.1 x hx
 simp only[qcv,Bool.and_eq_true,decide_eq_true_eq]at this
 omega
theorem qsa {x:Melt} (h:qbv x=true):x.ingots.length≤16:=by
 simp only[qbv,Bool.and_eq_true,decide_eq_true_eq]at h
 omega
theorem qsb {x:Melt} (h:qbv x=true):1≤x.mass∧x.mass≤320000000:=by
 simp only[qbv,Bool.and_eq_true,decide_eq_true_eq]at h
 omega
theorem qsc (l:List Ingot) (x:Melt) (hl:IngOk l) (hx:x.ingots.length≤16) :
  HFn Tryz.prog 348 [.sl 5 (Ingot.rows l), .agg x.cells] [] (.int .i64 (mostN l x.ingots)) []:=by
 have km:=qr9 l x hl.len (by omega) hl.rise
 obtain⟨b1,b2⟩:=qli hl.mass hx
 have w1:IntKind.i64.wrap (qbe l x.ingots*20000)=qbe l x.ingots*20000:=w64 (by omega) (by omega)
 have kn:=qbU (qbe l x.ingots*20000) 1000000 ⟨by omega,by omega⟩ (by omega) (by omega)
 have hv:nearV (qbe l x.ingots*20000) 1000000=(2*(qbe l x.ingots*20000)+1000000)/(2*1000000):=by
  unfold nearV
  rw[if_neg (by omega),Int.tdiv_eq_ediv_of_nonneg (by omega)]
 simp only[Melt.cells]at km
 refine qaa hm Tryz.func348 (by kernel_rfl) rfl (by kernel_rfl) rfl qab ?_
 simp[Melt.cells]
 refine CallZ.use0 km rfl rfl ?_
 simp[w1]
 refine CallZ.use0 kn rfl rfl ?_
 simp[mostN]
 exact w64 (by omega) (by omega)
theorem qsd (l:List Ingot) (x:Melt) (rows:List (List PV)) (i0:Nat) (hr:rows[i0]?=some [.sl 5 (Ingot.rows l)]) (hl:IngOk l) (hx:x.ingots.length≤1048576) :
  HFn Tryz.prog 376 [.agg x.cells, .pe 1 rows i0 0] [] (.bool (!qbO l x.ingots)) []:=by
 have hi:i0<rows.length:=(List.getElem?_eq_some_iff.1 hr).1
 have hx0:rows[i0]=[.sl 5 (Ingot.rows l)]:=(List.getElem?_eq_some_iff.1 hr).2
 have kc:=qlm l x hl.len hx hl.rise
 simp only[Melt.cells]at kc
 refine qaa hm Tryz.func376 (by kernel_rfl) rfl (by kernel_rfl) rfl qab ?_
 simp[Melt.cells,hi,hx0]
 refine CallZ.use kc rfl (.inr ⟨qcc _,trivial⟩) rfl rfl ?_
 simp
theorem qse (l:List Ingot) (x:Melt) (rows:List (List PV)) (i0:Nat) (hr:rows[i0]?=some [.sl 5 (Ingot.rows l)]) (hl:IngOk l) (hx:x.ingots.length≤16) :
  HFn Tryz.prog 347 [.agg x.cells, .pe 1 rows i0 0] [] (.bool (decide (mostN l x.ingots<x.mass))) []:=by
 have hi:i0<rows.length:=(List.getElem?_eq_some_iff.1 hr).1
 have hx0:rows[i0]=[.sl 5 (Ingot.rows l)]:=(List.getElem?_eq_some_iff.1 hr).2
 have kc:=qsc l x hl hx
 simp only[Melt.cells]at kc
 refine qaa hm Tryz.func347 (by kernel_rfl) rfl (by kernel_rfl) rfl qab ?_
 simp[Melt.cells,hi,hx0]
 refine CallZ.use0 kc rfl rfl ?_
 simp
def qfk (l:List Ingot) (ms:List Melt):Bool := !ms.any fun x => !qbO l x.ingots
def qcQ (l:List Ingot) (ms:List Melt):Bool:=qfk l ms && !ms.any fun x=>decide (mostN l x.ingots<x.mass)
structure MelOk (ms:List Melt):Prop where
 len:ms.length≤12
 rise:qbn Melt.id ms
 ing:∀x∈ms,x.ingots.length≤16
 mass:∀x∈ms,1≤x.mass∧x.mass≤320000000
theorem qfl {ms:List Melt} (h:qbc ms=true):MelOk ms:=by
 have hu:=qdn (qla h)
 refine⟨?_,qr2 h,fun x hx=>qsa (hu x hx),fun x hx=>qsb (hu x hx)⟩
 simp only[qbc,Bool.and_eq_true,decide_eq_true_eq]at h
 omega
theorem qsf (l:List Ingot) (ms:List Melt) (hl:IngOk l) (hs:MelOk ms) :
  HFn Tryz.prog 346 [.sl 5 (Ingot.rows l), .sl 3 (Melt.rows ms)] [] (.bool (qfk l ms)) []:=by
 have:=hs.len
 refine qaa hm Tryz.func346 (by kernel_rfl) rfl (by kernel_rfl) rfl qab ?_
 have k:=qgc 376 1 [[.sl 5 (Ingot.rows l)]] 0 0 (fun x => !qbO l x.ingots) ms (fun x hx=>qsd l x _ 0 rfl hl (by have:=hs.ing x hx; omega)) (by omega)
 simp
 refine CallZ.use0 k rfl rfl ?_
 simp only[put]
 simp[qfk,-List.any_eq_true,-Bool.not_eq_true]
theorem qlp (l:List Ingot) (ms:List Melt) (hl:IngOk l) (hs:MelOk ms) :
  HFn Tryz.prog 304 [.sl 5 (Ingot.rows l), .sl 3 (Melt.rows ms)] [] (.bool (qcQ l ms)) []:=by
 have:=hs.len
 refine qaa hm Tryz.func304 (by kernel_rfl) rfl (by kernel_rfl) rfl qab ?_
 have k:=qgc 347 1 [[.sl 5 (Ingot.rows l)]] 0 0 (fun x=>decide (mostN l x.ingots<x.mass)) ms (fun x hx=>qse l x _ 0 rfl hl (hs.ing x hx)) (by omega)
 simp
 refine CallZ.use0 (qsf l ms hl hs) rfl rfl ?_
 simp
 refine CallY.use (fun _=>⟨rfl,k⟩) rfl rfl ?_
 simp only[put]
 simp[qcQ,-List.any_eq_true,-Bool.not_eq_true]
end Go.Proofs.YteckngloamnfdaaGreatDoor
