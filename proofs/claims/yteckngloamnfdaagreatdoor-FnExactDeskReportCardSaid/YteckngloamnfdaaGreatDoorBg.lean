/- Contracts: bells whose metal is traced. No condition. -/
import Derived.Test.YteckngloamnfdaaGreatDoorBd
namespace Go.Proofs.YteckngloamnfdaaGreatDoor
open Go Go.Ab
set_option maxRecDepth 100000
def haveB (ms:List Melt) (b:Bell):Bool:=b.shares.all fun s=>hasId Melt.id ms s.melt
def haveL (ms:List Melt) (bs:List Bell):Bool:=bs.all (haveB ms)
def qaZ (s:List UInt8):List Share→Int
 | []=>0
 | x::r=>(if x.melt=s then x.mass else 0)+qaZ s r
def qaC (s:List UInt8):List Bell→Int
 | []=>0
 | b::r=>qaZ s b.shares+qaC s r
theorem qsg (s:List UInt8) (a b:List Share):qaZ s (a++b)=qaZ s a+qaZ s b:=by
 induction a with
 | nil=>simp[qaZ]
 | cons x r ih=>simp[qaZ,ih]; omega
theorem qsh (s:List UInt8) (a b:List Bell):qaC s (a++b)=qaC s a+qaC s b:=by
 induction a with
 | nil=>simp[qaC]
 | cons x r ih=>simp[qaC,ih]; omega
structure BelOk (bs:List Bell):Prop where
 len:bs.length≤24
 shr:∀b∈bs,b.shares.length≤4
 mass:∀b∈bs,∀s∈b.shares,1≤s.mass∧s.mass≤20000000
theorem qec {bs:List Bell} (h:qcd bs=true):BelOk bs:=by
 simp only[qcd,Bool.and_eq_true,decide_eq_true_eq]at h
 have hu:=qdn h.1
 refine⟨by omega,fun b hb =>?_,fun b hb s hs =>?_⟩
 ·have:=hu b hb
  simp only[qbt,Bool.and_eq_true,decide_eq_true_eq]at this
  omega
 ·have:=hu b hb
  simp only[qbt,Bool.and_eq_true]at this
  have:=qdn this.1 s hs
  simp only[qcw,Bool.and_eq_true,decide_eq_true_eq]at this
  omega
theorem qlq (s:List UInt8) (l:List Share) (h:∀x∈l,1≤x.mass∧x.mass≤20000000):0≤qaZ s l∧qaZ s l≤20000000*l.length:=by
 induction l with
 | nil=>simp[qaZ]
 | cons x r ih =>
  have h1:=h x List.mem_cons_self
  have h2:=ih fun y hy=>h y (List.mem_cons_of_mem _ hy)
  simp only[qaZ,List.length_cons]
  split<;>omega
theorem qsi (s:List UInt8) (l:List Bell) (h:∀b∈l,b.shares.length≤4) (hm:∀b∈l,∀x∈b.shares,1≤x.mass∧x.mass≤20000000):0≤qaC s l∧qaC s l≤80000000*l.length:=by
 induction l with
 | nil=>simp[qaC]
 | cons b r ih =>
  have h1:=h b List.mem_cons_self
  have h2:=qlq s b.shares (hm b List.mem_cons_self)
  have h3:=ih (fun y hy=>h y (List.mem_cons_of_mem _ hy)) (fun y hy=>hm y (List.mem_cons_of_mem _ hy))
  simp only[qaC,List.length_cons]
  omega
theorem qlr (s:List UInt8) (l:List Bell) {i:Nat} (hi:i<l.length):qaC s (l.take (i+1))=qaC s (l.take i)+qaZ s l[i].shares:=by
 rw[←List.take_append_getElem hi,qsh]
 simp[qaC]
theorem qls (s:List UInt8) (l:List Share) {i:Nat} (hi:i<l.length):qaZ s (l.take (i+1))=qaZ s (l.take i)+(if l[i].melt=s then l[i].mass else 0):=by
 rw[←List.take_append_getElem hi,qsg]
 simp[qaZ]
theorem qgv {bs:List Bell} (h:BelOk bs) (s:List UInt8) {i:Nat} (hi:i<bs.length) {k:Nat}:0≤qaC s (bs.take i)+qaZ s (bs[i].shares.take k)∧qaC s (bs.take i)+qaZ s (bs[i].shares.take k)≤2000000000:=by
 have h1:=qsi s (bs.take i) (fun b hb=>h.shr b (List.mem_of_mem_take hb)) (fun b hb=>h.mass b (List.mem_of_mem_take hb))
 have h2:=qlq s (bs[i].shares.take k) (fun x hx=>h.mass _ (List.getElem_mem hi) x (List.mem_of_mem_take hx))
 have h3:=h.shr _ (List.getElem_mem hi)
 have h4:=h.len
 rw[List.length_take]at h1 h2
 omega
def qeQ (ms:List Melt) (bs:List Bell):Bool := !ms.any fun x=>decide (x.mass<qaC x.id bs)
def qcR (is:List Ingot) (ms:List Melt) (bs:List Bell):Bool:=qcQ is ms&&haveL ms bs&&qeQ ms bs
theorem qlt {ms:List Melt} {bs:List Bell} {i k:Nat} (hi:i<bs.length) (hk:k<bs[i].shares.length) (h:hasId Melt.id ms bs[i].shares[k].melt=false):haveL ms bs=false:=by
 rw[haveL,List.all_eq_false]
 refine⟨_,List.getElem_mem hi,?_⟩
 rw[Bool.not_eq_true,haveB,List.all_eq_false]
 exact⟨_,List.getElem_mem hk,by simp[h]⟩
theorem qlu {ms:List Melt} {b:Bell} (h:∀j (hj:j<b.shares.length),j<b.shares.length→hasId Melt.id ms b.shares[j].melt=true):haveB ms b=true:=by
 rw[haveB,List.all_eq_true]
 intro s hs
 obtain⟨j,hj,rfl⟩:=List.getElem_of_mem hs
 exact h j hj hj
theorem qlv {ms:List Melt} {bs:List Bell} (h:∀j (hj:j<bs.length),j<bs.length→haveB ms bs[j]=true):haveL ms bs=true:=by
 rw[haveL,List.all_eq_true]
 intro s hs
 obtain⟨j,hj,rfl⟩:=List.getElem_of_mem hs
 exact h j hj hj
theorem qch {n:Nat} {p:(j:Nat)→j<n→Prop} {i:Nat} (hi:i<n) (h:∀j (hj:j<n),j<i→p j hj) (hp:p i hi):∀j (hj:j<n),j<i+1→p j hj:=fun j hj hji=>by
 by_cases e:j=i
 ·subst e; exact hp
 ·exact h j hj (by omega)
theorem qsj (ms:List Melt) (s:List UInt8) (hs:MelOk ms) :
  ∃m:PV,HFn Tryz.prog 305 [.sl 3 (Melt.rows ms), .str s] [] (.tup [m, .bool (hasId Melt.id ms s)]) []∧∃x:Melt,m = .agg x.cells∨m = .agg [.str [], .nils, .int .i64 0]:=by
 by_cases hh:hasId Melt.id ms s=true
 ·obtain⟨i,hi,hl,_⟩:=qhK hh
  have hc:=qld hs.rise hh
  rw[hi]at hc
  refine⟨.agg ms[i].cells,?_,ms[i], .inl rfl⟩
  have:=hs.len
  have k:=qlg ms s (by omega) hs.rise
  rw[hc,hh]at k
  refine qaa hm Tryz.func305 (by kernel_rfl) rfl (by kernel_rfl) rfl qab ?_
  simp
  refine CallZ.use0 k rfl rfl ?_
  simp[hh,hl,Melt.rows_len,Melt.row_get,Melt.cells]
 ·have hh:hasId Melt.id ms s=false:=by simpa using hh
  have:=hs.len
  have k:=qlg ms s (by omega) hs.rise
  rw[hh]at k
  refine⟨.agg [.str [], .nils, .int .i64 0],?_,⟨[],[],0⟩, .inr rfl⟩
  refine qaa hm Tryz.func305 (by kernel_rfl) rfl (by kernel_rfl) rfl qab ?_
  simp
  refine CallZ.use0 k rfl rfl ?_
  simp[hh]
set_option maxHeartbeats 2000000 in
theorem qsk (ms:List Melt) (bs:List Bell) (hs:MelOk ms) (hb:BelOk bs) :
  HFn Tryz.prog 237 [.sl 3 (Melt.rows ms), .sl 5 (Bell.rows bs)] [] (.bool (haveL ms bs)) []:=by
 have:=hb.len
 refine qaa hm Tryz.func237 (by kernel_rfl) rfl (by kernel_rfl) rfl qab ?_
 simp[Bell.rows_len]
 refine qac hm bs.length (fun i=>⟨[(0, .sl 3 (Melt.rows ms)),(11, .sl 5 (Bell.rows bs)),(12, .int .i64 bs.length),(13, .int .i64 i)],[]⟩) (fun i=>∀j (h:j<bs.length),j<i→haveB ms bs[j]=true) (by kernel_rfl) ?_ (by simp) (fun i hi hI =>?_) (fun hI =>?_)
 ·exact Wk.weak (ρ:=[]) (φ:=[]) (by simp)
 ·have w1:IntKind.i64.wrap ((i:Int)+1)=(i:Int)+1:=w64 (by omega) (by omega)
  have h4:=hb.shr _ (List.getElem_mem hi)
  simp[Bell.rows_len,Bell.row_get,Bell.cells,hi,Share.rows_len]
  refine qac hm bs[i].shares.length (fun k=>⟨[(0, .sl 3 (Melt.rows ms)),(11, .sl 5 (Bell.rows bs)),(12, .int .i64 bs.length),(13, .int .i64 i),(18, .sl 2 (Share.rows bs[i].shares)),(19, .int .i64 bs[i].shares.length),(20, .int .i64 k)],[]⟩) (fun k=>∀j (h:j<bs[i].shares.length),j<k→hasId Melt.id ms bs[i].shares[j].melt=true) (by kernel_rfl) ?_ (by simp) (fun k hk hK =>?_) (fun hK =>?_)
  ·exact Wk.weak (ρ:=[]) (φ:=[]) (by simp)
  ·obtain⟨m,km,x,hm'⟩:=qsj ms bs[i].shares[k].melt hs
   have w2:IntKind.i64.wrap ((k:Int)+1)=(k:Int)+1:=w64 (by omega) (by omega)
   simp[Share.rows,Share.cells,hk]
   rcases hm' with rfl | rfl
   ·simp only[Melt.cells]at km
    refine CallZ.use0 km rfl rfl ?_
    simp
    refine⟨fun h=>qlt hi hk h,fun h=>⟨qch hk hK h,Wk.weak (ρ:=[]) (φ:=[]) ?_⟩⟩
    simp[w2]
   ·refine CallZ.use0 km rfl rfl ?_
    simp
    refine⟨fun h=>qlt hi hk h,fun h=>⟨qch hk hK h,Wk.weak (ρ:=[]) (φ:=[]) ?_⟩⟩
    simp[w2]
  ·simp
   refine⟨qch hi hI (qlu hK),Wk.weak (ρ:=[]) (φ:=[]) ?_⟩
   simp[w1]
 ·simp
  exact qlv hI
set_option maxHeartbeats 2000000 in
theorem qsl (bs:List Bell) (x:Melt) (hb:BelOk bs) (hx:1≤x.mass∧x.mass≤320000000) :
  HFn Tryz.prog 307 [.sl 5 (Bell.rows bs), .agg x.cells] [] (.int .i64 (x.mass-qaC x.id bs)) []:=by
 have:=hb.len
 refine qaa hm Tryz.func307 (by kernel_rfl) rfl (by kernel_rfl) rfl qab ?_
 simp[Bell.rows_len,Melt.cells]
 refine qac hm bs.length (fun i=>⟨[(3, .pb 0 0),(5, .int .i64 (x.mass-qaC x.id (bs.take i))),(12, .sl 5 (Bell.rows bs)),(13, .int .i64 bs.length),(14, .int .i64 i)],[some (.box [.str x.id, .sl 1 (qae x.ingots), .int .i64 x.mass])]⟩) (fun _=>True) (by kernel_rfl) ?_ trivial (fun i hi _ =>?_) (fun _ =>?_)
 ·exact Wk.weak (ρ:=[0]) (φ:=[]) (by simp[qaC])
 ·have w1:IntKind.i64.wrap ((i:Int)+1)=(i:Int)+1:=w64 (by omega) (by omega)
  have h4:=hb.shr _ (List.getElem_mem hi)
  simp[Bell.rows_len,Bell.row_get,Bell.cells,hi,Share.rows_len]
  refine qac hm bs[i].shares.length (fun k=>⟨[(3, .pb 0 0),(5, .int .i64 (x.mass-(qaC x.id (bs.take i)+qaZ x.id (bs[i].shares.take k)))),(12, .sl 5 (Bell.rows bs)),(13, .int .i64 bs.length),(14, .int .i64 i),(19, .sl 2 (Share.rows bs[i].shares)),(20, .int .i64 bs[i].shares.length),(21, .int .i64 k)],[some (.box [.str x.id, .sl 1 (qae x.ingots), .int .i64 x.mass])]⟩) (fun _=>True) (by kernel_rfl) ?_ trivial (fun k hk _ =>?_) (fun _ =>?_)
  ·exact Wk.weak (ρ:=[0]) (φ:=[]) (by simp[qaZ])
  ·have w2:IntKind.i64.wrap ((k:Int)+1)=(k:Int)+1:=w64 (by omega) (by omega)
   have hs:=qls x.id bs[i].shares hk
   have hin:=qgv hb x.id hi (k:=k)
   have hin2:=qgv hb x.id hi (k:=k+1)
   have hmk:=hb.mass _ (List.getElem_mem hi) _ (List.getElem_mem hk)
   rw[hs]
   generalize qaC x.id (bs.take i)=A at *
   generalize qaZ x.id (bs[i].shares.take k)=B at *
   simp[Share.rows,Share.cells,hk]
   refine⟨fun h=>Wk.weak (ρ:=[0]) (φ:=[]) ?_,fun h=>Wk.weak (ρ:=[0]) (φ:=[]) ?_⟩
   ·simp[w2,h]
    rw[w64 (by omega) (by omega)]
    omega
   ·simp[w2,h]
  ·rw[List.take_length,qlr _ _ hi]
   simp
   refine Wk.weak (ρ:=[0]) (φ:=[]) ?_
   simp[w1]
 ·rw[List.take_length]
  simp
theorem qsm (bs:List Bell) (x:Melt) (rows:List (List PV)) (i0:Nat) (hr:rows[i0]?=some [.sl 5 (Bell.rows bs)]) (hb:BelOk bs) (hx:1≤x.mass∧x.mass≤320000000) :
  HFn Tryz.prog 306 [.agg x.cells, .pe 1 rows i0 0] [] (.bool (decide (x.mass<qaC x.id bs))) []:=by
 have hi:i0<rows.length:=(List.getElem?_eq_some_iff.1 hr).1
 have hx0:rows[i0]=[.sl 5 (Bell.rows bs)]:=(List.getElem?_eq_some_iff.1 hr).2
 have kc:=qsl bs x hb hx
 simp only[Melt.cells]at kc
 refine qaa hm Tryz.func306 (by kernel_rfl) rfl (by kernel_rfl) rfl qab ?_
 simp[Melt.cells,hi,hx0]
 refine CallZ.use0 kc rfl rfl ?_
 simp
 omega
theorem qsn (ms:List Melt) (bs:List Bell) (hs:MelOk ms) (hb:BelOk bs) :
  HFn Tryz.prog 238 [.sl 3 (Melt.rows ms), .sl 5 (Bell.rows bs)] [] (.bool (qeQ ms bs)) []:=by
 have:=hs.len
 have k:=qgc 306 1 [[.sl 5 (Bell.rows bs)]] 0 0 (fun x=>decide (x.mass<qaC x.id bs)) ms (fun x hx=>qsm bs x _ 0 rfl hb (hs.mass x hx)) (by omega)
 refine qaa hm Tryz.func238 (by kernel_rfl) rfl (by kernel_rfl) rfl qab ?_
 simp
 refine CallZ.use0 k rfl rfl ?_
 simp only[put]
 simp[qeQ,-List.any_eq_true,-Bool.not_eq_true]
theorem qlw (is:List Ingot) (ms:List Melt) (hi:qbw is=true) (hs:qbc ms=true) :
  HFn Tryz.prog 236 [.sl 5 (Ingot.rows is), .sl 3 (Melt.rows ms)] [] (.bool (qcQ is ms)) []:=by
 have hI:=qlo hi
 have hM:=qfl hs
 have:=hM.len
 refine qaa hm Tryz.func236 (by kernel_rfl) rfl (by kernel_rfl) rfl qab ?_
 simp
 refine CallZ.use0 (qkr is hI.len) rfl rfl ?_
 simp[hi]
 first | refine CallZ.use0 (qhx ms (by omega) (fun x hx=>by have:=hM.ing x hx; omega)) rfl rfl ?_ | refine CallY.use (fun _=>⟨rfl,qhx ms (by omega) (fun x hx=>by have:=hM.ing x hx; omega)⟩) rfl rfl ?_
 simp[hs]
 first | refine CallZ.use0 (qlp is ms hI hM) rfl rfl ?_ | refine CallY.use (fun _=>⟨rfl,qlp is ms hI hM⟩) rfl rfl ?_
 simp
theorem qso (is:List Ingot) (ms:List Melt) (bs:List Bell) (hi:qbw is=true) (hs:qbc ms=true) (hb:qcd bs=true) :
  HFn Tryz.prog 149 [.sl 5 (Ingot.rows is), .sl 3 (Melt.rows ms), .sl 5 (Bell.rows bs)] [] (.bool (qcR is ms bs)) []:=by
 have hM:=qfl hs
 have hB:=qec hb
 have:=hB.len
 refine qaa hm Tryz.func149 (by kernel_rfl) rfl (by kernel_rfl) rfl qab ?_
 simp
 refine CallZ.use0 (qkt bs (by omega) (fun x hx=>by have:=hB.shr x hx; omega)) rfl rfl ?_
 simp[hb]
 first | refine CallZ.use0 (qlw is ms hi hs) rfl rfl ?_ | refine CallY.use (fun _=>⟨rfl,qlw is ms hi hs⟩) rfl rfl ?_
 simp
 first | refine CallY.use (fun _=>⟨rfl,qsk ms bs hM hB⟩) rfl rfl ?_
 simp
 repeat refine⟨by grind,?_⟩
 first | refine CallY.use (fun _=>⟨rfl,qsn ms bs hM hB⟩) rfl rfl ?_
 simp[qcR]
def seenI (l:List Ingot) (s:List UInt8) (k:Nat):Bool:=(l.take k).any fun y=>decide (y.id=s)
theorem qsp (l:List Ingot) (s:List UInt8):seenI l s 0=false:=by simp[seenI]
theorem qsq (l:List Ingot) (s:List UInt8) {k:Nat} (hk:k<l.length):seenI l s (k+1)=(seenI l s k||decide (l[k].id=s)):=by
 unfold seenI
 rw[←List.take_append_getElem hk,List.any_append]
 simp
theorem qsr (l:List Ingot) (s:List UInt8):seenI l s l.length=hasId Ingot.id l s:=by
 unfold seenI hasId
 rw[List.take_length]
theorem qss {l:List Ingot} {s:List UInt8} (h:qbn Ingot.id l) {k:Nat} (hk:k<l.length) (e:l[k].id=s):seenI l s k=false:=by
 unfold seenI
 rw[List.any_eq_false]
 intro y hy
 obtain⟨j,hj,rfl⟩:=List.mem_take_iff_getElem.1 hy
 intro e2
 simp only[decide_eq_true_eq]at e2
 have:=qr3 h (by omega) hk (e2.trans e.symm)
 omega
theorem qst {l:List Ingot} {s:List UInt8} {k:Nat} (hk:k<l.length) (e:l[k].id=s) (hn:seenI l s k=false):ixOf Ingot.id l s=k:=qb9 hk (by simpa using e) fun j hj hjk=>by
 have:=List.any_eq_false.1 hn l[j] (List.mem_take_iff_getElem.2 ⟨j,by omega,rfl⟩)
 simpa using this
set_option maxHeartbeats 2000000 in
theorem qlx (l:List Ingot) (x:Melt) (rows:List (List PV)) (i0:Nat) (hr:rows[i0]?=some x.cells) (hl:l.length≤1048576) (hx:x.ingots.length≤1048576) (h:qbn Ingot.id l) :
  HFn Tryz.prog 367 [.sl 5 (Ingot.rows l), .pe 3 rows i0 0] [] (.tup [.sf 0 1, .bool (qbO l x.ingots)]) [some (.arr 1 (qad (choN l x.ingots)))]:=by
 have hi0:i0<rows.length:=(List.getElem?_eq_some_iff.1 hr).1
 have hx0:rows[i0]=x.cells:=(List.getElem?_eq_some_iff.1 hr).2
 rw[Melt.cells]at hr hx0
 refine qaa hm Tryz.func367 (by kernel_rfl) rfl (by kernel_rfl) rfl (fun _ _ h=>h) ?_
 simp
 refine qac hm x.ingots.length (fun i=>⟨[(0, .sl 5 (Ingot.rows l)),(1, .pe 3 rows i0 0),(6, .sf 0 1),(7, .int .i64 i)],[some (.arr 1 (qad ((ixN l x.ingots).take i)))]⟩) (fun i=>∀j (h:j<x.ingots.length),j<i→hasId Ingot.id l x.ingots[j]=true) (by kernel_rfl) ?_ (by simp) (fun i hi hI =>?_) (fun hI =>?_)
 ·exact (qaA (t:=6) (z:=1) rfl).trans (Wk.weak (ρ:=[0]) (φ:=[]) (by simp[qad]))
 ·have w1:IntKind.i64.wrap ((i:Int)+1)=(i:Int)+1:=w64 (by omega) (by omega)
  have hlen:((ixN l x.ingots).take i).length=i:=by rw[List.length_take,qgu]; omega
  rw[qlj l x.ingots hi]
  generalize (ixN l x.ingots).take i=T at hlen ⊢
  simp[hi0,hx0,qaF,hi]
  refine qac hm l.length (fun k=>⟨[(0, .sl 5 (Ingot.rows l)),(1, .pe 3 rows i0 0),(6, .sf 0 1),(7, .int .i64 i),(8, .bool (seenI l x.ingots[i] k)),(9, .int .i64 k)],[some (.arr 1 (qad (if seenI l x.ingots[i] k=true then T++[ixOf Ingot.id l x.ingots[i]] else T)))]⟩) (fun _=>True) (by kernel_rfl) ?_ trivial (fun k hk _ =>?_) (fun _ =>?_)
  ·exact Wk.weak (ρ:=[0]) (φ:=[]) (by simp[qsp])
  ·have w2:IntKind.i64.wrap ((k:Int)+1)=(k:Int)+1:=w64 (by omega) (by omega)
   rw[qsq l _ hk]
   by_cases e:l[k].id=x.ingots[i]
   ·have hnone:=qss h hk e
    have hix:=qst hk e hnone
    simp[hi0,hx0,qaF,qdk,Ingot.rows,Ingot.cells,hi,hk,e,hnone,hix,qao]
    refine⟨by simp[rowsOne],by omega,by omega,Wk.weak (ρ:=[0]) (φ:=[]) ?_⟩
    simp[w2,qcf]
    rfl
   ·simp[hi0,hx0,qaF,qdk,Ingot.rows,Ingot.cells,hi,hk,e]
    refine Wk.weak (ρ:=[0]) (φ:=[]) ?_
    simp[w2]
  ·rw[qsr]
   simp[Ingot.rows_len]
   refine⟨fun hn =>?_,fun hn=>⟨qch hi hI hn,Wk.weak (ρ:=[0]) (φ:=[]) ?_⟩⟩
   ·have hk:=qlk hi hn
    refine (qco (t:=0) 0 1 rfl rfl).trans (Wk.weak (ρ:=[1]) (φ:=[]) ?_)
    simp[choN,hk,qad]
   ·simp[w1,hn]
 ·simp[hi0,hx0,qaF]
  have hk:=qll hI
  refine Wk.weak (ρ:=[0]) (φ:=[]) ?_
  simp[hk,choN,←qgu l x.ingots]
set_option maxHeartbeats 1000000 in
theorem qsu (l:List Ingot) (x:Melt) (rows:List (List PV)) (i0:Nat) (hr:rows[i0]?=some x.cells) (hl:l.length≤1048576) (hx:x.ingots.length≤1048576) (h:qbn Ingot.id l) :
  HFn Tryz.prog 391 [.sl 5 (Ingot.rows l), .pe 3 rows i0 0] [] (.int .i64 (qbe l x.ingots)) []:=by
 have hlen:=qhM l x.ingots
 have hmem:∀k∈choN l x.ingots,0≤k∧k<l.length:=fun k hk=>qlh hk
 refine qaa hm Tryz.func391 (by kernel_rfl) rfl (by kernel_rfl) rfl qab ?_
 simp
 refine CallZ.use (qlx l x rows i0 hr hl hx h) rfl (.inr ⟨qcc _,trivial⟩) rfl rfl ?_
 unfold qbe
 generalize choN l x.ingots=ks at hlen hmem ⊢
 simp
 refine qac hm ks.length (fun i=>⟨[(0, .sl 5 (Ingot.rows l)),(5, .sf 0 1),(7, .int .i64 (sumA l ks i)),(8, .int .i64 i)],[some (.arr 1 (qad ks))]⟩) (fun _=>True) (by kernel_rfl) ?_ trivial (fun i hi _ =>?_) (fun _ =>?_)
 ·exact Wk.weak (ρ:=[0]) (φ:=[]) (by simp[sumA])
 ·have w1:IntKind.i64.wrap ((i:Int)+1)=(i:Int)+1:=w64 (by omega) (by omega)
  obtain⟨h0,h1⟩:=hmem ks[i] (List.getElem_mem hi)
  have hn:ks[i].toNat<l.length:=by omega
  rw[qhL l ks hi,qln l h0 h1]
  simp[qao,qbN,hi,Ingot.rows,Ingot.cells,h0,h1,hn]
  refine Wk.weak (ρ:=[0]) (φ:=[]) ?_
  simp[w1]
 ·simp[qao]
theorem qsv (l:List Ingot) (x:Melt) (rows:List (List PV)) (i0:Nat) (hr:rows[i0]?=some x.cells) (hl:IngOk l) (hx:x.ingots.length≤16) :
  HFn Tryz.prog 368 [.sl 5 (Ingot.rows l), .pe 3 rows i0 0] [] (.int .i64 (mostN l x.ingots)) []:=by
 have km:=qsu l x rows i0 hr hl.len (by omega) hl.rise
 obtain⟨b1,b2⟩:=qli hl.mass hx
 have w1:IntKind.i64.wrap (qbe l x.ingots*20000)=qbe l x.ingots*20000:=w64 (by omega) (by omega)
 have kn:=qbV (qbe l x.ingots*20000) 1000000 ⟨by omega,by omega⟩ (by omega) (by omega)
 have hv:nearV (qbe l x.ingots*20000) 1000000=(2*(qbe l x.ingots*20000)+1000000)/(2*1000000):=by
  unfold nearV
  rw[if_neg (by omega),Int.tdiv_eq_ediv_of_nonneg (by omega)]
 refine qaa hm Tryz.func368 (by kernel_rfl) rfl (by kernel_rfl) rfl qab ?_
 simp
 refine CallZ.use0 km rfl rfl ?_
 simp[w1]
 refine CallZ.use0 kn rfl rfl ?_
 simp[mostN]
 exact w64 (by omega) (by omega)
theorem qsw {l:List Ingot} {ms:List Melt} {i:Nat} (hi:i<ms.length) (h:qbO l ms[i].ingots=false∨mostN l ms[i].ingots<ms[i].mass):qcQ l ms=false:=by
 rcases h with h | h
 ·have:(ms.any fun x => !qbO l x.ingots)=true:=List.any_eq_true.2 ⟨_,List.getElem_mem hi,by simp[h]⟩
  simp only[qcQ,qfk,this,Bool.not_true,Bool.false_and]
 ·have:(ms.any fun x=>decide (mostN l x.ingots<x.mass))=true:=List.any_eq_true.2 ⟨_,List.getElem_mem hi,by simp[h]⟩
  simp only[qcQ,this,Bool.not_true,Bool.and_false]
theorem qsx {l:List Ingot} {ms:List Melt} (h:∀j (hj:j<ms.length),j<ms.length→qbO l ms[j].ingots=true∧ms[j].mass≤mostN l ms[j].ingots):qcQ l ms=true:=by
 have h1:(ms.any fun x => !qbO l x.ingots)=false:=by
  rw[List.any_eq_false]
  intro y hy
  obtain⟨j,hj,rfl⟩:=List.getElem_of_mem hy
  simp[(h j hj hj).1]
 have h2:(ms.any fun x=>decide (mostN l x.ingots<x.mass))=false:=by
  rw[List.any_eq_false]
  intro y hy
  obtain⟨j,hj,rfl⟩:=List.getElem_of_mem hy
  simpa using (h j hj hj).2
 simp only[qcQ,qfk,h1,h2,Bool.not_false,Bool.and_true]
set_option maxHeartbeats 1000000 in
theorem qly (l:List Ingot) (ms:List Melt) (hl:IngOk l) (hs:MelOk ms) :
  HFn Tryz.prog 327 [.sl 5 (Ingot.rows l), .sl 3 (Melt.rows ms)] [] (.bool (qcQ l ms)) []:=by
 have:=hs.len
 refine qaa hm Tryz.func327 (by kernel_rfl) rfl (by kernel_rfl) rfl qab ?_
 simp
 refine qac hm ms.length (fun i=>⟨[(0, .sl 5 (Ingot.rows l)),(1, .sl 3 (Melt.rows ms)),(5, .int .i64 i)],[]⟩) (fun i=>∀j (h:j<ms.length),j<i→qbO l ms[j].ingots=true∧ms[j].mass≤mostN l ms[j].ingots) (by kernel_rfl) ?_ (by simp) (fun i hi hI =>?_) (fun hI =>?_)
 ·exact Wk.weak (ρ:=[]) (φ:=[]) (by simp)
 ·have w1:IntKind.i64.wrap ((i:Int)+1)=(i:Int)+1:=w64 (by omega) (by omega)
  have h16:=hs.ing _ (List.getElem_mem hi)
  have hr:(Melt.rows ms)[i]?=some ms[i].cells:=by simp[Melt.rows,hi]
  simp[Melt.rows_len,hi]
  refine CallZ.use (qlx l ms[i] (Melt.rows ms) i hr hl.len (by omega) hl.rise) rfl (.inr ⟨qcc _,trivial⟩) rfl rfl ?_
  simp[Melt.rows_len,Melt.row_get,Melt.cells,hi]
  repeat refine⟨by grind,?_⟩
  refine CallY.use (fun _=>⟨rfl,qsv l ms[i] (Melt.rows ms) i hr hl h16⟩) rfl rfl ?_
  simp
  repeat refine⟨by grind,?_⟩
  refine⟨fun h=>qsw hi (by grind),fun h1 h2=>⟨qch hi hI ⟨h1,by grind⟩,Wk.weak (ρ:=[]) (φ:=[]) ?_⟩⟩
  simp[w1]
 ·simp[Melt.rows_len]
  exact qsx hI
theorem qsy (is:List Ingot) (ms:List Melt) (hi:qbw is=true) (hs:qbc ms=true) :
  HFn Tryz.prog 265 [.sl 5 (Ingot.rows is), .sl 3 (Melt.rows ms)] [] (.bool (qcQ is ms)) []:=by
 have hI:=qlo hi
 have hM:=qfl hs
 have:=hM.len
 refine qaa hm Tryz.func265 (by kernel_rfl) rfl (by kernel_rfl) rfl qab ?_
 simp
 refine CallZ.use0 (qks is hI.len) rfl rfl ?_
 simp[hi]
 first | refine CallZ.use0 (qfg ms (by omega) (fun x hx=>by have:=hM.ing x hx; omega)) rfl rfl ?_ | refine CallY.use (fun _=>⟨rfl,qfg ms (by omega) (fun x hx=>by have:=hM.ing x hx; omega)⟩) rfl rfl ?_
 simp[hs]
 first | refine CallZ.use0 (qly is ms hI hM) rfl rfl ?_ | refine CallY.use (fun _=>⟨rfl,qly is ms hI hM⟩) rfl rfl ?_
 simp
theorem qsz (ms:List Melt) (s:List UInt8) (hl:ms.length≤1048576) :
  HFn Tryz.prog 369 [.sl 3 (Melt.rows ms), .str s] [] (.int .i64 (ixOf Melt.id ms s)) []:=by
 refine qaa hm Tryz.func369 (by kernel_rfl) rfl (by kernel_rfl) rfl qab ?_
 simp
 refine qac hm ms.length (fun i=>⟨[(0, .sl 3 (Melt.rows ms)),(1, .str s),(5, .int .i64 i)],[]⟩) (fun i=>∀j (h:j<ms.length),j<i→decide (ms[j].id=s)=false) (by kernel_rfl) ?_ (by simp) (fun i hi hI =>?_) (fun hI =>?_)
 ·exact Wk.weak (ρ:=[]) (φ:=[]) (by simp)
 ·have w1:IntKind.i64.wrap ((i:Int)+1)=(i:Int)+1:=w64 (by omega) (by omega)
  simp[Melt.rows_len,Melt.row_get,Melt.cells,hi]
  refine⟨fun h=>(qb9 hi (by simpa using h) hI).symm,fun h=>⟨?_,Wk.weak (ρ:=[]) (φ:=[]) ?_⟩⟩
  ·simpa using qch (p:=fun j hj=>decide (ms[j].id=s)=false) hi hI (by simpa using h)
  ·simp[w1]
 ·simp[Melt.rows_len]
  exact (qca fun j hj=>hI j hj hj).symm
theorem qsA (ms:List Melt) (b:Bell) (rows:List (List PV)) (i0:Nat) (hr:rows[i0]?=some b.cells) (hl:ms.length≤1048576) (hb:b.shares.length≤1048576) :
  HFn Tryz.prog 328 [.sl 3 (Melt.rows ms), .pe 5 rows i0 0] [] (.bool (haveB ms b)) []:=by
 have hi0:i0<rows.length:=(List.getElem?_eq_some_iff.1 hr).1
 have hx0:rows[i0]=b.cells:=(List.getElem?_eq_some_iff.1 hr).2
 rw[Bell.cells]at hr hx0
 refine qaa hm Tryz.func328 (by kernel_rfl) rfl (by kernel_rfl) rfl qab ?_
 simp
 refine qac hm b.shares.length (fun i=>⟨[(0, .sl 3 (Melt.rows ms)),(1, .pe 5 rows i0 0),(5, .int .i64 i)],[]⟩) (fun i=>∀j (h:j<b.shares.length),j<i→hasId Melt.id ms b.shares[j].melt=true) (by kernel_rfl) ?_ (by simp) (fun i hi hI =>?_) (fun hI =>?_)
 ·exact Wk.weak (ρ:=[]) (φ:=[]) (by simp)
 ·have w1:IntKind.i64.wrap ((i:Int)+1)=(i:Int)+1:=w64 (by omega) (by omega)
  have hx:=qlc Melt.id ms b.shares[i].melt
  simp[hi0,hx0,Share.rows,Share.cells,hi]
  refine CallZ.use0 (qsz ms b.shares[i].melt hl) rfl rfl ?_
  simp
  refine⟨fun h =>?_,fun h=>⟨qch hi hI ?_,Wk.weak (ρ:=[]) (φ:=[]) ?_⟩⟩
  ·rw[haveB,List.all_eq_false]
   exact⟨_,List.getElem_mem hi,by rw[←hx]; simpa using h⟩
  ·rw[←hx]; simpa using h
  ·simp[w1]
 ·simp[hi0,hx0,Share.rows]
  exact qlu hI
theorem qsB (ms:List Melt) (bs:List Bell) (hs:qbc ms=true) (hb:qcd bs=true) :
  HFn Tryz.prog 266 [.sl 3 (Melt.rows ms), .sl 5 (Bell.rows bs)] [] (.int .i64 (if haveL ms bs=true then 0 else 3)) []:=by
 have hM:=qfl hs
 have hB:=qec hb
 have h1:=hM.len
 have h2:=hB.len
 refine qaa hm Tryz.func266 (by kernel_rfl) rfl (by kernel_rfl) rfl qab ?_
 simp
 first | refine CallZ.use0 (qfg ms (by omega) (fun x hx=>by have:=hM.ing x hx; omega)) rfl rfl ?_ | refine CallY.use (fun _=>⟨rfl,qfg ms (by omega) (fun x hx=>by have:=hM.ing x hx; omega)⟩) rfl rfl ?_
 simp[hs]
 first | refine CallZ.use0 (qhw bs (by omega) (fun x hx=>by have:=hB.shr x hx; omega)) rfl rfl ?_ | refine CallY.use (fun _=>⟨rfl,qhw bs (by omega) (fun x hx=>by have:=hB.shr x hx; omega)⟩) rfl rfl ?_
 simp[hb]
 refine qac hm bs.length (fun i=>⟨[(0, .sl 3 (Melt.rows ms)),(1, .sl 5 (Bell.rows bs)),(5, .int .i64 i)],[]⟩) (fun i=>∀j (h:j<bs.length),j<i→haveB ms bs[j]=true) (by kernel_rfl) ?_ (by simp) (fun i hi hI =>?_) (fun hI =>?_)
 ·exact Wk.weak (ρ:=[]) (φ:=[]) (by simp)
 ·have w1:IntKind.i64.wrap ((i:Int)+1)=(i:Int)+1:=w64 (by omega) (by omega)
  have h3:=hB.shr _ (List.getElem_mem hi)
  simp[Bell.rows_len,hi]
  refine CallZ.use0 (qsA ms bs[i] (Bell.rows bs) i (by simp[Bell.rows,hi]) (by omega) (by omega)) rfl rfl ?_
  simp
  refine⟨fun h =>?_,fun h=>⟨qch hi hI h,Wk.weak (ρ:=[]) (φ:=[]) ?_⟩⟩
  ·have:haveL ms bs=false:=by
    rw[haveL,List.all_eq_false]
    exact⟨_,List.getElem_mem hi,by simp[h]⟩
   simp[this]
  ·simp[w1]
 ·simp[Bell.rows_len]
  simp[qlv hI]
set_option maxHeartbeats 2000000 in
theorem qsC (bs:List Bell) (s:List UInt8) (hb:BelOk bs) :
  HFn Tryz.prog 329 [.sl 5 (Bell.rows bs), .str s] [] (.int .i64 (qaC s bs)) []:=by
 have:=hb.len
 refine qaa hm Tryz.func329 (by kernel_rfl) rfl (by kernel_rfl) rfl qab ?_
 simp
 refine qac hm bs.length (fun i=>⟨[(0, .sl 5 (Bell.rows bs)),(1, .str s),(5, .int .i64 (qaC s (bs.take i))),(6, .int .i64 i)],[]⟩) (fun _=>True) (by kernel_rfl) ?_ trivial (fun i hi _ =>?_) (fun _ =>?_)
 ·exact Wk.weak (ρ:=[]) (φ:=[]) (by simp[qaC])
 ·have w1:IntKind.i64.wrap ((i:Int)+1)=(i:Int)+1:=w64 (by omega) (by omega)
  have h4:=hb.shr _ (List.getElem_mem hi)
  simp[Bell.rows_len,hi]
  refine qac hm bs[i].shares.length (fun k=>⟨[(0, .sl 5 (Bell.rows bs)),(1, .str s),(5, .int .i64 (qaC s (bs.take i)+qaZ s (bs[i].shares.take k))),(6, .int .i64 i),(7, .int .i64 k)],[]⟩) (fun _=>True) (by kernel_rfl) ?_ trivial (fun k hk _ =>?_) (fun _ =>?_)
  ·exact Wk.weak (ρ:=[]) (φ:=[]) (by simp[qaZ])
  ·have w2:IntKind.i64.wrap ((k:Int)+1)=(k:Int)+1:=w64 (by omega) (by omega)
   have hs:=qls s bs[i].shares hk
   have hin:=qgv hb s hi (k:=k)
   have hin2:=qgv hb s hi (k:=k+1)
   have hmk:=hb.mass _ (List.getElem_mem hi) _ (List.getElem_mem hk)
   rw[hs]
   generalize qaC s (bs.take i)=A at *
   generalize qaZ s (bs[i].shares.take k)=B at *
   simp[Bell.rows_len,Bell.row_get,Bell.cells,Share.rows,Share.cells,hi,hk]
   refine⟨fun h=>Wk.weak (ρ:=[]) (φ:=[]) ?_,fun h=>Wk.weak (ρ:=[]) (φ:=[]) ?_⟩
   ·simp[w2,h]
    rw[w64 (by omega) (by omega)]
    omega
   ·simp[w2,h]
  ·rw[List.take_length,qlr _ _ hi]
   simp[Bell.rows_len,Bell.row_get,Bell.cells,Share.rows_len,hi]
   refine Wk.weak (ρ:=[]) (φ:=[]) ?_
   simp[w1]
 ·rw[List.take_length]
  simp[Bell.rows_len]
theorem qsD (ms:List Melt) (bs:List Bell) (hs:MelOk ms) (hb:BelOk bs) :
  HFn Tryz.prog 267 [.sl 3 (Melt.rows ms), .sl 5 (Bell.rows bs)] [] (.bool (qeQ ms bs)) []:=by
 have:=hs.len
 refine qaa hm Tryz.func267 (by kernel_rfl) rfl (by kernel_rfl) rfl qab ?_
 simp
 refine qac hm ms.length (fun i=>⟨[(0, .sl 3 (Melt.rows ms)),(1, .sl 5 (Bell.rows bs)),(5, .int .i64 i)],[]⟩) (fun i=>∀j (h:j<ms.length),j<i→qaC ms[j].id bs≤ms[j].mass) (by kernel_rfl) ?_ (by simp) (fun i hi hI =>?_) (fun hI =>?_)
 ·exact Wk.weak (ρ:=[]) (φ:=[]) (by simp)
 ·have w1:IntKind.i64.wrap ((i:Int)+1)=(i:Int)+1:=w64 (by omega) (by omega)
  simp[Melt.rows_len,Melt.row_get,Melt.cells,hi]
  refine CallZ.use0 (qsC bs ms[i].id hb) rfl rfl ?_
  simp[Melt.rows_len,Melt.row_get,Melt.cells,hi]
  refine⟨fun h =>?_,fun h=>⟨qch hi hI h,Wk.weak (ρ:=[]) (φ:=[]) ?_⟩⟩
  ·have:(ms.any fun x=>decide (x.mass<qaC x.id bs))=true:=List.any_eq_true.2 ⟨_,List.getElem_mem hi,by simpa using h⟩
   simp only[qeQ,this,Bool.not_true]
  ·simp[w1]
 ·simp[Melt.rows_len]
  have:(ms.any fun x=>decide (x.mass<qaC x.id bs))=false:=by
   rw[List.any_eq_false]
   intro y hy
   obtain⟨j,hj,rfl⟩:=List.getElem_of_mem hy
   simpa using hI j hj hj
  simp only[qeQ,this,Bool.not_false]
theorem qsE (is:List Ingot) (ms:List Melt) (bs:List Bell) (hi:qbw is=true) (hs:qbc ms=true) (hb:qcd bs=true) :
  HFn Tryz.prog 198 [.sl 5 (Ingot.rows is), .sl 3 (Melt.rows ms), .sl 5 (Bell.rows bs)] [] (.bool (qcR is ms bs)) []:=by
 have hM:=qfl hs
 have hB:=qec hb
 refine qaa hm Tryz.func198 (by kernel_rfl) rfl (by kernel_rfl) rfl qab ?_
 simp
 refine CallZ.use0 (qsy is ms hi hs) rfl rfl ?_
 simp
 refine CallY.use (fun _=>⟨rfl,qsB ms bs hs hb⟩) rfl rfl ?_
 simp
 repeat refine⟨by grind,?_⟩
 refine CallY.use (fun _=>⟨rfl,qsD ms bs hM hB⟩) rfl rfl ?_
 simp[qcR]
 try grind
end Go.Proofs.YteckngloamnfdaaGreatDoor
