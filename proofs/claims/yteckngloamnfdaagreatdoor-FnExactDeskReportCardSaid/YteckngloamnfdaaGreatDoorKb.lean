/- Own objects written over in place, the operations in whatever order, whole bodies and loops: from the weakest precondition over plain values to the contract of a function. No condition. -/
import Derived.Lib.ConvBytes
import Derived.Laws.BytesArg
import Derived.Orders
import Derived.StillTail
import Derived.LoopN
import Derived.Test.YteckngloamnfdaaGreatDoorKa
namespace Go.Ab
variable {P:Program} {A A':Nat→Prop} {m m':OMap} {h h':OFun} {w w':World} {H:Heap} {fr fr':Fr} {a:Act}
theorem qmM {α:Type} {cur news:List α} {q:Nat} (hl:q+news.length≤cur.length) (i:Nat) :
  (cur.take q++news++cur.drop (q+news.length))[i]?=if q≤i∧i<q+news.length then news[i-q]? else cur[i]?:=by
 have hmin:min q cur.length=q:=by omega
 rw[List.getElem?_append,List.getElem?_append]
 simp only[List.length_append,List.length_take,hmin]
 by_cases h1:i<q
 ·rw[if_pos (by omega),if_pos h1,if_neg (by omega),List.getElem?_take,if_pos h1]
 ·by_cases h2:i<q+news.length
  ·rw[if_pos h2,if_neg h1,if_pos (by omega)]
  ·rw[if_neg h2,if_neg (by omega),List.getElem?_drop]
   congr 1
   omega
theorem qiJ {α:Type} {cur news:List α} {q:Nat} (hl:q+news.length≤cur.length):(cur.take q++news++cur.drop (q+news.length)).length=cur.length:=by
 simp only[List.length_append,List.length_take,List.length_drop]
 omega
theorem ConcO.at_arr (hC:ConcO A m h w) {k z b C:Nat} {rows:List (List PV)} (hk:h k=some (.arr z rows)) (hm:m k=some (some b,C)):ObjAt A m h w (.arr z rows) (some b) C:=by
 obtain⟨ob,C',hm',ho⟩:=hC.at_ k _ hk
 rw[hm]at hm'
 cases hm'
 exact ho
theorem ConcO.at_none (hC:ConcO A m h w) {k z C:Nat} {rows:List (List PV)} (hk:h k=some (.arr z rows)) (hm:m k=some (none,C)):rows=[]∧C=0:=by
 obtain⟨ob,C',hm',ho⟩:=hC.at_ k _ hk
 rw[hm]at hm'
 cases hm'
 exact ho
theorem qiK {k:Nat} {o:Obj} (hk:h k=some o):updO h k o=h:=by
 funext j
 unfold updO
 split
 ·rename_i e; rw[e,hk]
 ·rfl
theorem Turned.refl (hA:AOk A w) (hC:ConcO A m h w):Turned P A m h w A m h w :=
 ⟨.refl _ _,fun _ h=>h,fun _ h => .inl h,hA,fun _ _=>rfl,hC,fun _ h => .inl h⟩
theorem qg2 (hA:AOk A w) (hC:ConcO A m h w) {k z b C lo:Nat} {rows new:List (List PV)} (hk:h k=some (.arr z rows)) (hm:m k=some (some b,C)) {cur:Array Value} {e:TypeId}
  (hcur:w.heap[b]?=some (.cells cur e (0,0))) {news:List Value} (hl:lo+new.length≤rows.length) (hn:news.length=new.length*z) (hw:∀(i:Nat) (r:List PV),new[i]?=some r→r.length=z)
  (hr:∀(i j:Nat) (r:List PV) (c:PV),new[i]?=some r→r[j]?=some c→∃u,news[i*z+j]?=some u∧RepI A w c u) :
  lo*z+news.length≤cur.size∧Turned P A m h w A m (updO h k (.arr z (rows.take lo++new++rows.drop (lo+new.length)))) (w.setRow b (cur.toList.take (lo*z)++news++cur.toList.drop (lo*z+news.length)).toArray) ∧
   Shaped none m h m (updO h k (.arr z (rows.take lo++new++rows.drop (lo+new.length)))):=by
 obtain⟨g1,g2,g3,g4,g5,cur',e',hcur',hsz,hcell⟩:=hC.at_arr hk hm
 have he:some (Go.Obj.cells cur e (0,0))=some (.cells cur' e' (0,0)):=by rw[←hcur,←hcur']
 simp only[Option.some.injEq,Go.Obj.cells.injEq]at he
 obtain⟨rfl,rfl,_⟩:=he
 have hfit:lo*z+news.length≤cur.size:=by
  rw[hn,hsz,←Nat.add_mul]
  exact Nat.mul_le_mul_right _ (by omega)
 have hcl:cur.toList.length=cur.size:=Array.length_toList
 have hset:∀(cur':Array Value),(w.setRow b cur').heap.size=w.heap.size:=fun cur'=>by simp[World.setRow]
 generalize hrows':rows.take lo++new++rows.drop (lo+new.length)=rows'
 have hlen':rows'.length=rows.length:=by rw[←hrows']; exact qiJ hl
 have hget':∀i r,rows'[i]?=some r→(lo≤i∧i<lo+new.length∧new[i-lo]?=some r)∨(¬(lo≤i∧i<lo+new.length)∧rows[i]?=some r):=fun i r hr=>by
  rw[←hrows',qmM hl]at hr
  split at hr
  ·rename_i g; exact .inl ⟨g.1,g.2,hr⟩
  ·rename_i g; exact .inr ⟨g,hr⟩
 have hset':ConcO A m (updO h k (.arr z rows')) (w.setRow b (cur.toList.take (lo*z)++news++cur.toList.drop (lo*z+news.length)).toArray)∧Shaped none m h m (updO h k (.arr z rows')):=by
  refine qgW hC hk hm ⟨rfl,hlen'.symm⟩ (hset _) (fun j hj=>setRow_other w b j _ hj) ⟨g1,by rw[hset]; exact g2,by omega,g4,fun i r hr =>?_,_,e,setRow_heap w b cur _ e (0,0) hcur,?_,fun i j r c hri hc =>?_⟩
  ·rcases hget' i r hr with ⟨_,_,g⟩ | ⟨_,g⟩
   ·exact hw _ r g
   ·exact g5 i r g
  ·rw[List.size_toArray,qe1 (by omega),hcl,hsz]
  ·have hmono:∀ {c:PV} {u:Value},RepI A w c u→RepI A (w.setRow b (cur.toList.take (lo*z)++news++cur.toList.drop (lo*z+news.length)).toArray) c u:=fun hr =>
    hr.mono (fun _ h=>h) (fun b' hb'=>setRow_other w b b' _ fun e=>g1 (e ▸ hb'))
   have hget:=qeu (cur:=cur.toList) (news:=news) (q:=lo*z) (by rw[hcl]; exact hfit) (i*z+j)
   simp only[List.getElem?_toArray]
   rw[hget]
   rcases hget' i r hri with ⟨q1,q2,g⟩ | ⟨q,g⟩
   ·have hj:j<z:=by rw[←hw _ r g]; exact (List.getElem?_eq_some_iff.1 hc).1
    obtain⟨u,hu,hru⟩:=hr _ j r c g hc
    have hle:lo*z≤i*z:=Nat.mul_le_mul_right _ q1
    have hsub:i*z+j-lo*z=(i-lo)*z+j:=by rw[Nat.sub_mul]; omega
    have hlt:=(List.getElem?_eq_some_iff.1 hu).1
    rw[if_pos (by omega),hsub]
    exact⟨u,hu,hmono hru⟩
   ·have hj:j<z:=by rw[←g5 i r g]; exact (List.getElem?_eq_some_iff.1 hc).1
    obtain⟨u,hu,hru⟩:=hcell i j r c g hc
    rw[if_neg (fun ⟨h1,h2⟩=>by
     rcases Nat.lt_or_ge i lo with h3 | h3
     ·have:(i+1)*z≤lo*z:=Nat.mul_le_mul_right _ (by omega)
      rw[Nat.succ_mul]at this
      omega
     ·have:(lo+new.length)*z≤i*z:=Nat.mul_le_mul_right _ (by omega)
      rw[Nat.add_mul]at this
      omega)]
    exact⟨u,by simpa using hu,hmono hru⟩
 refine⟨hfit,⟨⟨rfl,rfl,rfl,by simp[World.setRow],fun j _ hM=>setRow_other w b j _ fun e=>hM (e ▸ ⟨k,_,C,hk,hm⟩),fun _=>Nat.le_refl _⟩,fun _ h=>h,fun _ h => .inl h,hA.mono (fun b' hb'=>by rw[hset]; exact hA b' hb') (fun _ h=>h) (fun b' hb'=>setRow_other w b b' _ fun e=>g1 (e ▸ hb')),fun b' hb'=>setRow_other w b b' _ fun e=>g1 (e ▸ hb'),hset'.1,fun b' ⟨j,o,C',hj,hmj⟩ =>?_⟩,hset'.2⟩
 by_cases e:j=k
 ·subst e; exact .inl ⟨j,_,C',hk,hmj⟩
 ·simp only[updO,if_neg e]at hj; exact .inl ⟨j,o,C',hj,hmj⟩
theorem qg3 (hA:AOk A w) (hC:ConcO A m h w) {k z lo:Nat} {rows:List (List PV)} (hk:h k=some (.arr z rows)) :
  Turned P A m h w A m (updO h k (.arr z (rows.take lo++[]++rows.drop (lo+0)))) w∧Shaped none m h m (updO h k (.arr z (rows.take lo++[]++rows.drop (lo+0)))):=by
 have e:rows.take lo++[]++rows.drop (lo+0)=rows:=by simp
 rw[e,qiK hk]
 exact⟨.refl hA hC, .refl _ _ _⟩
theorem RepO.soI {k z lo len:Nat} {v:Value} (r:RepO A m h w (.so k z lo len) v):∃rows ob C cap,h k=some (.arr z rows)∧m k=some (ob,C) ∧
  ((len=0∧∃ao,v = .slice ao 0 cap∧(lo=0→rows=[]∧ob=none∧cap=0))∨∃b,ob=some b∧v = .slice (some ⟨b,lo*z,none⟩) len cap∧lo+len≤rows.length∧lo+cap=C):=by
 cases r with
 | imm hi=>cases hi
 | so0 _ _ C cap ao hk hm hc=>exact⟨_,_,C,cap,hk,hm, .inl ⟨rfl,ao,rfl,fun _=>⟨rfl,rfl,hc⟩⟩⟩
 | soE _ _ _ C cap ao rows b hk hm hlo=>exact⟨_,_,C,cap,hk,hm, .inl ⟨rfl,ao,rfl,fun e=>by omega⟩⟩
 | so _ _ _ _ C cap b rows hk hm hl hc=>exact⟨_,_,C,cap,hk,hm, .inr ⟨b,rfl,rfl,hl,hc⟩⟩
theorem qmN (hA:AOk A w) (hC:ConcO A m h w) {k len:Nat} {t tx ty e:TypeId} (he:elemT P t=some e) (hz:0<sizeT P e) {rows0:List (List PV)} (hk:h k=some (.arr (sizeT P e) rows0)) {vs:Value} (hvs:RepO A m h w (.so k (sizeT P e) 0 len) vs)
  {x:Value} {rows:List (List PV)} {news:List Value} (hsrc:SrcR P A w (sizeT P e) tx x rows news) (hl:len+rows.length≤rows0.length) :
  ∃v w',(Builtin.append_ #[t,tx] ty #[vs,x]).run P w = .ok v w'∧Turned P A m h w A m (updO h k (.arr (sizeT P e) (rows0.take len++rows++rows0.drop (len+rows.length)))) w' ∧
   Shaped none m h m (updO h k (.arr (sizeT P e) (rows0.take len++rows++rows0.drop (len+rows.length)))) ∧
   RepO A m (updO h k (.arr (sizeT P e) (rows0.take len++rows++rows0.drop (len+rows.length)))) w' (.so k (sizeT P e) 0 (len+rows.length)) v:=by
 obtain⟨i,hi,hsz⟩:∃i,P.info? e=some i∧i.size=sizeT P e:=by
  unfold sizeT at hz ⊢
  cases hi:P.info? e with
  | none=>simp[hi]at hz
  | some i=>exact⟨i,rfl,by simp⟩
 have hu:=qaK he
 have hs:=hsrc.src
 rw[←hsz]at hs
 have hnl:news.length=rows.length*sizeT P e:=hsrc.src.newsLen
 obtain⟨rows0',ob,C,cap,hk',hm,hv⟩:=hvs.soI
 obtain rfl:rows0'=rows0:=by rw[hk]at hk'; cases hk'; rfl
 rcases hv with ⟨rfl,ao,rfl,h0⟩ | ⟨b,rfl,rfl,hlen,hcap⟩
 ·obtain⟨rfl,rfl,rfl⟩:=h0 rfl
  have hr0:rows=[]:=List.eq_nil_of_length_eq_zero (by simpa using hl)
  subst hr0
  have hrun:=qgY (ty:=ty) t tx e i hu hi ao 0 0 x news hs (Nat.le_refl _)
  obtain⟨o1,o2⟩:=qg3 (P:=P) (lo:=0) hA hC hk
  exact⟨_,_,hrun,o1,o2, .so0 k _ C 0 ao (by simp[updO]) hm rfl⟩
 ·obtain⟨g1,g2,g3,g4,g5,cur,ty',hcur,hcs,hcell⟩:=hC.at_arr hk hm
  obtain⟨o1,o2,o3⟩:=qg2 (P:=P) hA hC hk hm hcur hl hnl hsrc.wide hsrc.rep
  rw[Nat.zero_mul]
  have hrun:=qiE (ty:=ty) t tx e ty' i hu hi b len cap x rows.length news hs (by omega) hcur (by rw[hsz]; exact o1)
  rw[hsz]at hrun
  refine⟨_,_,hrun,o2,o3,?_⟩
  have:=RepO.so (A:=A) (w:=w.setRow b (cur.toList.take (len*sizeT P e)++news++cur.toList.drop (len*sizeT P e+news.length)).toArray) (m:=m) (h:=updO h k (.arr (sizeT P e) (rows0'.take len++rows++rows0'.drop (len+rows.length)))) k (sizeT P e) 0 (len+rows.length) C cap b
   (rows0'.take len++rows++rows0'.drop (len+rows.length)) (by simp[updO]) hm (by rw[qiJ hl]; omega) hcap
  rw[Nat.zero_mul]at this
  exact this
theorem qiL (hs:Sub h H) (hC:ConcO A m h w) {t e:TypeId} (he:elemT P t=some e) (hz:0<sizeT P e) {p:PV} {v:Value} (hr:RepO A m h w p v) (ho:srcOk H (sizeT P e) p) (hsl:isSl p) :
  ∃ao cap,v = .slice ao (qag H p).length cap∧∀n,n≤(qag H p).length→rowsOne ((qag H p).take n)→∃news:List Value,(Builtin.firstCells (sizeT P e) n v).run P w = .ok news.toArray w∧news.length=n*sizeT P e ∧
   (∀u∈news,u.oneCell'=true)∧(∀(i:Nat) (r:List PV),((qag H p).take n)[i]?=some r→r.length=sizeT P e) ∧
   ∀(i j:Nat) (r:List PV) (c:PV),((qag H p).take n)[i]?=some r→r[j]?=some c→∃u,news[i*sizeT P e+j]?=some u∧RepI A w c u:=by
 have hu:(∃e',P.underlying t=some (.slice e'))∨P.underlying t=some .string := .inl ⟨e,qaK he⟩
 have none_:∀(ao:Option Addr) (cap:Nat),∀n,n≤([]:List (List PV)).length→rowsOne (([]:List (List PV)).take n)→∃news:List Value,(Builtin.firstCells (sizeT P e) n (.slice ao 0 cap)).run P w = .ok news.toArray w∧news.length=n*sizeT P e ∧
   (∀u∈news,u.oneCell'=true)∧(∀(i:Nat) (r:List PV),(([]:List (List PV)).take n)[i]?=some r→r.length=sizeT P e) ∧
   ∀(i j:Nat) (r:List PV) (c:PV),(([]:List (List PV)).take n)[i]?=some r→r[j]?=some c→∃u,news[i*sizeT P e+j]?=some u∧RepI A w c u:=fun ao cap n hn _=>by
  obtain rfl:n=0:=by simpa using hn
  refine⟨[],?_,by simp,by simp,by simp,by simp⟩
  cases ao with
  | none=>exact run_firstCells_none w _ 0 0 cap
  | some b=>exact run_firstCells_some w _ 0 b 0 cap [] (by simp) (by simp)
 have some_:∀ {b o cap:Nat} {rows:List (List PV)} {u:Nat→Nat→Value},(∀(i:Nat) (r:List PV),rows[i]?=some r→r.length=sizeT P e) →
   (∀(i j:Nat) (r:List PV) (c:PV),rows[i]?=some r→r[j]?=some c→w.cell? ⟨b,o+(i*sizeT P e+j),none⟩=some (u i j)) →
   (∀(i j:Nat) (r:List PV) (c:PV),rows[i]?=some r→r[j]?=some c→RepI A w c (u i j)) →
   ∀n,n≤rows.length→rowsOne (rows.take n)→∃news:List Value,(Builtin.firstCells (sizeT P e) n (.slice (some ⟨b,o,none⟩) rows.length cap)).run P w = .ok news.toArray w∧news.length=n*sizeT P e ∧
   (∀u∈news,u.oneCell'=true)∧(∀(i:Nat) (r:List PV),(rows.take n)[i]?=some r→r.length=sizeT P e) ∧
   ∀(i j:Nat) (r:List PV) (c:PV),(rows.take n)[i]?=some r→r[j]?=some c→∃u,news[i*sizeT P e+j]?=some u∧RepI A w c u:=fun {b o cap rows u} hw hc hrr n hn h1=>by
  have key:∀(i:Nat) (r:List PV),(rows.take n)[i]?=some r→rows[i]?=some r:=fun i r hr=>by
   rw[List.getElem?_take]at hr
   split at hr
   ·exact hr
   ·cases hr
  obtain⟨news,hn'⟩:=qe2 (P:=P) (A:=A) (w:=w) (b:=b) (o:=o) (cap:=cap) (u:=u) hz hu (fun i r hr=>hw i r (key i r hr)) h1 (fun i j r c hr hcj=>hc i j r c (key i r hr) hcj) (fun i j r c hr hcj=>hrr i j r c (key i r hr) hcj)
  have hl:(rows.take n).length=n:=by simp; omega
  have h2:=hn'.src.cells
  have h3:=hn'.src.newsLen
  rw[hl]at h2 h3
  exact⟨news,h2,h3,hn'.src.one,hn'.wide,hn'.rep⟩
 cases p<;>simp only[srcOk,isSl]at ho hsl
 case nils=>obtain⟨ao,rfl⟩:=hr.nilsI; exact⟨ao,0,rfl,none_ ao 0⟩
 case sl z' rows =>
  subst ho
  cases hr with
  | imm hi =>
   cases hi with
   | slE _ ao cap=>exact⟨ao,cap,rfl,none_ ao cap⟩
   | sl _ _ b o cap u hA hc hzz hu hh=>exact⟨_,cap,rfl,some_ hzz hu hh⟩
 case sf k z' =>
  obtain⟨rfl,_⟩:=ho
  cases hr with
  | imm hi=>cases hi
  | sfN _ _ C ao hk' hm=>simp only[qag,qaz (hs _ _ hk')]; exact⟨ao,0,rfl,none_ ao 0⟩
  | sf _ _ C b rows hk' hm =>
   simp only[qag,qaz (hs _ _ hk')]
   obtain⟨u,g1,g2,g3⟩:=hC.rowI hk' hm
   exact⟨_,C,rfl,some_ g1 g2 g3⟩
 case so k z' lo len =>
  obtain⟨rfl,_,_⟩:=ho
  cases hr with
  | imm hi=>cases hi
  | so0 _ _ C cap ao hk' hm hc=>simp only[qag,List.take_zero]; exact⟨ao,cap,rfl,none_ ao cap⟩
  | soE _ _ _ C cap ao=>simp only[qag,List.take_zero]; exact⟨ao,cap,rfl,none_ ao cap⟩
  | so _ _ _ _ C cap b rows hk' hm hl hc =>
   simp only[qag,qaz (hs _ _ hk')]
   obtain⟨u,g1,g2,g3⟩:=hC.rowI hk' hm
   have key:∀(i:Nat) (r:List PV),((rows.drop lo).take len)[i]?=some r→rows[lo+i]?=some r:=fun i r hr=>by
    rw[List.getElem?_take]at hr
    split at hr
    ·rwa [List.getElem?_drop]at hr
    ·cases hr
   have hlen:((rows.drop lo).take len).length=len:=by simp; omega
   have:=some_ (b:=b) (o:=lo*sizeT P e) (cap:=cap) (u:=fun i j=>u (lo+i) j) (fun i r hr=>g1 _ r (key i r hr))
    (fun i j r c hr hcj=>by have:=g2 _ j r c (key i r hr) hcj; rwa [Nat.zero_add,Nat.add_mul,Nat.add_assoc]at this) (fun i j r c hr hcj=>g3 _ j r c (key i r hr) hcj)
   refine⟨_,cap,by rw[hlen],?_⟩
   rw[hlen]at this ⊢
   exact this
theorem qmO {dT sT ty e:TypeId} (he:elemT P dT=some e) (hz:0<sizeT P e) (b q dLen dCap:Nat) (ao:Option Addr) (sLen sCap n:Nat) (hn:n=min sLen dLen) {news:List Value}
  (hf:(Builtin.firstCells (sizeT P e) n (.slice ao sLen sCap)).run P w = .ok news.toArray w) (h1:∀u∈news,u.oneCell'=true) {cur:Array Value} {t:TypeId} (hcur:w.heap[b]?=some (.cells cur t (0,0))) (hfit:q+news.length≤cur.size) :
  (Builtin.copy_ #[dT,sT] ty #[.slice (some ⟨b,q,none⟩) dLen dCap, .slice ao sLen sCap]).run P w = .ok (.int .i64 (n:Nat)) (w.setRow b (cur.toList.take q++news++cur.toList.drop (q+news.length)).toArray):=by
 have hst:=run_storeCells_at P b q t news 0 cur w hcur (by simpa using hfit) h1
 have hn':Nat.min sLen dLen=n:=hn.symm
 simp only[Nat.add_zero]at hst
 simp[Builtin.copy_,run_underlying (qaK he),Builtin.lenOf,qbj hz,hn',hf,hst,goInt]
theorem qiM {dT sT ty e:TypeId} (he:elemT P dT=some e) (hz:0<sizeT P e) (bo:Option Addr) (dLen dCap:Nat) (ao:Option Addr) (sLen sCap:Nat) (hn:min sLen dLen=0)
  (hf:(Builtin.firstCells (sizeT P e) 0 (.slice ao sLen sCap)).run P w = .ok ([]:List Value).toArray w) :
  (Builtin.copy_ #[dT,sT] ty #[.slice bo dLen dCap, .slice ao sLen sCap]).run P w = .ok (.int .i64 (0:Nat)) w:=by
 have hn':Nat.min sLen dLen=0:=hn
 cases bo<;>simp[Builtin.copy_,run_underlying (qaK he),Builtin.lenOf,qbj hz,hn',hf,storeCells,goInt]
theorem qmP (hA:AOk A w) (hC:ConcO A m h w) (hs:Sub h H) {k lo len:Nat} {t tx ty e:TypeId} (he:elemT P t=some e) (hz:0<sizeT P e) {rows0:List (List PV)} (hk:h k=some (.arr (sizeT P e) rows0)) {vs:Value} (hvs:RepO A m h w (.so k (sizeT P e) lo len) vs)
  {p:PV} {x:Value} (hr:RepO A m h w p x) (ho:srcOk H (sizeT P e) p) (hsl:isSl p) (hl:lo+len≤rows0.length) (h1:rowsOne ((qag H p).take len)) :
  ∃w',(Builtin.copy_ #[t,tx] ty #[vs,x]).run P w = .ok (.int .i64 ((min (qag H p).length len:Nat):Int)) w' ∧
   Turned P A m h w A m (updO h k (.arr (sizeT P e) (rows0.take lo++(qag H p).take len++rows0.drop (lo+min (qag H p).length len)))) w' ∧
   Shaped none m h m (updO h k (.arr (sizeT P e) (rows0.take lo++(qag H p).take len++rows0.drop (lo+min (qag H p).length len)))):=by
 obtain⟨ao,cap',rfl,hf⟩:=qiL hs hC he hz hr ho hsl
 generalize qag H p=src at hf h1 ⊢
 have htake:src.take (min src.length len)=src.take len:=by
  rcases Nat.le_total src.length len with g | g
  ·rw[Nat.min_eq_left g,List.take_length,List.take_of_length_le g]
  ·rw[Nat.min_eq_right g]
 have hlt:(src.take len).length=min src.length len:=by rw[List.length_take,Nat.min_comm]
 obtain⟨news,f1,f2,f3,f4,f5⟩:=hf (min src.length len) (Nat.min_le_left _ _) (by rw[htake]; exact h1)
 rw[htake]at f4 f5
 obtain⟨rows0',ob,C,cap,hk',hm,hv⟩:=hvs.soI
 obtain rfl:rows0'=rows0:=by rw[hk]at hk'; cases hk'; rfl
 rcases hv with ⟨rfl,ao',rfl,h0⟩ | ⟨b,rfl,rfl,hlen,hcap⟩
 ·have hn0:news=[]:=List.eq_nil_of_length_eq_zero (by rw[f2]; simp)
  subst hn0
  simp only[Nat.min_zero]at f1 ⊢
  obtain⟨o1,o2⟩:=qg3 (P:=P) (lo:=lo) hA hC hk
  rw[List.take_zero]
  exact⟨w,qiM he hz ao' 0 cap ao src.length cap' (by simp) f1,o1,o2⟩
 ·obtain⟨g1,g2,g3,g4,g5,cur,ty',hcur,hcs,hcell⟩:=hC.at_arr hk hm
  obtain⟨o1,o2,o3⟩:=qg2 (P:=P) (lo:=lo) hA hC hk hm hcur (new:=src.take len) (by rw[hlt]; omega) (by rw[f2,hlt]) f4 f5
  rw[hlt]at o2 o3
  exact⟨_,qmO he hz b (lo*sizeT P e) len cap ao src.length cap' _ rfl f1 f3 hcur o1,o2,o3⟩
theorem qiN {t ty e:TypeId} (he:elemT P t=some e) (ao:Option Addr) (c:Nat):(Builtin.clear_ #[t] ty #[.slice ao 0 c]).run P w = .ok (.tuple #[]) w:=by
 cases ao<;>simp[Builtin.clear_,run_underlying (qaK he)]
theorem qiO {v:Value} {n i:Nat} (hi:i<n*v.cells.size):(Builtin.zeroCells v.cells n).toList[i]?=some (v.cells.getD (i%v.cells.size) undef):=by
 have hp:0<v.cells.size:=by
  rcases Nat.eq_zero_or_pos v.cells.size with h | h
  ·rw[h]at hi; omega
  ·exact h
 have hm:i%v.cells.size<v.cells.size:=Nat.mod_lt _ hp
 simp[Builtin.zeroCells,hi,Array.getD_eq_getD_getElem?,hm]
theorem qiP {e:TypeId} {zs:List PV} (hzs:zeroT P e=some zs) (hzl:zs.length=sizeT P e) (hno:zs.all qak=true) (hone:zs.all oneC=true) :
  ∃i v,P.info? e=some i∧i.zero=some v∧i.size=sizeT P e∧i.bytes=qay P e∧v.cells.size=sizeT P e∧∀(A:Nat→Prop) (w:World) (n:Nat),(Builtin.zeroCells v.cells n).toList.length=n*sizeT P e ∧
   (∀u∈(Builtin.zeroCells v.cells n).toList,u.oneCell'=true)∧(∀(i:Nat) (r:List PV),(List.replicate n zs)[i]?=some r→r.length=sizeT P e) ∧
   ∀(i j:Nat) (r:List PV) (c:PV),(List.replicate n zs)[i]?=some r→r[j]?=some c→∃u,(Builtin.zeroCells v.cells n).toList[i*sizeT P e+j]?=some u∧RepI A w c u:=by
 unfold zeroT at hzs
 obtain⟨v,hv,rfl⟩:=Option.map_eq_some_iff.1 hzs
 obtain⟨i,hi,hiz⟩:=Option.bind_eq_some_iff.1 hv
 have hvs:v.cells.size=sizeT P e:=by
  have:=qdZ (A:=fun _=>False) (m:=fun _=>none) (h:=fun _=>none) (w:=default) hone
  rw[this.1,hzl]
 refine⟨i,v,hi,hiz,by simp[sizeT,hi],by simp[qay,hi],hvs,fun A w n =>?_⟩
 have hcs:=qdZ (A:=A) (m:=fun _=>none) (h:=fun _=>none) (w:=w) hone
 have hlen:(Builtin.zeroCells v.cells n).toList.length=n*sizeT P e:=by rw[Array.length_toList,size_zeroCells,hvs]
 have hrow:∀(i:Nat) (r:List PV),(List.replicate n (flatV (ofV v)))[i]?=some r→i<n∧r=flatV (ofV v):=fun i r hr=>by
  rw[List.getElem?_replicate]at hr
  split at hr
  ·cases hr; exact⟨by assumption,rfl⟩
  ·cases hr
 refine⟨hlen,fun u hu =>?_,fun i r hr=>by rw[(hrow i r hr).2]; exact hzl,fun i j r c hr hc =>?_⟩
 ·obtain⟨q,hq⟩:=List.mem_iff_getElem?.1 hu
  have hql:q<n*v.cells.size:=by rw[hvs,←hlen]; exact (List.getElem?_eq_some_iff.1 hq).1
  rw[qiO hql]at hq
  cases hq
  have hp:0<v.cells.size:=by
   rcases Nat.eq_zero_or_pos v.cells.size with h | h
   ·rw[h]at hql; omega
   ·exact h
  have hm:q%v.cells.size<(flatV (ofV v)).length:=by rw[hzl,←hvs]; exact Nat.mod_lt _ hp
  have:=hcs.2 _ _ (List.getElem?_eq_getElem hm)
  exact (this.toI (List.all_eq_true.1 hno _ (List.getElem_mem hm))).one (List.all_eq_true.1 hone _ (List.getElem_mem hm))
 ·obtain⟨hi',rfl⟩:=hrow i r hr
  have hj:j<sizeT P e:=by rw[←hzl]; exact (List.getElem?_eq_some_iff.1 hc).1
  have hq:i*sizeT P e+j<n*v.cells.size:=by rw[hvs]; exact qdA hi' hj
  have hmod:(i*sizeT P e+j)%v.cells.size=j:=by rw[hvs,Nat.mul_comm,Nat.mul_add_mod,Nat.mod_eq_of_lt hj]
  have hrep:=hcs.2 j c hc
  refine⟨v.cells.getD j undef,by rw[qiO hq,hmod],hrep.toI (List.all_eq_true.1 hno c (List.mem_of_getElem? hc))⟩
theorem qmQ (hA:AOk A w) (hC:ConcO A m h w) {k lo len:Nat} {t ty e:TypeId} {zs:List PV} (he:elemT P t=some e) (hzs:zeroT P e=some zs) (hzl:zs.length=sizeT P e) (hno:zs.all qak=true) (hone:zs.all oneC=true)
  {rows0:List (List PV)} (hk:h k=some (.arr (sizeT P e) rows0)) {vs:Value} (hvs:RepO A m h w (.so k (sizeT P e) lo len) vs) (hl:lo+len≤rows0.length) :
  ∃w',(Builtin.clear_ #[t] ty #[vs]).run P w = .ok (.tuple #[]) w' ∧
   Turned P A m h w A m (updO h k (.arr (sizeT P e) (rows0.take lo++List.replicate len zs++rows0.drop (lo+len)))) w' ∧
   Shaped none m h m (updO h k (.arr (sizeT P e) (rows0.take lo++List.replicate len zs++rows0.drop (lo+len)))):=by
 obtain⟨rows0',ob,C,cap,hk',hm,hv⟩:=hvs.soI
 obtain rfl:rows0'=rows0:=by rw[hk]at hk'; cases hk'; rfl
 obtain⟨i,v,hi,hiz,hsz,hby,hvs',hz⟩:=qiP (P:=P) hzs hzl hno hone
 obtain⟨z1,z2,z3,z4⟩:=hz A w len
 rcases Nat.eq_zero_or_pos len with rfl | hpos
 ·obtain⟨o1,o2⟩:=qg3 (P:=P) (lo:=lo) hA hC hk
  rcases hv with ⟨_,ao',rfl,h0⟩ | ⟨b,rfl,rfl,hlen,hcap⟩
  ·exact⟨w,qiN he _ _,o1,o2⟩
  ·exact⟨w,qiN he _ _,o1,o2⟩
 rcases hv with ⟨rfl,ao',rfl,h0⟩ | ⟨b,rfl,rfl,hlen,hcap⟩
 ·omega
 ·obtain⟨g1,g2,g3,g4,g5,cur,ty',hcur,hcs,hcell⟩:=hC.at_arr hk hm
  obtain⟨o1,o2,o3⟩:=qg2 (P:=P) (lo:=lo) hA hC hk hm hcur (new:=List.replicate len zs) (by rw[List.length_replicate]; omega) (by rw[z1,List.length_replicate]) z3 z4
  rw[List.length_replicate]at o2 o3
  refine⟨_,?_,o2,o3⟩
  have hst:=run_storeCells_at P b (lo*sizeT P e) ty' (Builtin.zeroCells v.cells len).toList 0 cur w hcur (by simpa using o1) z2
  simp only[Nat.add_zero]at hst
  obtain⟨n,rfl⟩:∃n,len=n+1:=⟨len-1,by omega⟩
  simp[Builtin.clear_,run_underlying (qaK he),zeroValue,typeInfo,hi,hiz,hst]
theorem qmR {t tn ty e:TypeId} {i:TypeInfo} {z:Value} {k kn:IntKind} (ht:P.underlying t=some (.slice e)) (htn:P.underlying tn=some (.int kn)) (hi:P.info? e=some i) (hz:i.zero=some z)
  (base:Option Addr) (sLen sCap n:Nat) (h0:0<n) (hs:0<i.size) (olds:List Value) (hold:(Builtin.firstCells i.size sLen (.slice base sLen sCap)).run P w.drew = .ok olds.toArray w.drew) (hg:sCap<sLen+n)
  (h63:((sLen+n:Nat):Int)≤9223372036854775807) (h48:(sLen+n)*i.bytes≤140737488355328) :
  (Builtin.append_ #[t,tn] ty #[.slice base sLen sCap, .int k n]).run P w =
   .ok (.slice (some ⟨w.heap.size,0,none⟩) (sLen+n) (grownCap w (sLen+n) sCap e)) (w.drew.alloc (.cells (olds.toArray++Builtin.zeroCells z.cells n++Builtin.zeroCells z.cells (grownCap w (sLen+n) sCap e-(sLen+n))) e)):=by
 have hn:n≠0:=by omega
 have hw:IntKind.i64.wrap (n:Int)=n:=by rw[IntKind.wrap_i64]; omega
 have h63':¬(9223372036854775807<((sLen:Int)+(n:Int))):=by omega
 have hfit:=growslice_fits hg h48
 have h48':¬(281474976710656<Builtin.nextslicecap (sLen+n) sCap*i.bytes):=by omega
 have hle:n*i.bytes≤(sLen+n)*i.bytes:=Nat.mul_le_mul_right _ (by omega)
 have h48i:¬(281474976710656<(n:Int)*(i.bytes:Int)):=by
  rw[←Int.natCast_mul]
  omega
 have hneg:¬((n:Int)<0):=by omega
 have hns:¬(n*i.size=0):=Nat.mul_ne_zero hn (by omega)
 have hroom:¬(sLen+n≤sCap):=by omega
 simp[Builtin.append_,run_underlying ht,run_underlying htn,sizeOf,typeInfo,zeroValue,hi,hz,asInt,asIntOf,hw,hneg,hns,h63',h48',h48i,hroom,hold,Question.forced,newRow,grownCap]
end Go.Ab
namespace Go.Ab
variable {P:Program} {A A':Nat→Prop} {m m':OMap} {h h':OFun} {w w':World} {H:Heap} {fr fr':Fr} {a:Act}
inductive PreStep (P:Program) (fr:Fr) (H:Heap) (k0:Nat):Op→PV→List (Option Obj)→Prop
 | quiet {op:Op} (h:vok P fr H op):PreStep P fr H k0 op (vop P fr H op) []
 | alloc {t:TypeId} {cs:List PV} (hz:zeroT P t=some cs) (h1:cs.all oneC=true):PreStep P fr H k0 (.alloc t) (.pb k0 0) [some (.box cs)]
 | box {t:TypeId} {x:Operand} (hx:okv fr x) (h1:(flatV (ev fr x)).all oneC=true):PreStep P fr H k0 (.box t x) (.pb k0 0) [some (.box (flatV (ev fr x)))]
 | buildSlice {t e:TypeId} {n:Nat} {ps:List (Nat×Operand)} (he:elemT P t=some e) (hz:0<sizeT P e) (hn:n=ps.length) (hb:n*sizeT P e≤16777216) (hzero:(zeroT P e).isSome=true) (hk:rowsOkV fr (sizeT P e) 0 ps) :
   PreStep P fr H k0 (.buildSlice t n ps.toArray) (bif n==0 then .nils else .sf k0 (sizeT P e)) (bif n==0 then [] else [some (.arr (sizeT P e) (rowsV fr ps))])
 | makeSlice {t e:TypeId} {l c:Operand} {zs:List PV} (he:elemT P t=some e) (hzs:zeroT P e=some zs) (hzl:zs.length=sizeT P e) (hno:zs.all qak=true) (hone:zs.all oneC=true)
   (h1:okv fr l) (h2:okv fr c) (i1:isInt (ev fr l)) (i2:isInt (ev fr c)) (b0:0≤intV (ev fr l)) (b1:intV (ev fr l)≤intV (ev fr c))
   (b2:qay P e*intV (ev fr c)≤140737488355328) (b3:intV (ev fr c)≤9223372036854775807) :
   PreStep P fr H k0 (.makeSlice t l c) (.sf k0 (sizeT P e)) [some (.arr (sizeT P e) (List.replicate (intV (ev fr l)).toNat zs))]
 | makeB {t e:TypeId} {l c:Operand} {zs:List PV} (he:elemT P t=some e) (hzs:zeroT P e=some zs) (hzl:zs.length=sizeT P e) (hno:zs.all qak=true) (hone:zs.all oneC=true)
   (h1:okv fr l) (h2:okv fr c) (i1:isInt (ev fr l)) (i2:isInt (ev fr c)) (b0:0≤intV (ev fr l)) (b1:intV (ev fr l)≤intV (ev fr c))
   (b2:qay P e*intV (ev fr c)≤140737488355328) (b3:intV (ev fr c)≤9223372036854775807) :
   PreStep P fr H k0 (.makeSlice t l c) (.sb k0 (sizeT P e) (intV (ev fr l)).toNat) [some (.box (List.replicate (intV (ev fr l)).toNat zs).flatten)]
 | bytesO {s t e:TypeId} {x:Operand} {l:List UInt8} (hx:okv fr x) (hev:ev fr x = .str l) (hs:strT P s=true) (he:elemT P t=some e) (hk:kindT P e=some .u8):PreStep P fr H k0 (.convert s t x) (.sb k0 1 l.length) [some (.box (l.map fun b => .int .u8 b.toNat))]
 | bytes {s t e:TypeId} {x:Operand} {l:List UInt8} (hx:okv fr x) (hev:ev fr x = .str l) (hs:strT P s=true) (he:elemT P t=some e) (hk:kindT P e=some .u8):PreStep P fr H k0 (.convert s t x) (.sl 1 (qar l)) []
 | text {s t e:TypeId} {x:Operand} (hx:okv fr x) (hn:∀l,ev fr x ≠ .str l) (he:elemT P s=some e) (hk:kindT P e=some .u8) (ht:strT P t=true) (hsrc:srcOk H 1 (ev fr x)) (hb:∀r∈qag H (ev fr x),byteC r=true) :
   PreStep P fr H k0 (.convert s t x) (.str ((qag H (ev fr x)).map byteV)) []
 | append {s x:Operand} {t t' e:TypeId} (ht:(elemT P t').isSome=true∨strT P t'=true) (hs:okv fr s) (hx:okv fr x) (hev:ev fr s = .nils) (he:elemT P t=some e) (hz:0<sizeT P e) (hzok:zokT P e=true)
   (hsrc:srcOk H (sizeT P e) (ev fr x)) (hone:rowsOne (qag H (ev fr x))) (hb:(qag H (ev fr x)).length*qay P e≤140737488355328) (h63:(qag H (ev fr x)).length≤9223372036854775807) :
   PreStep P fr H k0 (.call { callee := .builtin .append,args := #[s,x],argTypes := #[t,t'] }) (.sf k0 (sizeT P e)) [some (.arr (sizeT P e) (qag H (ev fr x)))]
 | call {y:Operand} {xs:List Operand} {ts:Array TypeId} {f:FuncId} {caps args:List PV} {res:PV} {Hout:Heap} (hy:okv fr y) (hxs:okvs fr xs) (hev:ev fr y = .fn f caps) (hargs:args=xs.map (ev fr)++caps)
   (hf:HFn P f (args.map (imm H)) [] res Hout) (hno:(args.map (imm H)).all noOwn=true) (hbox:args.all (boxOk H)=true) (hfl:args.all noOwn=true∨flatP res=true∧flatO Hout)
   (hwh:whole Hout.length res=true) (harr:arrO Hout=true):PreStep P fr H k0 (.call { callee := .value y,args:=xs.toArray,argTypes:=ts }) (shift k0 res) Hout
theorem qiQ {t:TypeId} (h:(elemT P t).isSome=true∨strT P t=true):(∃e',P.underlying t=some (.slice e'))∨P.underlying t=some .string:=by
 rcases h with h | h
 ·obtain⟨e,he⟩:=Option.isSome_iff_exists.1 h
  exact .inl ⟨e,qaK he⟩
 ·exact .inr (qcU h)
theorem qmS {o:Oper} {k0:Nat} {s x:Operand} {t t' e:TypeId} (ho:o.op = .call { callee := .builtin .append,args := #[s,x],argTypes := #[t,t'] }) (ht:(elemT P t').isSome=true∨strT P t'=true) (hs:okv fr s) (hx:okv fr x)
  (hev:ev fr s = .nils) (he:elemT P t=some e) (hz:0<sizeT P e) (hzok:zokT P e=true) (hsrc:srcOk H (sizeT P e) (ev fr x)) (hone:rowsOne (qag H (ev fr x)))
  (hb:(qag H (ev fr x)).length*qay P e≤140737488355328) (h63:(qag H (ev fr x)).length≤9223372036854775807) :
  QSem P o fr H k0 (.sf k0 (sizeT P e)) [some (.arr (sizeT P e) (qag H (ev fr x)))]:=fun A m h w a hA hC hsub hO hk=>by
 have hk0:h k0=none:=by simpa using hk 0 (by simp)
 obtain⟨news,hsr⟩:=qgX (P:=P) hsub hC hz (qiQ ht) (hO.ev hx) hsrc hone
 have hrs:=hO.ev hs
 rw[hev]at hrs
 obtain⟨ao,hao⟩:=hrs.nilsI
 obtain⟨v,w',m',hrun,hN,hr⟩:=qiI (ty:=o.type) hA hC hk0 he hzok hsr ao hb h63
 refine qaW (qe5 ho (by rw[hao]; exact hrun)) ⟨A,m',?_⟩
 rw[qb5]
 exact⟨hN,hr⟩
theorem qmT {o:Oper} {k0:Nat} {s t e:TypeId} {x:Operand} {l:List UInt8} (ho:o.op = .convert s t x) (hx:okv fr x) (hev:ev fr x = .str l) (hs:strT P s=true) (he:elemT P t=some e) (hk:kindT P e=some .u8) :
  QSem P o fr H k0 (.sl 1 (qar l)) []:=fun A m h w a hA hC _ hO _=>by
 have hr:=hO.ev hx
 rw[hev]at hr
 obtain⟨b,hb,rfl⟩:=hr.str
 have hrun:=Lib.run_convert_string_bytes (P:=P) w s t e b (qcU hs) (qaK he) (qeX hk)
 have hl:b.data.toList.length=b.size:=by simp
 have hold:∀j,j<w.heap.size→(Lib.bytesWorld w e b).heap[j]?=w.heap[j]?:=fun j hj=>Lib.bytesWorld_at_old w e b j hj
 have hsz:=Lib.bytesWorld_size w e b
 have hmv:Moved (fun _=>False) w (Lib.bytesWorld w e b):=⟨rfl,rfl,rfl,by omega,fun j hj _=>hold j hj,fun _=>by unfold Lib.bytesWorld; first | exact Nat.le_refl _ | exact Nat.le_succ _ | (simp[World.drew,World.alloc]; done)⟩
 refine qaW (v := .slice (some ⟨w.heap.size,0,none⟩) b.size (grownCap w b.size 0 e)) (w':=Lib.bytesWorld w e b) ?_ ⟨fun j=>A j∨j=w.heap.size,m,?_,?_⟩
 ·simp only[execOp,ho,hb,Sem.run_bind,hrun,Result.andThen_ok]
  rfl
 ·rw[qb4]
  refine⟨hmv,fun _ h => .inl h,fun j hj=>hj.imp id fun e=>by omega,hA.mono (fun j hj =>?_) (fun _ h => .inl h) (fun j hj=>hold j (hA j hj)),⟨fun k o hk =>?_,hC.inj⟩,Shaped.refl _ _ _,fun j hj => .inl hj⟩
  ·rcases hj with hj | hj
   ·have:=hA j hj; omega
   ·omega
  ·obtain⟨ob,C,hm,hob⟩:=hC.at_ k o hk
   refine⟨ob,C,hm,hob.mono (fun _ h => .inl h) (fun j hj=>hold j (hA j hj)) (Shaped.refl _ _ _) hmv.size fun j hj =>?_⟩
   have hlt:=hC.lt ⟨k,o,C,hk,by rw[hm,hj]⟩
   exact⟨fun h=>h.elim hlt.2 fun e=>by omega,hold j hlt.1⟩
 ·rw[qb4]
  have hlen:(qar b.data.toList).length=b.size:=by simp[qar]
  have hrow:∀(i:Nat) (r:List PV),(qar b.data.toList)[i]?=some r→i<b.size∧r=[.int .u8 ((b.data.toList.getD i 0).toNat:Nat)]:=fun i r hr=>by
   simp only[qar,List.getElem?_map]at hr
   cases hi:b.data.toList[i]? with
   | none=>rw[hi]at hr; cases hr
   | some y =>
    rw[hi]at hr
    cases hr
    exact⟨by rw[←hl]; exact (List.getElem?_eq_some_iff.1 hi).1,by rw[List.getD_eq_getElem?_getD,hi]; rfl⟩
  have:=RepI.sl (A:=fun j=>A j∨j=w.heap.size) (w:=Lib.bytesWorld w e b) 1 (qar b.data.toList) w.heap.size 0 (grownCap w b.size 0 e) (fun i _ => .int .u8 (b.data.toList.getD i 0).toNat) (.inr rfl) (by rw[hlen]; exact grownCap_ge _ _ _ _)
   (fun i r hr=>by rw[(hrow i r hr).2]; rfl)
   (fun i j r c hr hc=>by
    obtain⟨h1,rfl⟩:=hrow i r hr
    cases j with
    | zero=>rw[Nat.zero_add,Nat.mul_one,Nat.add_zero]; exact Lib.bytesWorld_cell w e b i h1
    | succ j=>simp at hc)
   (fun i j r c hr hc=>by
    obtain⟨h1,rfl⟩:=hrow i r hr
    cases j with
    | zero=>cases hc; exact .int _ _
    | succ j=>simp at hc)
  rw[hlen]at this
  exact .imm this
theorem qiR {zs:List PV} {z:Nat} (hz:zs.length=z) (hz0:0<z):∀n,(List.replicate n zs).flatten.length=n*z∧∀(j:Nat) (c:PV),(List.replicate n zs).flatten[j]?=some c→zs[j%z]?=some c
 | 0=>by simp
 | n+1=>by
  obtain⟨h1,h2⟩:=qiR hz hz0 n
  rw[List.replicate_succ,List.flatten_cons]
  refine⟨by rw[List.length_append,h1,hz,Nat.succ_mul]; omega,fun j c hc =>?_⟩
  by_cases hj:j<z
  ·rw[List.getElem?_append_left (by omega)]at hc
   rw[Nat.mod_eq_of_lt hj]
   exact hc
  ·rw[List.getElem?_append_right (by omega),hz]at hc
   rw[Nat.mod_eq_sub_mod (by omega)]
   exact h2 _ c hc
theorem qmU {o:Oper} {t e:TypeId} {l c:Operand} {zs:List PV} {k0:Nat} (ho:o.op = .makeSlice t l c) (he:elemT P t=some e) (hzs:zeroT P e=some zs) (hzl:zs.length=sizeT P e)
  (hno:zs.all qak=true) (hone:zs.all oneC=true) (h1:okv fr l) (h2:okv fr c) (i1:isInt (ev fr l)) (i2:isInt (ev fr c)) (b0:0≤intV (ev fr l)) (b1:intV (ev fr l)≤intV (ev fr c))
  (b2:qay P e*intV (ev fr c)≤140737488355328) (b3:intV (ev fr c)≤9223372036854775807) :
  QSem P o fr H k0 (.sb k0 (sizeT P e) (intV (ev fr l)).toNat) [some (.box (List.replicate (intV (ev fr l)).toNat zs).flatten)]:=fun A m h w a hA hC hs hO hk0=>by
 have hu:=qaK he
 unfold zeroT at hzs
 obtain⟨v,hv,rfl⟩:=Option.map_eq_some_iff.1 hzs
 obtain⟨i,hi,hiz⟩:=Option.bind_eq_some_iff.1 hv
 have r1:=hO.ev h1
 have r2:=hO.ev h2
 cases e1:ev fr l<;>simp only[e1,isInt]at i1
 cases e2:ev fr c<;>simp only[e2,isInt]at i2
 rename_i kl L kc Cc
 rw[e1]at r1
 rw[e2]at r2
 simp only[e1,e2,intV]at b0 b1 b2 b3 ⊢
 have hb:qay P e=i.bytes:=by simp[qay,hi]
 have hsz:sizeT P e=i.size:=by simp[sizeT,hi]
 have hr:(execOp a.eval o).run P w = .ok (.value (.slice (some ⟨w.heap.size,0,none⟩) L.toNat Cc.toNat)) (w.alloc (.cells (madeCells v.cells (Cc.toNat*sizeT P e)) e)):=by
  have:=run_make (P:=P) w t e i v hu hi hiz kl kc L Cc b0 b1 (by rw[←hb]; omega) b3
  simp only[execOp,ho,r1.int,r2.int,Sem.run_bind,this,hsz]
  rfl
 have hk0':h k0=none:=by simpa using hk0 0 (by simp)
 refine qaW hr ⟨A,updM m k0 (some w.heap.size,Cc.toNat),?_⟩
 rw[qb5]
 have hcs:=qdZ (A:=A) (m:=m) (h:=h) (w:=w) hone
 have hvs:v.cells.size=sizeT P e:=by rw[hcs.1,hzl]
 have hsm:(madeCells v.cells (Cc.toNat*sizeT P e)).size=Cc.toNat*sizeT P e:=size_madeCells _ _
 rcases Nat.eq_zero_or_pos (sizeT P e) with hz0 | hz0
 ·have hnil:flatV (ofV v)=[]:=List.eq_nil_of_length_eq_zero (by rw[hzl,hz0])
  have hfl:(List.replicate L.toNat (flatV (ofV v))).flatten=[]:=by rw[hnil]; simp
  rw[hfl]
  refine⟨qdz hA hC hk0' ⟨fun hb=>Nat.lt_irrefl _ (hA _ hb),by simp,_,e,(0,0),qdg,Nat.zero_le _,qfA _,fun j c hc=>by simp at hc⟩,?_⟩
  exact .sb k0 _ _ Cc.toNat w.heap.size Cc.toNat [] (by simp[updO]) (by simp[updM]) (by omega)
 ·obtain⟨f1,f2⟩:=qiR hzl hz0 L.toNat
  refine⟨qdz hA hC hk0' ⟨fun hb=>Nat.lt_irrefl _ (hA _ hb),by simp,_,e,(0,0),qdg,?_,qfA _,fun j c hc =>?_⟩,?_⟩
  ·rw[f1,hsm]
   exact Nat.mul_le_mul_right _ (by omega)
  ·have h3:=f2 j c hc
   have hjl:j<Cc.toNat*sizeT P e:=by
    have:=(List.getElem?_eq_some_iff.1 hc).1
    rw[f1]at this
    exact Nat.lt_of_lt_of_le this (Nat.mul_le_mul_right _ (by omega))
   have hrep:=hcs.2 _ c h3
   have hmod:=Nat.mod_lt j hz0
   refine⟨v.cells.getD (j%sizeT P e) undef,?_, .imm ((hrep.toI (List.all_eq_true.1 hno c (List.mem_of_getElem? h3))).mono (fun _ h=>h) (fun b hb=>qa7 (hA b hb)))⟩
   have hjs:j%sizeT P e<v.cells.size:=by omega
   have hj2:j%sizeT P e<v.cells.size:=hjs
   have e1:v.cells[j%sizeT P e]! = v.cells.getD (j%sizeT P e) undef:=by
    rw[getElem!_pos v.cells _ hj2,Array.getD_eq_getD_getElem?,Array.getElem?_eq_getElem hj2]
    rfl
   simp only[madeCells,Array.getElem?_map]
   rw[Array.getElem?_eq_getElem (by simpa using hjl)]
   simp only[Array.getElem_range,Option.map_some,hvs,e1]
  ·exact .sb k0 _ _ Cc.toNat w.heap.size Cc.toNat _ (by simp[updO]; rfl) (by simp[updM]) (by omega)
theorem qmV {o:Oper} {k0:Nat} {s t e:TypeId} {x:Operand} {l:List UInt8} (ho:o.op = .convert s t x) (hx:okv fr x) (hev:ev fr x = .str l) (hs:strT P s=true) (he:elemT P t=some e) (hk:kindT P e=some .u8) :
  QSem P o fr H k0 (.sb k0 1 l.length) [some (.box (l.map fun b => .int .u8 b.toNat))]:=fun A m h w a hA hC _ hO hk0=>by
 have hr:=hO.ev hx
 rw[hev]at hr
 obtain⟨b,hb,rfl⟩:=hr.str
 have hrun:=Lib.run_convert_string_bytes (P:=P) w s t e b (qcU hs) (qaK he) (qeX hk)
 have hl:b.data.toList.length=b.size:=by simp
 have hold:∀j,j<w.heap.size→(Lib.bytesWorld w e b).heap[j]?=w.heap[j]?:=fun j hj=>Lib.bytesWorld_at_old w e b j hj
 have hnew:=Lib.bytesWorld_at_new w e b
 have hsz:=Lib.bytesWorld_size w e b
 have hmv:Moved (fun _=>False) w (Lib.bytesWorld w e b):=⟨rfl,rfl,rfl,by omega,fun j hj _=>hold j hj,fun _=>by unfold Lib.bytesWorld; first | exact Nat.le_refl _ | exact Nat.le_succ _ | (simp[World.drew,World.alloc]; done)⟩
 have hk0':h k0=none:=by simpa using hk0 0 (by simp)
 have hcs:b.size≤(Lib.bytesCells w e b).size:=by simp[Lib.bytesCells]
 refine qaW (v := .slice (some ⟨w.heap.size,0,none⟩) b.size (grownCap w b.size 0 e)) (w':=Lib.bytesWorld w e b) ?_ ⟨A,updM m k0 (some w.heap.size,0),?_,?_⟩
 ·simp only[execOp,ho,hb,Sem.run_bind,hrun,Result.andThen_ok]
  rfl
 ·rw[qb5]
  refine⟨hmv,fun _ h=>h,fun j hj => .inl hj,hA.mono (fun j hj=>by have:=hA j hj; omega) (fun _ h=>h) (fun j hj=>hold j (hA j hj)),⟨fun j o' hj =>?_,fun j j' o' o'' b' C1 C2 hj hj' hm hm' =>?_⟩,qd0 hk0',qiu (Nat.le_refl _)⟩
  ·by_cases ej:j=k0
   ·subst ej
    simp only[updO,if_true,Option.some.injEq]at hj
    subst hj
    refine⟨some w.heap.size,0,by simp[updM],fun hb=>Nat.lt_irrefl _ (hA _ hb),by omega,_,e,_,hnew,by simpa using hcs,fun q h1 h2=>by have:=h2.1; simp only at this; omega,fun i c hc =>?_⟩
    rw[List.getElem?_map]at hc
    cases hi:b.data.toList[i]? with
    | none=>rw[hi]at hc; cases hc
    | some y =>
     rw[hi]at hc
     cases hc
     have hil:i<b.size:=by rw[←hl]; exact (List.getElem?_eq_some_iff.1 hi).1
     have hy:b.data[i]?=some y:=by rw[←Array.getElem?_toList]; exact hi
     refine⟨.int .u8 y.toNat,?_, .imm (.int _ _)⟩
     unfold Lib.bytesCells
     rw[Array.getElem?_append_left (by simpa using hil),Array.getElem?_map,hy]
     rfl
   ·simp only[updO,if_neg ej]at hj
    obtain⟨ob,C',hm',ho'⟩:=hC.at_ j o' hj
    refine⟨ob,C',by simp[updM,ej,hm'],ho'.mono (fun _ h=>h) (fun b' hb'=>hold b' (hA b' hb')) (qd0 hk0') (by omega) fun b' hb' =>?_⟩
    have:=hC.lt ⟨j,o',C',hj,by rw[hm',hb']⟩
    exact⟨this.2,hold b' this.1⟩
  ·by_cases ej:j=k0<;>by_cases ej':j'=k0
   ·rw[ej,ej']
   ·simp only[updM,ej,if_true,Option.some.injEq,Prod.mk.injEq]at hm
    simp only[updM,if_neg ej']at hm'
    simp only[updO,if_neg ej']at hj'
    have:=(hC.lt ⟨j',o'',C2,hj',hm'⟩).1
    omega
   ·simp only[updM,ej',if_true,Option.some.injEq,Prod.mk.injEq]at hm'
    simp only[updM,if_neg ej]at hm
    simp only[updO,if_neg ej]at hj
    have:=(hC.lt ⟨j,o',C1,hj,hm⟩).1
    omega
   ·simp only[updM,if_neg ej,if_neg ej']at hm hm'
    simp only[updO,if_neg ej,if_neg ej']at hj hj'
    exact hC.inj j j' o' o'' b' C1 C2 hj hj' hm hm'
 ·rw[qb5,hl]
  exact .sb k0 1 b.size 0 w.heap.size _ _ (by simp[updO]; rfl) (by simp[updM]) (grownCap_ge _ _ _ _)
theorem qiS {r:List PV} (h:byteC r=true):r=[.int .u8 ((byteV r).toNat:Nat)]:=by
 unfold byteC at h
 split at h
 ·rename_i n
  simp only[Bool.and_eq_true,decide_eq_true_eq]at h
  have:((UInt8.ofNat n.toNat).toNat:Int)=n:=by
   rw[UInt8.toNat_ofNat']
   have:n.toNat%2^8=n.toNat:=Nat.mod_eq_of_lt (by omega)
   omega
  simp only[byteV,this]
 ·cases h
theorem qmW {o:Oper} {k0:Nat} {s t e:TypeId} {x:Operand} (ho:o.op = .convert s t x) (hx:okv fr x) (hn:∀l,ev fr x ≠ .str l) (he:elemT P s=some e) (hk:kindT P e=some .u8) (ht:strT P t=true) (hsrc:srcOk H 1 (ev fr x))
  (hb:∀r∈qag H (ev fr x),byteC r=true):QSem P o fr H k0 (.str ((qag H (ev fr x)).map byteV)) []:=fun A m h w a hA hC hs hO _=>by
 have hr:=hO.ev hx
 have hone:rowsOne (qag H (ev fr x)):=fun r hr=>by rw[qiS (hb r hr)]; rfl
 obtain⟨news,hsr⟩:=qgX (P:=P) (tx:=s) hs hC (by decide) (.inl ⟨e,qaK he⟩) hr hsrc hone
 have hslice:∃ao n cap,a.eval x = .slice ao n cap:=by
  cases hev:ev fr x<;>simp only[hev,srcOk]at hsrc<;>rw[hev]at hr
  case nils=>obtain⟨ao,h0⟩:=hr.nilsI; exact⟨ao,0,0,h0⟩
  case str l=>exact absurd hev (hn l)
  case sl z rows =>
   generalize a.eval x=v at hr
   cases hr with
   | imm hi=>cases hi with
    | slE=>exact⟨_,_,_,rfl⟩
    | sl=>exact⟨_,_,_,rfl⟩
  case sf k z =>
   generalize a.eval x=v at hr
   cases hr with
   | imm hi=>cases hi
   | sfN=>exact⟨_,_,_,rfl⟩
   | sf=>exact⟨_,_,_,rfl⟩
  case so k z lo len =>
   generalize a.eval x=v at hr
   cases hr with
   | imm hi=>cases hi
   | so0=>exact⟨_,_,_,rfl⟩
   | soE=>exact⟨_,_,_,rfl⟩
   | so=>exact⟨_,_,_,rfl⟩
  case sb k z n =>
   generalize a.eval x=v at hr
   cases hr with
   | imm hi=>cases hi
   | sb=>exact⟨_,_,_,rfl⟩
 have hrun:∃u,(convert s t (a.eval x)).run P w = .ok (.string u) w∧u.data.toList=(qag H (ev fr x)).map byteV:=by
  have hnl:news.length=(qag H (ev fr x)).length:=by rw[hsr.src.newsLen,Nat.mul_one]
  obtain⟨ao,n,cap,hav⟩:=hslice
  have hnews:news=((qag H (ev fr x)).map fun r=>((byteV r).toNat:Int)).map (Value.int .u8):=by
   refine List.ext_getElem? fun j =>?_
   cases hj:(qag H (ev fr x))[j]? with
   | none =>
    have:(qag H (ev fr x)).length≤j:=List.getElem?_eq_none_iff.1 hj
    rw[List.getElem?_eq_none (by omega),List.getElem?_eq_none (by simpa using this)]
   | some r =>
    have hby:=qiS (hb r (List.mem_of_getElem? hj))
    have hj':=hj
    rw[hby]at hj'
    obtain⟨u,hu,hru⟩:=hsr.rep j 0 _ _ hj' rfl
    rw[Nat.mul_one,Nat.add_zero]at hu
    cases hru
    rw[hu]
    simp[hj]
  have hlen:n=(qag H (ev fr x)).length:=by
   have:=hsr.src.len w
   rw[hav]at this
   have e:(Builtin.lenOf (.slice ao n cap)).run P w = .ok n w:=rfl
   rw[e]at this
   injection this
  rw[hav,run_convert_bytes_string w s t e ao n cap (qaK he) (qeX hk) (qcU ht)]
  cases ao with
  | none =>
   have hcells:=hsr.src.cells
   rw[hav,Builtin.firstCells,Sem.run_pure]at hcells
   have h0:news=[]:=by
    injection hcells with h1
    have:=congrArg Array.toList h1
    simpa using this.symm
   have h0':qag H (ev fr x)=[]:=List.eq_nil_of_length_eq_zero (by rw[←hnl,h0]; rfl)
   exact⟨ByteArray.empty,by simp[Conv.bytesToString],by rw[h0']; rfl⟩
  | some ad =>
   have hcells:=hsr.src.cells
   rw[hav,Builtin.firstCells,Nat.mul_one,←hlen,hnews]at hcells
   refine⟨_,run_bytesToString w ad n cap _ hcells,?_⟩
   rw[foldl_push_bytes]
   simp only[ByteArray.empty,ByteArray.emptyWithCapacity,Array.toList_append,List.map_map]
   show []++_=_
   rw[List.nil_append]
   exact List.map_congr_left fun r _=>by simp
 obtain⟨u,hu,hul⟩:=hrun
 refine qaW (v := .string u) (w':=w) ?_ ⟨A,m,?_,?_⟩
 ·simp only[execOp,ho,Sem.run_bind,hu,Result.andThen_ok]
  rfl
 ·rw[qb4]
  exact .refl hA hC
 ·exact .imm (.str _ u hul)
theorem qfR {o:Oper} {k0:Nat} {pv:PV} {new:List (Option Obj)} (hp:PreStep P fr H k0 o.op pv new):QSem P o fr H k0 pv new:=by
 generalize ho:o.op=op at hp
 cases hp with
 | quiet hv=>subst ho; exact qmA hv
 | alloc hz h1=>exact qmB ho hz h1
 | box hx h1=>exact qmC ho hx h1
 | buildSlice he hz hn hb hzero hk=>exact qmF ho he hz hn hb hzero hk
 | makeSlice he hzs hzl hno hone h1 h2 i1 i2 b0 b1 b2 b3=>exact qmG ho he hzs hzl hno hone h1 h2 i1 i2 b0 b1 b2 b3
 | makeB he hzs hzl hno hone h1 h2 i1 i2 b0 b1 b2 b3=>exact qmU ho he hzs hzl hno hone h1 h2 i1 i2 b0 b1 b2 b3
 | bytesO hx hev hs he hk=>exact qmV ho hx hev hs he hk
 | bytes hx hev hs he hk=>exact qmT ho hx hev hs he hk
 | text hx hn he hk ht hsrc hb=>exact qmW ho hx hn he hk ht hsrc hb
 | append ht hs hx hev he hz hzok hsrc hone hb h63=>exact qmS ho ht hs hx hev he hz hzok hsrc hone hb h63
 | call hy hxs hev hargs hf hno hbox hfl hwh harr=>exact qmJ ho hy hxs hev hargs hf hno hbox hfl hwh harr
def Agree (fr fr':Fr) (xs:List Operand):Prop:=∀t, .tmp t∈xs→slot fr t=slot fr' t
theorem qbS {n:Nat} {xs:List Operand} (h:xs.all (opdLt n)=true):Agree fr (cutF n fr) xs:=fun t ht=>by
 have:=List.all_eq_true.1 h _ ht
 rw[qfK,if_pos (by simpa[opdLt]using this)]
theorem Agree.ev {xs:List Operand} (hg:Agree fr fr' xs) {x:Operand} (hx:x∈xs):ev fr' x=ev fr x:=by
 cases x with
 | tmp t=>simp only[Ab.ev,hg t hx]
 | _=>rfl
theorem Agree.ok {xs:List Operand} (hg:Agree fr fr' xs) {x:Operand} (hx:x∈xs):okv fr' x=okv fr x:=by
 cases x with
 | tmp t=>simp only[okv,hg t hx]
 | _=>rfl
theorem Agree.sub {xs ys:List Operand} (hg:Agree fr fr' xs) (h:∀x∈ys,x∈xs):Agree fr fr' ys:=fun t ht=>hg t (h _ ht)
theorem Agree.oks {xs:List Operand} (hg:Agree fr fr' xs):∀ {ys:List Operand},(∀x∈ys,x∈xs)→okvs fr ys→okvs fr' ys
 | [],_,_=>trivial
 | y::ys,h,hk=>⟨by rw[hg.ok (h y (by simp))]; exact hk.1,Agree.oks hg (fun x hx=>h x (by simp[hx])) hk.2⟩
theorem Agree.evs {xs:List Operand} (hg:Agree fr fr' xs) {ys:List Operand} (h:∀x∈ys,x∈xs):ys.map (Ab.ev fr')=ys.map (Ab.ev fr):=List.map_congr_left fun y hy=>hg.ev (h y hy)
theorem Agree.rowsV {xs:List Operand} (hg:Agree fr fr' xs) {ps:List (Nat×Operand)} (h:∀x∈ps,x.2∈xs):Ab.rowsV fr' ps=Ab.rowsV fr ps:=List.map_congr_left fun y hy=>by rw[hg.ev (h y hy)]
theorem Agree.rowsOkV {xs:List Operand} (hg:Agree fr fr' xs) {z:Nat}:∀ {ps:List (Nat×Operand)} {n:Nat},(∀x∈ps,x.2∈xs)→Ab.rowsOkV fr z n ps→Ab.rowsOkV fr' z n ps
 | [],_,_,_=>trivial
 | (i,x)::ps,n,h,hk=>by
  have e1:=hg.ev (h (i,x) (by simp))
  have e2:=hg.ok (h (i,x) (by simp))
  simp only at e1 e2
  refine⟨hk.1,by rw[e2]; exact hk.2.1,by rw[e1]; exact hk.2.2.1,by rw[e1]; exact hk.2.2.2.1,by rw[e1]; exact hk.2.2.2.2.1,Agree.rowsOkV hg (fun x hx=>h x (by simp[hx])) hk.2.2.2.2.2⟩
theorem Agree.buildV {xs:List Operand} (hg:Agree fr fr' xs) {t:TypeId}:∀ {ps:List (Nat×Operand)} {cs:List PV},(∀x∈ps,x.2∈xs)→Ab.buildV P fr' t ps cs=Ab.buildV P fr t ps cs
 | [],_,_=>rfl
 | (i,x)::ps,cs,h=>by
  have e1:=hg.ev (h (i,x) (by simp))
  simp only at e1
  simp only[Ab.buildV,e1]
  exact Agree.buildV hg fun x hx=>h x (by simp[hx])
theorem Agree.buildOk {xs:List Operand} (hg:Agree fr fr' xs) {t:TypeId} {n:Nat}:∀ {ps:List (Nat×Operand)},(∀x∈ps,x.2∈xs)→Ab.buildOk P fr t n ps→Ab.buildOk P fr' t n ps
 | [],_,_=>trivial
 | (i,x)::ps,h,hk=>by
  have e1:=hg.ev (h (i,x) (by simp))
  have e2:=hg.ok (h (i,x) (by simp))
  simp only at e1 e2
  refine⟨by rw[e2]; exact hk.1,by rw[e1]; exact hk.2.1,by rw[e1]; exact hk.2.2.1,by rw[e1]; exact hk.2.2.2.1,Agree.buildOk hg (fun x hx=>h x (by simp[hx])) hk.2.2.2.2⟩
theorem Agree.bound {xs:List Operand} (hg:Agree fr fr' xs) {x:Option Operand} (h:∀y,x=some y→y∈xs) (d:Nat):Ab.bound fr' d x=Ab.bound fr d x:=by
 cases x with
 | none=>rfl
 | some y=>simp only[Ab.bound,hg.ev (h y rfl)]
theorem Agree.boundOk {xs:List Operand} (hg:Agree fr fr' xs) {x:Option Operand} (h:∀y,x=some y→y∈xs):Ab.boundOk fr' x=Ab.boundOk fr x:=by
 cases x with
 | none=>rfl
 | some y=>simp only[Ab.boundOk,hg.ev (h y rfl),hg.ok (h y rfl)]
theorem qmX {op:Op} (hg:Agree fr fr' op.operands.toList) (hv:vok P fr H op):vok P fr' H op∧vop P fr' H op=vop P fr H op:=by
 cases op<;>try exact hv.elim
 case move x=>have e:=hg.ev (x:=x) (by simp[Op.operands]); have k:=hg.ok (x:=x) (by simp[Op.operands]); simp only[vok,vop,e,k]at *; exact⟨hv,trivial⟩
 case assign x=>have e:=hg.ev (x:=x) (by simp[Op.operands]); have k:=hg.ok (x:=x) (by simp[Op.operands]); simp only[vok,vop,e,k]at *; exact⟨hv,trivial⟩
 case nilCheck x=>have e:=hg.ev (x:=x) (by simp[Op.operands]); have k:=hg.ok (x:=x) (by simp[Op.operands]); simp only[vok,vop,e,k]at *; exact⟨hv,trivial⟩
 case pick x y z =>
  have e1:=hg.ev (x:=x) (by simp[Op.operands]); have k1:=hg.ok (x:=x) (by simp[Op.operands])
  have e2:=hg.ev (x:=y) (by simp[Op.operands]); have k2:=hg.ok (x:=y) (by simp[Op.operands])
  have e3:=hg.ev (x:=z) (by simp[Op.operands]); have k3:=hg.ok (x:=z) (by simp[Op.operands])
  simp only[vok,vop,e1,e2,e3,k1,k2,k3]at *; exact⟨hv,trivial⟩
 case load t x=>have e:=hg.ev (x:=x) (by simp[Op.operands]); have k:=hg.ok (x:=x) (by simp[Op.operands]); simp only[vok,vop,e,k]at *; exact⟨hv,trivial⟩
 case binOp op t x y u =>
  have e1:=hg.ev (x:=x) (by simp[Op.operands]); have k1:=hg.ok (x:=x) (by simp[Op.operands])
  have e2:=hg.ev (x:=y) (by simp[Op.operands]); have k2:=hg.ok (x:=y) (by simp[Op.operands])
  simp only[vok,vop,e1,e2,k1,k2]at *; exact⟨hv,trivial⟩
 case unOp op t x=>have e:=hg.ev (x:=x) (by simp[Op.operands]); have k:=hg.ok (x:=x) (by simp[Op.operands]); simp only[vok,vop,e,k]at *; exact⟨hv,trivial⟩
 case convert s t x=>have e:=hg.ev (x:=x) (by simp[Op.operands]); have k:=hg.ok (x:=x) (by simp[Op.operands]); simp only[vok,vop,e,k]at *; exact⟨hv,trivial⟩
 case fieldAddr t x f=>have e:=hg.ev (x:=x) (by simp[Op.operands]); have k:=hg.ok (x:=x) (by simp[Op.operands]); simp only[vok,vop,e,k]at *; exact⟨hv,trivial⟩
 case field t x f=>have e:=hg.ev (x:=x) (by simp[Op.operands]); have k:=hg.ok (x:=x) (by simp[Op.operands]); simp only[vok,vop,e,k]at *; exact⟨hv,trivial⟩
 case extract x i=>have e:=hg.ev (x:=x) (by simp[Op.operands]); have k:=hg.ok (x:=x) (by simp[Op.operands]); simp only[vok,vop,e,k]at *; exact⟨hv,trivial⟩
 case indexAddr t x y =>
  have e1:=hg.ev (x:=x) (by simp[Op.operands]); have k1:=hg.ok (x:=x) (by simp[Op.operands])
  have e2:=hg.ev (x:=y) (by simp[Op.operands]); have k2:=hg.ok (x:=y) (by simp[Op.operands])
  simp only[vok,vop,e1,e2,k1,k2]at *; exact⟨hv,trivial⟩
 case index t x y =>
  have e1:=hg.ev (x:=x) (by simp[Op.operands]); have k1:=hg.ok (x:=x) (by simp[Op.operands])
  have e2:=hg.ev (x:=y) (by simp[Op.operands]); have k2:=hg.ok (x:=y) (by simp[Op.operands])
  simp only[vok,vop,e1,e2,k1,k2]at *; exact⟨hv,trivial⟩
 case slice t x l hi mx =>
  have e1:=hg.ev (x:=x) (by simp[Op.operands]); have k1:=hg.ok (x:=x) (by simp[Op.operands])
  have hl:∀y,l=some y→y∈(Op.slice t x l hi mx).operands.toList:=fun y e=>by subst e; simp[Op.operands]
  have hh:∀y,hi=some y→y∈(Op.slice t x l hi mx).operands.toList:=fun y e=>by subst e; simp[Op.operands]
  have hm:∀y,mx=some y→y∈(Op.slice t x l hi mx).operands.toList:=fun y e=>by subst e; simp[Op.operands]
  have e2:=hg.bound hl 0
  have e3:=hg.bound hh (lenV H (ev fr x))
  have e4:=hg.boundOk hl
  have e5:=hg.boundOk hh
  have e6:=hg.bound hm (roomV H (ev fr x))
  have e7:=hg.boundOk hm
  simp only[vok,vop,e1,k1,e2,e3,e4,e5,e6,e7]at *
  exact⟨hv,trivial⟩
 case build t ps =>
  have hm:∀x∈ps.toList,x.2∈(Op.build t ps).operands.toList:=fun x hx=>by simp only[Op.operands,List.mem_map]; exact⟨x,hx,rfl⟩
  obtain⟨cs,h1,h2,h3,h4⟩:=hv
  exact⟨⟨cs,h1,h2,h3,hg.buildOk hm h4⟩,by simp only[vop,hg.buildV hm]⟩
 case makeFunc f first caps =>
  cases f<;>try exact hv.elim
  rename_i f
  have hm:∀x∈caps.toList,x∈(Op.makeFunc (.func f) first caps).operands.toList:=fun x hx=>by simp[Op.operands]; exact .inr (by simpa using hx)
  obtain⟨h1,h2⟩:=hv
  exact⟨⟨h1,hg.oks hm h2⟩,by simp only[vop,hg.evs hm]⟩
 case call c =>
  simp only[vok,vop]at hv ⊢
  cases hl:isLen c with
  | none =>
   rw[hl]at hv
   simp only at hv
   cases hmm:isMM c with
   | none=>rw[hmm]at hv; exact hv.elim
   | some bxy =>
    obtain⟨b,x,y⟩:=bxy
    have hm:x∈(Op.call c).operands.toList∧y∈(Op.call c).operands.toList:=by
     obtain⟨callee,args,argTypes⟩:=c
     unfold isMM at hmm
     simp only at hmm
     split at hmm
     ·rename_i e1
      simp only[Option.some.injEq,Prod.mk.injEq]at hmm
      obtain⟨_,rfl,rfl⟩:=hmm
      simp only[Op.operands,Call.operands,Array.toList_append,List.mem_append,e1]
      simp
     ·rename_i e1
      simp only[Option.some.injEq,Prod.mk.injEq]at hmm
      obtain⟨_,rfl,rfl⟩:=hmm
      simp only[Op.operands,Call.operands,Array.toList_append,List.mem_append,e1]
      simp
     ·cases hmm
    rw[hmm]at hv
    simp only[hg.ev hm.1,hg.ev hm.2,hg.ok hm.1,hg.ok hm.2]
    exact⟨hv,trivial⟩
  | some xt =>
   obtain⟨x,t⟩:=xt
   have hm:x∈(Op.call c).operands.toList:=by
    obtain⟨callee,args,argTypes⟩:=c
    unfold isLen at hl
    simp only at hl
    split at hl
    ·simp only[Option.some.injEq,Prod.mk.injEq]at hl
     obtain⟨rfl,rfl⟩:=hl
     rename_i e1 e2
     simp[Op.operands,Call.operands,e1]
    ·cases hl
   have e:=hg.ev hm
   have k:=hg.ok hm
   rw[hl]at hv
   simp only[e,k]
   exact⟨hv,trivial⟩
theorem qev {k0:Nat} {op:Op} {pv:PV} {new:List (Option Obj)} (hg:Agree fr fr' op.operands.toList) (hp:PreStep P fr H k0 op pv new):PreStep P fr' H k0 op pv new:=by
 cases hp with
 | quiet hv =>
  obtain⟨h1,h2⟩:=qmX hg hv
  rw[←h2]
  exact .quiet h1
 | alloc hz h1=>exact .alloc hz h1
 | @box t x hx h1 =>
  have e:=hg.ev (x:=x) (by simp[Op.operands]); have k:=hg.ok (x:=x) (by simp[Op.operands])
  rw[←e]
  exact .box (by rw[k]; exact hx) (by rw[e]; exact h1)
 | @buildSlice t e n ps he hz hn hb hzero hk =>
  have hm:∀x∈ps,x.2∈(Op.buildSlice t n ps.toArray).operands.toList:=fun x hx=>by simp only[Op.operands,List.mem_map]; exact⟨x,hx,rfl⟩
  rw[←hg.rowsV hm]
  exact .buildSlice he hz hn hb hzero (hg.rowsOkV hm hk)
 | @makeSlice t e l c zs he hzs hzl hno hone h1 h2 i1 i2 b0 b1 b2 b3 =>
  have e1:=hg.ev (x:=l) (by simp[Op.operands]); have k1:=hg.ok (x:=l) (by simp[Op.operands])
  have e2:=hg.ev (x:=c) (by simp[Op.operands]); have k2:=hg.ok (x:=c) (by simp[Op.operands])
  rw[←e1]
  exact .makeSlice he hzs hzl hno hone (by rw[k1]; exact h1) (by rw[k2]; exact h2) (by rw[e1]; exact i1) (by rw[e2]; exact i2) (by rw[e1]; exact b0) (by rw[e1,e2]; exact b1) (by rw[e2]; exact b2) (by rw[e2]; exact b3)
 | @makeB t e l c zs he hzs hzl hno hone h1 h2 i1 i2 b0 b1 b2 b3 =>
  have e1:=hg.ev (x:=l) (by simp[Op.operands]); have k1:=hg.ok (x:=l) (by simp[Op.operands])
  have e2:=hg.ev (x:=c) (by simp[Op.operands]); have k2:=hg.ok (x:=c) (by simp[Op.operands])
  rw[←e1]
  exact .makeB he hzs hzl hno hone (by rw[k1]; exact h1) (by rw[k2]; exact h2) (by rw[e1]; exact i1) (by rw[e2]; exact i2) (by rw[e1]; exact b0) (by rw[e1,e2]; exact b1) (by rw[e2]; exact b2) (by rw[e2]; exact b3)
 | @bytesO s t e x l hx hev hs he hk =>
  have e1:=hg.ev (x:=x) (by simp[Op.operands]); have k1:=hg.ok (x:=x) (by simp[Op.operands])
  exact .bytesO (by rw[k1]; exact hx) (by rw[e1]; exact hev) hs he hk
 | @bytes s t e x l hx hev hs he hk =>
  have e1:=hg.ev (x:=x) (by simp[Op.operands]); have k1:=hg.ok (x:=x) (by simp[Op.operands])
  exact .bytes (by rw[k1]; exact hx) (by rw[e1]; exact hev) hs he hk
 | @text s t e x hx hn he hk ht hsrc hb =>
  have e1:=hg.ev (x:=x) (by simp[Op.operands]); have k1:=hg.ok (x:=x) (by simp[Op.operands])
  rw[←e1]
  exact .text (by rw[k1]; exact hx) (by rw[e1]; exact hn) he hk ht (by rw[e1]; exact hsrc) (by rw[e1]; exact hb)
 | @append s x t t' e ht hs hx hev he hz hzok hsrc hone hb h63 =>
  have e1:=hg.ev (x:=s) (by simp[Op.operands,Call.operands]); have k1:=hg.ok (x:=s) (by simp[Op.operands,Call.operands])
  have e2:=hg.ev (x:=x) (by simp[Op.operands,Call.operands]); have k2:=hg.ok (x:=x) (by simp[Op.operands,Call.operands])
  rw[←e2]
  exact .append ht (by rw[k1]; exact hs) (by rw[k2]; exact hx) (by rw[e1]; exact hev) he hz hzok (by rw[e2]; exact hsrc) (by rw[e2]; exact hone) (by rw[e2]; exact hb) (by rw[e2]; exact h63)
 | @call y xs ts f caps args res Hout hy hxs hev hargs hf hno hbox hfl hwh harr =>
  have hm:∀x∈xs,x∈(Op.call { callee := .value y,args:=xs.toArray,argTypes:=ts }).operands.toList:=fun x hx=>by simp[Op.operands,Call.operands,hx]
  have e1:=hg.ev (x:=y) (by simp[Op.operands,Call.operands]); have k1:=hg.ok (x:=y) (by simp[Op.operands,Call.operands])
  exact .call (by rw[k1]; exact hy) (hg.oks hm hxs) (by rw[e1]; exact hev) (by rw[hg.evs hm]; exact hargs) hf hno hbox hfl hwh harr
end Go.Ab
namespace Go.Ab
variable {P:Program} {A A':Nat→Prop} {m m':OMap} {h h':OFun} {w w':World} {H:Heap} {fr fr':Fr} {a:Act}
def Goes (x:Ctx) (n:Nat) (d:Option Nat) (a:Act) (K:St→Prop) (v:Value) (w':World):Prop:=∃S' A' m',K S'∧Inv x n S' (a.put d v) w' A' m'
theorem qdC:Sub (getO H) H:=fun _ _ hk=>hk
theorem Inv.newW {x:Ctx} {n:Nat} {S:St} (hI:Inv x n S a w A m) {new:List (Option Obj)} (hN:NewW A m (getO S.H) w A' m' (addO (getO S.H) S.H.length new) w'):Inv x n ⟨S.fr,S.H++new⟩ a w' A' m':=by
 rw[←qe0]at hN
 refine⟨hI.moved.trans (hN.moved.mono fun _ _ h=>h.elim),fun b hb =>?_,hN.aok,hN.conc,fun b hb =>?_,fun t=>hN.rep hI.aok (hI.fr t),hI.sz,hI.df⟩
 ·rcases hN.sub b hb with g | g
  ·exact hI.sub b g
  ·exact .inr (.inr (Nat.le_trans hI.moved.size g))
 ·rcases hN.own b hb with g | g
  ·exact hI.own b g
  ·exact .inr (Nat.le_trans hI.moved.size g)
theorem Moved.cut {M M0:Nat→Prop} {w0 w1 w2:World} (h1:Moved M0 w0 w1) (h2:Moved M w1 w2) (hM:∀b,M b→M0 b∨w0.heap.size≤b):Moved M0 w0 w2 :=
 ⟨h2.os.trans h1.os,h2.tape.trans h1.tape,h2.output.trans h1.output,Nat.le_trans h1.size h2.size,fun b hb hn =>
  (h2.block b (Nat.lt_of_lt_of_le hb h1.size) fun hm=>by
   rcases hM b hm with g | g
   ·exact hn g
   ·omega).trans (h1.block b hb hn),fun hd=>Nat.le_trans (h1.drawn hd) (h2.drawn hd)⟩
theorem Inv.turned {x:Ctx} {n:Nat} {S:St} (hI:Inv x n S a w A m) {H':Heap} {fr':Fr} (hT:Turned P A m (getO S.H) w A' m' (getO H') w') (hfr:∀t,RepO A' m' (getO H') w' (slot fr' t) (look x n a t)):Inv x n ⟨fr',H'⟩ a w' A' m' :=
 ⟨hI.moved.cut hT.moved hI.own,fun b hb=>by
  rcases hT.sub b hb with g | g
  ·exact hI.sub b g
  ·exact .inr (.inr (Nat.le_trans hI.moved.size g)),hT.aok,hT.conc,fun b hb=>by
  rcases hT.own b hb with g | g
  ·exact hI.own b g
  ·exact .inr (Nat.le_trans hI.moved.size g),hfr,hI.sz,hI.df⟩
theorem qmY {k:Nat} (hk:H.length≤k):getO H k=none:=by
 unfold getO
 rw[List.getElem?_eq_none hk]
 rfl
theorem qmZ {x:Ctx} {n:Nat} {S:St} {o:Oper} {K:St→Prop} {pv:PV} {new:List (Option Obj)} (hd:∀t,o.dst=some t→t<n) (hx:o.op.operands.toList.all (opdLt n)=true) (hI:Inv x n S a w A m) (hp:PreStep P S.fr S.H S.H.length o.op pv new) (hK:K ⟨put S.fr o.dst pv,S.H++new⟩) :
  qa2 P o a w (Goes x n o.dst a K):=by
 refine qfM (qfR (qev (qbS hx) hp) A m (getO S.H) w a hI.aok hI.conc qdC hI.opnd fun i _=>qmY (by omega)) fun v w' ⟨A',m',hN,hr⟩ =>?_
 refine⟨_,A',m',hK,?_⟩
 have:=hI.newW hN
 refine this.val (S:=⟨S.fr,S.H++new⟩) hd ?_
 show RepO A' m' (getO (S.H++new)) w' pv v
 rw[qe0]
 exact hr
def qfS (P:Program) (op:Op) (d:Option Nat) (S:St) (K:St→Prop):Prop :=
 ∃y xs ts f caps,op = .call { callee := .value y,args:=xs,argTypes:=ts }∧okv S.fr y∧okvs S.fr xs.toList∧ev S.fr y = .fn f caps ∧
  qdV P f (xs.toList.map (ev S.fr)++caps) S.fr S.H fun pv fr' H'=>K ⟨put fr' d pv,H'⟩
theorem qm0 {q:Bool} {y:Operand} {ts:Array TypeId} {as:Array Operand} {d:Option Nat} {S:St} {K:St→Prop} {f:FuncId} {caps:List PV} (hy:okv S.fr y) (hxs:okvs S.fr as.toList) (hev:ev S.fr y = .fn f caps)
  (h:CallX P q f (as.toList.map (ev S.fr)++caps) d S K) :
  (∃pv new,PreStep P S.fr S.H S.H.length (.call { callee := .value y,args:=as,argTypes:=ts }) pv new∧K ⟨put S.fr d pv,S.H++new⟩) ∨
   (q=false∧qfS P (.call { callee := .value y,args:=as,argTypes:=ts }) d S K):=by
 rcases h with ⟨hok,res,Hout,hf,hfl,hwh,harr,hK⟩ | ⟨hq,hc⟩
 ·simp only[Bool.and_eq_true]at hok
  obtain⟨hno,hbox⟩:=hok
  refine .inl ⟨_,_,?_,hK⟩
  have:=PreStep.call (P:=P) (fr:=S.fr) (H:=S.H) (k0:=S.H.length) (ts:=ts) hy hxs hev rfl hf hno hbox hfl hwh harr
  simpa using this
 ·exact .inr ⟨hq,y,as,ts,f,caps,rfl,hy,hxs,hev,hc⟩
def qg4:Op→Bool
 | .store _ _ _=>true
 | .call c=>match c.callee with
  | .builtin .append | .builtin .copy | .builtin .clear | .builtin .cap=>true
  | _=>false
 | _=>false
def qg5 (P:Program) (op:Op) (d:Option Nat) (S:St) (K:St→Prop):Prop :=
 (∃b t x y u,op = .binOp b t x y u∧nilOp b y=true∧okv S.fr x∧(elemT P t).isSome=true∧nilX S.H (ev S.fr x) fun b=>K ⟨put S.fr d (.bool b),S.H⟩) ∨
 (∃b t x y u,op = .binOp b t x y u∧errOp b y=true∧okv S.fr x∧qdW P t=true∧errX b (ev S.fr x) fun b=>K ⟨put S.fr d (.bool b),S.H⟩)
theorem qiT {q:Bool} {op:Op} {d:Option Nat} {S:St} {K:St→Prop} (he:qg4 op=false) (h:aEx P q op d S K) :
  (∃pv new,PreStep P S.fr S.H S.H.length op pv new∧K ⟨put S.fr d pv,S.H++new⟩)∨(q=false∧(qfS P op d S K∨qg5 P op d S K)):=by
 have quiet:∀ {op:Op},vok P S.fr S.H op∧K ⟨put S.fr d (vop P S.fr S.H op),S.H⟩→(∃pv new,PreStep P S.fr S.H S.H.length op pv new∧K ⟨put S.fr d pv,S.H++new⟩)∨(q=false∧(qfS P op d S K∨qg5 P op d S K)):=fun {op} h =>
  .inl ⟨_,[], .quiet h.1,by rw[List.append_nil]; exact h.2⟩
 cases op<;>first | exact quiet h | skip
 case convert s t x =>
  obtain⟨hx,h⟩:=h
  unfold convX at h
  split at h
  ·rename_i k n hev
   obtain⟨h1,h2⟩:=h
   cases hk:kindT P t with
   | none=>rw[hk]at h2; exact h2.elim
   | some k' =>
    rw[hk]at h2
    have hq:vok P S.fr S.H (.convert s t x):=by simp only[vok,hev,hk]; exact⟨hx,h1,rfl⟩
    have hp:=PreStep.quiet (k0:=S.H.length) hq
    simp only[vop,hev,hk]at hp
    exact .inl ⟨_,_,hp,by rw[List.append_nil]; exact h2⟩
  ·rename_i l hev
   obtain⟨h1,h2⟩:=h
   cases he:elemT P t with
   | none =>
    rw[he]at h2
    have hq:vok P S.fr S.H (.convert s t x):=by simp only[vok,hev]; exact⟨hx,h1,h2.1⟩
    have hp:=PreStep.quiet (k0:=S.H.length) hq
    simp only[vop,hev]at hp
    exact .inl ⟨_,_,hp,by rw[List.append_nil]; exact h2.2⟩
   | some e =>
    rw[he]at h2
    obtain⟨h2,h3⟩:=h2
    cases hcv:isCv (slot S.fr cvS) with
    | false =>
     rw[hcv]at h3
     exact .inl ⟨_,_, .bytes hx hev h1 he h2,by rw[List.append_nil]; exact h3⟩
    | true =>
     rw[hcv]at h3
     simp only[cond_true,List.length_map]at h3
     exact .inl ⟨_,_, .bytesO hx hev h1 he h2,h3⟩
  ·rename_i hn1 hn2
   obtain⟨⟨e,h1,h2⟩,h3,h4,h5,h6⟩:=h
   exact .inl ⟨_,_, .text hx (fun l hl=>hn2 l hl) h1 h2 h3 h4 h5,by rw[List.append_nil]; exact h6⟩
 case binOp b t x y u =>
  simp only[aEx]at h
  cases hn:nilOp b y with
  | false =>
   rw[hn]at h
   cases hr:errOp b y with
   | false =>
    rw[hr]at h
    exact quiet h
   | true =>
    rw[hr]at h
    exact .inr ⟨h.1, .inr (.inr ⟨b,t,x,y,u,rfl,hr,h.2.1,h.2.2.1,h.2.2.2⟩)⟩
  | true =>
   rw[hn]at h
   exact .inr ⟨h.1, .inr (.inl ⟨b,t,x,y,u,rfl,hn,h.2.1,h.2.2.1,h.2.2.2⟩)⟩
 case alloc t=>obtain⟨cs,h1,h2,h3⟩:=h; exact .inl ⟨_,_, .alloc h1 h2,h3⟩
 case box t x=>obtain⟨h1,h2,h3⟩:=h; exact .inl ⟨_,_, .box h1 h2,h3⟩
 case store=>cases he
 case buildSlice t n ps =>
  obtain⟨e,h1,h2,h3,h4,h5,h6,h7⟩:=h
  have hp:=PreStep.buildSlice (P:=P) (fr:=S.fr) (H:=S.H) (k0:=S.H.length) (t:=t) (n:=n) (ps:=ps.toList) h1 h2 (by simpa using h3) h4 h5 h6
  rw[Array.toArray_toList]at hp
  refine .inl ⟨_,_,hp,?_⟩
  cases hn:n==0 with
  | true=>rw[hn]at h7; simpa using h7
  | false=>rw[hn]at h7; exact h7
 case makeSlice t l c =>
  obtain⟨e,zs,h1,h2,h3,h4,h5,h6,h7,h8,h9,h10,h11,h12,h13,h14,h15⟩:=h
  cases hz:zs.any qfD with
  | false =>
   rw[hz]at h15
   exact .inl ⟨_,_, .makeSlice h1 h3 h4 h5 h6 h7 h8 h9 h10 h11 h12 h13 h14,h15⟩
  | true =>
   rw[hz]at h15
   rcases h15 with h15 | h15
   ·exact .inl ⟨_,_, .makeB h1 h3 h4 h5 h6 h7 h8 h9 h10 h11 h12 h13 h14,h15⟩
   ·exact .inl ⟨_,_, .makeSlice h1 h3 h4 h5 h6 h7 h8 h9 h10 h11 h12 h13 h14,h15⟩
 case call c =>
  obtain⟨callee,as,ts⟩:=c
  cases callee with
  | value y =>
   simp only[aEx]at h
   obtain⟨hy,hxs,h⟩:=h
   cases hev:ev S.fr y<;>simp only[hev]at h
   case fn f caps=>exact (qm0 hy hxs hev h).imp id fun h=>⟨h.1, .inl h.2⟩
  | builtin b =>
   cases b<;>first | exact quiet h | (cases he)
  | _=>exact quiet h
theorem qiU {op:Op} {d:Option Nat} {S:St} {K:St→Prop} (he:∀t p x,op ≠ .store t p x) (h:aEx P true op d S K):∃pv new,PreStep P S.fr S.H S.H.length op pv new∧K ⟨put S.fr d pv,S.H++new⟩:=by
 cases ht:qg4 op with
 | false =>
  rcases qiT ht h with h | ⟨hq,_⟩
  ·exact h
  ·cases hq
 | true =>
  cases op<;>try (cases ht; done)
  case store t p x=>exact absurd rfl (he t p x)
  case call c =>
   obtain⟨callee,as,ts⟩:=c
   cases callee with
   | builtin b =>
    cases b<;>try (cases ht; done)
    case append =>
     simp only[aEx]at h
     split at h
     ·rename_i e1; cases e1
     ·rename_i s y t t' e1 e2 e3
      have e2':as = #[s,y]:=by rw[←Array.toList_inj]; exact e2
      have e3':ts = #[t,t']:=by rw[←Array.toList_inj]; exact e3
      subst e2'
      subst e3'
      obtain⟨h2,h3,hk⟩:=h
      unfold qdw at hk
      split at hk
      ·obtain⟨h1,e,h4,h5,h6,h7,h8,hX⟩:=hk
       cases hes:ev S.fr s<;>simp only[hes]at hX
       case nils=>exact⟨_,_, .append h1 h2 h3 hes h4 h5 h6 h7 h8 hX.1 hX.2.1,hX.2.2⟩
       case sf k z=>cases hX.1
       case so k z lo len=>cases hX.1
      ·split at hk
       ·cases hk.1
       ·exact hk.elim
     ·rename_i e1 _ _; cases e1
     ·rename_i e1 _ _; cases e1
     ·rename_i e1 _ _; cases e1
     ·exact h.1.elim
    case copy =>
     simp only[aEx]at h
     split at h
     ·rename_i e1; cases e1
     ·rename_i e1 _ _; cases e1
     ·cases h.2.2.1
     ·rename_i e1 _ _; cases e1
     ·rename_i e1 _ _; cases e1
     ·exact h.1.elim
    case clear =>
     simp only[aEx]at h
     split at h
     ·rename_i e1; cases e1
     ·rename_i e1 _ _; cases e1
     ·rename_i e1 _ _; cases e1
     ·cases h.2.1
     ·rename_i e1 _ _; cases e1
     ·exact h.1.elim
    case cap =>
     simp only[aEx]at h
     split at h
     ·rename_i e1; cases e1
     ·rename_i e1 _ _; cases e1
     ·rename_i e1 _ _; cases e1
     ·rename_i e1 _ _; cases e1
     ·cases h.1
     ·exact h.1.elim
   | _=>cases ht
theorem qm1 {x:Ctx} {n:Nat} {S:St} {o:Oper} {K:St→Prop} (hd:∀t,o.dst=some t→t<n) (hx:o.op.operands.toList.all (opdLt n)=true) (hI:Inv x n S a w A m) (hc:qfS P o.op o.dst S K):qa2 P o a w (Goes x n o.dst a K):=by
 obtain⟨y,as,ts,f,caps,ho,hy,hxs,hev,hc⟩:=hc
 have hO:=hI.opnd
 have hg:Agree S.fr (cutF n S.fr) (y::as.toList):=by
  refine (qbS hx).sub fun z hz =>?_
  rw[ho]
  simpa[Op.operands,Call.operands]using hz
 have hry:=hO.ev (x:=y) (by rw[hg.ok (by simp)]; exact hy)
 rw[hg.ev (by simp),hev]at hry
 obtain⟨us,hus,hul,hrep⟩:=hry.fnI
 have hargs:=qfH hO as.toList (hg.oks (fun z hz=>by simp[hz]) hxs)
 rw[hg.evs (fun z hz=>by simp[hz])]at hargs
 refine qfO (xs:=as.toList) (ts:=ts) (by rw[ho,Array.toArray_toList]) hus ?_
 refine (hc A m w ((as.toList.map a.eval).toArray++us) hI.aok hI.conc (by simp[hul]) fun i p hp =>?_).mono fun e w' ⟨v,A',m',pv,fr',H',hK,he,hcame,hslots⟩=>⟨v,he,?_⟩
 ·rw[List.getElem?_append]at hp
  split at hp
  ·rename_i hlt
   have:=hargs i p hp
   rw[List.length_map]at hlt
   have hlt':i<(as.toList.map a.eval).toArray.size:=by simpa using hlt
   rw[Array.getD_eq_getD_getElem?,Array.getElem?_append,if_pos hlt',←Array.getD_eq_getD_getElem?]
   exact this
  ·rename_i hlt
   have:=hrep _ p hp
   rw[List.length_map]at hlt this
   have hlt':¬i<(as.toList.map a.eval).toArray.size:=by simpa using hlt
   have hsz:(as.toList.map a.eval).toArray.size=as.toList.length:=by simp
   rw[Array.getD_eq_getD_getElem?,Array.getElem?_append,if_neg hlt',hsz,←Array.getD_eq_getD_getElem?]
   exact this
 ·refine⟨_,A',m',hK,?_⟩
  have hI':Inv x n ⟨fr',H'⟩ a w' A' m':=⟨hI.moved.cut hcame.moved hI.own,fun b hb=>by
   rcases hcame.sub b hb with g | g | g
   ·exact hI.sub b g
   ·exact .inr (hI.own b g)
   ·exact .inr (.inr (Nat.le_trans hI.moved.size g)),hcame.aok,hcame.conc,fun b hb=>by
   rcases hcame.own b hb with g | g
   ·exact hI.own b g
   ·exact .inr (Nat.le_trans hI.moved.size g),fun t=>hslots t _ (hI.fr t),hI.sz,hI.df⟩
  exact hI'.val (S:=⟨fr',H'⟩) hd hcame.rep
theorem qm2 {o:Oper} {R:Value→World→Prop} {w':World} (hr:(execOp a.eval o).run P w = .ok .skip w') (h:R undef w'):qa2 P o a w R:=fun K Q hK=>by
 unfold Oper.wp
 rw[hr]
 exact hK undef w' h
theorem qm3 {x:Ctx} {n:Nat} {S:St} {o:Oper} {K:St→Prop} {t:TypeId} {p y:Operand} (ho:o.op = .store t p y) (hd:o.dst=none) (hx:o.op.operands.toList.all (opdLt n)=true) (hI:Inv x n S a w A m) (hp:okv S.fr p) (hy:okv S.fr y) (hX:qeW P t (ev S.fr p) (ev S.fr y) S K) :
  qa2 P o a w (Goes x n o.dst a K):=by
 have hO:=hI.opnd
 have hg:Agree S.fr (cutF n S.fr) [p,y]:=by
  refine (qbS hx).sub fun z hz =>?_
  rw[ho]
  simpa[Op.operands]using hz
 have h1:=hO.ev (x:=p) (by rw[hg.ok (by simp)]; exact hp)
 have h2:=hO.ev (x:=y) (by rw[hg.ok (by simp)]; exact hy)
 rw[hg.ev (by simp)]at h1 h2
 obtain⟨w',h',H',hrun,hK,hg,hT,hsh⟩:=qmK (P:=P) hI.conc hI.aok (fun _=>rfl) h1 h2 rfl hX
 obtain rfl:getO H'=h':=funext hg
 refine qm2 (w':=w') ?_ ⟨_,A,m,hK,?_⟩
 ·simp only[execOp,ho,Sem.run_bind,hrun,Result.andThen_ok]
  rfl
 ·rw[hd]
  exact hI.turned hT fun t=>(hI.fr t).mono hT.subA (fun b hb=>hT.keepA b hb) hsh
theorem qe6 {k t:Nat}:∀ {fr:Fr},slot (qcB k fr) t=scrubV k (slot fr t)
 | []=>rfl
 | (i,p)::r=>by
  simp only[qcB,slot]
  cases i==t with
  | true=>rfl
  | false=>exact qe6 (fr:=r)
end Go.Ab
namespace Go.Ab
variable {P:Program} {A A':Nat→Prop} {m m':OMap} {h h':OFun} {w w':World} {H:Heap} {fr fr':Fr} {a:Act}
theorem qm4 {x:Ctx} {n:Nat} {S:St} {o:Oper} {K:St→Prop} {s y:Operand} {t t':TypeId} (ho:o.op = .call { callee := .builtin .append,args := #[s,y],argTypes := #[t,t'] }) (hd:∀d,o.dst=some d→d<n) (hx:o.op.operands.toList.all (opdLt n)=true)
  (hI:Inv x n S a w A m) (hs:okv S.fr s) (hy:okv S.fr y) {q:Bool} (hK0:qdw P (kindT P t') q t t' o.dst (ev S.fr s) (ev S.fr y) S K):qa2 P o a w (Goes x n o.dst a K):=by
 have hO:=hI.opnd
 have hg:Agree S.fr (cutF n S.fr) [s,y]:=by
  refine (qbS hx).sub fun z hz =>?_
  rw[ho]
  simpa[Op.operands,Call.operands]using hz
 have hrs:=hO.ev (x:=s) (by rw[hg.ok (by simp)]; exact hs)
 have hry:=hO.ev (x:=y) (by rw[hg.ok (by simp)]; exact hy)
 rw[hg.ev (by simp)]at hrs hry
 cases hkt:kindT P t' with
 | some kn =>
  rw[hkt]at hK0
  simp only[qdw]at hK0
  cases hev:ev S.fr y<;>simp only[hev]at hK0
  case int ky N =>
   obtain⟨_,hN0,hN63,e,zs,he,hz,hzs,hzl,hno,hone,hX⟩:=hK0
   rw[hev]at hry
   have hyv:=hry.int
   obtain⟨M,rfl⟩:∃M:Nat,N=(M:Int):=⟨N.toNat,by omega⟩
   simp only[Int.toNat_natCast]at hX
   obtain⟨i,zv,hi,hiz,hsz,hby,hvs,hzc⟩:=qiP (P:=P) hzs hzl hno hone
   have hht:=qaK he
   have htn:=qeX hkt
   have fin:∀(base:Option Addr) (sLen sCap:Nat) (olds:List Value) (rows0:List (List PV)),a.eval s = .slice base sLen sCap→(Builtin.firstCells i.size sLen (.slice base sLen sCap)).run P w.drew = .ok olds.toArray w.drew→sCap<sLen+M →
     sLen+M≤9223372036854775807→(sLen+M)*qay P e≤140737488355328→rows0.length=sLen→olds.length=rows0.length*sizeT P e→(∀(i:Nat) (r:List PV),rows0[i]?=some r→r.length=sizeT P e) →
     (∀(i j:Nat) (r:List PV) (c:PV),rows0[i]?=some r→r[j]?=some c→∃u,olds[i*sizeT P e+j]?=some u∧RepI A w c u) →
     K ⟨put S.fr o.dst (.sf S.H.length (sizeT P e)),S.H++[some (.arr (sizeT P e) (rows0++List.replicate M zs))]⟩→qa2 P o a w (Goes x n o.dst a K):=fun base sLen sCap olds rows0 hsv hold hg' h63 h48 hr0 hol hw0 h0 hK=>by
    obtain⟨z1,z2,z3,z4⟩:=hzc A w M
    have hrun:=qmR (P:=P) (w:=w) (ty:=o.type) (k:=ky) hht htn hi hiz base sLen sCap M (by omega) (by omega) olds hold hg' (by omega) (by rw[hby]; exact h48)
    rw[←hsv,←hyv]at hrun
    have hge:=grownCap_ge w (sLen+M) sCap e
    have hle:=grownCap_le_maxLen w (sLen+M) sCap e (by unfold maxLen; omega)
    generalize grownCap w (sLen+M) sCap e=C at *
    have hC':ConcO A m (getO S.H) w.drew:=hI.conc.same rfl
    have hlen:(rows0++List.replicate M zs).length=sLen+M:=by simp[hr0]
    have hN:=qdz (w:=w.drew) (k:=S.H.length) (o := .arr (sizeT P e) (rows0++List.replicate M zs)) (C:=C) (cells := .cells (olds.toArray++Builtin.zeroCells zv.cells M++Builtin.zeroCells zv.cells (C-(sLen+M))) e) hI.aok.drew hC' (qfI (H:=S.H))
     ⟨fun hb=>Nat.lt_irrefl _ (hI.aok _ hb),by simp,by rw[hlen]; exact hge,hle,fun i' r hr=>by
      rw[List.getElem?_append]at hr
      split at hr
      ·exact hw0 _ r hr
      ·exact z3 _ r hr,_,e,qdg,by
      simp only[Array.size_append,List.size_toArray,size_zeroCells,hvs,hol,hr0,←Nat.add_mul]
      congr 1
      omega,fun i' j r c hr hc=>by
      obtain⟨u,hu,hru⟩:=qiH (tail:=(Builtin.zeroCells zv.cells (C-(sLen+M))).toList) hol h0 z4 hr hc
      refine⟨u,?_,hru.mono (fun _ h=>h) (fun b hb=>(show _=w.heap[b]? from qa7 (w:=w.drew) (hI.aok b hb)))⟩
      rw[←Array.getElem?_toList,Array.toList_append,Array.toList_append]
      exact hu⟩
    have hN':NewW A m (getO S.H) w A (updM m S.H.length (some w.drew.heap.size,C)) (updO (getO S.H) S.H.length (.arr (sizeT P e) (rows0++List.replicate M zs))) (w.drew.alloc (.cells (olds.toArray++Builtin.zeroCells zv.cells M++Builtin.zeroCells zv.cells (C-(sLen+M))) e)) :=
     ⟨⟨rfl,rfl,rfl,hN.moved.size,hN.moved.block,fun hd=>Nat.le_trans (Nat.le_succ _) (hN.moved.drawn hd)⟩,hN.subA,hN.sub,hN.aok,hN.conc,hN.shaped,hN.own⟩
    refine qaW (qe5 ho hrun) ⟨_,A,updM m S.H.length (some w.drew.heap.size,C),hK,?_⟩
    rw[←qb5]at hN'
    have e1:getO (S.H++[some (.arr (sizeT P e) (rows0++List.replicate M zs))])=updO (getO S.H) S.H.length (.arr (sizeT P e) (rows0++List.replicate M zs)):=qgP
    refine (hI.newW hN').val (S:=⟨S.fr,S.H++[some (.arr (sizeT P e) (rows0++List.replicate M zs))]⟩) hd ?_
    simp only[e1]
    have:=RepO.sf (A:=A) (w:=w.drew.alloc (.cells (olds.toArray++Builtin.zeroCells zv.cells M++Builtin.zeroCells zv.cells (C-(sLen+M))) e)) (m:=updM m S.H.length (some w.drew.heap.size,C)) (h:=updO (getO S.H) S.H.length (.arr (sizeT P e) (rows0++List.replicate M zs))) S.H.length (sizeT P e) C w.heap.size
     (rows0++List.replicate M zs) (by simp[updO]) (by simp[updM])
    rw[hlen]at this
    exact this
   have nil_:∀(ao:Option Addr) (cap:Nat),(Builtin.firstCells i.size 0 (.slice ao 0 cap)).run P w.drew = .ok ([]:List Value).toArray w.drew:=fun ao cap=>by
    cases ao with
    | none=>exact run_firstCells_none w.drew i.size 0 0 cap
    | some b=>exact run_firstCells_some w.drew i.size 0 b 0 cap [] (by simp) (by simp)
   cases hes:ev S.fr s<;>simp only[hes]at hX
   case nils =>
    obtain⟨h48,hK⟩:=hX
    rw[hes]at hrs
    obtain⟨ao,hao⟩:=hrs.nilsI
    exact fin ao 0 0 [] [] hao (nil_ ao 0) (by omega) (by omega) (by rw[Nat.zero_add]; exact h48) rfl (by simp) (by simp) (by simp) (by simpa using hK)
   case so k z lo len =>
    obtain⟨rfl,rfl,⟨rows,hk⟩,hlr,h48,h63,hX⟩:=hX
    have hk':getO S.H k=some (.arr (sizeT P e) rows):=by simp[getO,hk]
    rw[qaz hk']at hlr
    have hcp:=hI.fr (capS k)
    cases hsl:slot S.fr (capS k)<;>simp only[hsl]at hX
    case cp k' C =>
     obtain⟨rfl,hlt,hK⟩:=hX
     rw[hsl]at hcp
     rw[qaz hk']at hK
     obtain⟨ob,hmk⟩:∃ob,m k'=some (ob,C):=by
      cases hcp with
      | imm hi=>cases hi
      | cp _ _ ob o' _ _ hm=>exact⟨ob,hm⟩
     rw[hes]at hrs
     obtain⟨rows',ob',C',cap,hk2,hm2,hv⟩:=hrs.soI
     obtain rfl:rows'=rows:=by rw[hk']at hk2; cases hk2; rfl
     rw[hmk]at hm2
     cases hm2
     have hlt':(rows'.take len).length=len:=by rw[List.length_take]; omega
     rcases hv with ⟨rfl,ao,hao,h0⟩ | ⟨b,rfl,hao,hlen,hcap⟩
     ·obtain⟨rfl,rfl,rfl⟩:=h0 rfl
      exact fin ao 0 0 [] [] hao (nil_ ao 0) (by omega) (by omega) h48 rfl (by simp) (by simp) (by simp) (by simpa using hK)
     ·obtain⟨g1,g2,g3,g4,g5,cur,ty',hcur,hcs,hcell⟩:=hI.conc.at_arr hk' hmk
      rw[Nat.zero_mul]at hao
      have hle:len*sizeT P e≤cur.size:=by rw[hcs]; exact Nat.mul_le_mul_right _ (by omega)
      have hw1:(cur.toList.take (len*sizeT P e)).length=len*sizeT P e:=by simp only[List.length_take,Array.length_toList]; omega
      have key:∀(i:Nat) (r:List PV),(rows'.take len)[i]?=some r→i<len∧rows'[i]?=some r:=fun i r hr=>by
       rw[List.getElem?_take]at hr
       split at hr
       ·exact⟨by assumption,hr⟩
       ·cases hr
      refine fin (some ⟨b,0,none⟩) len cap (cur.toList.take (len*sizeT P e)) (rows'.take len) hao ?_ (by omega) h63 h48 hlt' (by rw[hw1,hlt']) (fun i r hr=>g5 i r (key i r hr).2) (fun i j r c hr hc =>?_) hK
      ·refine run_firstCells_some w.drew i.size len _ _ _ _ (by rw[hsz]; exact hw1) fun j v hv =>?_
       rw[List.getElem?_take]at hv
       split at hv
       ·rw[Addr.add_lit]
        have:w.drew.heap[b]?=some (.cells cur ty' (0,0)):=hcur
        simp only[World.cell?,Nat.zero_add,this]
        simpa using hv
       ·cases hv
      ·obtain⟨hi',hr'⟩:=key i r hr
       obtain⟨u,hu,hru⟩:=hcell i j r c hr' hc
       have hj:j<sizeT P e:=by rw[←g5 _ r hr']; exact (List.getElem?_eq_some_iff.1 hc).1
       have:=qdA hi' hj
       exact⟨u,by rw[List.getElem?_take,if_pos this]; simpa using hu,hru⟩
 | none =>
  rw[hkt]at hK0
  simp only[qdw]at hK0
  obtain⟨ht,e,he,hz,hzok,hsrc,hone,hX⟩:=hK0
  obtain⟨news,hsr⟩:=qgX (P:=P) qdC hI.conc hz (qiQ ht) hry hsrc hone
  cases hes:ev S.fr s<;>simp only[hes]at hX
  case nils =>
   obtain⟨hb,h63,hK⟩:=hX
   rw[hes]at hrs
   obtain⟨ao,hao⟩:=hrs.nilsI
   obtain⟨v,w',m',hrun,hN,hr⟩:=qiI (ty:=o.type) hI.aok hI.conc (qfI (H:=S.H)) he hzok hsr ao hb h63
   refine qaW (qe5 ho (by rw[hao]; exact hrun)) ⟨_,A,m',hK,?_⟩
   rw[←qb5]at hN hr
   refine (hI.newW hN).val (S:=⟨S.fr,S.H++_⟩) hd ?_
   show RepO A m' (getO (S.H++_)) w' _ v
   rw[qe0]
   exact hr
  case sf k z =>
   obtain⟨_,rfl,⟨rows0,hk⟩,hb,h63,hK⟩:=hX
   have hk':getO S.H k=some (.arr (sizeT P e) rows0):=by simp[getO,hk]
   rw[qaz hk']at hb h63 hK
   rw[hes]at hrs
   obtain⟨v,w',m',hrun,hT,hsh,hr⟩:=qmL (ty:=o.type) hI.aok hI.conc he hzok hk' hrs hsr hb h63
   refine qaW (qe5 ho hrun) ⟨_,A,m',hK,?_⟩
   rw[←qg0 (qb6 hk')]at hT hsh hr
   refine (hI.turned (fr':=qcB k S.fr) hT fun t =>?_).val (S:=⟨qcB k S.fr,_⟩) hd hr
   rw[qe6]
   exact (hI.fr t).scrubV hT.subA (fun b hb=>hT.keepA b hb) hsh
  case so k z lo len =>
   obtain⟨_,rfl,rfl,⟨rows0,hk⟩,hl,hK⟩:=hX
   have hk':getO S.H k=some (.arr (sizeT P e) rows0):=by simp[getO,hk]
   rw[qaz hk']at hl hK
   rw[hes]at hrs
   obtain⟨v,w',hrun,hT,hsh,hr⟩:=qmN (P:=P) (ty:=o.type) hI.aok hI.conc he hz hk' hrs hsr hl
   refine qaW (qe5 ho hrun) ⟨_,A,m,hK,?_⟩
   rw[←qet (qb6 hk')]at hT hsh hr
   exact (hI.turned (fr':=S.fr) hT fun t=>(hI.fr t).mono hT.subA (fun b hb=>hT.keepA b hb) hsh).val (S:=⟨S.fr,_⟩) hd hr
theorem qiV {o:Oper} {s y:Operand} {t t':TypeId} {v:Value} (ho:o.op = .call { callee := .builtin .copy,args := #[s,y],argTypes := #[t,t'] })
  (hrun:(Builtin.copy_ #[t,t'] o.type #[a.eval s,a.eval y]).run P w = .ok v w'):(execOp a.eval o).run P w = .ok (.value v) w':=by
 simp[execOp,ho,resolve,invoke,builtin,hrun]
theorem qm5 {o:Oper} {s:Operand} {t:TypeId} {v:Value} (ho:o.op = .call { callee := .builtin .clear,args := #[s],argTypes := #[t] })
  (hrun:(Builtin.clear_ #[t] o.type #[a.eval s]).run P w = .ok v w'):(execOp a.eval o).run P w = .ok (.value v) w':=by
 simp[execOp,ho,resolve,invoke,builtin,hrun]
theorem qm6 {o:Oper} {s:Operand} {t:TypeId} {v:Value} (ho:o.op = .call { callee := .builtin .cap,args := #[s],argTypes := #[t] })
  (hrun:(Builtin.cap_ #[t] o.type #[a.eval s]).run P w = .ok v w'):(execOp a.eval o).run P w = .ok (.value v) w':=by
 simp[execOp,ho,resolve,invoke,builtin,hrun]
theorem RepO.sf_so {h:OFun} {k z:Nat} {rows:List (List PV)} {v:Value} (hk:h k=some (.arr z rows)) (hr:RepO A m h w (.sf k z) v):RepO A m h w (.so k z 0 rows.length) v∨(rows=[]∧∃ao,v = .slice ao 0 0):=by
 cases hr with
 | imm hi=>cases hi
 | sfN _ _ C ao hk' hm=>rw[hk]at hk'; cases hk'; exact .inr ⟨rfl,ao,rfl⟩
 | sf _ _ C b rows' hk' hm =>
  rw[hk]at hk'
  cases hk'
  have:=RepO.so (A:=A) (m:=m) (h:=h) (w:=w) k z 0 rows.length C C b rows hk hm (by omega) (by omega)
  rw[Nat.zero_mul]at this
  exact .inl this
theorem qm7 {x:Ctx} {n:Nat} {S:St} {o:Oper} {K:St→Prop} {s y:Operand} {t t':TypeId} (ho:o.op = .call { callee := .builtin .copy,args := #[s,y],argTypes := #[t,t'] }) (hd:∀d,o.dst=some d→d<n) (hx:o.op.operands.toList.all (opdLt n)=true)
  (hI:Inv x n S a w A m) (hs:okv S.fr s) (hy:okv S.fr y) {q:Bool} (hX:copyX P q t o.dst (ev S.fr s) (ev S.fr y) S K):qa2 P o a w (Goes x n o.dst a K):=by
 obtain⟨_,e,he,hz,hsrc,hsl,hX⟩:=hX
 have hO:=hI.opnd
 have hg:Agree S.fr (cutF n S.fr) [s,y]:=by
  refine (qbS hx).sub fun z hz =>?_
  rw[ho]
  simpa[Op.operands,Call.operands]using hz
 have hrs:=hO.ev (x:=s) (by rw[hg.ok (by simp)]; exact hs)
 have hry:=hO.ev (x:=y) (by rw[hg.ok (by simp)]; exact hy)
 rw[hg.ev (by simp)]at hrs hry
 have part:∀(k lo len:Nat),RepO A m (getO S.H) w (.so k (sizeT P e) lo len) (a.eval s)→qfB o.dst k (sizeT P e) lo len (qag S.H (ev S.fr y)) S K→qa2 P o a w (Goes x n o.dst a K):=fun k lo len hr ⟨⟨rows0,hk⟩,hl,h1,hK⟩=>by
  have hk':getO S.H k=some (.arr (sizeT P e) rows0):=by simp[getO,hk]
  rw[qaz hk']at hl hK
  obtain⟨w',hrun,hT,hsh⟩:=qmP (P:=P) (ty:=o.type) (tx:=t') hI.aok hI.conc qdC he hz hk' hr hry hsrc hsl hl h1
  refine qaW (qiV ho hrun) ⟨_,A,m,hK,?_⟩
  rw[←qet (qb6 hk')]at hT hsh
  exact (hI.turned (fr':=S.fr) hT fun t=>(hI.fr t).mono hT.subA (fun b hb=>hT.keepA b hb) hsh).val (S:=⟨S.fr,_⟩) hd (.imm (.int _ _))
 cases hes:ev S.fr s<;>simp only[hes]at hX
 case sf k z =>
  obtain⟨rfl,hX⟩:=hX
  rw[hes]at hrs
  obtain⟨rows0,hk⟩:=hX.1
  have hk':getO S.H k=some (.arr (sizeT P e) rows0):=by simp[getO,hk]
  rcases hrs.sf_so hk' with hr | ⟨rfl,ao,hao⟩
  ·rw[qaz hk']at hX
   exact part k 0 _ hr hX
  ·obtain⟨_,hl,h1,hK⟩:=hX
   rw[qaz hk']at hK
   obtain⟨ao',cap',hyv,hf⟩:=qiL qdC hI.conc he hz hry hsrc hsl
   obtain⟨news,f1,f2,_⟩:=hf 0 (Nat.zero_le _) (by simp[rowsOne])
   have hn0:news=[]:=List.eq_nil_of_length_eq_zero (by rw[f2]; simp)
   subst hn0
   rw[hyv]at f1
   have hrun:=qiM (P:=P) (w:=w) (dT:=t) (sT:=t') (ty:=o.type) he hz ao 0 0 ao' _ cap' (by simp) f1
   rw[←hao,←hyv]at hrun
   refine qaW (qiV ho hrun) ⟨_,A,m,hK,?_⟩
   simp only[List.length_nil,Nat.min_zero,List.take_zero,List.take_nil,List.append_nil,Nat.add_zero,List.drop_nil]
   have hset:getO (S.H.set k (some (.arr (sizeT P e) [])))=getO S.H:=by rw[qet (qb6 hk'),qiK hk']
   have hI':Inv x n ⟨S.fr,S.H.set k (some (.arr (sizeT P e) []))⟩ a w A m:=⟨hI.moved,hI.sub,hI.aok,by show ConcO A m (getO _) w; rw[hset]; exact hI.conc,by show ∀b,OwnB m (getO _) b→_; rw[hset]; exact hI.own,by show ∀t,RepO A m (getO _) w _ _; rw[hset]; exact hI.fr,hI.sz,hI.df⟩
   exact hI'.val (S:=⟨S.fr,_⟩) hd (.imm (.int _ _))
 case so k z lo len =>
  obtain⟨rfl,hX⟩:=hX
  rw[hes]at hrs
  exact part k lo len hrs hX
theorem qm8 {x:Ctx} {n:Nat} {S:St} {o:Oper} {K:St→Prop} {s:Operand} {t:TypeId} (ho:o.op = .call { callee := .builtin .clear,args := #[s],argTypes := #[t] }) (hd:∀d,o.dst=some d→d<n) (hx:o.op.operands.toList.all (opdLt n)=true)
  (hI:Inv x n S a w A m) (hs:okv S.fr s) {q:Bool} (hX:qfC P q t o.dst (ev S.fr s) S K):qa2 P o a w (Goes x n o.dst a K):=by
 obtain⟨_,e,zs,he,hz,hzs,hzl,hno,hone,hX⟩:=hX
 have hO:=hI.opnd
 have hg:Agree S.fr (cutF n S.fr) [s]:=by
  refine (qbS hx).sub fun z hz =>?_
  rw[ho]
  simpa[Op.operands,Call.operands]using hz
 have hrs:=hO.ev (x:=s) (by rw[hg.ok (by simp)]; exact hs)
 rw[hg.ev (by simp)]at hrs
 cases hes:ev S.fr s<;>simp only[hes]at hX
 case so k z lo len =>
  obtain⟨rfl,⟨rows0,hk⟩,hl,hK⟩:=hX
  have hk':getO S.H k=some (.arr (sizeT P e) rows0):=by simp[getO,hk]
  rw[qaz hk']at hl hK
  rw[hes]at hrs
  obtain⟨w',hrun,hT,hsh⟩:=qmQ (P:=P) (ty:=o.type) hI.aok hI.conc he hzs hzl hno hone hk' hrs hl
  refine qaW (qm5 ho hrun) ⟨_,A,m,hK,?_⟩
  rw[←qet (qb6 hk')]at hT hsh
  exact (hI.turned (fr':=S.fr) hT fun t=>(hI.fr t).mono hT.subA (fun b hb=>hT.keepA b hb) hsh).val (S:=⟨S.fr,_⟩) hd (.topI _)
theorem qm9 {x:Ctx} {n:Nat} {S:St} {o:Oper} {K:St→Prop} {s:Operand} {t:TypeId} (ho:o.op = .call { callee := .builtin .cap,args := #[s],argTypes := #[t] }) (hd:∀d,o.dst=some d→d<n) (hx:o.op.operands.toList.all (opdLt n)=true)
  (hI:Inv x n S a w A m) (hs:okv S.fr s) (ht:(elemT P t).isSome=true) (hX:capX S.fr (ev S.fr s) fun C=>K ⟨put S.fr o.dst (.int .i64 C),S.H⟩):qa2 P o a w (Goes x n o.dst a K):=by
 have hO:=hI.opnd
 have hg:Agree S.fr (cutF n S.fr) [s]:=by
  refine (qbS hx).sub fun z hz =>?_
  rw[ho]
  simpa[Op.operands,Call.operands]using hz
 have hrs:=hO.ev (x:=s) (by rw[hg.ok (by simp)]; exact hs)
 rw[hg.ev (by simp)]at hrs
 obtain⟨e,he⟩:=Option.isSome_iff_exists.1 ht
 have fin:∀(ao:Option Addr) (l C:Nat),a.eval s = .slice ao l C→K ⟨put S.fr o.dst (.int .i64 C),S.H⟩→qa2 P o a w (Goes x n o.dst a K):=fun ao l C hv hK=>by
  refine qaW (v := .int .i64 C) (w':=w) (qm6 ho ?_) ⟨_,A,m,hK,hI.val (S:=S) hd (.imm (.int _ _))⟩
  simp[Builtin.cap_,run_underlying (qaK he),hv,goInt]
 have cpI:∀ {k C:Nat},slot S.fr (capS k) = .cp k C→∃ob,m k=some (ob,C):=fun {k C} hsl=>by
  have hcp:=hI.fr (capS k)
  rw[hsl]at hcp
  cases hcp with
  | imm hi=>cases hi
  | cp _ _ ob o' _ _ hm=>exact⟨ob,hm⟩
 cases hes:ev S.fr s<;>simp only[hes,capX]at hX
 case nils =>
  rw[hes]at hrs
  obtain⟨ao,hao⟩:=hrs.nilsI
  exact fin ao 0 0 hao hX
 case sf k z =>
  cases hsl:slot S.fr (capS k)<;>simp only[hsl]at hX
  case cp k' C =>
   obtain⟨rfl,hK⟩:=hX
   obtain⟨ob,hm⟩:=cpI hsl
   rw[hes]at hrs
   generalize hv:a.eval s=v at hrs
   cases hrs with
   | imm hi=>cases hi
   | sfN _ _ C' ao hk' hm' =>
    rw[hm]at hm'
    cases hm'
    obtain⟨_,rfl⟩:=hI.conc.at_none hk' hm
    exact fin _ _ _ hv hK
   | sf _ _ C' b rows hk' hm' =>
    rw[hm]at hm'
    cases hm'
    exact fin _ _ _ hv hK
 case so k z lo len =>
  cases hsl:slot S.fr (capS k)<;>simp only[hsl]at hX
  case cp k' C =>
   obtain⟨rfl,rfl,hK⟩:=hX
   obtain⟨ob,hm⟩:=cpI hsl
   rw[hes]at hrs
   obtain⟨rows,ob',C',cap,hk',hm',hv⟩:=hrs.soI
   rw[hm]at hm'
   cases hm'
   rcases hv with ⟨rfl,ao,hao,h0⟩ | ⟨b,rfl,hao,hlen,hcap⟩
   ·obtain⟨rfl,rfl,rfl⟩:=h0 rfl
    obtain⟨_,rfl⟩:=hI.conc.at_none hk' hm
    exact fin _ _ _ hao hK
   ·obtain rfl:cap=C:=by omega
    exact fin _ _ _ hao hK
def opOk (n:Nat) (o:Oper):Bool :=
 (match o.dst with
  | some d=>decide (d<n)
  | none=>true)&&o.op.operands.toList.all (opdLt n) &&
 (match o.op with
  | .store _ _ _=>o.dst==none
  | .select _ _=>false
  | _=>true)
theorem qcm {n:Nat} {o:Oper} (h:opOk n o=true) (d:Nat) (hd:o.dst=some d):d<n:=by
 simp only[opOk,hd,Bool.and_eq_true,decide_eq_true_eq]at h
 exact h.1.1
theorem qcD {n:Nat} {o:Oper} (h:opOk n o=true):o.op.operands.toList.all (opdLt n)=true:=by
 simp only[opOk,Bool.and_eq_true]at h
 exact h.1.2
theorem qna {n:Nat} {o:Oper} (h:opOk n o=true) {t:TypeId} {p x:Operand} (ho:o.op = .store t p x):o.dst=none:=by
 simp only[opOk,ho,Bool.and_eq_true,beq_iff_eq]at h
 exact h.2
theorem qnb (h:OFun) {p:PV} {v:Value} (hs:Sub h H) (hr:RepO A m h w p v) {K:Bool→Prop} (hX:nilX H p K):∃ao l c,v = .slice ao l c∧K ao.isNone:=by
 have both:∀(ao:Option Addr),(ao.isNone=true→K true)→K false→K ao.isNone:=fun ao h1 h2=>by
  cases hb:ao.isNone with
  | true=>exact h1 hb
  | false=>exact h2
 cases p<;>simp only[nilX]at hX
 case nils =>
  obtain⟨ao,rfl⟩:=hr.nilsI
  exact⟨ao,0,0,rfl,both ao (fun _=>hX.1) hX.2⟩
 case sl z rows =>
  cases hr with
  | imm hi =>
   cases hi with
   | slE _ ao cap=>exact⟨ao,0,cap,rfl,both ao (fun _=>hX.1 rfl) hX.2⟩
   | sl _ _ b o cap u hA hc hzz hu hh=>exact⟨_,_,_,rfl,hX.2⟩
 case sf k z =>
  cases hr with
  | imm hi=>cases hi
  | sfN _ _ C ao hk' hm=>exact⟨ao,0,0,rfl,both ao (fun _=>hX.2.1 (qaz (hs _ _ hk'))) hX.2.2⟩
  | sf _ _ C b rows hk' hm=>exact⟨_,_,_,rfl,hX.2.2⟩
 case sb k z n =>
  cases hr with
  | imm hi=>cases hi
  | sb=>exact⟨_,_,_,rfl,hX⟩
theorem qnc (w:World) (d:Nat) (t e:TypeId) (ht:P.underlying t=some (.slice e)) (ao:Option Addr) (l c l' c':Nat):(Op.equalIn (d+1) t (.slice ao l c) (.slice none l' c')).run P w = .ok ao.isNone w:=by
 cases ao<;>simp[Op.equalIn,run_underlying ht]
theorem qnd {t:TypeId} (h:qdW P t=true):∃ms,P.underlying t=some (.interface ms):=by
 unfold qdW at h
 split at h
 ·exact⟨_,by assumption⟩
 ·cases h
theorem qiW (w:World) (d:Nat) (t t':TypeId) (ms:Array (String×TypeId)) (ht:P.underlying t=some (.interface ms)) (v:Value):(Op.equalIn (d+1) t (.iface t' v) .nilIface).run P w = .ok false w:=by simp[Op.equalIn,run_underlying ht]
theorem qiX (w:World) (d:Nat) (t:TypeId) (ms:Array (String×TypeId)) (ht:P.underlying t=some (.interface ms)):(Op.equalIn (d+1) t .nilIface .nilIface).run P w = .ok true w:=by simp[Op.equalIn,run_underlying ht]
theorem qne {x:Ctx} {n:Nat} {S:St} {o:Oper} {K:St→Prop} (hd:∀t,o.dst=some t→t<n) (hx:o.op.operands.toList.all (opdLt n)=true) (hI:Inv x n S a w A m)
  (hc:∃b t x y u,o.op = .binOp b t x y u∧errOp b y=true∧okv S.fr x∧qdW P t=true∧errX b (ev S.fr x) fun b=>K ⟨put S.fr o.dst (.bool b),S.H⟩):qa2 P o a w (Goes x n o.dst a K):=by
 obtain⟨b,t,y,z,u,ho,hn,hy,ht,hX⟩:=hc
 have hg:Agree S.fr (cutF n S.fr) [y,z]:=by
  refine (qbS hx).sub fun q hq =>?_
  rw[ho]
  simpa[Op.operands]using hq
 have h1:=hI.opnd.ev (x:=y) (by rw[hg.ok (by simp)]; exact hy)
 rw[hg.ev (by simp)]at h1
 obtain⟨ms,hms⟩:=qnd ht
 have hz:(b = .eql∨b = .neq)∧z = .const .nilIface:=by
  unfold errOp at hn
  split at hn
  ·exact⟨.inl rfl,rfl⟩
  ·exact⟨.inr rfl,rfl⟩
  ·cases hn
 obtain⟨hb,rfl⟩:=hz
 have e2:a.eval (.const .nilIface) = .nilIface:=rfl
 cases hev:ev S.fr y with
 | err c =>
  rw[hev]at h1 hX
  have hv:(c=true∧∃t v,a.eval y = .iface t v)∨(c=false∧a.eval y = .nilIface):=by
   cases h1 with
   | imm hi =>
    generalize a.eval y=q at hi
    cases hi with
    | errT t v=>exact .inl ⟨rfl,t,v,rfl⟩
    | errF=>exact .inr ⟨rfl,rfl⟩
  rcases hb with rfl | rfl
  ·refine qaW (v := .bool (!c)) (w':=w) ?_ ⟨_,A,m,hX,hI.val (S:=S) hd (.imm (.bool _))⟩
   rcases hv with ⟨rfl,t',v,hv⟩ | ⟨rfl,hv⟩<;>simp[execOp,ho,hv,e2,eqGuard,binOp,Op.equal,Op.maxDepth,qiW w _ t _ ms hms,qiX w _ t ms hms]
  ·refine qaW (v := .bool c) (w':=w) ?_ ⟨_,A,m,hX,hI.val (S:=S) hd (.imm (.bool _))⟩
   rcases hv with ⟨rfl,t',v,hv⟩ | ⟨rfl,hv⟩<;>simp[execOp,ho,hv,e2,eqGuard,binOp,Op.equal,Op.maxDepth,qiW w _ t _ ms hms,qiX w _ t ms hms]
 | _=>rw[hev]at hX; rcases hb with rfl | rfl<;>exact hX.elim
theorem qnf {x:Ctx} {n:Nat} {S:St} {o:Oper} {K:St→Prop} (hd:∀t,o.dst=some t→t<n) (hx:o.op.operands.toList.all (opdLt n)=true) (hI:Inv x n S a w A m) (hc:qg5 P o.op o.dst S K):qa2 P o a w (Goes x n o.dst a K):=by
 rcases hc with hc | hc
 rotate_left
 ·exact qne hd hx hI hc
 obtain⟨b,t,y,z,u,ho,hn,hy,ht,hX⟩:=hc
 have hg:Agree S.fr (cutF n S.fr) [y,z]:=by
  refine (qbS hx).sub fun q hq =>?_
  rw[ho]
  simpa[Op.operands]using hq
 have h1:=hI.opnd.ev (x:=y) (by rw[hg.ok (by simp)]; exact hy)
 rw[hg.ev (by simp)]at h1
 obtain⟨ao,l,c,hv,hK⟩:=qnb (getO S.H) qdC h1 hX
 obtain⟨e,he⟩:=Option.isSome_iff_exists.1 ht
 have hsl:=qaK he
 have hz:b = .eql∧∃l' c',z = .const (.slice none l' c'):=by
  unfold nilOp at hn
  split at hn
  ·exact⟨rfl,_,_,rfl⟩
  ·cases hn
 obtain⟨rfl,l',c',rfl⟩:=hz
 refine qaW (v := .bool ao.isNone) (w':=w) ?_ ⟨_,A,m,hK,hI.val (S:=S) hd (.imm (.bool _))⟩
 have e2:a.eval (.const (.slice none l' c')) = .slice none l' c':=rfl
 simp[execOp,ho,hv,e2,eqGuard,binOp,Op.equal,Op.maxDepth,qnc w _ t e hsl]
theorem qew {x:Ctx} {n:Nat} {S:St} {o:Oper} {K:St→Prop} {q:Bool} (hok:opOk n o=true) (hI:Inv x n S a w A m) (hX:aEx P q o.op o.dst S K):qa2 P o a w (Goes x n o.dst a K):=by
 have hd:=qcm hok
 cases he:qg4 o.op with
 | false =>
  rcases qiT he hX with ⟨pv,new,hp,hK⟩ | ⟨_,hc | hc⟩
  ·exact qmZ hd (qcD hok) hI hp hK
  ·exact qm1 hd (qcD hok) hI hc
  ·exact qnf hd (qcD hok) hI hc
 | true =>
  cases ho:o.op<;>rw[ho]at he<;>try (cases he; done)
  case store t p y =>
   rw[ho]at hX
   exact qm3 ho (qna hok ho) (qcD hok) hI hX.1 hX.2.1 hX.2.2
  case call c =>
   obtain⟨callee,as,ts⟩:=c
   cases callee with
   | builtin b =>
    cases b<;>try (cases he; done)
    case append =>
     rw[ho]at hX
     simp only[aEx]at hX
     split at hX
     ·rename_i e1; cases e1
     ·rename_i s y t t' e1 e2 e3
      have e2':as = #[s,y]:=by rw[←Array.toList_inj]; exact e2
      have e3':ts = #[t,t']:=by rw[←Array.toList_inj]; exact e3
      subst e2'
      subst e3'
      exact qm4 ho hd (qcD hok) hI hX.1 hX.2.1 hX.2.2
     ·rename_i e1 _ _; cases e1
     ·rename_i e1 _ _; cases e1
     ·rename_i e1 _ _; cases e1
     ·exact hX.1.elim
    case copy =>
     rw[ho]at hX
     simp only[aEx]at hX
     split at hX
     ·rename_i e1; cases e1
     ·rename_i e1 _ _; cases e1
     ·rename_i s y t t' e1 e2 e3
      have e2':as = #[s,y]:=by rw[←Array.toList_inj]; exact e2
      have e3':ts = #[t,t']:=by rw[←Array.toList_inj]; exact e3
      subst e2'
      subst e3'
      exact qm7 ho hd (qcD hok) hI hX.1 hX.2.1 hX.2.2
     ·rename_i e1 _ _; cases e1
     ·rename_i e1 _ _; cases e1
     ·exact hX.1.elim
    case clear =>
     rw[ho]at hX
     simp only[aEx]at hX
     split at hX
     ·rename_i e1; cases e1
     ·rename_i e1 _ _; cases e1
     ·rename_i e1 _ _; cases e1
     ·rename_i s t e1 e2 e3
      have e2':as = #[s]:=by rw[←Array.toList_inj]; exact e2
      have e3':ts = #[t]:=by rw[←Array.toList_inj]; exact e3
      subst e2'
      subst e3'
      exact qm8 ho hd (qcD hok) hI hX.1 hX.2
     ·rename_i e1 _ _; cases e1
     ·exact hX.1.elim
    case cap =>
     rw[ho]at hX
     simp only[aEx]at hX
     split at hX
     ·rename_i e1; cases e1
     ·rename_i e1 _ _; cases e1
     ·rename_i e1 _ _; cases e1
     ·rename_i e1 _ _; cases e1
     ·rename_i s t e1 e2 e3
      have e2':as = #[s]:=by rw[←Array.toList_inj]; exact e2
      have e3':ts = #[t]:=by rw[←Array.toList_inj]; exact e3
      subst e2'
      subst e3'
      exact qm9 ho hd (qcD hok) hI hX.2.1 hX.2.2.1 hX.2.2.2
     ·exact hX.1.elim
    all_goals (rw[ho]at hX; exact hX.1.elim)
   | _=>cases he
theorem qiY {k:Nat} {p:PV} (hw:whole 0 p=true):shift k p=p:=by
 have A:∀c,qcA 0 c=true→qdv k c=c:=fun c hc=>by
  cases c with
  | sf k z=>simp[qcA]at hc
  | _=>rfl
 have B:∀c,qde 0 c=true→qdU k c=c:=fun c hc=>by
  cases c with
  | agg ds =>
   simp only[qde,List.all_eq_true]at hc
   simp only[qdU]
   congr 1
   exact (List.map_congr_left fun c h=>A c (hc c h)).trans (List.map_id _)
  | sf k z=>simp[qde,qcA]at hc
  | _=>rfl
 cases p with
 | tup cs =>
  simp only[whole,List.all_eq_true]at hw
  simp only[shift]
  congr 1
  exact (List.map_congr_left fun c h=>B c (hw c h)).trans (List.map_id _)
 | agg ds=>exact B (.agg ds) hw
 | sf k z=>simp[whole,qde,qcA]at hw
 | _=>rfl
theorem qg6 {q c:Bool} {op:Op} {d:Option Nat} {S:St} {K:St→Prop} (h:aGd P q c op d S K):(∃pv,(c=true→PreStep P S.fr S.H S.H.length op pv [])∧K ⟨put S.fr d (.opt c pv),S.H⟩)∨(c=true∧q=false∧aEx P q op d S K):=by
 have quiet:∀ {op:Op},(c=true→vok P S.fr S.H op)∧K ⟨put S.fr d (.opt c (vop P S.fr S.H op)),S.H⟩→(∃pv,(c=true→PreStep P S.fr S.H S.H.length op pv [])∧K ⟨put S.fr d (.opt c pv),S.H⟩)∨(c=true∧q=false∧aEx P q op d S K):=fun {op} h => .inl ⟨_,fun hc => .quiet (h.1 hc),h.2⟩
 cases op<;>first | exact quiet h | skip
 case convert s t x =>
  simp only[aGd]at h
  unfold convG at h
  split at h
  ·rename_i l e hev he
   obtain⟨h1,hK⟩:=h
   exact .inl ⟨_,fun hc => .bytes (h1 hc).1 hev (h1 hc).2.1 he (h1 hc).2.2,hK⟩
  ·exact quiet h
 case call cl =>
  obtain⟨callee,as,ts⟩:=cl
  cases callee<;>first | exact quiet h | skip
  case value y =>
   simp only[aGd]at h
   obtain⟨hok,h⟩:=h
   cases hev:ev S.fr y<;>simp only[hev]at h
   case fn f caps =>
    rcases h with ⟨res,h1,h2,h3,hK⟩ | ⟨hc,hq,hC⟩
    ·refine .inl ⟨res,fun hc =>?_,hK⟩
     obtain⟨q0,q1⟩:=h1 hc
     simp only[Bool.and_eq_true]at q0
     obtain⟨q2,q3⟩:=q0
     have:=PreStep.call (P:=P) (fr:=S.fr) (H:=S.H) (k0:=S.H.length) (ts:=ts) (hok hc).1 (hok hc).2 hev rfl q1 q2 q3 (h2.imp id fun h=>⟨h,trivial⟩) h3 rfl
     rw[qiY h3]at this
     simpa using this
    ·refine .inr ⟨hc,hq,?_⟩
     unfold aEx
     dsimp only
     refine⟨(hok hc).1,(hok hc).2,?_⟩
     rw[hev]
     exact .inr ⟨hq,hC⟩
theorem qiZ {c:Bool} {op:Op} {d:Option Nat} {S:St} {K:St→Prop} (h:aGd P true c op d S K):∃pv,(c=true→PreStep P S.fr S.H S.H.length op pv [])∧K ⟨put S.fr d (.opt c pv),S.H⟩:=by
 rcases qg6 h with h | ⟨_,h,_⟩
 ·exact h
 ·cases h
theorem qi0 {x:Ctx} {n:Nat} {S:St} {all:List Oper} (hI:Inv x n S a w A m) (hall:all.all (opOk n)=true) {o:Oper} {j:Nat} {want:Bool} (ho:o.guard=some (j,want)) {K:Bool→Prop} (hg:qcC all S.fr j want K) :
  ∃c,Region.wanted o (yielded all.toArray a.tmps)=c∧K c:=by
 have dst:∀(l:List Oper) (j:Nat),dstAt l j=(l[j]?).bind (·.dst):=by
  intro l
  induction l with
  | nil=>intro j; rfl
  | cons o r ih =>
   intro j
   cases j with
   | zero=>rfl
   | succ j=>simpa[dstAt]using ih j
 unfold qcC at hg
 cases hd:dstAt all j with
 | none=>rw[hd]at hg; exact hg.elim
 | some d =>
  rw[hd]at hg
  simp only[gD]at hg
  rw[dst]at hd
  have hdn:d<n:=by
   cases hoj:all[j]? with
   | none=>rw[hoj]at hd; cases hd
   | some oj =>
    rw[hoj]at hd
    exact qcm (List.all_eq_true.1 hall oj (List.mem_of_getElem? hoj)) d hd
  have hy:yielded all.toArray a.tmps j=match a.tmps.getD d undef with
    | .bool b=>some b
    | _=>none:=by
   unfold yielded
   have hlt:d<a.tmps.size:=by rw[hI.sz]; exact hdn
   simp only[List.getElem?_toArray,hd,Option.bind_some,Array.getElem?_eq_getElem hlt,Array.getD_eq_getD_getElem?,Option.getD_some]
   split<;>simp_all
  have hr:=hI.fr d
  rw[qb3 hdn]at hr
  simp only[Region.wanted,ho,hy]
  generalize a.tmps.getD d undef=gv at hr
  unfold gK at hg
  split at hg
  ·rename_i b hs
   rw[hs]at hr
   rw[hr.bool]
   refine⟨b==want,?_,hg⟩
   cases b<;>cases want<;>rfl
  ·rename_i c b hs
   rw[hs]at hr
   cases hr with
   | imm hi=>cases hi
   | optT _ _ hh =>
    rw[hh.bool]
    refine⟨b==want,?_,hg⟩
    cases b<;>cases want<;>rfl
   | optF _=>exact⟨false,rfl,hg⟩
  ·exact hg.elim
theorem qcW {x:Ctx} {n:Nat} {all:List Oper} {Q:Exit→Act→World→Prop} {K:St→Prop} (hall:all.all (opOk n)=true) (hQ:∀S' a' w' A' m',K S'→Inv x n S' a' w' A' m'→Q .normal a' w') :
  ∀(ops:List Oper) (q:Bool) (S:St) (a:Act) (w:World) (A:Nat→Prop) (m:OMap),ops.all (opOk n)=true→Inv x n S a w A m→aOps P q all ops S K→wpList P all.toArray Q ops a w
 | [],_,S,a,w,A,m,_,hI,h=>hQ S a w A m h hI
 | o::r,q,S,a,w,A,m,hok,hI,h=>by
  simp only[List.all_cons,Bool.and_eq_true]at hok
  unfold wpList
  cases hg:o.guard with
  | none =>
   simp only[aOps,hg]at h
   rw[if_pos (by simp[Region.wanted,hg])]
   cases hmk:q&&markB S.fr o.op with
   | true =>
    rw[hmk,cond_true]at h
    refine .inl (qew hok.1 hI h.2 _ _ fun v w' ⟨S',A',m',hK,hI'⟩ =>?_)
    exact qcW hall hQ r _ S' _ w' A' m' hok.2 hI' hK
   | false =>
    rw[hmk,cond_false]at h
    refine .inl (qew hok.1 hI h _ _ fun v w' ⟨S',A',m',hK,hI'⟩ =>?_)
    exact qcW hall hQ r _ S' _ w' A' m' hok.2 hI' hK
  | some g =>
   obtain⟨j,want⟩:=g
   simp only[aOps,hg]at h
   obtain⟨c,hw,hc⟩:=qi0 hI hall hg h
   rcases qg6 hc with ⟨pv,hp,hK⟩ | ⟨hc1,hq,hE⟩
   rotate_left
   ·subst hc1
    rw[if_pos hw]
    refine .inl (qew hok.1 hI hE _ _ fun v w' ⟨S',A',m',hK,hI'⟩ =>?_)
    exact qcW hall hQ r _ S' _ w' A' m' hok.2 hI' hK
   cases c with
   | true =>
    rw[if_pos hw]
    refine .inl (qfM (qfR (qev (qbS (qcD hok.1)) (hp rfl)) A m (getO S.H) w a hI.aok hI.conc qdC hI.opnd fun i hi=>absurd hi (by simp)) (fun v w' hR=>hR) _ _ fun v w' ⟨A',m',hN,hr⟩ =>?_)
    have:=hI.newW hN
    rw[List.append_nil]at this
    rw[qb4]at hr
    exact qcW hall hQ r _ _ _ w' A' m' hok.2 (this.val (S:=S) (qcm hok.1) (.optT _ _ hr)) hK
   | false =>
    rw[if_neg (by rw[hw]; decide)]
    exact qcW hall hQ r _ _ _ w A m hok.2 (hI.val (qcm hok.1) (.optF _)) hK
end Go.Ab
namespace Go.Ab
variable {P:Program} {A A':Nat→Prop} {m m':OMap} {h h':OFun} {w w':World} {H:Heap} {fr fr':Fr} {a:Act}
def qdh (P:Program) (all:List Oper) (o:Oper) (S:St) (pv:PV) (new:List (Option Obj)):Prop :=
 match o.guard with
 | none=>PreStep P S.fr S.H S.H.length o.op pv new
 | some (j,want)=>∃c pv',qcC all S.fr j want (fun b=>b=c)∧pv = .opt c pv'∧new=[]∧(c=true→PreStep P S.fr S.H S.H.length o.op pv' [])
structure Lex (P:Program) (all pre:List Oper) (S:St) (σ:Nat→St) (pv:Nat→PV) (new:Nat→List (Option Obj)):Prop where
 zero:σ 0=S
 succ:∀i o,pre[i]?=some o→σ (i+1)=⟨put (σ i).fr o.dst (pv i),(σ i).H++new i⟩
 step:∀i o,pre[i]?=some o→qdh P all o (σ i) (pv i) (new i)
theorem qi1 {all:List Oper} {j:Nat} {want:Bool} {K:Bool→Prop} (h:qcC all fr j want K):∃c,qcC all fr j want (fun b=>b=c)∧K c:=by
 unfold qcC gD at *
 cases hd:dstAt all j with
 | none=>rw[hd]at h; exact h.elim
 | some d =>
  rw[hd]at h
  simp only at h ⊢
  unfold gK at *
  split at h
  ·exact⟨_,rfl,h⟩
  ·exact⟨_,rfl,h⟩
  ·exact h.elim
theorem qi2 {all:List Oper} {K:St→Prop}:∀(pre tail:List Oper) (S:St),(∀o∈pre,isEff all o.op=false)→aOps P true all (pre++tail) S K →
  ∃pre' post σ pv new,pre=pre'++post∧Lex P all pre' S σ pv new∧aOps P true all (post++tail) (σ pre'.length) K∧(post=[]∨qdX all (all.length-(post++tail).length)=true)
 | [],tail,S,_,h=>⟨[],[],fun _=>S,fun _ => .top,fun _=>[],rfl,⟨rfl,fun i o hi=>by simp at hi,fun i o hi=>by simp at hi⟩,h, .inl rfl⟩
 | o::r,tail,S,he,h=>by
  by_cases hmk:o.guard=none∧markB S.fr o.op=true
  ·refine⟨[],o::r,fun _=>S,fun _ => .top,fun _=>[],rfl,⟨rfl,fun i o hi=>by simp at hi,fun i o hi=>by simp at hi⟩,h, .inr ?_⟩
   simp only[List.cons_append,aOps,hmk.1,hmk.2,Bool.and_true,cond_true]at h
   have:=h.1
   rwa [show (o::r++tail).length=(r++tail).length+1 by simp]
  have one:∃pv new,qdh P all o S pv new∧aOps P true all (r++tail) ⟨put S.fr o.dst pv,S.H++new⟩ K:=by
   simp only[List.cons_append,aOps]at h
   cases hg:o.guard with
   | none =>
    have hm:markB S.fr o.op=false:=by simpa[hg]using hmk
    simp only[hg,hm,he o (by simp),Bool.not_false,Bool.and_true,Bool.and_false,cond_false]at h
    obtain⟨pv,new,hp,hK⟩:=qiU (fun t p x e=>by
     have:=he o (by simp)
     rw[e]at this
     cases this) h
    exact⟨pv,new,by simp only[qdh,hg]; exact hp,hK⟩
   | some g =>
    obtain⟨j,want⟩:=g
    simp only[hg]at h
    obtain⟨c,hc,hK⟩:=qi1 h
    obtain⟨pv,hp,hK⟩:=qiZ hK
    exact⟨.opt c pv,[],by unfold qdh; rw[hg]; exact⟨c,pv,hc,rfl,rfl,hp⟩,by rw[List.append_nil]; exact hK⟩
  obtain⟨pv0,new0,hst,hrest⟩:=one
  obtain⟨pre',post,σ,pv,new,hsp,hL,hK,hd⟩:=qi2 r tail _ (fun o ho=>he o (by simp[ho])) hrest
  refine⟨o::pre',post,fun i=>match i with | 0=>S | i+1=>σ i,fun i=>match i with | 0=>pv0 | i+1=>pv i,fun i=>match i with | 0=>new0 | i+1=>new i,by rw[hsp]; rfl,⟨rfl,fun i o' hi =>?_,fun i o' hi =>?_⟩,hK,hd⟩
  ·cases i with
   | zero=>cases hi; exact hL.zero
   | succ i=>exact hL.succ i o' (by simpa using hi)
  ·cases i with
   | zero=>cases hi; exact hst
   | succ i=>exact hL.step i o' (by simpa using hi)
section lex
variable {all pre:List Oper} {S:St} {σ:Nat→St} {pv:Nat→PV} {new:Nat→List (Option Obj)}
theorem Lex.len_succ (hL:Lex P all pre S σ pv new) {i:Nat} (hi:i<pre.length):(σ (i+1)).H.length=(σ i).H.length+(new i).length:=by
 rw[hL.succ i _ (List.getElem?_eq_getElem hi)]
 simp
theorem Lex.len_mono (hL:Lex P all pre S σ pv new) {i:Nat}:∀(j:Nat),i≤j→j≤pre.length→(σ i).H.length≤(σ j).H.length
 | 0,h,_=>by
   have:i=0:=by omega
   subst this; exact Nat.le_refl _
 | j+1,h,hj=>by
  by_cases e:i=j+1
  ·subst e; exact Nat.le_refl _
  ·have h1:=Lex.len_mono hL (i:=i) j (by omega) (by omega)
   have h2:=hL.len_succ (i:=j) (by omega)
   omega
theorem qi3 {new:List (Option Obj)} {k:Nat} (hk:k<H.length):getO (H++new) k=getO H k:=by
 unfold getO
 rw[List.getElem?_append_left hk]
theorem Lex.obj (hL:Lex P all pre S σ pv new) {i k:Nat} (hk:k<(σ i).H.length):∀(j:Nat),i≤j→j≤pre.length→getO (σ j).H k=getO (σ i).H k
 | 0,h,_=>by
   have:i=0:=by omega
   subst this; rfl
 | j+1,h,hj=>by
  by_cases e:i=j+1
  ·subst e; rfl
  ·have h1:=Lex.obj hL hk j (by omega) (by omega)
   have h2:=hL.len_mono (i:=i) j (by omega) (by omega)
   rw[hL.succ j _ (List.getElem?_eq_getElem (by omega))]
   exact (qi3 (by omega)).trans h1
theorem Lex.slot (hL:Lex P all pre S σ pv new) (t:Nat):∀(j:Nat),j≤pre.length→(∃i,i<j∧dstI pre i=some t∧slot (σ j).fr t=pv i∧∀i',i<i'→i'<j→dstI pre i'≠some t)∨((∀i,i<j→dstI pre i≠some t)∧slot (σ j).fr t=slot S.fr t)
 | 0,_ => .inr ⟨by omega,by rw[hL.zero]⟩
 | j+1,hj=>by
  have ho:pre[j]?=some pre[j]:=List.getElem?_eq_getElem (by omega)
  rw[hL.succ j _ ho]
  cases hd:pre[j].dst with
  | none =>
   have hdj:dstI pre j=none:=by simp[dstI,ho,hd]
   simp only[put]
   rcases hL.slot t j (by omega) with ⟨i,h1,h2,h3,h4⟩ | ⟨h1,h2⟩
   ·refine .inl ⟨i,by omega,h2,h3,fun i' g1 g2 =>?_⟩
    by_cases e:i'=j
    ·subst e; rw[hdj]; simp
    ·exact h4 i' g1 (by omega)
   ·refine .inr ⟨fun i hi =>?_,h2⟩
    by_cases e:i=j
    ·subst e; rw[hdj]; simp
    ·exact h1 i (by omega)
  | some d =>
   have hdj:dstI pre j=some d:=by simp[dstI,ho,hd]
   rw[qfJ]
   by_cases e:t=d
   ·subst e
    rw[if_pos rfl]
    exact .inl ⟨j,by omega,hdj,rfl,fun i' g1 g2=>by omega⟩
   ·rw[if_neg e]
    have hne:dstI pre j≠some t:=fun h=>e (by rw[hdj]at h; exact (Option.some.inj h).symm)
    rcases hL.slot t j (by omega) with ⟨i,h1,h2,h3,h4⟩ | ⟨h1,h2⟩
    ·refine .inl ⟨i,by omega,h2,h3,fun i' g1 g2 =>?_⟩
     by_cases e:i'=j
     ·subst e; exact hne
     ·exact h4 i' g1 (by omega)
    ·refine .inr ⟨fun i hi =>?_,h2⟩
     by_cases e:i=j
     ·subst e; exact hne
     ·exact h1 i (by omega)
noncomputable def hE (pre:List Oper) (σ:Nat→St) (E:Nat→Prop) (b:Nat):OFun:=fun k =>
 haveI:=Classical.propDecidable (k<b∧(k<(σ 0).H.length∨∃i,i<pre.length∧E i∧(σ i).H.length≤k∧k<(σ (i+1)).H.length))
 if k<b∧(k<(σ 0).H.length∨∃i,i<pre.length∧E i∧(σ i).H.length≤k∧k<(σ (i+1)).H.length) then getO (σ pre.length).H k else none
theorem qaQ {E:Nat→Prop} {b k:Nat} {o:Obj}:hE pre σ E b k=some o↔(k<b∧(k<(σ 0).H.length∨∃i,i<pre.length∧E i∧(σ i).H.length≤k∧k<(σ (i+1)).H.length))∧getO (σ pre.length).H k=some o:=by
 unfold hE
 split
 ·rename_i hc; exact⟨fun h=>⟨hc,h⟩,fun h=>h.2⟩
 ·rename_i hc; exact⟨fun h=>(by cases h),fun h=>absurd h.1 hc⟩
theorem qex {E:Nat→Prop} {b b':Nat} (hb:b≤b'):Shaped none m (hE pre σ E b) m (hE pre σ E b'):=fun k o _ hk=>by
 obtain⟨⟨h1,h2⟩,h3⟩:=qaQ.1 hk
 exact⟨rfl,o,qaQ.2 ⟨⟨by omega,h2⟩,h3⟩,qaD.refl o⟩
structure DInv (x:Ctx) (n:Nat) (pre:List Oper) (S:St) (σ:Nat→St) (pv:Nat→PV) (E:Nat→Prop) (a:Act) (w:World) (A:Nat→Prop) (m:OMap):Prop where
 moved:Moved x.M0 x.w0 w
 sub:∀b,A b→x.A0 b∨x.M0 b∨x.w0.heap.size≤b
 aok:AOk A w
 conc:∀i,i≤pre.length→ConcO A m (hE pre σ E (σ i).H.length) w
 own:∀b,OwnB m (hE pre σ E (σ pre.length).H.length) b→x.M0 b∨x.w0.heap.size≤b
 val:∀i d,i<pre.length→E i→dstI pre i=some d→RepO A m (hE pre σ E (σ (i+1)).H.length) w (pv i) (look x n a d)
 old:∀t,(∀i,i<pre.length→E i→dstI pre i≠some t)→RepO A m (hE pre σ E (σ 0).H.length) w (slot S.fr t) (look x n a t)
 sz:a.tmps.size=n
 df:a.defers=[]
theorem qg7 (hL:Lex P all pre S σ pv new) {i:Nat} (hi:i≤pre.length):hE pre σ (fun _=>False) (σ i).H.length=getO S.H:=by
 funext k
 cases hk:getO S.H k with
 | none =>
  cases hk':hE pre σ (fun _=>False) (σ i).H.length k with
  | none=>rfl
  | some o =>
   obtain⟨⟨h1,h2⟩,h3⟩:=qaQ.1 hk'
   have h2:k<(σ 0).H.length:=h2.elim id fun ⟨_,_,h,_⟩=>h.elim
   rw[hL.obj h2 pre.length (Nat.zero_le _) (Nat.le_refl _),hL.zero,hk]at h3
   cases h3
 | some o =>
  have hlt:=qb6 hk
  have h0:k<(σ 0).H.length:=by rw[hL.zero]; exact hlt
  have hle:=hL.len_mono i (Nat.zero_le _) hi
  refine qaQ.2 ⟨⟨by omega, .inl h0⟩,?_⟩
  rw[hL.obj h0 pre.length (Nat.zero_le _) (Nat.le_refl _),hL.zero,hk]
theorem qi4 (hL:Lex P all pre S σ pv new) {x:Ctx} {n:Nat} (hI:Inv x n S a w A m):DInv x n pre S σ pv (fun _=>False) a w A m:=by
 refine⟨hI.moved,hI.sub,hI.aok,fun i hi=>by rw[qg7 hL hi]; exact hI.conc,by rw[qg7 hL (Nat.le_refl _)]; exact hI.own,fun _ _ _ h=>h.elim,fun t _=>by rw[qg7 hL (Nat.zero_le _)]; exact hI.fr t,hI.sz,hI.df⟩
theorem qng (hL:Lex P all pre S σ pv new) {E:Nat→Prop} (hE':∀i,i<pre.length→E i) {j:Nat} (hj:j≤pre.length):hE pre σ E (σ j).H.length=getO (σ j).H:=by
 have cover:∀(j:Nat),j≤pre.length→∀k,k<(σ j).H.length→k<(σ 0).H.length∨∃i,i<pre.length∧E i∧(σ i).H.length≤k∧k<(σ (i+1)).H.length:=by
  intro j
  induction j with
  | zero=>exact fun _ k hk => .inl hk
  | succ j ih =>
   intro hj k hk
   by_cases h:k<(σ j).H.length
   ·exact ih (by omega) k h
   ·exact .inr ⟨j,by omega,hE' j (by omega),by omega,hk⟩
 funext k
 cases hk:getO (σ j).H k with
 | none =>
  cases hk':hE pre σ E (σ j).H.length k with
  | none=>rfl
  | some o =>
   obtain⟨⟨h1,_⟩,h3⟩:=qaQ.1 hk'
   rw[hL.obj h1 pre.length hj (Nat.le_refl _),hk]at h3
   cases h3
 | some o =>
  have hlt:=qb6 hk
  refine qaQ.2 ⟨⟨hlt,cover j hj k hlt⟩,?_⟩
  rw[hL.obj hlt pre.length hj (Nat.le_refl _),hk]
theorem qi5 (hL:Lex P all pre S σ pv new) {x:Ctx} {n:Nat} {E:Nat→Prop} (hE':∀i,i<pre.length→E i) (hD:DInv x n pre S σ pv E a w A m):Inv x n (σ pre.length) a w A m:=by
 have e:=qng hL hE' (Nat.le_refl _)
 refine⟨hD.moved,hD.sub,hD.aok,by rw[←e]; exact hD.conc _ (Nat.le_refl _),by rw[←e]; exact hD.own,fun t =>?_,hD.sz,hD.df⟩
 rw[←e]
 rcases hL.slot t pre.length (Nat.le_refl _) with ⟨i,h1,h2,h3,_⟩ | ⟨h1,h2⟩
 ·rw[h3]
  exact (hD.val i t h1 (hE' i h1) h2).mono (fun _ h=>h) (fun _ _=>rfl) (qex (hL.len_mono _ (by omega) (Nat.le_refl _)))
 ·rw[h2]
  exact (hD.old t fun i hi _=>h1 i hi).mono (fun _ h=>h) (fun _ _=>rfl) (qex (hL.len_mono _ (by omega) (Nat.le_refl _)))
theorem qey (hL:Lex P all pre S σ pv new) {x:Ctx} {n:Nat} {E:Nat→Prop} (hD:DInv x n pre S σ pv E a w A m) {j:Nat} (hj:j<pre.length) (hjE:¬E j) (hdst:∀d,dstI pre j=some d→d<n)
  (huniq:∀i d,i<pre.length→i≠j→dstI pre i=some d→dstI pre j≠some d) {v:Value}
  (hN:NewW A m (hE pre σ E (σ j).H.length) w A' m' (addO (hE pre σ E (σ j).H.length) (σ j).H.length (new j)) w') (hr:RepO A' m' (addO (hE pre σ E (σ j).H.length) (σ j).H.length (new j)) w' (pv j) v) :
  ∃m'',DInv x n pre S σ pv (fun i=>E i∨i=j) (a.put (dstI pre j) v) w' A' m'':=by
 have hlen:=hL.len_succ hj
 have ho:pre[j]?=some pre[j]:=List.getElem?_eq_getElem hj
 have hmono:=fun {i j:Nat} (h:i≤j) (h':j≤pre.length)=>hL.len_mono (i:=i) j h h'

 have hadd:addO (hE pre σ E (σ j).H.length) (σ j).H.length (new j)=hE pre σ (fun i=>E i∨i=j) (σ (j+1)).H.length:=by
  funext k
  simp only[addO]
  by_cases hk:(σ j).H.length≤k∧k<(σ j).H.length+(new j).length
  ·rw[if_pos hk]
   have h1:getO (σ pre.length).H k=((new j)[k-(σ j).H.length]?).getD none:=by
    rw[hL.obj (i:=j+1) (by omega) pre.length (by omega) (Nat.le_refl _),hL.succ j _ ho,qe0]
    simp only[addO]
    rw[if_pos hk]
   cases hq:((new j)[k-(σ j).H.length]?).getD none with
   | none =>
    cases hk':hE pre σ (fun i=>E i∨i=j) (σ (j+1)).H.length k with
    | none=>rfl
    | some o =>
     have:=(qaQ.1 hk').2
     rw[h1,hq]at this
     cases this
   | some o=>exact (qaQ.2 ⟨⟨by omega, .inr ⟨j,hj, .inr rfl,by omega,by omega⟩⟩,by rw[h1,hq]⟩).symm
  ·rw[if_neg hk]
   cases hq:hE pre σ E (σ j).H.length k with
   | none =>
    cases hk':hE pre σ (fun i=>E i∨i=j) (σ (j+1)).H.length k with
    | none=>rfl
    | some o =>
     obtain⟨⟨h1,h2⟩,h3⟩:=qaQ.1 hk'
     have:hE pre σ E (σ j).H.length k=some o:=qaQ.2 ⟨⟨by omega,h2.imp id fun ⟨i,g1,g2,g3,g4⟩=>⟨i,g1,g2.resolve_right fun e=>by subst e; omega,g3,g4⟩⟩,h3⟩
     rw[hq]at this
     cases this
   | some o =>
    obtain⟨⟨h1,h2⟩,h3⟩:=qaQ.1 hq
    exact (qaQ.2 ⟨⟨by omega,h2.imp id fun ⟨i,g1,g2,g3,g4⟩=>⟨i,g1, .inl g2,g3,g4⟩⟩,h3⟩).symm
 rw[hadd]at hN hr

 have apart:∀b k o,hE pre σ E b k=some o→¬((σ j).H.length≤k∧k<(σ (j+1)).H.length):=fun b k o hk ⟨g1,g2⟩=>by
  obtain⟨⟨_,h2⟩,_⟩:=qaQ.1 hk
  rcases h2 with h2 | ⟨i,q1,q2,q3,q4⟩
  ·have:=hmono (Nat.zero_le j) (by omega)
   omega
  ·rcases Nat.lt_trichotomy i j with h | h | h
   ·have:=hmono (show i+1≤j by omega) (by omega)
    omega
   ·subst h; exact hjE q2
   ·have:=hmono (show j+1≤i by omega) (by omega)
    omega
 have back:∀b k o,hE pre σ (fun i=>E i∨i=j) b k=some o→(((σ j).H.length≤k∧k<(σ (j+1)).H.length)∧hE pre σ (fun i=>E i∨i=j) (σ (j+1)).H.length k=some o)∨(¬((σ j).H.length≤k∧k<(σ (j+1)).H.length)∧hE pre σ E b k=some o):=fun b k o hk=>by
  obtain⟨⟨h1,h2⟩,h3⟩:=qaQ.1 hk
  by_cases hin:(σ j).H.length≤k∧k<(σ (j+1)).H.length
  ·exact .inl ⟨hin,qaQ.2 ⟨⟨hin.2,h2⟩,h3⟩⟩
  ·refine .inr ⟨hin,qaQ.2 ⟨⟨h1,h2.imp id fun ⟨i,g1,g2,g3,g4⟩=>⟨i,g1,g2.resolve_right fun e =>?_,g3,g4⟩⟩,h3⟩⟩
   subst e
   exact hin ⟨g3,g4⟩
 have keep:∀b k o,hE pre σ E b k=some o→hE pre σ (fun i=>E i∨i=j) b k=some o:=fun b k o hk=>by
  obtain⟨⟨h1,h2⟩,h3⟩:=qaQ.1 hk
  exact qaQ.2 ⟨⟨h1,h2.imp id fun ⟨i,g1,g2,g3,g4⟩=>⟨i,g1, .inl g2,g3,g4⟩⟩,h3⟩
 let m'':OMap:=fun k=>if (σ j).H.length≤k∧k<(σ (j+1)).H.length then m' k else m k
 have min:∀ {k},((σ j).H.length≤k∧k<(σ (j+1)).H.length)→m'' k=m' k:=fun {k} hk=>if_pos hk
 have mout:∀ {k},¬((σ j).H.length≤k∧k<(σ (j+1)).H.length)→m'' k=m k:=fun {k} hk=>if_neg hk

 have sh1:∀b,Shaped none m (hE pre σ E b) m'' (hE pre σ (fun i=>E i∨i=j) b):=fun b k o _ hk=>⟨mout (apart b k o hk),o,keep b k o hk,qaD.refl o⟩
 have sh2:∀b,(σ (j+1)).H.length≤b→Shaped none m' (hE pre σ (fun i=>E i∨i=j) (σ (j+1)).H.length) m'' (hE pre σ (fun i=>E i∨i=j) b):=fun b hb k o _ hk=>by
  refine⟨?_,o,?_,qaD.refl o⟩
  ·rcases back _ k o hk with ⟨g,_⟩ | ⟨g,hk'⟩
   ·exact min g
   ·have hk2:hE pre σ E (σ j).H.length k=some o:=by
     obtain⟨⟨h1,h2⟩,h3⟩:=qaQ.1 hk'
     exact qaQ.2 ⟨⟨by omega,h2⟩,h3⟩
    rw[mout g,(hN.shaped k o (by simp) hk2).1]
  ·obtain⟨⟨h1,h2⟩,h3⟩:=qaQ.1 hk
   exact qaQ.2 ⟨⟨by omega,h2⟩,h3⟩
 have hkeepA:∀b,A b→w'.heap[b]?=w.heap[b]?:=fun b hb=>hN.block (hD.aok b hb)
 have hfresh:∀k o b C,((σ j).H.length≤k∧k<(σ (j+1)).H.length)→hE pre σ (fun i=>E i∨i=j) (σ (j+1)).H.length k=some o→m' k=some (some b,C)→w.heap.size≤b:=fun k o b C hin hk hm=>by
  rcases hN.own b ⟨k,o,C,hk,hm⟩ with ⟨k2,o2,C2,hk2,hm2⟩ | h
  ·obtain⟨e1,o2',hk2',_⟩:=hN.shaped k2 o2 (by simp) hk2
   have:=hN.conc.inj k k2 o o2' b C C2 hk hk2' hm (e1.trans hm2)
   subst this
   have:=(qaQ.1 hk2).1.1
   omega
  ·exact h
 refine⟨m'',⟨?_,fun b hb =>?_,hN.aok,fun i hi=>⟨fun k o hk =>?_,fun k k' o o' b C C' hk hk' hm hm' =>?_⟩,fun b ⟨k,o,C,hk,hm⟩ =>?_,fun i d hi hEi hdi =>?_,fun t ht =>?_,by rw[qis]; exact hD.sz,by rw[qit]; exact hD.df⟩⟩
 ·exact hD.moved.trans (hN.moved.mono fun _ _ h=>h.elim)
 ·rcases hN.sub b hb with g | g
  ·exact hD.sub b g
  ·exact .inr (.inr (Nat.le_trans hD.moved.size g))
 ·rcases back _ k o hk with ⟨hin,hk'⟩ | ⟨hout,hk'⟩
  ·obtain⟨ob,C,hm,hob⟩:=hN.conc.at_ k o hk'
   have hle:(σ (j+1)).H.length≤(σ i).H.length:=by
    rcases Nat.lt_or_ge j i with h | h
    ·exact hmono h hi
    ·have:=hmono h (by omega)
     have:=(qaQ.1 hk).1.1
     omega
   refine⟨ob,C,by rw[min hin]; exact hm,hob.mono (fun _ h=>h) (fun _ _=>rfl) (sh2 _ hle) (Nat.le_refl _) fun b hb=>⟨(hN.conc.lt ⟨k,o,C,hk',by rw[hm,hb]⟩).2,rfl⟩⟩
  ·obtain⟨ob,C,hm,hob⟩:=(hD.conc i hi).at_ k o hk'
   refine⟨ob,C,by rw[mout hout]; exact hm,hob.mono hN.subA hkeepA (sh1 _) hN.moved.size fun b hb =>?_⟩
   have hl:=(hD.conc i hi).lt ⟨k,o,C,hk',by rw[hm,hb]⟩
   refine⟨fun hb' =>?_,hN.block hl.1⟩
   rcases hN.sub b hb' with g | g
   ·exact hl.2 g
   ·omega
 ·rcases back _ k o hk with ⟨g,q⟩ | ⟨g,q⟩<;>rcases back _ k' o' hk' with ⟨g',q'⟩ | ⟨g',q'⟩
  ·rw[min g]at hm
   rw[min g']at hm'
   exact hN.conc.inj k k' o o' b C C' q q' hm hm'
  ·rw[min g]at hm
   rw[mout g']at hm'
   have h1:=hfresh k o b C g q hm
   have h2:=((hD.conc i hi).lt ⟨k',o',C',q',hm'⟩).1
   omega
  ·rw[mout g]at hm
   rw[min g']at hm'
   have h1:=hfresh k' o' b C' g' q' hm'
   have h2:=((hD.conc i hi).lt ⟨k,o,C,q,hm⟩).1
   omega
  ·rw[mout g]at hm
   rw[mout g']at hm'
   exact (hD.conc i hi).inj k k' o o' b C C' q q' hm hm'
 ·rcases back _ k o hk with ⟨g,q⟩ | ⟨g,q⟩
  ·rw[min g]at hm
   exact .inr (Nat.le_trans hD.moved.size (hfresh k o b C g q hm))
  ·rw[mout g]at hm
   exact hD.own b ⟨k,o,C,q,hm⟩
 ·by_cases e:i=j
  ·subst e
   rw[hdi,qfL (fun t ht=>by cases ht; exact hdst d hdi) hD.sz,if_pos rfl]
   exact hr.mono (fun _ h=>h) (fun _ _=>rfl) (sh2 _ (Nat.le_refl _))
  ·have hEi:=hEi.resolve_right e
   have:=(hD.val i d hi hEi hdi).mono hN.subA hkeepA (sh1 _)
   rw[qfL hdst hD.sz,if_neg (huniq i d hi e hdi)]
   exact this
 ·have:=(hD.old t fun i hi hEi=>ht i hi (.inl hEi)).mono hN.subA hkeepA (sh1 _)
  rw[qfL hdst hD.sz,if_neg (ht j hj (.inr rfl))]
  exact this
end lex
end Go.Ab
namespace Go.Ab
variable {P:Program} {A A':Nat→Prop} {m m':OMap} {h h':OFun} {w w':World} {H:Heap} {fr fr':Fr} {a:Act}
inductive Waits (ops:List Oper):Nat→Nat→Prop
 | one {j:Nat} {o:Oper} {e:Edge} (ho:ops[j]?=some o) (he:e∈o.after) (hb:Region.binds .any e=true):Waits ops j e.on
 | more {j i:Nat} {o:Oper} {e:Edge} (ho:ops[j]?=some o) (he:e∈o.after) (hb:Region.binds .any e=true) (hw:Waits ops e.on i):Waits ops j i
theorem qi6 {ops:List Oper} {acc:List Nat} {o:Oper} {j:Nat} (ho:ops[j]?=some o) (hacc:∀j' i,waits acc j' i=true→Waits ops j' i):∀(es:List Edge) (s:Nat),(∀e∈es,e∈o.after)→(∀i,s.testBit i=true→Waits ops j i) →
  ∀i,(es.foldl (fun s e=>if Region.binds .any e then s ||| (1 <<< e.on) ||| acc.getD e.on 0 else s) s).testBit i=true→Waits ops j i
 | [],s,_,hs,i,h=>hs i h
 | e::es,s,hes,hs,i,h=>by
  refine qi6 ho hacc es _ (fun e' he'=>hes e' (by simp[he'])) (fun i hi =>?_) i h
  simp only[]at hi
  split at hi
  ·rename_i hb
   rw[Nat.testBit_or,Nat.testBit_or,Bool.or_eq_true,Bool.or_eq_true]at hi
   rcases hi with (hi | hi) | hi
   ·exact hs i hi
   ·rw[Nat.one_shiftLeft,Nat.testBit_two_pow,decide_eq_true_eq]at hi
    rw[←hi]
    exact .one ho (hes e (by simp)) hb
   ·exact .more ho (hes e (by simp)) hb (hacc _ _ hi)
  ·exact hs i hi
theorem qi7 {ops:List Oper}:∀(r:List Oper) (acc:List Nat),(∀j,r[j]?=ops[acc.length+j]?)→(∀j i,waits acc j i=true→Waits ops j i)→∀j i,waits (ancM r acc) j i=true→Waits ops j i
 | [],_,_,hacc,j,i,h=>hacc j i h
 | o::r,acc,hr,hacc,j,i,h=>by
  have ho:ops[acc.length]?=some o:=by simpa using (hr 0).symm
  refine qi7 r _ (fun j =>?_) (fun j i hj =>?_) j i h
  ·have:=hr (j+1)
   simp only[List.getElem?_cons_succ]at this
   rw[this,List.length_append,List.length_singleton]
   congr 1
   omega
  ·unfold waits at hj
   by_cases h1:j<acc.length
   ·rw[List.getD_eq_getElem?_getD,List.getElem?_append_left h1,←List.getD_eq_getElem?_getD]at hj
    exact hacc j i hj
   ·by_cases h2:j=acc.length
    ·subst h2
     rw[List.getD_eq_getElem?_getD,List.getElem?_append_right (Nat.le_refl _)]at hj
     simp only[Nat.sub_self,List.getElem?_cons_zero,Option.getD_some]at hj
     exact qi6 ho hacc _ _ (fun e he=>by simpa using he) (fun i hi=>by simp at hi) i hj
    ·rw[List.getD_eq_getElem?_getD,List.getElem?_eq_none (by simp; omega)]at hj
     simp at hj
theorem qg8 {ops:List Oper} {j i:Nat} (h:waits (ancM ops []) j i=true):Waits ops j i :=
 qi7 ops [] (by simp) (fun j i h=>by simp[waits]at h) j i h
def qd1 (ops:List Oper) (E:Nat→Prop):Prop:=∀j o,ops[j]?=some o→E j→∀e∈o.after,Region.binds .any e=true→E e.on
theorem Waits.closed {ops:List Oper} {E:Nat→Prop} (hc:qd1 ops E) {j i:Nat} (hw:Waits ops j i) (hj:∀o,ops[j]?=some o→∀e∈o.after,Region.binds .any e=true→E e.on):E i:=by
 induction hw with
 | one ho he hb=>exact hj _ ho _ he hb
 | more ho he hb _ ih=>exact ih fun o' ho' e' he' hb'=>hc _ _ ho' (hj _ ho _ he hb) e' he' hb'
structure DrawB (ops:List Oper) (T:Nat):Prop where
 low:∀j o,ops[j]?=some o→∀e∈o.after,Region.binds .any e=true→e.on<j
 uniq:∀i j d,i<T→j<T→i≠j→dstI ops i=some d→dstI ops j≠some d
 reads:∀i j o d,i<T→j<T→i≠j→ops[j]?=some o→dstI ops i=some d→d∈Oper.looksAt ops.toArray o→if i<j then Waits ops j i else Waits ops i j
structure DrawOk (ops:List Oper) (T:Nat):Prop extends DrawB ops T where
 tail:∀j i,j<ops.length→T≤j→i<j→Waits ops j i∨(i<T∧qdy ops i=true)
theorem qi8 {ops:List Oper} {T:Nat} (hTle:T≤ops.length) (h:qdX ops T=true):DrawOk ops T:=by
 unfold qdX at h
 simp only at h
 have key:∀j o,ops[j]?=some o→_:=fun j o ho=>by
  have:=List.all_eq_true.1 h j (List.mem_range.2 (List.getElem?_eq_some_iff.1 ho).1)
  simp only[ho,Bool.and_eq_true]at this
  exact this
 refine⟨⟨fun j o ho e he hb =>?_,fun i j d hi hj hij hd hd' =>?_,fun i j o d hi hj hij ho hd hl =>?_⟩,fun j i hj hTj hij =>?_⟩
 ·have:=Array.all_eq_true_iff_forall_mem.1 (key j o ho).1.1 e he
  rw[hb]at this
  simpa using this
 ·have ho:ops[j]?=some ops[j]:=List.getElem?_eq_getElem (by omega)
  have:=(key j _ ho).2
  simp only[Bool.or_eq_true,decide_eq_true_eq]at this
  rcases this with h1 | h1
  ·omega
  ·have h2:=List.all_eq_true.1 h1 i (List.mem_range.2 hi)
   simp[hij,hd,hd']at h2
 ·have:=(key j _ ho).2
  simp only[Bool.or_eq_true,decide_eq_true_eq]at this
  rcases this with h1 | h1
  ·omega
  ·have h2:=List.all_eq_true.1 h1 i (List.mem_range.2 hi)
   simp only[hij,decide_false,Bool.false_or,hd,Bool.and_eq_true,Bool.or_eq_true,Bool.not_eq_true']at h2
   have h3:=h2.2.resolve_left (by simpa using hl)
   split at h3
   ·rename_i hlt; rw[if_pos hlt]; exact qg8 h3
   ·rename_i hlt; rw[if_neg hlt]; exact qg8 h3
 ·have ho:ops[j]?=some ops[j]:=List.getElem?_eq_getElem hj
  have:=(key j _ ho).1.2
  simp only[decide_eq_true_eq,Bool.or_eq_true]at this
  rcases this with h1 | h1
  ·omega
  ·have h2:=List.all_eq_true.1 h1 i (List.mem_range.2 hij)
   simp only[Bool.or_eq_true,Bool.and_eq_true,decide_eq_true_eq]at h2
   exact h2.imp qg8 id
def restr (fr:Fr) (ts:List Nat):Fr:=ts.map fun t=>(t,slot fr t)
theorem qfT {ts:List Nat} {t:Nat}:slot (restr fr ts) t=if t∈ts then slot fr t else .top:=by
 induction ts with
 | nil=>rfl
 | cons s r ih =>
  simp only[restr,List.map_cons,slot]
  by_cases e:s=t
  ·subst e; simp
  ·have:(s==t)=false:=by simpa using e
   rw[this,cond_false]
   have ih':slot (List.map (fun t=>(t,slot fr t)) r) t=_:=ih
   rw[ih']
   have e':t≠s:=fun h=>e h.symm
   simp[e']
section lex
variable {ops:List Oper} {S:St} {σ:Nat→St} {pv:Nat→PV} {new:Nat→List (Option Obj)}
theorem qg9 {T j:Nat} (hj:j<T):(ops.take T)[j]?=ops[j]?:=by rw[List.getElem?_take,if_pos hj]
theorem qdD {T j:Nat} (hj:j<T):dstI (ops.take T) j=dstI ops j:=by simp only[dstI,qg9 hj]
theorem qi9 {p:PV} {v:Value} {want:Bool} {K:Bool→Prop} (hr:RepO A m h w p v) (hg:gK p want K):∃c,((match v with | .bool b=>some b | _=>none:Option Bool)==some want)=c∧K c:=by
 unfold gK at hg
 split at hg
 ·rename_i b
  rw[hr.bool]
  refine⟨b==want,?_,hg⟩
  cases b<;>cases want<;>rfl
 ·rename_i c b
  cases hr with
  | imm hi=>cases hi
  | optT _ _ hh =>
   rw[hh.bool]
   refine⟨b==want,?_,hg⟩
   cases b<;>cases want<;>rfl
  | optF _=>exact⟨false,rfl,hg⟩
 ·exact hg.elim
theorem qja {n:Nat} (hall:ops.all (opOk n)=true) {j:Nat} {o:Oper} (ho:ops[j]?=some o):∀t∈Oper.looksAt ops.toArray o,t<n:=fun t ht=>by
 unfold Oper.looksAt at ht
 rcases List.mem_append.1 ht with h | h
 ·obtain⟨x,hx,e⟩:=List.mem_filterMap.1 h
  have:=List.all_eq_true.1 (qcD (List.all_eq_true.1 hall o (List.mem_of_getElem? ho))) x hx
  cases x<;>simp only[reduceCtorEq,Option.some.injEq]at e
  subst e
  simpa[opdLt]using this
 ·cases hg:o.guard with
  | none=>rw[hg]at h; simp at h
  | some g =>
   obtain⟨g,want⟩:=g
   rw[hg]at h
   simp only[List.getElem?_toArray,Option.mem_toList]at h
   cases hog:ops[g]? with
   | none=>rw[hog]at h; cases h
   | some og =>
    rw[hog]at h
    exact qcm (List.all_eq_true.1 hall og (List.mem_of_getElem? hog)) t h
theorem qjb {x:Ctx} {n T:Nat} (hall:ops.all (opOk n)=true) (hT:T≤ops.length) (hok:DrawB ops T) (hL:Lex P ops (ops.take T) S σ pv new) {E:Nat→Prop} (hD:DInv x n (ops.take T) S σ pv E a w A m) (hc:qd1 ops E) {j:Nat} (hj:j<T) (hjE:¬E j)
  {o:Oper} (ho:ops[j]?=some o) (hready:∀e∈o.after,Region.binds .any e=true→E e.on) {K:Act→World→Prop} {Q:Exit→Act→World→Prop}
  (hK:∀a' w' A' m',DInv x n (ops.take T) S σ pv (fun i=>E i∨i=j) a' w' A' m'→K a' w'):wpOp P ops.toArray Q j K a w:=by
 have hlen:(ops.take T).length=T:=by rw[List.length_take]; omega
 have hjt:j<(ops.take T).length:=by omega
 have hot:(ops.take T)[j]?=some o:=by rw[qg9 hj]; exact ho
 have hwait:∀i,Waits ops j i→E i:=fun i hw=>hw.closed hc fun o' ho' e he hb=>by rw[ho]at ho'; cases ho'; exact hready e he hb
 have hdI:dstI (ops.take T) j=o.dst:=by simp only[dstI,hot,Option.bind_some]
 have hokj:opOk n o=true:=List.all_eq_true.1 hall o (List.mem_of_getElem? ho)

 have hlookn:∀t∈Oper.looksAt ops.toArray o,t<n:=qja hall ho
 have hread:∀t∈Oper.looksAt ops.toArray o,RepO A m (hE (ops.take T) σ E (σ j).H.length) w (slot (σ j).fr t) (a.tmps.getD t undef):=fun t ht=>by
  rw[←qb3 (x:=x) (hlookn t ht)]
  rcases hL.slot t j (by omega) with ⟨i,h1,h2,h3,_⟩ | ⟨h1,h2⟩
  ·rw[h3]
   have h2':dstI ops i=some t:=by rw[←qdD (T:=T) (by omega)]; exact h2
   have hw:=hok.reads i j o t (by omega) hj (by omega) ho h2' ht
   rw[if_pos h1]at hw
   exact (hD.val i t (by omega) (hwait i hw) h2).mono (fun _ h=>h) (fun _ _=>rfl) (qex (hL.len_mono _ (by omega) (by omega)))
  ·rw[h2]
   refine (hD.old t fun i hi hEi hdi =>?_).mono (fun _ h=>h) (fun _ _=>rfl) (qex (hL.len_mono _ (Nat.zero_le _) (by omega)))
   rcases Nat.lt_trichotomy i j with h | h | h
   ·exact h1 i h hdi
   ·subst h; exact hjE hEi
   ·have hw:=hok.reads i j o t (by omega) hj (by omega) ho (by rw[←qdD (T:=T) (by omega)]; exact hdi) ht
    rw[if_neg (by omega)]at hw
    exact hjE (hw.closed hc fun o' ho' e he hb=>hc i o' ho' hEi e he hb)
 have hsub:Sub (hE (ops.take T) σ E (σ j).H.length) (σ j).H:=fun k o hk=>by
  obtain⟨⟨h1,_⟩,h3⟩:=qaQ.1 hk
  rw[←hL.obj h1 _ (by omega) (Nat.le_refl _)]
  exact h3
 have hopnd:Opnd A m (hE (ops.take T) σ E (σ j).H.length) w (restr (σ j).fr (Oper.looksAt ops.toArray o)) a:=⟨hD.aok.glob,fun t=>by
  rw[qfT]
  split
  ·rename_i ht; exact hread t ht
  ·exact .topI _⟩
 have hagree:Agree (σ j).fr (restr (σ j).fr (Oper.looksAt ops.toArray o)) o.op.operands.toList:=fun t ht=>by
  rw[qfT,if_pos]
  unfold Oper.looksAt
  exact List.mem_append_left _ (List.mem_filterMap.2 ⟨.tmp t,ht,rfl⟩)
 have hnone:∀i,hE (ops.take T) σ E (σ j).H.length ((σ j).H.length+i)=none:=fun i=>by
  cases hq:hE (ops.take T) σ E (σ j).H.length ((σ j).H.length+i) with
  | none=>rfl
  | some o=>have:=(qaQ.1 hq).1.1; omega
 have hdst:∀d,dstI (ops.take T) j=some d→d<n:=fun d hd=>qcm hokj d (by rw[←hdI]; exact hd)
 have huniq:∀i d,i<(ops.take T).length→i≠j→dstI (ops.take T) i=some d→dstI (ops.take T) j≠some d:=fun i d hi hij hd=>by
  rw[qdD (by omega)]at hd
  rw[qdD hj]
  exact hok.uniq i j d (by omega) hj hij hd
 have hst:=hL.step j o hot
 have run:∀pv' new',PreStep P (σ j).fr (σ j).H (σ j).H.length o.op pv' new'→qa2 P o a w fun v w'=>∃A' m',NewW A m (hE (ops.take T) σ E (σ j).H.length) w A' m' (addO (hE (ops.take T) σ E (σ j).H.length) (σ j).H.length new') w' ∧
   RepO A' m' (addO (hE (ops.take T) σ E (σ j).H.length) (σ j).H.length new') w' pv' v:=fun pv' new' hp =>
  qfR (qev hagree hp) A m _ w a hD.aok (hD.conc j (by omega)) hsub hopnd fun i _=>hnone i
 unfold wpOp
 simp only[List.getElem?_toArray,ho]
 unfold qdh at hst
 cases hg:o.guard with
 | none =>
  rw[hg]at hst
  rw[if_pos (by simp[Region.wanted,hg])]
  refine .inl (run _ _ hst _ _ fun v w' ⟨A',m',hN,hr⟩ =>?_)
  obtain⟨m'',hD'⟩:=qey hL hD hjt hjE hdst huniq hN hr
  rw[hdI]at hD'
  exact hK _ _ _ _ hD'
 | some g =>
  obtain⟨g,want⟩:=g
  rw[hg]at hst
  obtain⟨c,pv',hgv,hpv,hnew,hp⟩:=hst

  have hw:Region.wanted o (yielded ops.toArray a.tmps)=c:=by
   unfold qcC gD at hgv
   have dst:∀(l:List Oper) (j:Nat),dstAt l j=(l[j]?).bind (·.dst):=by
    intro l
    induction l with
    | nil=>intro j; rfl
    | cons o r ih =>
     intro j
     cases j with
     | zero=>rfl
     | succ j=>simpa[dstAt]using ih j
   cases hd:dstAt ops g with
   | none=>rw[hd]at hgv; exact hgv.elim
   | some d =>
    rw[hd]at hgv
    simp only at hgv
    rw[dst]at hd
    have hdn:d<n:=by
     cases hoj:ops[g]? with
     | none=>rw[hoj]at hd; cases hd
     | some oj =>
      rw[hoj]at hd
      exact qcm (List.all_eq_true.1 hall oj (List.mem_of_getElem? hoj)) d hd
    have hlook:d∈Oper.looksAt ops.toArray o:=by
     unfold Oper.looksAt
     refine List.mem_append_right _ ?_
     simp[hg,hd]
    obtain⟨c',hc',e⟩:=qi9 (hread d hlook) hgv
    rw[←e,←hc']
    have hlt:d<a.tmps.size:=by rw[hD.sz]; exact hdn
    simp only[Region.wanted,hg,yielded,List.getElem?_toArray,hd,Option.bind_some,Array.getElem?_eq_getElem hlt,Array.getD_eq_getD_getElem?,Option.getD_some]
    generalize a.tmps[d]=gv
    cases gv<;>rfl
  cases c with
  | true =>
   rw[if_pos hw]
   refine .inl (run _ _ (hp rfl) _ _ fun v w' ⟨A',m',hN,hr⟩ =>?_)
   rw[←hnew]at hN hr
   obtain⟨m'',hD'⟩:=qey hL hD hjt hjE hdst huniq hN (by rw[hpv]; exact .optT _ _ hr)
   rw[hdI]at hD'
   exact hK _ _ _ _ hD'
  | false =>
   rw[if_neg (by rw[hw]; decide)]
   have hN:NewW A m (hE (ops.take T) σ E (σ j).H.length) w A m (addO (hE (ops.take T) σ E (σ j).H.length) (σ j).H.length (new j)) w:=by
    rw[hnew,qb4]
    exact .refl hD.aok (hD.conc j (by omega))
   obtain⟨m'',hD'⟩:=qey hL hD hjt hjE hdst huniq hN (v:=undef) (by rw[hpv]; exact .optF _)
   rw[hdI]at hD'
   exact hK _ _ _ _ hD'
theorem qjc {o:Oper} (hk:qdx o.op=true) (hv:vok P fr H o.op) (hO:Opnd A m h w fr a):∃v,(∀w2,(execOp a.eval o).run P w2 = .ok (.value v) w2)∧RepO A m h w (vop P fr H o.op) v:=by
 obtain⟨dst,op,ty,pos,after,guard⟩:=o
 simp only at hv hk ⊢
 cases op<;>try (cases hk; done)
 case move x=>exact⟨_,fun _=>rfl,hO.ev hv⟩
 case binOp op t x y u =>
  obtain⟨h1,h2,h3⟩:=hv
  have hp:=hO.ev h1
  have hq:=hO.ev h2
  simp only[vop]
  cases hx:ev fr x<;>rw[hx]at h3 hp<;>cases hy:ev fr y<;>rw[hy]at h3 hq<;>first | (cases op<;>exact h3.elim) | skip
  case int.int k n k' n' =>
   have e1:=hp.int
   have e2:=hq.int
   cases op<;>simp only[qdx,Bool.false_eq_true]at hk<;>simp only[bk]at h3<;>subst h3
   case add=>exact⟨.int k (k.wrap (n+n')),fun w2=>by simp[execOp,e1,e2,eqGuard,binOp,Op.intArith], .imm (.int _ _)⟩
   case sub=>exact⟨.int k (k.wrap (n-n')),fun w2=>by simp[execOp,e1,e2,eqGuard,binOp,Op.intArith], .imm (.int _ _)⟩
   case mul=>exact⟨.int k (k.wrap (n*n')),fun w2=>by simp[execOp,e1,e2,eqGuard,binOp,Op.intArith], .imm (.int _ _)⟩
   case eql | neq=>exact⟨_,fun w2=>by simp[execOp,e1,e2,eqGuard,binOp,Op.intCmp]; rfl,by simp only[bv,bne,BEq.beq]; exact .imm (.bool _)⟩
  case bool.bool s s' =>
   have e1:=hp.bool
   have e2:=hq.bool
   cases op<;>simp only[qdx,Bool.false_eq_true]at hk<;>simp only[bk]at h3
   case eql | neq =>
    refine⟨_,fun w2=>by simp[execOp,e1,e2,eqGuard,binOp,Op.equal,Op.maxDepth,run_equalIn_bool w2 _ t s s' h3]; rfl,?_⟩
    simp only[bv]
    exact .imm (.bool _)
  case agg.agg cs ds =>
   obtain⟨us,e1,hl,hh⟩:=hp.aggI
   obtain⟨vs,e2,hl',hh'⟩:=hq.aggI
   cases op<;>simp only[qdx,Bool.false_eq_true]at hk<;>simp only[bk]at h3
   case eql | neq =>
    obtain⟨hc,hE⟩:=h3
    obtain⟨c1,c2⟩:=qgM hc
    have hE':=fun o w2=>hE o x y w2 cs ds us vs rfl hl hl' hc (fun i c hi=>qfE (c1 i c hi) (hh i c hi)) (fun i c hi=>qfE (c2 i c hi) (hh' i c hi))
    refine⟨_,fun w2=>by simp only[execOp,e1,e2,Sem.run_bind,(hE' _ w2).1,Result.andThen_ok,run_eql_struct,run_neq_struct,(hE' .eql w2).2]; rfl,?_⟩
    simp only[bv]
    exact .imm (.bool _)
  case str.str s s' =>
   obtain⟨b,e1,rfl⟩:=hp.str
   obtain⟨c,e2,rfl⟩:=hq.str
   cases op<;>simp only[qdx,Bool.false_eq_true]at hk<;>simp only[bk]at h3
   case add =>
    refine⟨.string (b++c),fun w2 =>?_, .imm (.str _ _ (by simp))⟩
    have:¬((b.size+c.size:Nat):Int)>IntKind.i64.max:=by
     have e:IntKind.i64.max=9223372036854775807:=rfl
     have e1:b.size=b.data.toList.length:=by simp
     have e2:c.size=c.data.toList.length:=by simp
     omega
    simp only[execOp,e1,e2,eqGuard,binOp,Op.stringOp]
    rw[if_neg this]
    rfl
   case eql | neq =>
    refine⟨_,fun w2=>by simp only[execOp,e1,e2,eqGuard,binOp,Op.stringOp]; rfl,?_⟩
    simp only[bv,qid,qim]
    exact .imm (.bool _)
  all_goals (cases op<;>first | exact h3.elim | (cases hk))
 case pick c x y =>
  obtain⟨h1,h2⟩:=hv
  cases hc:ev fr c<;>simp only[hc]at h2
  rename_i t
  have hr:=hO.ev h1
  rw[hc]at hr
  obtain h0:=hr.bool
  refine⟨if t then a.eval x else a.eval y,fun w2 =>?_,?_⟩
  ·simp only[execOp,h0,asBool]
   rfl
  ·simp only[vop,hc]
   exact qin (fun ht=>hO.ev (h2.1 ht)) (fun ht=>hO.ev (h2.2 ht))
 case index t x i =>
  obtain⟨h1,h2,h3,h4,h5⟩:=hv
  have hr:=hO.ev h2
  have hr1:=hO.ev h1
  cases hc:ev fr i<;>simp only[hc,isInt]at h3
  rename_i k n
  cases hd:ev fr x<;>simp only[hd]at h5
  rename_i s
  rw[hc]at hr h5
  rw[hd]at hr1
  obtain h0:=hr.int
  obtain⟨b,h0',rfl⟩:=hr1.str
  simp only[intV]at h5
  have hlt:n.toNat<b.size:=by
   have e1:b.size=b.data.toList.length:=by simp
   omega
  refine⟨.int .u8 (b[n.toNat].toNat),fun w2 =>?_,?_⟩
  ·simp[execOp,Instr.index,asIntOf,h0,h0',run_underlying (qcU h4),h5.1,hlt]
  ·simp only[vop,hd,hc,intV]
   have:(b.data.toList.getD n.toNat 0)=b[n.toNat]:=by
    have:n.toNat<b.data.toList.length:=by simpa using hlt
    simp[List.getD,List.getElem?_eq_getElem this]
    rfl
   rw[this]
   exact .imm (.int _ _)
 case extract x i =>
  obtain⟨h1,h2⟩:=hv
  have hr:=hO.ev h1
  cases hc:ev fr x<;>simp only[hc]at h2
  rename_i cs
  rw[hc]at hr
  obtain⟨us,h0,hl,hh⟩:=hr.tupI
  have hlt:i<us.size:=by omega
  refine⟨us[i],fun w2 =>?_,?_⟩
  ·simp[execOp,Instr.extract,h0,hlt]
  ·simp only[vop,hc,List.getD]
   rw[List.getElem?_eq_getElem h2]
   have:=hh i _ (List.getElem?_eq_getElem h2)
   simpa[Array.getD_eq_getD_getElem?,hlt]using this
theorem qjd {op:Op} {k0:Nat} {pv:PV} {new:List (Option Obj)} (hk:qdx op=true) (hp:PreStep P fr H k0 op pv new):vok P fr H op∧pv=vop P fr H op∧new=[]:=by
 cases hp with
 | quiet h=>exact⟨h,rfl,rfl⟩
 | _=>cases hk
theorem qje {x:Ctx} {n T:Nat} (hall:ops.all (opOk n)=true) (hT:T≤ops.length) (hok:DrawOk ops T) (hL:Lex P ops (ops.take T) S σ pv new) {E:Nat→Prop} (hD:DInv x n (ops.take T) S σ pv E a w A m) (hc:qd1 ops E) {j:Nat} (hj:j<T) (hjE:¬E j)
  {o:Oper} (ho:ops[j]?=some o) (hready:∀e∈o.after,Region.binds .any e=true→E e.on) (hk:qdx o.op=true) :
  ∃v m',((Region.wanted o (yielded ops.toArray a.tmps)=true∧∀w2,(execOp a.eval o).run P w2 = .ok (.value v) w2)∨(Region.wanted o (yielded ops.toArray a.tmps)=false∧v=undef))∧DInv x n (ops.take T) S σ pv (fun i=>E i∨i=j) (a.put o.dst v) w A m':=by
 have hlen:(ops.take T).length=T:=by rw[List.length_take]; omega
 have hjt:j<(ops.take T).length:=by omega
 have hot:(ops.take T)[j]?=some o:=by rw[qg9 hj]; exact ho
 have hwait:∀i,Waits ops j i→E i:=fun i hw=>hw.closed hc fun o' ho' e he hb=>by rw[ho]at ho'; cases ho'; exact hready e he hb
 have hdI:dstI (ops.take T) j=o.dst:=by simp only[dstI,hot,Option.bind_some]
 have hokj:opOk n o=true:=List.all_eq_true.1 hall o (List.mem_of_getElem? ho)
 have hlookn:∀t∈Oper.looksAt ops.toArray o,t<n:=qja hall ho
 have hread:∀t∈Oper.looksAt ops.toArray o,RepO A m (hE (ops.take T) σ E (σ j).H.length) w (slot (σ j).fr t) (a.tmps.getD t undef):=fun t ht=>by
  rw[←qb3 (x:=x) (hlookn t ht)]
  rcases hL.slot t j (by omega) with ⟨i,h1,h2,h3,_⟩ | ⟨h1,h2⟩
  ·rw[h3]
   have h2':dstI ops i=some t:=by rw[←qdD (T:=T) (by omega)]; exact h2
   have hw:=hok.reads i j o t (by omega) hj (by omega) ho h2' ht
   rw[if_pos h1]at hw
   exact (hD.val i t (by omega) (hwait i hw) h2).mono (fun _ h=>h) (fun _ _=>rfl) (qex (hL.len_mono _ (by omega) (by omega)))
  ·rw[h2]
   refine (hD.old t fun i hi hEi hdi =>?_).mono (fun _ h=>h) (fun _ _=>rfl) (qex (hL.len_mono _ (Nat.zero_le _) (by omega)))
   rcases Nat.lt_trichotomy i j with h | h | h
   ·exact h1 i h hdi
   ·subst h; exact hjE hEi
   ·have hw:=hok.reads i j o t (by omega) hj (by omega) ho (by rw[←qdD (T:=T) (by omega)]; exact hdi) ht
    rw[if_neg (by omega)]at hw
    exact hjE (hw.closed hc fun o' ho' e he hb=>hc i o' ho' hEi e he hb)
 have hopnd:Opnd A m (hE (ops.take T) σ E (σ j).H.length) w (restr (σ j).fr (Oper.looksAt ops.toArray o)) a:=⟨hD.aok.glob,fun t=>by
  rw[qfT]
  split
  ·rename_i ht; exact hread t ht
  ·exact .topI _⟩
 have hagree:Agree (σ j).fr (restr (σ j).fr (Oper.looksAt ops.toArray o)) o.op.operands.toList:=fun t ht=>by
  rw[qfT,if_pos]
  unfold Oper.looksAt
  exact List.mem_append_left _ (List.mem_filterMap.2 ⟨.tmp t,ht,rfl⟩)
 have hdst:∀d,dstI (ops.take T) j=some d→d<n:=fun d hd=>qcm hokj d (by rw[←hdI]; exact hd)
 have huniq:∀i d,i<(ops.take T).length→i≠j→dstI (ops.take T) i=some d→dstI (ops.take T) j≠some d:=fun i d hi hij hd=>by
  rw[qdD (by omega)]at hd
  rw[qdD hj]
  exact hok.uniq i j d (by omega) hj hij hd
 have hst:=hL.step j o hot
 unfold qdh at hst
 cases hg:o.guard with
 | none =>
  rw[hg]at hst
  obtain⟨hv,hpv,hnew⟩:=qjd hk (qev hagree hst)
  obtain⟨v,hrun,hr⟩:=qjc hk hv hopnd
  have hN:NewW A m (hE (ops.take T) σ E (σ j).H.length) w A m (addO (hE (ops.take T) σ E (σ j).H.length) (σ j).H.length (new j)) w:=by
   rw[hnew,qb4]
   exact .refl hD.aok (hD.conc j (by omega))
  obtain⟨m'',hD'⟩:=qey hL hD hjt hjE hdst huniq hN (v:=v) (by rw[hpv,hnew,qb4]; exact hr)
  rw[hdI]at hD'
  exact⟨v,m'', .inl ⟨by simp[Region.wanted,hg],hrun⟩,hD'⟩
 | some g =>
  obtain⟨g,want⟩:=g
  rw[hg]at hst
  obtain⟨c,pv',hgv,hpv,hnew,hp⟩:=hst

  have hw:Region.wanted o (yielded ops.toArray a.tmps)=c:=by
   unfold qcC gD at hgv
   have dst:∀(l:List Oper) (j:Nat),dstAt l j=(l[j]?).bind (·.dst):=by
    intro l
    induction l with
    | nil=>intro j; rfl
    | cons o r ih =>
     intro j
     cases j with
     | zero=>rfl
     | succ j=>simpa[dstAt]using ih j
   cases hd:dstAt ops g with
   | none=>rw[hd]at hgv; exact hgv.elim
   | some d =>
    rw[hd]at hgv
    simp only at hgv
    rw[dst]at hd
    have hdn:d<n:=by
     cases hoj:ops[g]? with
     | none=>rw[hoj]at hd; cases hd
     | some oj =>
      rw[hoj]at hd
      exact qcm (List.all_eq_true.1 hall oj (List.mem_of_getElem? hoj)) d hd
    have hlook:d∈Oper.looksAt ops.toArray o:=by
     unfold Oper.looksAt
     refine List.mem_append_right _ ?_
     simp[hg,hd]
    obtain⟨c',hc',e⟩:=qi9 (hread d hlook) hgv
    rw[←e,←hc']
    have hlt:d<a.tmps.size:=by rw[hD.sz]; exact hdn
    simp only[Region.wanted,hg,yielded,List.getElem?_toArray,hd,Option.bind_some,Array.getElem?_eq_getElem hlt,Array.getD_eq_getD_getElem?,Option.getD_some]
    generalize a.tmps[d]=gv
    cases gv<;>rfl
  have hN:NewW A m (hE (ops.take T) σ E (σ j).H.length) w A m (addO (hE (ops.take T) σ E (σ j).H.length) (σ j).H.length (new j)) w:=by
   rw[hnew,qb4]
   exact .refl hD.aok (hD.conc j (by omega))
  cases c with
  | true =>
   obtain⟨hv,hpv',_⟩:=qjd hk (qev hagree (hp rfl))
   obtain⟨v,hrun,hr⟩:=qjc hk hv hopnd
   obtain⟨m'',hD'⟩:=qey hL hD hjt hjE hdst huniq hN (v:=v) (by rw[hpv,hnew,qb4,hpv']; exact .optT _ _ hr)
   rw[hdI]at hD'
   exact⟨v,m'', .inl ⟨hw,hrun⟩,hD'⟩
  | false =>
   obtain⟨m'',hD'⟩:=qey hL hD hjt hjE hdst huniq hN (v:=undef) (by rw[hpv]; exact .optF _)
   rw[hdI]at hD'
   exact⟨undef,m'', .inr ⟨hw,rfl⟩,hD'⟩
def Left (n:Nat) (listed:Array Bool) (fuel:Nat):Prop:=∃l:List Nat,l.length≤fuel∧∀i,i<n→listed.getD i true=false→i∈l
theorem Left.set {n fuel i:Nat} {listed:Array Bool} (h:Left n listed (fuel+1)) (hi:i<n) (hf:listed.getD i true=false):Left n (listed.setIfInBounds i true) fuel:=by
 obtain⟨l,h1,h2⟩:=h
 refine⟨l.erase i,?_,fun k hk hkf =>?_⟩
 ·rw[List.length_erase_of_mem (h2 i hi hf)]
  omega
 ·by_cases e:i=k
  ·subst e
   have hlt:i<listed.size:=by
    rcases Nat.lt_or_ge i listed.size with h | h
    ·exact h
    ·simp[h]at hf
   simp[hlt]at hkf
  ·rw[getD_set_ne true e]at hkf
   exact (List.mem_erase_of_ne (fun h=>e h.symm)).2 (h2 k hk hkf)
theorem qha {n i k:Nat} {listed:Array Bool} (hsz:listed.size=n) (hi:i<n):(listed.setIfInBounds i true).getD k false=true↔listed.getD k false=true∨k=i:=by
 by_cases e:i=k
 ·subst e
  have:i<listed.size:=by omega
  simp[this]
 ·rw[getD_set_ne false e]
  exact⟨.inl,fun h=>h.resolve_right fun e'=>e e'.symm⟩
theorem qjf {T:Nat} (hlow:∀j o,ops[j]?=some o→∀e∈o.after,Region.binds .any e=true→e.on<j) (htail:∀j i,j<ops.length→T≤i→i<j→Waits ops j i) {Q:Exit→Act→World→Prop}:∀(fuel p:Nat) (listed:Array Bool) (a:Act) (w:World),listed.size=ops.length→T≤p→p≤ops.length→(∀i,i<ops.length→(listed.getD i false=true↔i<p)) →
  Left ops.length listed fuel→wpList P ops.toArray Q (ops.drop p) a w→wpAny P .any ops.toArray Q fuel listed a w:=by
 intro fuel
 have ready:∀(p:Nat) (listed:Array Bool),listed.size=ops.length→T≤p→p≤ops.length→(∀i,i<ops.length→(listed.getD i false=true↔i<p))→∀j,j∈Region.ready .any ops.toArray listed↔j=p∧p<ops.length:=fun p listed hsz hTp hp hl j=>by
  have hcl:qd1 ops (fun i=>listed.getD i false=true):=fun j o ho hj e he hb=>by
   have hjl:j<ops.length:=(List.getElem?_eq_some_iff.1 ho).1
   have:=hlow j o ho e he hb
   have:=(hl j hjl).1 hj
   exact (hl e.on (by omega)).2 (by omega)
  rw[mem_ready]
  constructor
  ·rintro ⟨h1,o,ho,hall⟩
   simp only[List.getElem?_toArray]at ho
   have hjl:j<ops.length:=(List.getElem?_eq_some_iff.1 ho).1
   have hjp:¬j<p:=fun h=>by
    have:=(hl j hjl).2 h
    rw[getD_both h1]at this
    cases this
   refine⟨?_,by omega⟩
   rcases Nat.lt_or_ge p j with h | h
   ·have:=(htail j p hjl (by omega) h).closed hcl fun o' ho' e he hb=>by rw[ho]at ho'; cases ho'; exact hall e he hb
    have:=(hl p (by omega)).1 this
    omega
   ·omega
  ·rintro ⟨rfl,hlt⟩
   have hf:listed.getD j false=false:=by
    cases hq:listed.getD j false with
    | false=>rfl
    | true=>have:=(hl j hlt).1 hq; omega
   refine⟨getD_in (by omega) hf,ops[j],by simp[hlt],fun e he hb =>?_⟩
   have:=hlow j _ (List.getElem?_eq_getElem hlt) e he hb
   exact (hl e.on (by omega)).2 (by omega)
 induction fuel with
 | zero =>
  intro p listed a w hsz hTp hp hl hleft hw
  have hpe:p=ops.length:=by
   rcases Nat.lt_or_ge p ops.length with h | h
   ·obtain⟨l,h1,h2⟩:=hleft
    have hf:listed.getD p false=false:=by
     cases hq:listed.getD p false with
     | false=>rfl
     | true=>have:=(hl p h).1 hq; omega
    have:=h2 p h (getD_in (by omega) hf)
    have:l=[]:=List.eq_nil_of_length_eq_zero (by omega)
    simp_all
   ·omega
  subst hpe
  refine⟨?_,?_⟩
  ·refine List.eq_nil_iff_forall_not_mem.2 fun j hj =>?_
   have:=(ready _ listed hsz hTp hp hl j).1 hj
   omega
  ·rw[List.drop_length]at hw
   exact hw
 | succ fuel ih =>
  intro p listed a w hsz hTp hp hl hleft hw
  refine⟨fun hnil =>?_,fun j hj =>?_⟩
  ·rcases Nat.lt_or_ge p ops.length with h | h
   ·have:=(ready p listed hsz hTp hp hl p).2 ⟨rfl,h⟩
    rw[hnil]at this
    cases this
   ·have:p=ops.length:=by omega
    subst this
    rw[List.drop_length]at hw
    exact hw
  ·obtain⟨rfl,hlt⟩:=(ready p listed hsz hTp hp hl j).1 hj
   have hf:listed.getD j true=false:=(mem_ready.1 hj).1
   rw[List.drop_eq_getElem_cons hlt]at hw
   have hw':wpOp P ops.toArray Q j (wpList P ops.toArray Q (ops.drop (j+1))) a w:=by
    unfold wpOp
    simp only[List.getElem?_toArray,List.getElem?_eq_getElem hlt]
    exact hw
   refine wpOp_mono (fun a' w' h'=>ih (j+1) _ a' w' (by simpa using hsz) (by omega) hlt (fun i hi =>?_) (hleft.set hlt hf) h') hw'
   rw[qha hsz hlt,hl i hi]
   omega
theorem qnh {x:Ctx} {n T:Nat} {K:St→Prop} {Q:Exit→Act→World→Prop} (hall:ops.all (opOk n)=true) (hT:T≤ops.length) (hok:DrawOk ops T) (hL:Lex P ops (ops.take T) S σ pv new)
  (hrest:aOps P true ops (ops.drop T) (σ T) K) (hP:∀c a w,¬Q (.panic c) a w) (hQ:∀S' a' w' A' m',K S'→Inv x n S' a' w' A' m'→Q .normal a' w') :
  ∀(fuel:Nat) (listed:Array Bool) (a:Act) (w:World) (A:Nat→Prop) (m:OMap),listed.size=ops.length→DInv x n (ops.take T) S σ pv (fun i=>listed.getD i false=true) a w A m →
   qd1 ops (fun i=>listed.getD i false=true)→(∀j,T≤j→listed.getD j false=false)→Left ops.length listed fuel→wpAny P .any ops.toArray Q fuel listed a w:=by
 have hlen:(ops.take T).length=T:=by rw[List.length_take]; omega
 intro fuel
 have full:∀(fuel:Nat) (listed:Array Bool) (a:Act) (w:World) (A:Nat→Prop) (m:OMap),listed.size=ops.length→DInv x n (ops.take T) S σ pv (fun i=>listed.getD i false=true) a w A m →
   (∀j,T≤j→listed.getD j false=false)→Left ops.length listed fuel→(∀i,i<T→listed.getD i false=true)→wpAny P .any ops.toArray Q fuel listed a w:=fun fuel listed a w A m hsz hD htail hleft hfull=>by
  refine qjf hok.low (fun j i hj hi hij=>(hok.tail j i hj (by omega) hij).resolve_right fun h=>by omega) fuel T listed a w hsz (Nat.le_refl _) hT (fun i hi=>⟨fun h =>?_,hfull i⟩) hleft ?_
  ·rcases Nat.lt_or_ge i T with h' | h'
   ·exact h'
   ·rw[htail i h']at h; cases h
  ·have hI:=qi5 hL (fun i hi=>hfull i (by omega)) hD
   rw[hlen]at hI
   exact qcW hall hQ (ops.drop T) true (σ T) a w A m (List.all_eq_true.2 fun o ho=>List.all_eq_true.1 hall o (List.mem_of_mem_drop ho)) hI hrest

 have least:∀(listed:Array Bool),¬(∀i,i<T→listed.getD i false=true)→∃i,i<T∧listed.getD i false=false∧∀k,k<i→listed.getD k false=true:=fun listed hn=>by
  have:∃i,i<T∧listed.getD i false=false:=by
   refine Classical.byContradiction fun hc=>hn fun i hi =>?_
   cases hq:listed.getD i false with
   | true=>rfl
   | false=>exact absurd ⟨i,hi,hq⟩ hc
  obtain⟨i,hi,hf⟩:=this
  induction i using Nat.strongRecOn with
  | _ i ih =>
   by_cases h:∀k,k<i→listed.getD k false=true
   ·exact⟨i,hi,hf,h⟩
   ·have:∃k,k<i∧listed.getD k false=false:=by
     refine Classical.byContradiction fun hc=>h fun k hk =>?_
     cases hq:listed.getD k false with
     | true=>rfl
     | false=>exact absurd ⟨k,hk,hq⟩ hc
    obtain⟨k,hk,hkf⟩:=this
    exact ih k hk (by omega) hkf
 have isready:∀(listed:Array Bool) (i:Nat),listed.size=ops.length→i<T→listed.getD i false=false→(∀k,k<i→listed.getD k false=true)→i∈Region.ready .any ops.toArray listed:=fun listed i hsz hi hf hk=>by
  have hlt:i<ops.length:=by omega
  refine mem_ready.2 ⟨getD_in (by omega) hf,ops[i],by simp[hlt],fun e he hb =>?_⟩
  exact hk _ (hok.low i _ (List.getElem?_eq_getElem hlt) e he hb)
 induction fuel with
 | zero =>
  intro listed a w A m hsz hD hc htail hleft
  by_cases hf:∀i,i<T→listed.getD i false=true
  ·exact full 0 listed a w A m hsz hD htail hleft hf
  ·obtain⟨i,hi,hif,_⟩:=least listed hf
   obtain⟨l,h1,h2⟩:=hleft
   have:=h2 i (by omega) (getD_in (by omega) hif)
   have:l=[]:=List.eq_nil_of_length_eq_zero (by omega)
   simp_all
 | succ fuel ih =>
  intro listed a w A m hsz hD hc htail hleft
  by_cases hf:∀i,i<T→listed.getD i false=true
  ·exact full _ listed a w A m hsz hD htail hleft hf
  ·obtain⟨i0,hi0,hif0,hlow0⟩:=least listed hf

   have next:∀(j:Nat) (o:Oper),j∈Region.ready .any ops.toArray listed→ops[j]?=some o→j<T→∀a' w' A' m',DInv x n (ops.take T) S σ pv (fun i=>listed.getD i false=true∨i=j) a' w' A' m' →
     wpAny P .any ops.toArray Q fuel (listed.setIfInBounds j true) a' w':=fun j o hj ho hjT a' w' A' m' hD'=>by
    obtain⟨h1,o',ho',hall'⟩:=mem_ready.1 hj
    simp only[List.getElem?_toArray]at ho'
    rw[ho]at ho'
    cases ho'
    have hjl:j<ops.length:=(List.getElem?_eq_some_iff.1 ho).1
    have hE':(fun i=>(listed.setIfInBounds j true).getD i false=true)=fun i=>listed.getD i false=true∨i=j:=by
     funext i
     exact propext (qha hsz hjl)
    refine ih _ a' w' A' m' (by simpa using hsz) (by rw[hE']; exact hD') ?_ (fun k hk =>?_) (hleft.set hjl h1)
    ·rw[hE']
     intro k ok hok' hk e he hb
     rcases hk with hk | rfl
     ·exact .inl (hc k ok hok' hk e he hb)
     ·rw[ho]at hok'
      cases hok'
      exact .inl (hall' e he hb)
    ·rw[getD_set_ne false (by omega)]
     exact htail k hk
   by_cases hh:∀i,i<T→listed.getD i false=false→qdy ops i=true
   ·have hr:=isready listed i0 hsz hi0 hif0 hlow0
    have hlt:i0<ops.length:=by omega
    have ho:ops[i0]?=some ops[i0]:=List.getElem?_eq_getElem hlt
    obtain⟨h1,o',ho',hall'⟩:=mem_ready.1 hr
    simp only[List.getElem?_toArray]at ho'
    rw[ho]at ho'
    cases ho'
    have hB:=hh i0 hi0 hif0
    unfold qdy at hB
    simp only[ho,Bool.and_eq_true]at hB
    obtain⟨hk,hap⟩:=hB
    obtain⟨v,m',hy,hD'⟩:=qje hall hT hok hL hD hc hi0 (by simp[hif0]) ho hall' hk
    refine wpAny_first (i:=i0) (oi:=ops[i0]) (v:=v) (by simp) (fun j oj cs b hoj hs =>?_) (fun c a w h=>(hP _ _ _ h).elim) fuel listed a w (fun j oj hoj hji hun hno =>?_) hr hy (next i0 _ hr ho hi0 _ _ _ _ hD')
    ·have:=List.all_eq_true.1 hall oj (List.mem_of_getElem? (by simpa using hoj))
     simp[opOk,hs]at this
    ·simp only[List.getElem?_toArray]at hoj
     have hjl:j<ops.length:=(List.getElem?_eq_some_iff.1 hoj).1
     have h2:=List.all_eq_true.1 hap j (List.mem_range.2 hjl)
     simp only[hoj,Bool.or_eq_true,decide_eq_true_eq]at h2
     rcases h2 with h2 | h2 | h2
     ·have:j<i0:=by omega
      have h3:=hlow0 j this
      rw[getD_both hun]at h3
      cases h3
     ·obtain⟨e,he,hb⟩:=Array.any_eq_true'.1 h2
      simp only[Bool.and_eq_true,beq_iff_eq]at hb
      exact absurd hb.2 (hno e he hb.1)
     ·exact h2
   obtain⟨i1,hi1,hif1,hnh⟩:∃i,i<T∧listed.getD i false=false∧¬qdy ops i=true:=by
    refine Classical.byContradiction fun hc'=>hh fun i hi hif=>Classical.byContradiction fun hb=>hc' ⟨i,hi,hif,hb⟩
   refine⟨fun hnil =>?_,fun j hj =>?_⟩
   ·have:=isready listed i0 hsz hi0 hif0 hlow0
    rw[hnil]at this
    cases this
   ·obtain⟨h1,o,ho,hall'⟩:=mem_ready.1 hj
    simp only[List.getElem?_toArray]at ho
    have hjl:j<ops.length:=(List.getElem?_eq_some_iff.1 ho).1
    have hjT:j<T:=by
     rcases Nat.lt_or_ge j T with h | h
     ·exact h
     ·have:=((hok.tail j i1 hjl h (by omega)).resolve_right fun h=>hnh h.2).closed hc fun o' ho' e he hb=>by rw[ho]at ho'; cases ho'; exact hall' e he hb
      rw[hif1]at this
      cases this
    exact qjb hall hT hok.toDrawB hL hD hc hjT (by simp[getD_both h1]) ho hall' fun a' w' A' m' hD'=>next j o hj ho hjT a' w' A' m' hD'
end lex
def lateK:Op→Bool
 | .move _ | .extract _ _ | .index _ _ _ | .pick _ _ _ | .binOp _ _ _ _ _ | .unOp _ _ _ | .load _ _ | .fieldAddr _ _ _ | .field _ _ _ | .indexAddr _ _ _ | .nilCheck _=>true
 | _=>false
def lateT (ops:List Oper) (T:Nat) (Us:List (List Nat)):Bool :=
 let an:=ancM ops []
 decide (T+Us.length≤ops.length)&&(List.range ops.length).all fun j=>match ops[j]? with
  | some o=>o.after.all (fun e => !Region.binds .any e||decide (e.on<j)) &&
   ((decide (T≤j)||(List.range T).all fun i=>decide (i=j)||match dstI ops i with
     | some d=>(match dstI ops j with
      | some d'=>d' != d
      | none=>true)&&(!(Oper.looksAt ops.toArray o).contains d||(if i<j then waits an j i else waits an i j))
     | none=>true) &&
    ((decide (j<T)||(decide (T+Us.length≤j)||(o.guard.isNone&&((List.range j).all (fun i=>(Us.getD (j-T) []).contains i||waits an j i)&&(Us.getD (j-T) []).all fun i=>decide (i<T)&&match ops[i]? with
     | some oi=>oi.guard.isNone&&(lateK oi.op&&(oi.apart ops.toArray o&&(Us.getD (j-T) []).all fun k=>match ops[k]?,oi.dst with
      | some ok,some d => !(Oper.looksAt ops.toArray ok).contains d||(decide (i<k)&&waits an k i)
      | _,_=>true))
     | none=>false)))) &&
    (decide (j<T+Us.length)||(List.range j).all fun i=>waits an j i)))
  | none=>false
structure LateOk (ops:List Oper) (T:Nat) (Us:List (List Nat)):Prop where
 lt:T+Us.length≤ops.length
 low:∀j o,ops[j]?=some o→∀e∈o.after,Region.binds .any e=true→e.on<j
 uniq:∀i j d,i<T→j<T→i≠j→dstI ops i=some d→dstI ops j≠some d
 reads:∀i j o d,i<T→j<T→i≠j→ops[j]?=some o→dstI ops i=some d→d∈Oper.looksAt ops.toArray o→if i<j then Waits ops j i else Waits ops i j
 plain:∀k o,k<Us.length→ops[T+k]?=some o→o.guard=none
 here:∀k i,k<Us.length→i<T+k→i∈Us.getD k []∨Waits ops (T+k) i
 quiet:∀k i,k<Us.length→i∈Us.getD k []→i<T∧∃o,ops[i]?=some o∧o.guard=none∧lateK o.op=true∧(∀oT,ops[T+k]?=some oT→o.apart ops.toArray oT=true)∧∀k' ok d,k'∈Us.getD k []→ops[k']?=some ok→o.dst=some d→d∈Oper.looksAt ops.toArray ok→i<k'∧Waits ops k' i
 tail:∀j i,j<ops.length→T+Us.length≤j→i<j→Waits ops j i
structure AgreeOff (D:Nat→Prop) (a b:Act):Prop where
 sz:a.tmps.size=b.tmps.size
 df:a.defers=b.defers
 tm:∀t,¬D t→a.tmps.getD t undef=b.tmps.getD t undef
theorem Inv.frame {x:Ctx} {n:Nat} {fr fr':Fr} {H:Heap} (hI:Inv x n ⟨fr,H⟩ a w A m) (h:∀t,slot fr' t = .top∨slot fr' t=slot fr t):Inv x n ⟨fr',H⟩ a w A m :=
 ⟨hI.moved,hI.sub,hI.aok,hI.conc,hI.own,fun t=>by
  rcases h t with e | e
  ·show RepO A m _ w (slot fr' t) _
   rw[e]; exact .topI _
  ·show RepO A m _ w (slot fr' t) _
   rw[e]; exact hI.fr t,hI.sz,hI.df⟩
def late1 (p q:PV):Prop:=p = .top∨p=q
def qez (P:Program) (ops:List Oper) (S:St):List Nat→Prop
 | []=>True
 | i::r=>(match ops[i]? with
  | some o=>vok P S.fr S.H o.op∧(match o.dst with
   | some d=>late1 (slot S.fr d) (vop P S.fr S.H o.op)
   | none=>True)
  | none=>False)∧qez P ops S r
section lexL
variable {ops:List Oper} {S:St} {σ:Nat→St} {pv:Nat→PV} {new:Nat→List (Option Obj)}
end lexL
theorem qjg {α:Type} {p:α→Bool} {x:α}:∀ {l:List α},x∈l.takeWhile p→p x=true
 | [],h=>by simp at h
 | y::l,h=>by
  rw[List.takeWhile_cons]at h
  split at h
  ·rename_i hp
   rcases List.mem_cons.1 h with rfl | h
   ·exact hp
   ·exact qjg h
  ·simp at h
theorem qni {x:Ctx} {n:Nat} {ops:Array Oper} {id:Nat} {S:St} {K:St→Prop} {Q:Exit→Act→World→Prop} (hm:P.follows .mixedOrders=true) (hall:ops.toList.all (opOk n)=true) (hd:qgH ops.toList=true) (hI:Inv x n S a w A m)
  (h:aOps P true ops.toList ops.toList S K) (hQ:∀S' a' w' A' m',K S'→Inv x n S' a' w' A' m'→Q .normal a' w'):(Code.region id ops true).wp P Q a w:=by
 have htw:ops.toList=(ops.toList.takeWhile fun o => !isEff ops.toList o.op)++(ops.toList.dropWhile fun o => !isEff ops.toList o.op):=(List.takeWhile_append_dropWhile ..).symm
 have h':aOps P true ops.toList ((ops.toList.takeWhile fun o => !isEff ops.toList o.op)++(ops.toList.dropWhile fun o => !isEff ops.toList o.op)) S K:=by rw[←htw]; exact h
 obtain⟨pre,post,σ,pv,new,hsp,hL,hrest,hdr⟩:=qi2 _ _ S (fun o ho=>by simpa using qjg ho) h'
 have hops:ops.toList=pre++(post++ops.toList.dropWhile fun o => !isEff ops.toList o.op):=by rw[←List.append_assoc,←hsp]; exact htw
 generalize (ops.toList.dropWhile fun o => !isEff ops.toList o.op)=R at hops hrest hdr
 have hlen:=congrArg List.length hops
 rw[List.length_append]at hlen
 obtain⟨T,hTe⟩:∃T,T=pre.length:=⟨_,rfl⟩
 have hTle:T≤ops.toList.length:=by omega
 have hok:DrawOk ops.toList T:=by
  refine qi8 hTle ?_
  rcases hdr with rfl | hdr
  ·rw[List.append_nil]at hsp
   rw[hTe,←hsp]
   exact hd
  ·rw[show T=ops.toList.length-(post++R).length by omega]
   exact hdr
 have htk:ops.toList.take T=pre:=by rw[hTe,hops]; exact List.take_left' rfl
 have hdp:ops.toList.drop T=post++R:=by rw[hTe,hops]; exact List.drop_left' rfl
 rw[←htk]at hL
 rw[←hdp,←hTe]at hrest
 have hI':Inv x n S a { w with drawn:=w.drawn+1 } A m:=by
  refine⟨⟨hI.moved.os,hI.moved.tape,hI.moved.output,hI.moved.size,hI.moved.block,fun hd=>Nat.le_trans (hI.moved.drawn hd) (Nat.le_succ _)⟩,hI.sub,hI.aok.mono hI.aok.lt (fun _ h=>h) (fun _ _=>rfl),hI.conc.same rfl,hI.own,fun t=>RepO.mono (w:=w) (w':={ w with drawn:=w.drawn+1 }) (fun _ h=>h) (fun _ _=>rfl) (Shaped.refl _ _ _) (hI.fr t),hI.sz,hI.df⟩
 refine wp_mono (Q:=fun e a w=>e = .normal∧Q e a w) ?_ fun _ _ _ h=>h.2
 refine wp_region_any hm ?_
 have hE':(fun i=>(Array.replicate ops.size false).getD i false=true)=fun _=>False:=by
  funext i
  rw[getD_replicate_false]
  simp
 have:=qnh (P:=P) (x:=x) (Q:=fun e a w=>e = .normal∧Q e a w) hall hTle hok hL hrest (fun c a w h=>by cases h.1) (fun S' a' w' A' m' h1 h2=>⟨rfl,hQ S' a' w' A' m' h1 h2⟩) ops.size (Array.replicate ops.size false) a { w with drawn:=w.drawn+1 } A m (by simp) (by rw[hE']; exact qi4 hL hI') (by rw[hE']; exact fun _ _ _ h=>h.elim) (fun j _=>getD_replicate_false _ _)
  ⟨List.range ops.size,by simp,fun i hi _=>by simpa using hi⟩
 simpa using this
section lexM
variable {ops:List Oper} {S:St} {σ:Nat→St} {pv:Nat→PV} {new:Nat→List (Option Obj)}
def qeA (P:Program) (ops:List Oper):Nat→List (List Nat)→St→(St→Prop)→Prop
 | p,[],S,K=>aOps P false ops (ops.drop p) S K
 | p,U::r,S,K=>match ops[p]? with
  | some o=>aEx P false o.op o.dst S fun S'=>qez P ops S' U∧qeA P ops (p+1) r S' K
  | none=>False
end lexM
def qnj (P:Program) (T:Nat) (Us:List (List Nat)) (ops:List Oper) (S:St) (K:St→Prop):Prop:=aOps P true ops (ops.take T) S fun ST=>qeA P ops T Us ST K
end Go.Ab
namespace Go.Ab
variable {P:Program} {A A':Nat→Prop} {m m':OMap} {h h':OFun} {w w':World} {H:Heap} {fr fr':Fr} {a:Act}
def qa8 (n:Nat):Code→Bool
 | .region _ ops d=>ops.toList.all (opOk n)&&(!d||qgH ops.toList)
 | .seq x y=>qa8 n x&&qa8 n y
 | .cond c x y=>opdLt n c&&qa8 n x&&qa8 n y
 | .block _ b=>qa8 n b
 | .loop b=>qa8 n b
 | _=>true
theorem qaE (hm:P.follows .mixedOrders=true) {n:Nat}:∀(c:Code) (S:St) (Q:Exit→St→Prop),qa8 n c=true→awp P n c S Q→AWP P n c S Q
 | .skip,S,Q,_,h=>fun x a w A m hI=>wp_skip ⟨S,A,m,h,hI⟩
 | .region id ops d,S,Q,hok,h=>fun x a w A m hI=>by
  simp only[qa8,Bool.and_eq_true]at hok
  have hQ:∀S' a' w' A' m',Q .normal S'→Inv x n S' a' w' A' m'→(fun e a' w'=>∃S' A' m',Q e S'∧Inv x n S' a' w' A' m') Exit.normal a' w':=fun S' a' w' A' m' h1 h2=>⟨S',A',m',h1,h2⟩
  cases d with
  | true=>exact qni hm hok.1 (by simpa using hok.2) hI h hQ
  | false =>
   refine wp_region_list ?_
   have:=qcW (Q:=fun e a' w'=>∃S' A' m',Q e S'∧Inv x n S' a' w' A' m') (all:=ops.toList) hok.1 hQ ops.toList false S a w A m hok.1 hI h
   simpa using this
 | .seq c d,S,Q,hok,h=>fun x a w A m hI=>by
  simp only[qa8,Bool.and_eq_true]at hok
  refine wp_seq (wp_mono (qaE hm c S _ hok.1 h x a w A m hI) fun e a' w' ⟨S',A',m',hq,hI'⟩ =>?_)
  cases e with
  | normal=>exact qaE hm d S' Q hok.2 hq x a' w' A' m' hI'
  | _=>exact⟨S',A',m',hq,hI'⟩
 | .cond c t e,S,Q,hok,h=>fun x a w A m hI=>by
  simp only[qa8,Bool.and_eq_true]at hok
  obtain⟨hc,h⟩:=h
  have hg:Agree S.fr (cutF n S.fr) [c]:=qbS (by simpa using hok.1.1)
  have hr:=hI.opnd.ev (x:=c) (by rw[hg.ok (by simp)]; exact hc)
  rw[hg.ev (by simp)]at hr
  cases hev:ev S.fr c<;>simp only[hev]at h
  case bool b =>
   rw[hev]at hr
   refine wp_cond_split hr.bool (fun hb =>?_) (fun hb =>?_)
   ·exact qaE hm t S Q hok.1.2 (h.1 hb) x a w A m hI
   ·exact qaE hm e S Q hok.2 (h.2 hb) x a w A m hI
 | .block id b,S,Q,hok,h=>fun x a w A m hI=>by
  refine wp_block (wp_mono (qaE hm b S _ hok h x a w A m hI) fun e a' w' ⟨S',A',m',hq,hI'⟩ =>?_)
  cases e with
  | exit id' =>
   simp only[qdf,Exit.inBlock]at hq ⊢
   by_cases hid:id'=id
   ·rw[if_pos hid]
    have:(id'==id)=true:=by simpa using hid
    rw[this]at hq
    exact⟨S',A',m',hq,hI'⟩
   ·rw[if_neg hid]
    have:(id'==id)=false:=by simpa using hid
    rw[this]at hq
    exact⟨S',A',m',hq,hI'⟩
  | _=>exact⟨S',A',m',hq,hI'⟩
 | .loop b,S,Q,_,h=>h
 | .exit id,S,Q,_,h=>fun x a w A m hI=>wp_exit ⟨S,A,m,h,hI⟩
 | .ret,S,Q,_,h=>fun x a w A m hI=>wp_ret ⟨S,A,m,h,hI⟩
 | .rangeFunc _ _ _ _,_,_,_,h=>h.elim
 | .scope _,_,_,_,h=>h.elim
 | .label _,_,_,_,h=>h.elim
 | .goto _,_,_,_,h=>h.elim
 | .refuse _,_,_,_,h=>h.elim
def awpL (P:Program) (n:Nat) (L:List Nat):Code→St→(Exit→St→Prop)→Prop
 | .region id ops d,S,Q=>bif L.contains id then Ends P n (.region id ops d) S Q else aOps P d ops.toList ops.toList S (Q .normal)
 | .seq a b,S,Q=>awpL P n L a S (thenQ (fun S'=>awpL P n L b S' Q) Q)
 | .cond c x y,S,Q=>okv S.fr c∧match ev S.fr c with
  | .bool t=>(t=true→awpL P n L x S Q)∧(t=false→awpL P n L y S Q)
  | _=>False
 | .block id b,S,Q=>awpL P n L b S (qdf id Q)
 | c,S,Q=>awp P n c S Q
def qcE (n:Nat) (L:List Nat):Code→Bool
 | .region id ops d=>L.contains id||(ops.toList.all (opOk n)&&(!d||qgH ops.toList))
 | .seq x y=>qcE n L x&&qcE n L y
 | .cond c x y=>opdLt n c&&qcE n L x&&qcE n L y
 | .block _ b=>qcE n L b
 | .loop _=>true
 | c=>qa8 n c
theorem qdE (hm:P.follows .mixedOrders=true) {n:Nat} {L:List Nat}:∀(c:Code) (S:St) (Q:Exit→St→Prop),qcE n L c=true→awpL P n L c S Q→AWP P n c S Q
 | .region id ops d,S,Q,hok,h=>by
  simp only[qcE,Bool.or_eq_true]at hok
  simp only[awpL]at h
  cases hid:L.contains id with
  | true=>rw[hid]at h; exact h
  | false =>
   rw[hid]at h
   exact qaE hm (.region id ops d) S Q (by simp only[qa8]; exact hok.resolve_left (by rw[hid]; decide)) h
 | .seq c d,S,Q,hok,h=>fun x a w A m hI=>by
  simp only[qcE,Bool.and_eq_true]at hok
  refine wp_seq (wp_mono (qdE hm c S _ hok.1 h x a w A m hI) fun e a' w' ⟨S',A',m',hq,hI'⟩ =>?_)
  cases e with
  | normal=>exact qdE hm d S' Q hok.2 hq x a' w' A' m' hI'
  | _=>exact⟨S',A',m',hq,hI'⟩
 | .cond c t e,S,Q,hok,h=>fun x a w A m hI=>by
  simp only[qcE,Bool.and_eq_true]at hok
  obtain⟨hc,h⟩:=h
  have hg:Agree S.fr (cutF n S.fr) [c]:=qbS (by simpa using hok.1.1)
  have hr:=hI.opnd.ev (x:=c) (by rw[hg.ok (by simp)]; exact hc)
  rw[hg.ev (by simp)]at hr
  cases hev:ev S.fr c<;>simp only[hev]at h
  case bool b =>
   rw[hev]at hr
   refine wp_cond_split hr.bool (fun hb =>?_) (fun hb =>?_)
   ·exact qdE hm t S Q hok.1.2 (h.1 hb) x a w A m hI
   ·exact qdE hm e S Q hok.2 (h.2 hb) x a w A m hI
 | .block id b,S,Q,hok,h=>fun x a w A m hI=>by
  refine wp_block (wp_mono (qdE hm b S _ hok h x a w A m hI) fun e a' w' ⟨S',A',m',hq,hI'⟩ =>?_)
  cases e with
  | exit id' =>
   simp only[qdf,Exit.inBlock]at hq ⊢
   by_cases hid:id'=id
   ·rw[if_pos hid]
    have:(id'==id)=true:=by simpa using hid
    rw[this]at hq
    exact⟨S',A',m',hq,hI'⟩
   ·rw[if_neg hid]
    have:(id'==id)=false:=by simpa using hid
    rw[this]at hq
    exact⟨S',A',m',hq,hI'⟩
  | _=>exact⟨S',A',m',hq,hI'⟩
 | .skip,S,Q,hok,h=>qaE hm .skip S Q hok h
 | .loop _,_,_,_,h=>h
 | .exit id,S,Q,hok,h=>qaE hm (.exit id) S Q hok h
 | .ret,S,Q,hok,h=>qaE hm .ret S Q hok h
 | .rangeFunc _ _ _ _,_,_,_,h=>h.elim
 | .scope _,_,_,_,h=>h.elim
 | .label _,_,_,_,h=>h.elim
 | .goto _,_,_,_,h=>h.elim
 | .refuse _,_,_,_,h=>h.elim
def Weak (S S':St):Prop:=∀(x:Ctx) (n:Nat) (a:Act) (w:World) (A:Nat→Prop) (m:OMap),Inv x n S a w A m→∃A' m',Inv x n S' a w A' m'
theorem Weak.trans {S S' S'':St} (h1:Weak S S') (h2:Weak S' S''):Weak S S'':=fun x n a w A m h=>by
 obtain⟨A',m',h'⟩:=h1 x n a w A m h
 exact h2 x n a w A' m' h'
theorem qeB (hm:P.follows .mixedOrders=true) {n:Nat} {ι:Type} (σ:ι→St) (μ:ι→Nat) {c:Code} (hok:qa8 n c=true) {S:St} {Q:Exit→St→Prop} (i0:ι) (h0:Weak S (σ i0))
  (round:∀i,awp P n c (σ i) (thenQ (fun S'=>∃j,Weak S' (σ j)∧μ j<μ i) Q)):Ends P n (.loop c) S Q:=fun x a w A m hI=>by
 have key:∀(k:Nat) (i:ι) (a:Act) (w:World) (A:Nat→Prop) (m:OMap),μ i<k→Inv x n (σ i) a w A m→Code.rounds P c (fun e a' w'=>∃S' A' m',Q e S'∧Inv x n S' a' w' A' m') k a w:=by
  intro k
  induction k with
  | zero=>intro i a w A m h; exact absurd h (Nat.not_lt_zero _)
  | succ k ih =>
   intro i a w A m hlt hI
   rw[rounds_succ]
   refine wp_mono (qaE hm c (σ i) _ hok (round i) x a w A m hI) fun e a' w' ⟨S',A',m',hq,hI'⟩ =>?_
   cases e with
   | normal =>
    obtain⟨j,hw,hj⟩:=hq
    obtain⟨A'',m'',hI''⟩:=hw x n a' w' A' m' hI'
    exact ih j a' w' A'' m'' (by omega) hI''
   | _=>exact⟨S',A',m',hq,hI'⟩
 obtain⟨A',m',hI'⟩:=h0 x n a w A m hI
 exact wp_loop_rounds (μ i0+1) (key _ i0 a w A' m' (Nat.lt_succ_self _) hI')
def ExL {δ:Type} (I:δ→Prop) (σ:δ→St) (S:St):Prop:=∃y,I y∧Weak S (σ y)
def wkC (ρ:List Nat) (H':Heap):PV→PV→Prop
 | _, .top=>True
 | .pb k o, .pb k' o'=>ρ[k']?=some k∧o=o'∧isBox H' k'
 | p,q=>p=q∧qak p=true
def wkCs (ρ:List Nat) (H':Heap):List PV→List PV→Prop
 | [],[]=>True
 | p::r,q::s=>wkC ρ H' p q∧wkCs ρ H' r s
 | _,_=>False
def wkA (H:Heap) (ρ φ:List Nat) (H':Heap):PV→PV→Prop
 | _, .top=>True
 | .sf k z, .sf k' z'=>ρ[k']?=some k∧z=z'∧isArr H' k' z
 | .so k z lo len, .so k' z' lo' len'=>ρ[k']?=some k∧z=z'∧lo=lo'∧len=len'∧isArr H' k' z
 | .pa k z i o, .pa k' z' i' o'=>ρ[k']?=some k∧z=z'∧i=i'∧o=o'∧isArr H' k' z
 | .pb k o, .pb k' o'=>ρ[k']?=some k∧o=o'∧isBox H' k'
 | .sb k z n, .sb k' z' n'=>ρ[k']?=some k∧z=z'∧n=n'∧isBox H' k'
 | .own k, .own k'=>ρ[k']?=some k∧∃o,H'[k']?=some (some o)
 | .cp k C, .cp k' C'=>ρ[k']?=some k∧C=C'∧∃o,H'[k']?=some (some o)
 | .sf k z, .sl z' rows=>k∈φ∧H[k]?=some (some (.arr z rows))∧z=z'
 | .sb k z n, .sl z' rows=>k∈φ∧z=z'∧∃cs,H[k]?=some (some (.box cs))∧cs.all qak=true∧n*z≤cs.length∧rows=rowsB z n cs
 | .pb k o, .pe z rows i o'=>k∈φ∧i=0∧o=o'∧∃cs,H[k]?=some (some (.box cs))∧cs.all qak=true∧z=cs.length∧rows=[cs]
 | .fn f cs, .fn g ds=>f=g∧wkCs ρ H' cs ds
 | p,q=>p=q∧qak p=true
def wkL (H:Heap) (ρ φ:List Nat) (H':Heap):List PV→List PV→Prop
 | [],[]=>True
 | p::r,q::s=>wkA H ρ φ H' p q∧wkL H ρ φ H' r s
 | _,_=>False
def wkB (H:Heap) (ρ φ:List Nat) (H':Heap):PV→PV→Prop
 | .agg cs, .agg ds=>wkL H ρ φ H' cs ds
 | p,q=>wkA H ρ φ H' p q
def wkT (H:Heap) (ρ φ:List Nat) (H':Heap):List PV→List PV→Prop
 | [],[]=>True
 | p::r,q::s=>wkB H ρ φ H' p q∧wkT H ρ φ H' r s
 | _,_=>False
def wkV (H:Heap) (ρ φ:List Nat) (H':Heap):PV→PV→Prop
 | .agg cs, .agg ds=>wkL H ρ φ H' cs ds
 | .tup cs, .tup ds=>wkT H ρ φ H' cs ds
 | .fn f cs, .fn g ds=>f=g∧wkL H ρ φ H' cs ds
 | .opt c p,q=>c=true∧wkA H ρ φ H' p q
 | p,q=>wkA H ρ φ H' p q
def wkF (H:Heap) (ρ φ:List Nat) (H':Heap) (fr:Fr):Fr→Prop
 | []=>True
 | (t,q)::r=>wkV H ρ φ H' (slot fr t) q∧wkF H ρ φ H' fr r
def wkO (H:Heap) (ρ φ:List Nat) (H':Heap):Option (Option Obj)→Option Obj→Prop
 | _,none=>True
 | some (some (.arr z rows)),some (.arr z' rows')=>z=z'∧rows=rows'
 | some (some (.box cs)),some (.box ds)=>wkL H ρ φ H' cs ds
 | _,_=>False
def wkH (H:Heap) (ρ φ:List Nat) (H':Heap):List Nat→Heap→Prop
 | _,[]=>True
 | k::r,o::s=>wkO H ρ φ H' H[k]? o∧wkH H ρ φ H' r s
 | [],_::_=>False
def qb7:List Nat→Bool
 | []=>true
 | k::r => !r.contains k&&qb7 r
def Wk (ρ φ:List Nat) (S S':St):Prop:=qb7 (ρ++φ)=true∧wkF S.H ρ φ S'.H S.fr S'.fr∧wkH S.H ρ φ S'.H ρ S'.H
theorem qfU:∀ {l:List Nat},qb7 l=true→∀(i j:Nat) (k:Nat),l[i]?=some k→l[j]?=some k→i=j
 | [],_,i,j,k,hi,_=>by simp at hi
 | x::r,h,i,j,k,hi,hj=>by
  simp only[qb7,Bool.and_eq_true,Bool.not_eq_true',List.contains_eq_mem,decide_eq_false_iff_not]at h
  cases i with
  | zero =>
   cases j with
   | zero=>rfl
   | succ j =>
    cases hi
    exact absurd (List.mem_of_getElem? (by simpa using hj)) h.1
  | succ i =>
   cases j with
   | zero =>
    cases hj
    exact absurd (List.mem_of_getElem? (by simpa using hi)) h.1
   | succ j=>rw[qfU h.2 i j k (by simpa using hi) (by simpa using hj)]
theorem qeC {ρ φ:List Nat} {H H1:Heap}:∀ {r:List Nat} {s:Heap},wkH H ρ φ H1 r s→∀(k':Nat) (o':Obj),s[k']?=some (some o')→∃k,r[k']?=some k∧wkO H ρ φ H1 H[k]? (some o')
 | _,[],_,k',o',h=>by simp at h
 | [],_::_,h,_,_,_=>h.elim
 | k::r,o::s,h,k',o',hk=>by
  cases k' with
  | zero=>cases hk; exact⟨k,rfl,h.1⟩
  | succ k' =>
   obtain⟨j,h1,h2⟩:=qeC h.2 k' o' (by simpa using hk)
   exact⟨j,by simpa using h1,h2⟩
def mapM' (ρ:List Nat) (m:OMap):OMap:=fun k'=>(ρ[k']?).bind m
def withA (A:Nat→Prop) (m:OMap) (H:Heap) (φ:List Nat):Nat→Prop:=fun b=>A b∨∃k C o,k∈φ∧getO H k=some o∧m k=some (some b,C)
section wk
variable {ρ φ:List Nat} {H':Heap}
theorem qbq {k:Nat} {o:Obj} (hk:H[k]?=some (some o)):getO H k=some o:=by simp[getO,hk]
theorem qhb (hw:wkH H ρ φ H' ρ H') {k k' z:Nat} (hr:ρ[k']?=some k) (ha:isArr H' k' z):∃rows,getO H' k'=some (.arr z rows)∧getO H k=some (.arr z rows):=by
 obtain⟨rows,hk⟩:=ha
 obtain⟨j,h1,h2⟩:=qeC hw k' _ hk
 rw[hr]at h1
 cases h1
 unfold wkO at h2
 split at h2
 ·rename_i e; cases e
 ·rename_i z0 r0 z1 r1 e1 e2
  cases e2
  obtain⟨rfl,rfl⟩:=h2
  exact⟨_,qbq hk,qbq e1⟩
 ·rename_i e2; cases e2
 ·exact h2.elim
theorem qhc (hw:wkH H ρ φ H' ρ H') {k k':Nat} (hr:ρ[k']?=some k) (ha:isBox H' k'):∃cs ds,getO H' k'=some (.box ds)∧getO H k=some (.box cs)∧wkL H ρ φ H' cs ds:=by
 obtain⟨ds,hk⟩:=ha
 obtain⟨j,h1,h2⟩:=qeC hw k' _ hk
 rw[hr]at h1
 cases h1
 unfold wkO at h2
 split at h2
 ·rename_i e; cases e
 ·rename_i e2; cases e2
 ·rename_i cs ds' e1 e2
  cases e2
  exact⟨cs,ds,qbq hk,qbq e1,h2⟩
 ·exact h2.elim
theorem qjh:∀ {cs ds:List PV},wkCs ρ H' cs ds→cs.length=ds.length∧∀(i:Nat) (q:PV),ds[i]?=some q→∃p,cs[i]?=some p∧wkC ρ H' p q
 | [],[],_=>⟨rfl,by simp⟩
 | p::r,q::s,h=>by
  obtain⟨h1,h2⟩:=qjh h.2
  refine⟨by simp[h1],fun i q' hi =>?_⟩
  cases i with
  | zero=>cases hi; exact⟨p,rfl,h.1⟩
  | succ i =>
   obtain⟨p',hp',hw⟩:=h2 i q' (by simpa using hi)
   exact⟨p',by simpa using hp',hw⟩
 | [],_::_,h=>h.elim
 | _::_,[],h=>h.elim
theorem qnk (hw:wkH H ρ φ H' ρ H') {p q:PV} {v:Value} (hr:RepO A m (getO H) w p v) (hp:wkC ρ H' p q):RepO (withA A m H φ) (mapM' ρ m) (getO H') w q v:=by
 have hA:∀b,A b→withA A m H φ b:=fun b hb => .inl hb
 have mm:∀ {k k':Nat} {x},ρ[k']?=some k→m k=x→mapM' ρ m k'=x:=fun h1 h2=>by simp[mapM',h1,h2]
 unfold wkC at hp
 split at hp
 ·exact .topI _
 ·rename_i k o k' o'
  obtain⟨h1,rfl,h2⟩:=hp
  obtain⟨cs,ds,e1,e2,_⟩:=qhc hw h1 h2
  cases hr with
  | imm hi=>cases hi
  | pb _ _ C b cs' hk hm=>exact .pb k' _ C b ds e1 (mm h1 hm)
 ·obtain⟨rfl,hn⟩:=hp
  exact .imm ((hr.toI hn).mono hA (fun _ _=>rfl))
theorem qd2 (hC:ConcO A m (getO H) w) (hw:wkH H ρ φ H' ρ H') {p q:PV} {v:Value} (hr:RepO A m (getO H) w p v) (hp:wkA H ρ φ H' p q):RepO (withA A m H φ) (mapM' ρ m) (getO H') w q v:=by
 have hA:∀b,A b→withA A m H φ b:=fun b hb => .inl hb
 have mm:∀ {k k':Nat} {x},ρ[k']?=some k→m k=x→mapM' ρ m k'=x:=fun h1 h2=>by simp[mapM',h1,h2]
 unfold wkA at hp
 split at hp
 ·exact .topI _
 ·rename_i k z k' z'
  obtain⟨h1,rfl,h2⟩:=hp
  obtain⟨rows,e1,e2⟩:=qhb hw h1 h2
  cases hr with
  | imm hi=>cases hi
  | sfN _ _ C ao hk hm=>rw[e2]at hk; cases hk; exact .sfN k' _ C ao e1 (mm h1 hm)
  | sf _ _ C b rows' hk hm=>rw[e2]at hk; cases hk; exact .sf k' _ C b _ e1 (mm h1 hm)
 ·rename_i k z lo len k' z' lo' len'
  obtain⟨h1,rfl,rfl,rfl,h2⟩:=hp
  obtain⟨rows,e1,e2⟩:=qhb hw h1 h2
  cases hr with
  | imm hi=>cases hi
  | so0 _ _ C cap ao hk hm hc=>rw[e2]at hk; cases hk; exact .so0 k' _ C cap ao e1 (mm h1 hm) hc
  | soE _ _ _ C cap ao rows' b hk hm hlo=>rw[e2]at hk; cases hk; exact .soE k' _ _ C cap ao _ b e1 (mm h1 hm) hlo
  | so _ _ _ _ C cap b rows' hk hm hl hc=>rw[e2]at hk; cases hk; exact .so k' _ _ _ C cap b _ e1 (mm h1 hm) hl hc
 ·rename_i k z i o k' z' i' o'
  obtain⟨h1,rfl,rfl,rfl,h2⟩:=hp
  obtain⟨rows,e1,e2⟩:=qhb hw h1 h2
  cases hr with
  | imm hi=>cases hi
  | pa _ _ _ _ C b rows' hk hm=>rw[e2]at hk; cases hk; exact .pa k' _ _ _ C b _ e1 (mm h1 hm)
 ·rename_i k o k' o'
  obtain⟨h1,rfl,h2⟩:=hp
  obtain⟨cs,ds,e1,e2,_⟩:=qhc hw h1 h2
  cases hr with
  | imm hi=>cases hi
  | pb _ _ C b cs' hk hm=>exact .pb k' _ C b ds e1 (mm h1 hm)
 ·rename_i k z n k' z' n'
  obtain⟨h1,rfl,rfl,h2⟩:=hp
  obtain⟨cs,ds,e1,e2,_⟩:=qhc hw h1 h2
  cases hr with
  | imm hi=>cases hi
  | sb _ _ _ C b cap cs' hk hm hc=>exact .sb k' _ _ C b cap ds e1 (mm h1 hm) hc
 ·rename_i k k'
  obtain⟨h1,o,h2⟩:=hp
  cases hr with
  | imm hi=>cases hi
  | own _ C ob o' hk hm=>exact .own k' C ob o (qbq h2) (mm h1 hm)
 ·rename_i k C k' C'
  obtain⟨h1,rfl,o,h2⟩:=hp
  cases hr with
  | imm hi=>cases hi
  | cp _ _ ob o' _ hk hm=>exact .cp k' _ ob o _ (qbq h2) (mm h1 hm)
 ·rename_i k z z' rows
  obtain⟨h1,h2,rfl⟩:=hp
  have hk':=qbq h2
  cases hr with
  | imm hi=>cases hi
  | sfN _ _ C ao hk hm=>rw[hk']at hk; cases hk; exact .imm (.slE _ _ _)
  | sf _ _ C b rows' hk hm =>
   rw[hk']at hk
   cases hk
   obtain⟨u,g1,g2,g3⟩:=hC.rowI hk' hm
   exact .imm (.sl z rows b 0 C u (.inr ⟨k,C,_,h1,hk',hm⟩) (hC.room hk' hm).1 g1 g2 fun i j r c hr hc=>(g3 i j r c hr hc).mono hA (fun _ _=>rfl))
 ·rename_i k z n z' rows
  obtain⟨h1,rfl,cs,h2,hno,hzl,rfl⟩:=hp
  have hk':=qbq h2
  cases hr with
  | imm hi=>cases hi
  | sb _ _ _ C b cap cs' hk hm hc =>
   rw[hk']at hk
   cases hk
   obtain⟨ob,C',hm',ho⟩:=hC.at_ k _ hk'
   rw[hm]at hm'
   cases hm'
   obtain⟨_,_,cur,e,fz,hcur,_,_,hcell⟩:=ho
   have row:∀(i:Nat) (r:List PV),(rowsB z n cs)[i]?=some r→i<n∧r=(cs.drop (i*z)).take z:=fun i r hr=>by
    unfold rowsB at hr
    rw[List.getElem?_map]at hr
    by_cases hi:i<n
    ·rw[List.getElem?_range hi]at hr
     cases hr
     exact⟨hi,rfl⟩
    ·rw[List.getElem?_eq_none (by simpa using hi)]at hr
     cases hr
   have cell:∀(i j:Nat) (r:List PV) (c:PV),(rowsB z n cs)[i]?=some r→r[j]?=some c→cs[i*z+j]?=some c:=fun i j r c hr hcj=>by
    obtain⟨_,rfl⟩:=row i r hr
    rw[List.getElem?_take]at hcj
    split at hcj
    ·rw[List.getElem?_drop]at hcj; exact hcj
    ·cases hcj
   have hlen:(rowsB z n cs).length=n:=by simp[rowsB]
   have:=RepI.sl (A:=withA A m H φ) (w:=w) z (rowsB z n cs) b 0 cap (fun i j=>cur.getD (i*z+j) undef) (.inr ⟨k,C,_,h1,hk',hm⟩) (by rw[hlen]; exact hc)
    (fun i r hr=>by
     obtain⟨hi,rfl⟩:=row i r hr
     have:(i+1)*z≤n*z:=Nat.mul_le_mul_right _ (by omega)
     rw[Nat.succ_mul]at this
     simp
     omega)
    (fun i j r c hr hcj=>by
     obtain⟨u,hu,_⟩:=hcell _ c (cell i j r c hr hcj)
     simp[World.cell?,hcur,hu,Array.getD_eq_getD_getElem?])
    (fun i j r c hr hcj=>by
     have h3:=cell i j r c hr hcj
     obtain⟨u,hu,hru⟩:=hcell _ c h3
     have h4:=(hru.toI (List.all_eq_true.1 hno c (List.mem_of_getElem? h3))).mono hA (fun _ _=>rfl)
     simpa[Array.getD_eq_getD_getElem?,hu]using h4)
   rw[hlen]at this
   exact .imm this
 ·rename_i k o z rows i o'
  obtain⟨h1,rfl,rfl,cs,h2,hno,rfl,rfl⟩:=hp
  have hk':=qbq h2
  cases hr with
  | imm hi=>cases hi
  | pb _ _ C b cs' hk hm =>
   rw[hk']at hk
   cases hk
   obtain⟨ob,C',hm',ho⟩:=hC.at_ k _ hk'
   rw[hm]at hm'
   cases hm'
   obtain⟨_,_,cur,e,fz,hcur,_,_,hcell⟩:=ho
   have one:∀ {i:Nat} {r:List PV},([cs]:List (List PV))[i]?=some r→i=0∧r=cs:=fun {i r} hr=>by
    cases i with
    | zero=>cases hr; exact⟨rfl,rfl⟩
    | succ i=>simp at hr
   have:=RepI.pe (A:=withA A m H φ) (w:=w) cs.length [cs] 0 o b 0 (fun _ j=>cur.getD j undef) (.inr ⟨k,C,_,h1,hk',hm⟩) (fun i r hr=>by rw[(one hr).2])
    (fun i j r c hr hcj=>by
     obtain⟨rfl,rfl⟩:=one hr
     obtain⟨u,hu,_⟩:=hcell j c hcj
     simp[World.cell?,hcur,hu,Array.getD_eq_getD_getElem?])
    (fun i j r c hr hcj=>by
     obtain⟨rfl,rfl⟩:=one hr
     obtain⟨u,hu,hru⟩:=hcell j c hcj
     have h4:=(hru.toI (List.all_eq_true.1 hno c (List.mem_of_getElem? hcj))).mono hA (fun _ _=>rfl)
     simpa[Array.getD_eq_getD_getElem?,hu]using h4)
   exact .imm (by simpa using this)
 ·rename_i f cs g ds
  obtain⟨rfl,hp⟩:=hp
  obtain⟨us,rfl,hl,hh⟩:=hr.fnI
  obtain⟨h1,h2⟩:=qjh hp
  exact .fn f _ us (hl.trans h1) fun i c hc=>by
   obtain⟨p',hp',hw'⟩:=h2 i c hc
   exact qnk hw (hh i p' hp') hw'
 ·obtain⟨rfl,hn⟩:=hp
  exact .imm ((hr.toI hn).mono hA (fun _ _=>rfl))
theorem qe7:∀ {cs ds:List PV},wkL H ρ φ H' cs ds→cs.length=ds.length∧∀(i:Nat) (q:PV),ds[i]?=some q→∃p,cs[i]?=some p∧wkA H ρ φ H' p q
 | [],[],_=>⟨rfl,by simp⟩
 | p::r,q::s,h=>by
  obtain⟨h1,h2⟩:=qe7 h.2
  refine⟨by simp[h1],fun i q' hi =>?_⟩
  cases i with
  | zero=>cases hi; exact⟨p,rfl,h.1⟩
  | succ i =>
   obtain⟨p',hp',hw⟩:=h2 i q' (by simpa using hi)
   exact⟨p',by simpa using hp',hw⟩
 | [],_::_,h=>h.elim
 | _::_,[],h=>h.elim
theorem qji:∀ {cs ds:List PV},wkT H ρ φ H' cs ds→cs.length=ds.length∧∀(i:Nat) (q:PV),ds[i]?=some q→∃p,cs[i]?=some p∧wkB H ρ φ H' p q
 | [],[],_=>⟨rfl,by simp⟩
 | p::r,q::s,h=>by
  obtain⟨h1,h2⟩:=qji h.2
  refine⟨by simp[h1],fun i q' hi =>?_⟩
  cases i with
  | zero=>cases hi; exact⟨p,rfl,h.1⟩
  | succ i =>
   obtain⟨p',hp',hw⟩:=h2 i q' (by simpa using hi)
   exact⟨p',by simpa using hp',hw⟩
 | [],_::_,h=>h.elim
 | _::_,[],h=>h.elim
theorem qnl (hC:ConcO A m (getO H) w) (hw:wkH H ρ φ H' ρ H') {p q:PV} {v:Value} (hr:RepO A m (getO H) w p v) (hp:wkB H ρ φ H' p q):RepO (withA A m H φ) (mapM' ρ m) (getO H') w q v:=by
 unfold wkB at hp
 split at hp
 ·obtain⟨us,rfl,hl,hh⟩:=hr.aggI
  obtain⟨h1,h2⟩:=qe7 hp
  exact .agg _ us (hl.trans h1) fun i c hc=>by
   obtain⟨p',hp',hw'⟩:=h2 i c hc
   exact qd2 hC hw (hh i p' hp') hw'
 ·exact qd2 hC hw hr hp
theorem qnm (hC:ConcO A m (getO H) w) (hw:wkH H ρ φ H' ρ H') {p q:PV} {v:Value} (hr:RepO A m (getO H) w p v) (hp:wkV H ρ φ H' p q):RepO (withA A m H φ) (mapM' ρ m) (getO H') w q v:=by
 unfold wkV at hp
 split at hp
 ·obtain⟨us,rfl,hl,hh⟩:=hr.aggI
  obtain⟨h1,h2⟩:=qe7 hp
  exact .agg _ us (hl.trans h1) fun i c hc=>by
   obtain⟨p',hp',hw'⟩:=h2 i c hc
   exact qd2 hC hw (hh i p' hp') hw'
 ·obtain⟨us,rfl,hl,hh⟩:=hr.tupI
  obtain⟨h1,h2⟩:=qji hp
  exact .tup _ us (hl.trans h1) fun i c hc=>by
   obtain⟨p',hp',hw'⟩:=h2 i c hc
   exact qnl hC hw (hh i p' hp') hw'
 ·obtain⟨rfl,hp⟩:=hp
  obtain⟨us,rfl,hl,hh⟩:=hr.fnI
  obtain⟨h1,h2⟩:=qe7 hp
  exact .fn _ _ us (hl.trans h1) fun i c hc=>by
   obtain⟨p',hp',hw'⟩:=h2 i c hc
   exact qd2 hC hw (hh i p' hp') hw'
 ·obtain⟨rfl,hp⟩:=hp
  cases hr with
  | imm hi=>cases hi
  | optT _ _ hh=>exact qd2 hC hw hh hp
 ·exact qd2 hC hw hr hp
theorem qjj {fr:Fr}:∀ {fr':Fr},wkF H ρ φ H' fr fr'→∀t,slot fr' t = .top∨wkV H ρ φ H' (slot fr t) (slot fr' t)
 | [],_,t => .inl rfl
 | (t',q)::r,h,t=>by
  simp only[slot]
  cases e:t'==t with
  | true =>
   have:t'=t:=by simpa using e
   subst this
   exact .inr h.1
  | false=>exact qjj h.2 t
theorem Wk.inv {S S':St} (h:Wk ρ φ S S') {x:Ctx} {n:Nat} (hI:Inv x n S a w A m):Inv x n S' a w (withA A m S.H φ) (mapM' ρ m):=by
 obtain⟨hnd,hf,hh⟩:=h
 have hC:=hI.conc
 have inρφ:∀k,k∈ρ→k∈φ→False:=fun k h1 h2=>by
  obtain⟨i,hi⟩:=List.mem_iff_getElem?.1 h1
  obtain⟨j,hj⟩:=List.mem_iff_getElem?.1 h2
  have hil:i<ρ.length:=(List.getElem?_eq_some_iff.1 hi).1
  have:=qfU hnd i (ρ.length+j) k (by rw[List.getElem?_append_left hil]; exact hi) (by rw[List.getElem?_append_right (by omega),Nat.add_sub_cancel_left]; exact hj)
  omega
 have injρ:∀i j k,ρ[i]?=some k→ρ[j]?=some k→i=j:=fun i j k hi hj=>by
  have hil:i<ρ.length:=(List.getElem?_eq_some_iff.1 hi).1
  have hjl:j<ρ.length:=(List.getElem?_eq_some_iff.1 hj).1
  exact qfU hnd i j k (by rw[List.getElem?_append_left hil]; exact hi) (by rw[List.getElem?_append_left hjl]; exact hj)
 have hA:∀b,A b→withA A m S.H φ b:=fun b hb => .inl hb

 have old:∀k' o',getO S'.H k'=some o'→∃k o,ρ[k']?=some k∧getO S.H k=some o∧((∃z rows,o = .arr z rows∧o' = .arr z rows)∨∃cs ds,o = .box cs∧o' = .box ds∧wkL S.H ρ φ S'.H cs ds):=fun k' o' hk=>by
  have hk':S'.H[k']?=some (some o'):=by
   unfold getO at hk
   cases e:S'.H[k']? with
   | none=>rw[e]at hk; cases hk
   | some y=>rw[e]at hk; simp only[Option.getD_some]at hk; rw[hk]
  obtain⟨k,h1,h2⟩:=qeC hh k' o' hk'
  unfold wkO at h2
  split at h2
  ·rename_i e; cases e
  ·rename_i z rows z' rows' e1 e2
   cases e2
   obtain⟨rfl,rfl⟩:=h2
   exact⟨k,_,h1,qbq e1, .inl ⟨_,_,rfl,rfl⟩⟩
  ·rename_i cs ds e1 e2
   cases e2
   exact⟨k,_,h1,qbq e1, .inr ⟨_,_,rfl,rfl,h2⟩⟩
  ·exact h2.elim
 have notA:∀k o b C,k∈ρ→getO S.H k=some o→m k=some (some b,C)→¬withA A m S.H φ b:=fun k o b C hk ho hm hb=>by
  rcases hb with hb | ⟨k2,C2,o2,h1,h2,h3⟩
  ·exact (hC.lt ⟨k,o,C,ho,hm⟩).2 hb
  ·have:=hC.inj k k2 o o2 b C C2 ho h2 hm h3
   subst this
   exact inρφ k hk h1
 have mem:∀ {k' k:Nat},ρ[k']?=some k→k∈ρ:=fun h=>List.mem_of_getElem? h
 refine⟨hI.moved,fun b hb =>?_,hI.aok.mono (fun b hb =>?_) hA (fun _ _=>rfl),⟨fun k' o' hk =>?_,fun k1 k2 o1 o2 b C1 C2 hk1 hk2 hm1 hm2 =>?_⟩,fun b ⟨k',o',C,hk,hm⟩ =>?_,fun t =>?_,hI.sz,hI.df⟩
 ·rcases hb with hb | ⟨k,C,o,_,h2,h3⟩
  ·exact hI.sub b hb
  ·exact .inr (hI.own b ⟨k,o,C,h2,h3⟩)
 ·rcases hb with hb | ⟨k,C,o,_,h2,h3⟩
  ·exact hI.aok b hb
  ·exact (hC.lt ⟨k,o,C,h2,h3⟩).1
 ·obtain⟨k,o,h1,h2,h3⟩:=old k' o' hk
  obtain⟨ob,C,hm,ho⟩:=hC.at_ k o h2
  refine⟨ob,C,by simp[mapM',h1,hm],?_⟩
  rcases h3 with ⟨z,rows,rfl,rfl⟩ | ⟨cs,ds,rfl,rfl,hl⟩
  ·cases ob with
   | none=>exact ho
   | some b =>
    obtain⟨_,g2,g3,g4,g5,cur,e,g6,g7,g8⟩:=ho
    refine⟨notA k _ b C (mem h1) h2 hm,g2,g3,g4,g5,cur,e,g6,g7,fun i j r c hr hc =>?_⟩
    obtain⟨u,hu,hru⟩:=g8 i j r c hr hc
    exact⟨u,hu,hru.mono hA (fun _ _=>rfl)⟩
  ·cases ob with
   | none=>exact ho.elim
   | some b =>
    obtain⟨_,g2,cur,e,fz,g6,g7,gz,g8⟩:=ho
    obtain⟨l1,l2⟩:=qe7 hl
    refine⟨notA k _ b C (mem h1) h2 hm,g2,cur,e,fz,g6,by omega,gz,fun j c hc =>?_⟩
    obtain⟨p,hp,hw'⟩:=l2 j c hc
    obtain⟨u,hu,hru⟩:=g8 j p hp
    exact⟨u,hu,qd2 hC hh hru hw'⟩
 ·obtain⟨j1,p1,e1,q1,_⟩:=old k1 o1 hk1
  obtain⟨j2,p2,e2,q2,_⟩:=old k2 o2 hk2
  simp only[mapM',e1,e2,Option.bind_some]at hm1 hm2
  have:=hC.inj j1 j2 p1 p2 b C1 C2 q1 q2 hm1 hm2
  subst this
  exact injρ k1 k2 j1 e1 e2
 ·obtain⟨k,o,h1,h2,_⟩:=old k' o' hk
  simp only[mapM',h1,Option.bind_some]at hm
  exact hI.own b ⟨k,o,C,h2,hm⟩
 ·rcases qjj hf t with e | e
  ·rw[e]; exact .topI _
  ·exact qnm hC hh (hI.fr t) e
theorem Wk.weak {S S':St} (h:Wk ρ φ S S'):Weak S S':=fun _ _ _ _ _ _ hI=>⟨_,_,h.inv hI⟩
theorem qaA {S:St} {t z:Nat} (h:slot S.fr t = .nils):Weak S ⟨(t, .sf S.H.length z)::S.fr,S.H++[some (.arr z [])]⟩:=fun x n a w A m hI=>by
 have hN:=qg1 (z:=z) hI.aok hI.conc (qfI (H:=S.H))
 rw[←qb5]at hN
 have hI':=hI.newW hN
 refine⟨A,_,hI'.moved,hI'.sub,hI'.aok,hI'.conc,hI'.own,fun t' =>?_,hI'.sz,hI'.df⟩
 simp only[slot]
 cases e:t==t' with
 | false=>exact hI'.fr t'
 | true =>
  have:t=t':=by simpa using e
  subst this
  have hr:=hI.fr t
  rw[h]at hr
  obtain⟨ao,hao⟩:=hr.nilsI
  rw[hao]
  simp only[cond_true]
  refine .sfN _ z 0 ao ?_ (by simp[updM])
  rw[qgP]
  simp[updO]
end wk
end Go.Ab
namespace Go.Ab
variable {P:Program} {A A':Nat→Prop} {m m':OMap} {h h':OFun} {w w':World} {H:Heap} {fr fr':Fr} {a:Act}
def argFr:Nat→List PV→Fr
 | _,[]=>[]
 | i,p::r=>(i,p)::argFr (i+1) r
theorem qe8:∀ {args:List PV} {i t:Nat},slot (argFr i args) t=if i≤t then args.getD (t-i) .top else .top
 | [],i,t=>by simp[argFr,slot]
 | p::r,i,t=>by
  simp only[argFr,slot]
  cases e:i==t with
  | true =>
   have:i=t:=by simpa using e
   subst this
   simp
  | false =>
   have hne:i≠t:=by simpa using e
   rw[cond_false,qe8 (args:=r)]
   by_cases h:i≤t
   ·rw[if_pos h,if_pos (by omega),show t-i=(t-(i+1))+1 by omega]
    rfl
   ·rw[if_neg h,if_neg (by omega)]
def retV1 (P:Program) (S:St):ResultVar→PV
 | .tmp t=>slot S.fr t
 | .cell x t=>loadV S.H (aggT P t) (sizeT P t) (ev S.fr (.tmp x))
def qe9 (P:Program) (S:St):ResultVar→Prop
 | .tmp _=>True
 | .cell x t=>vok P S.fr S.H (.load t (.tmp x))∧isPtr (ev S.fr (.tmp x))
def qaL (P:Program) (S:St):List ResultVar→Prop
 | []=>True
 | r::s=>qe9 P S r∧qaL P S s
def retV (P:Program) (S:St):List ResultVar→PV
 | [r]=>retV1 P S r
 | rs => .tup (rs.map (retV1 P S))
def readR (tmps:Array Value):ResultVar→Sem Value
 | .tmp t=>pure (tmps.getD t undef)
 | .cell x t=>do loadVar t (← asAddr (tmps.getD x undef))
theorem qnn (fn:Func) (tmps:Array Value):results fn tmps=(do
  let vs ← fn.results.mapM (readR tmps)
  pure (if h:vs.size=1 then vs[0] else .tuple vs)):=by
 unfold results
 congr 1
def resLt (n:Nat):ResultVar→Bool
 | .tmp t=>decide (t<n)
 | .cell x _=>decide (x<n)
theorem qno {n:Nat} (hC:ConcO A m (getO H) w) {S:St} (hS:S.H=H) (hO:Opnd A m (getO H) w (cutF n S.fr) a) {r:ResultVar} (hn:resLt n r=true) (hr:qe9 P S r) :
  ∃v,(readR a.tmps r).run P w = .ok v w∧RepO A m (getO H) w (retV1 P S r) v:=by
 subst hS
 cases r with
 | tmp t =>
  have:=hO.rep t
  rw[qfK,if_pos (by simpa[resLt]using hn)]at this
  exact⟨_,rfl,this⟩
 | cell x t =>
  obtain⟨⟨h1,h2,h3,h4⟩,hp⟩:=hr
  have hg:Agree S.fr (cutF n S.fr) [.tmp x]:=qbS (by simpa[opdLt,resLt]using hn)
  have hx:=hO.ev (x := .tmp x) (by rw[hg.ok (by simp)]; exact h1)
  rw[hg.ev (by simp)]at hx
  obtain⟨b,o,hv⟩:=hx.ptr hp
  obtain⟨u,hu,hrep⟩:=qii (P:=P) hC qdC h2 h3 hx h4
  have hv':a.tmps.getD x undef = .pointer (some ⟨b,o,none⟩):=hv
  refine⟨u,?_,hrep⟩
  rw[hv]at hu
  simp only[Instr.loadAt,Instr.sureAddr,Sem.run_bind,Sem.run_pure,Result.andThen_ok]at hu
  simp only[readR,hv',asAddr,Sem.run_bind,Sem.run_pure,Result.andThen_ok,hu]
theorem qjk {n:Nat} (hC:ConcO A m (getO H) w) {S:St} (hS:S.H=H) (hO:Opnd A m (getO H) w (cutF n S.fr) a) {fn:Func} {rs:List ResultVar} (hrs:fn.results.toList=rs) (hn:rs.all (resLt n)=true) (hr:qaL P S rs) :
  ∃v,(results fn a.tmps).run P w = .ok v w∧RepO A m (getO H) w (retV P S rs) v:=by
 have key:∀(rs:List ResultVar),rs.all (resLt n)=true→qaL P S rs→∃vs:List Value,vs.length=rs.length∧(rs.mapM (readR a.tmps)).run P w = .ok vs w∧∀i c,(rs.map (retV1 P S))[i]?=some c→RepO A m (getO H) w c (vs.toArray.getD i undef):=by
  intro rs
  induction rs with
  | nil=>exact fun _ _=>⟨[],rfl,rfl,by simp⟩
  | cons r s ih =>
   intro hn hr
   simp only[List.all_cons,Bool.and_eq_true]at hn
   obtain⟨v,hv,hrep⟩:=qno hC hS hO hn.1 hr.1
   obtain⟨vs,hl,hvs,hreps⟩:=ih hn.2 hr.2
   refine⟨v::vs,by simp[hl],?_,fun i c hc =>?_⟩
   ·simp only[List.mapM_cons,Sem.run_bind,hv,Result.andThen_ok,hvs,Sem.run_pure]
   ·cases i with
    | zero=>cases hc; simpa using hrep
    | succ i =>
     have:=hreps i c (by simpa using hc)
     simpa[Array.getD_eq_getD_getElem?]using this
 obtain⟨vs,hl,hvs,hreps⟩:=key rs hn hr
 have hm:(fn.results.mapM (readR a.tmps)).run P w = .ok vs.toArray w:=by
  rw[Array.mapM_eq_mapM_toList,hrs]
  simp[hvs]
 refine⟨if h:vs.toArray.size=1 then vs.toArray[0] else .tuple vs.toArray,?_,?_⟩
 ·rw[qnn,Sem.run_bind,hm]
  rfl
 ·by_cases h1:vs.toArray.size=1
  ·rw[dif_pos h1]
   have h1':vs.length=1:=by simpa using h1
   obtain⟨r,rfl⟩:∃r,rs=[r]:=List.length_eq_one_iff.1 (by omega)
   have:=hreps 0 _ rfl
   obtain⟨v,rfl⟩:=List.length_eq_one_iff.1 h1'
   simpa[retV]using this
  ·rw[dif_neg h1]
   have h1':rs.length≠1:=by
    intro e
    exact h1 (by simp[hl,e])
   have e:retV P S rs = .tup (rs.map (retV1 P S)):=by
    unfold retV
    split
    ·simp at h1'
    ·rfl
   rw[e]
   exact .tup _ _ (by simp[hl]) hreps
def funOk (fn:Func) (c:Code):Bool:=qa8 fn.ntmps c&&fn.results.toList.all (resLt fn.ntmps)
def ghF:Nat→List Nat→Fr
 | _,[]=>[]
 | k,i::r=>(k, .own i)::ghF (k+1) r
def ghK (fr:Fr):Nat→Nat→List Nat→Fr
 | _,_,[]=>[]
 | n,k,_::r=>(k,slot fr n)::ghK fr (n+1) (k+1) r
def shK (Hin Hout:Heap):List Nat→Prop
 | []=>True
 | i::r=>(∃o o',Hin[i]?=some (some o)∧Hout[i]?=some (some o')∧qaD o o')∧shK Hin Hout r
def qd3 (P:Program) (n:Nat) (rs:List ResultVar) (kp:List Nat) (res:PV) (Hout:Heap):Exit→St→Prop
 | .normal,S | .ret,S=>qaL P S rs∧Weak ⟨(0,retV P S rs)::ghK S.fr n 1 kp,S.H⟩ ⟨(0,res)::ghF 1 kp,Hout⟩
 | _,_=>False
def ghV (m:OMap) (k:Nat):Value:=match m k with
 | some (ob,C)=>ownV ob C
 | none=>undef
theorem qnp {k:Nat} {o:Obj} (hk:getO H k=some o):H[k]?=some (some o):=by
 unfold getO at hk
 cases e:H[k]? with
 | none=>rw[e]at hk; cases hk
 | some y=>rw[e]at hk; simp only[Option.getD_some]at hk; rw[hk]
theorem qhd:∀ {kp:List Nat} {k t:Nat},slot (ghF k kp) t=if k≤t∧t<k+kp.length then .own (kp.getD (t-k) 0) else .top
 | [],k,t=>by
  rw[if_neg (by simp only[List.length_nil]; omega)]
  rfl
 | i::r,k,t=>by
  simp only[ghF,slot,qhd (kp:=r)]
  by_cases h:k=t
  ·subst h; simp
  ·have:(k==t)=false:=by simpa using h
   rw[this,cond_false]
   by_cases h2:k≤t∧t<k+(i::r).length
   ·rw[if_pos h2,if_pos (by simp only[List.length_cons]at h2; omega),show t-k=(t-(k+1))+1 by omega]
    rfl
   ·rw[if_neg h2,if_neg (by simp only[List.length_cons]at h2; omega)]
theorem qjl {fr:Fr}:∀ {kp:List Nat} {n k t:Nat},slot (ghK fr n k kp) t=if k≤t∧t<k+kp.length then slot fr (n+(t-k)) else .top
 | [],n,k,t=>by
  rw[if_neg (by simp only[List.length_nil]; omega)]
  rfl
 | i::r,n,k,t=>by
  simp only[ghK,slot,qjl (kp:=r)]
  by_cases h:k=t
  ·subst h; simp
  ·have:(k==t)=false:=by simpa using h
   rw[this,cond_false]
   by_cases h2:k≤t∧t<k+(i::r).length
   ·rw[if_pos h2,if_pos (by simp only[List.length_cons]at h2; omega),show n+1+(t-(k+1))=n+(t-k) by omega]
   ·rw[if_neg h2,if_neg (by simp only[List.length_cons]at h2; omega)]
theorem qfV {Hin Hout:Heap}:∀ {kp:List Nat},shK Hin Hout kp→∀i∈kp,∃o o',getO Hin i=some o∧getO Hout i=some o'∧qaD o o'
 | [],_,i,hi=>by simp at hi
 | j::r,h,i,hi=>by
  rcases List.mem_cons.1 hi with rfl | hi
  ·obtain⟨o,o',h1,h2,h3⟩:=h.1
   exact⟨o,o',qbq h1,qbq h2,h3⟩
  ·exact qfV h.2 i hi
theorem RepO.ownI {A:Nat→Prop} {m:OMap} {h:OFun} {w:World} {k:Nat} {ob:Option Nat} {C:Nat} (r:RepO A m h w (.own k) (ownV ob C)):m k=some (ob,C):=by
 generalize hv:ownV ob C=v at r
 cases r with
 | imm hi=>cases hi
 | own _ C' ob' o hk hm =>
  rw[hm]
  unfold ownV at hv
  cases ob<;>cases ob'<;>simp_all
def RetOk (P:Program) (rs:List ResultVar) (res:PV) (Hout:Heap):Exit→St→Prop
 | .normal,S | .ret,S=>qaL P S rs∧Weak ⟨[(0,retV P S rs)],S.H⟩ ⟨[(0,res)],Hout⟩
 | _,_=>False
theorem qnq {fn:Func} {c:Code} (hok:funOk fn c=true):fn.results.toList.all (resLt fn.ntmps)=true:=by simp only[funOk,Bool.and_eq_true]at hok; exact hok.2
theorem qjm (_hm : P.follows .mixedOrders = true) {f : FuncId} {fn : Func} {c : Code} {args : List PV} {Hin : Heap} {kp : List Nat} {ι : Type} {I : ι → Prop} {res : ι → PV} {Hout : ι → Heap} {Q : Exit → St → Prop} (hf : P.funcs[f]? = some fn) (hname : (fn.name == "runtime.NumGoroutine") = false)
  (hb:fn.body=some c) (hok:fn.results.toList.all (resLt fn.ntmps)=true) (hn0:Nat.ble args.length fn.ntmps=true) (hin:shK Hin Hin kp) (hsh:∀i,I i→shK Hin (Hout i) kp) (hQ:∀e S,Q e S→∃i,I i∧qd3 P fn.ntmps fn.results.toList kp (res i) (Hout i) e S) (hawp:AWP P fn.ntmps c ⟨argFr 0 args++ghF fn.ntmps kp,Hin⟩ Q):GFn P f args Hin kp I res Hout:=by
 have hn:=Nat.le_of_ble_eq_true hn0
 intro A m w vs hA hC hvs hargs
 have hname' : fn.name ≠ "runtime.NumGoroutine" := by simpa using hname
 have hcall:(callFunc f vs).run P w = .ok (.enter f vs) w:=by simp[callFunc,hf,hname',hb]
 unfold CallS
 rw[hcall]
 refine⟨rfl,calls_of_wp hf hb ?_⟩
 have slot_app:∀(x y:Fr) (t:Nat),slot (x++y) t = .top∨slot (x++y) t=slot x t∨(slot (x++y) t=slot y t∧∀q∈x,q.1≠t):=by
  intro x y t
  induction x with
  | nil=>exact .inr (.inr ⟨rfl,by simp⟩)
  | cons p r ih =>
   obtain⟨i,p⟩:=p
   simp only[List.cons_append,slot]
   cases e:i==t with
   | true=>exact .inr (.inl rfl)
   | false =>
    have hne:i≠t:=by simpa using e
    simp only[cond_false]
    rcases ih with h | h | ⟨h,h'⟩
    ·exact .inl h
    ·exact .inr (.inl h)
    ·refine .inr (.inr ⟨h,fun q hq =>?_⟩)
     rcases List.mem_cons.1 hq with rfl | hq
     ·exact hne
     ·exact h' q hq
 let x:Ctx:=⟨w,A,OwnB m (getO Hin),fun t=>ghV m (kp.getD (t-fn.ntmps) 0)⟩
 have hI:Inv x fn.ntmps ⟨argFr 0 args++ghF fn.ntmps kp,Hin⟩ { tmps:=vs++Array.replicate (fn.ntmps-vs.size) undef,defers:=[] } w A m:=by
  refine⟨.refl _ _,fun b hb => .inl hb,hA,hC,fun b hb => .inl hb,fun t =>?_,by simp; omega,rfl⟩
  have hargt:RepO A m (getO Hin) w (slot (argFr 0 args) t) (look x fn.ntmps { tmps:=vs++Array.replicate (fn.ntmps-vs.size) undef,defers:=[] } t):=by
   rw[qe8,if_pos (Nat.zero_le _),Nat.sub_zero]
   cases ht:args[t]? with
   | none =>
    rw[List.getD_eq_getElem?_getD,ht]
    exact .topI _
   | some p =>
    have hlt:t<vs.size:=by rw[hvs]; exact (List.getElem?_eq_some_iff.1 ht).1
    have:=hargs t p ht
    rw[List.getD_eq_getElem?_getD,ht,qb3 (by omega)]
    simpa[Array.getD_eq_getD_getElem?,Array.getElem?_append,hlt]using this
  rcases slot_app (argFr 0 args) (ghF fn.ntmps kp) t with h | h | ⟨h,_⟩
  ·rw[h]; exact .topI _
  ·rw[h]; exact hargt
  ·rw[h,qhd]
   split
   ·rename_i ht
    have hlook:look x fn.ntmps { tmps:=vs++Array.replicate (fn.ntmps-vs.size) undef,defers:=[] } t=ghV m (kp.getD (t-fn.ntmps) 0):=by
     unfold look
     rw[if_neg (by omega)]
    rw[hlook]
    have hmem:kp.getD (t-fn.ntmps) 0∈kp:=by
     rw[List.getD_eq_getElem?_getD,List.getElem?_eq_getElem (by omega)]
     exact List.getElem_mem _
    obtain⟨o,_,h1,_,_⟩:=qfV hin _ hmem
    obtain⟨ob,C,hm',_⟩:=hC.at_ _ o h1
    unfold ghV
    rw[hm']
    exact .own _ C ob o h1 hm'
   ·exact .topI _
 refine wp_mono (hawp _ _ _ _ _ hI) fun e a' w' ⟨S',A',m',hq,hI'⟩ =>?_
 have fin:∀i,I i→qaL P S' fn.results.toList∧Weak ⟨(0,retV P S' fn.results.toList)::ghK S'.fr fn.ntmps 1 kp,S'.H⟩ ⟨(0,res i)::ghF 1 kp,Hout i⟩→a'.defers=[]∧∃v,(results fn a'.tmps).run P w' = .ok v w' ∧
   ∃i v_1 A'_1 m'_1,I i∧Ending.returned v=Ending.returned v_1∧Came A m (getO Hin) w (res i) (getO (Hout i)) v_1 w' A'_1 m'_1∧∀k,k∈kp→m'_1 k=m k∧∃o o',getO Hin k=some o∧getO (Hout i) k=some o'∧qaD o o':=fun i0 hi0 ⟨hr,hw⟩=>by
  obtain⟨v,hv,hrep⟩:=qjk (P:=P) hI'.conc rfl hI'.opnd rfl hok hr
  refine⟨hI'.df,v,hv,?_⟩
  let y:Ctx:=⟨w,A,OwnB m (getO Hin),fun t=>ghV m (kp.getD (t-1) 0)⟩
  have hI1:Inv y 1 ⟨(0,retV P S' fn.results.toList)::ghK S'.fr fn.ntmps 1 kp,S'.H⟩ { tmps := #[v],defers:=[] } w' A' m':=by
   refine⟨hI'.moved,hI'.sub,hI'.aok,hI'.conc,hI'.own,fun t =>?_,rfl,rfl⟩
   cases t with
   | zero=>exact hrep
   | succ t =>
    simp only[slot]
    have e:(0==t+1)=false:=by simp
    rw[e,cond_false,qjl]
    split
    ·rename_i ht
     have h1:=hI'.fr (fn.ntmps+(t+1-1))
     have h2:look x fn.ntmps a' (fn.ntmps+(t+1-1))=look y 1 { tmps := #[v],defers:=[] } (t+1):=by
      unfold look
      rw[if_neg (by omega),if_neg (by omega)]
      show ghV m (kp.getD (fn.ntmps+(t+1-1)-fn.ntmps) 0)=ghV m (kp.getD (t+1-1) 0)
      congr 2
      omega
     rw[←h2]
     exact h1
    ·exact .topI _
  obtain⟨A'',m'',hI2⟩:=hw _ _ _ _ _ _ hI1
  refine⟨i0,v,A'',m'',hi0,rfl,⟨hI2.moved,hI2.sub,hI2.aok,hI2.conc,hI2.own,hI2.fr 0⟩,fun k hk=>⟨?_,qfV (hsh i0 hi0) k hk⟩⟩
  obtain⟨i,hi⟩:=List.mem_iff_getElem?.1 hk
  have hil:i<kp.length:=(List.getElem?_eq_some_iff.1 hi).1
  have h3:=hI2.fr (i+1)
  simp only[slot]at h3
  have e:(0==i+1)=false:=by simp
  rw[e,cond_false,qhd,if_pos (by omega)]at h3
  have hkk:kp.getD (i+1-1) 0=k:=by
   rw[Nat.add_sub_cancel,List.getD_eq_getElem?_getD,hi]
   rfl
  have hl:look y 1 { tmps := #[v],defers:=[] } (i+1)=ghV m k:=by
   unfold look
   rw[if_neg (by omega)]
   show ghV m (kp.getD (i+1-1) 0)=_
   rw[hkk]
  rw[hl,hkk]at h3
  obtain⟨o,_,h1,_,_⟩:=qfV hin k hk
  obtain⟨ob,C,hm',_⟩:=hC.at_ _ o h1
  unfold ghV at h3
  rw[hm']at h3
  rw[h3.ownI,hm']
 obtain⟨i0,hi0,hq'⟩:=hQ e S' hq
 cases e with
 | normal=>exact fin i0 hi0 hq'
 | ret=>exact fin i0 hi0 hq'
 | _=>exact hq'.elim
theorem GFn.mfn {f:FuncId} {args:List PV} {Hin:Heap} {kp:List Nat} {res:PV} {Hout:Heap} (h:GFn P f args Hin kp (fun _:Unit=>True) (fun _=>res) (fun _=>Hout)):MFn P f args Hin kp res Hout:=fun A m w vs hA hC hvs hargs =>
 (h A m w vs hA hC hvs hargs).mono fun _e _w' ⟨_,v,A',m',_,h1,h2,h3⟩=>⟨v,A',m',h1,h2,h3⟩
theorem MFn.gfn {f:FuncId} {args:List PV} {Hin:Heap} {kp:List Nat} {ι:Type} {I:ι→Prop} {res:ι→PV} {Hout:ι→Heap} (i:ι) (hi:I i) (h:MFn P f args Hin kp (res i) (Hout i)):GFn P f args Hin kp I res Hout:=fun A m w vs hA hC hvs hargs =>
 (h A m w vs hA hC hvs hargs).mono fun _e _w' ⟨v,A',m',h1,h2,h3⟩=>⟨i,v,A',m',hi,h1,h2,h3⟩
theorem qjn {Hin Hout:Heap}:∀ {kp:List Nat},shK Hin Hout kp→shK Hin Hin kp
 | [],_=>trivial
 | _::_,h=>⟨by obtain⟨o,_,h1,_,_⟩:=h.1; exact⟨o,o,h1,h1,qaD.refl o⟩,qjn h.2⟩
theorem qhe (hm : P.follows .mixedOrders = true) {f : FuncId} {fn : Func} {c : Code} {args : List PV} {Hin : Heap} {kp : List Nat} {res : PV} {Hout : Heap} {Q : Exit → St → Prop} (hf : P.funcs[f]? = some fn) (hname : (fn.name == "runtime.NumGoroutine") = false)
  (hb:fn.body=some c) (hok:funOk fn c=true) (hn0:Nat.ble args.length fn.ntmps=true) (hsh:shK Hin Hout kp) (hQ:∀e S,Q e S→qd3 P fn.ntmps fn.results.toList kp res Hout e S) (hawp:AWP P fn.ntmps c ⟨argFr 0 args++ghF fn.ntmps kp,Hin⟩ Q):MFn P f args Hin kp res Hout :=
 GFn.mfn (qjm hm hf hname hb (qnq hok) hn0 (qjn hsh) (fun _ _=>hsh) (fun e S h=>⟨(),trivial,hQ e S h⟩) hawp)
theorem MFn.hfn {f:FuncId} {args:List PV} {Hin:Heap} {kp:List Nat} {res:PV} {Hout:Heap} (h:MFn P f args Hin kp res Hout):HFn P f args Hin res Hout:=fun A m w vs hA hC hvs hargs=>by
 refine (h A m w vs hA hC hvs hargs).mono fun e w' ⟨v,A',m',h1,h2,_⟩=>⟨v,A',m',h1,h2⟩
theorem qaa (hm : P.follows .mixedOrders = true) {f : FuncId} {fn : Func} {c : Code} {args : List PV} {Hin : Heap} {res : PV} {Hout : Heap} {Q : Exit → St → Prop} (hf : P.funcs[f]? = some fn) (hname : (fn.name == "runtime.NumGoroutine") = false)
  (hb:fn.body=some c) (hok:funOk fn c=true) (hn0:Nat.ble args.length fn.ntmps=true) (hQ:∀e S,Q e S→RetOk P fn.results.toList res Hout e S) (hawp:awp P fn.ntmps c ⟨argFr 0 args,Hin⟩ Q):HFn P f args Hin res Hout:=by
 have hok':=hok
 simp only[funOk,Bool.and_eq_true]at hok'
 refine MFn.hfn (kp:=[]) (qhe hm hf hname hb hok hn0 trivial hQ (qaE hm c _ Q hok'.1 ?_))
 simpa[ghF]using hawp
theorem qcn (kp : List Nat) (hm : P.follows .mixedOrders = true) {f : FuncId} {fn : Func} {c : Code} {args : List PV} {Hin : Heap} {res : PV} {Hout : Heap} {Q : Exit → St → Prop} (hf : P.funcs[f]? = some fn) (hname : (fn.name == "runtime.NumGoroutine") = false)
  (hb:fn.body=some c) (hok:funOk fn c=true) (hn0:Nat.ble args.length fn.ntmps=true) (hQ:∀e S,Q e S→qd3 P fn.ntmps fn.results.toList kp res Hout e S) (hsh:shK Hin Hout kp) (hawp:awp P fn.ntmps c ⟨argFr 0 args++ghF fn.ntmps kp,Hin⟩ Q):MFn P f args Hin kp res Hout :=
 have hok':qa8 fn.ntmps c=true:=by simp only[funOk,Bool.and_eq_true]at hok; exact hok.1
 qhe hm hf hname hb hok hn0 hsh hQ (qaE hm c _ Q hok' hawp)
def retM (ρ φ:List Nat) (P:Program) (n:Nat) (rs:List ResultVar) (kp:List Nat) (res:PV) (Hout:Heap):Exit→St→Prop
 | .normal,S | .ret,S=>qaL P S rs∧Wk ρ φ ⟨(0,retV P S rs)::ghK S.fr n 1 kp,S.H⟩ ⟨(0,res)::ghF 1 kp,Hout⟩
 | _,_=>False
theorem qcX {ρ φ:List Nat} {n:Nat} {rs:List ResultVar} {kp:List Nat} {res:PV} {Hout:Heap} (e:Exit) (S:St) (h:retM ρ φ P n rs kp res Hout e S):qd3 P n rs kp res Hout e S:=by
 cases e with
 | normal=>exact⟨h.1,h.2.weak⟩
 | ret=>exact⟨h.1,h.2.weak⟩
 | _=>exact h.elim
def ExG {ι:Type} (I:ι→Prop) (res:ι→PV) (Hout:ι→Heap) (kp:List Nat) (p:PV) (fr:Fr) (H:Heap):Prop:=∃i,I i∧Weak ⟨(0,p)::fr,H⟩ ⟨(0,res i)::ghF 1 kp,Hout i⟩
def retG {ι:Type} (I:ι→Prop) (res:ι→PV) (Hout:ι→Heap) (P:Program) (n:Nat) (rs:List ResultVar) (kp:List Nat):Exit→St→Prop
 | .normal,S | .ret,S=>qaL P S rs∧ExG I res Hout kp (retV P S rs) (ghK S.fr n 1 kp) S.H
 | _,_=>False
def qjo (L:List Nat) (fn:Func) (c:Code):Bool:=qcE fn.ntmps L c&&fn.results.toList.all (resLt fn.ntmps)
theorem qnr (L : List Nat) (hm : P.follows .mixedOrders = true) {f : FuncId} {fn : Func} {c : Code} {args : List PV} {Hin : Heap} {res : PV} {Hout : Heap} {Q : Exit → St → Prop} (hf : P.funcs[f]? = some fn) (hname : (fn.name == "runtime.NumGoroutine") = false)
  (hb:fn.body=some c) (hok:qjo L fn c=true) (hn0:Nat.ble args.length fn.ntmps=true) (hQ:∀e S,Q e S→RetOk P fn.results.toList res Hout e S) (hawp:awpL P fn.ntmps L c ⟨argFr 0 args,Hin⟩ Q):HFn P f args Hin res Hout:=by
 simp only[qjo,Bool.and_eq_true]at hok
 refine MFn.hfn (kp:=[]) (GFn.mfn (qjm hm hf hname hb hok.2 hn0 trivial (fun _ _=>trivial) (fun e S h=>⟨(),trivial,hQ e S h⟩) ?_))
 exact qdE hm c _ _ hok.1 (by simpa[ghF]using hawp)
@[simp] theorem qun {ι:Type} {I:ι→Prop} {res:ι→PV} {Hout:ι→Heap} {n:Nat} {rs:List ResultVar} {kp:List Nat} {S:St}:retG I res Hout P n rs kp .normal S=(qaL P S rs∧ExG I res Hout kp (retV P S rs) (ghK S.fr n 1 kp) S.H):=rfl
@[simp] theorem qup {ι:Type} {I:ι→Prop} {res:ι→PV} {Hout:ι→Heap} {n:Nat} {rs:List ResultVar} {kp:List Nat} {S:St}:retG I res Hout P n rs kp .ret S=(qaL P S rs∧ExG I res Hout kp (retV P S rs) (ghK S.fr n 1 kp) S.H):=rfl
def ret0 (P:Program) (rs:List ResultVar) (res:PV):Exit→St→Prop
 | .normal,S | .ret,S=>qaL P S rs∧wkV S.H [] [] [] (retV P S rs) res
 | _,_=>False
theorem qab {rs:List ResultVar} {res:PV} (e:Exit) (S:St) (h:ret0 P rs res e S):RetOk P rs res [] e S:=by
 cases e with
 | normal=>exact⟨h.1,Wk.weak (ρ:=[]) (φ:=[]) ⟨rfl,⟨h.2,trivial⟩,trivial⟩⟩
 | ret=>exact⟨h.1,Wk.weak (ρ:=[]) (φ:=[]) ⟨rfl,⟨h.2,trivial⟩,trivial⟩⟩
 | _=>exact h.elim
def retN (ρ φ:List Nat) (P:Program) (rs:List ResultVar) (res:PV) (Hout:Heap):Exit→St→Prop
 | .normal,S | .ret,S=>qaL P S rs∧Wk ρ φ ⟨[(0,retV P S rs)],S.H⟩ ⟨[(0,res)],Hout⟩
 | _,_=>False
theorem qcY {ρ φ:List Nat} {rs:List ResultVar} {res:PV} {Hout:Heap} (e:Exit) (S:St) (h:retN ρ φ P rs res Hout e S):RetOk P rs res Hout e S:=by
 cases e with
 | normal=>exact⟨h.1,h.2.weak⟩
 | ret=>exact⟨h.1,h.2.weak⟩
 | _=>exact h.elim
section use
variable {q own c:Bool} {f:FuncId} {args args':List PV} {d:Option Nat} {S:St} {K:St→Prop} {res:PV} {Hout:Heap}
theorem CallZ.use (hf:HFn P f args' [] res Hout) (h1:(own||(flatP res))=true) (h2:own=true∨flatO Hout) (h3:whole Hout.length res=true) (h4:arrO Hout=true) (hK:K ⟨put S.fr d (shift S.H.length res),S.H++Hout⟩) :
  CallZ P q f args' true own args d S K:=by
 refine .inl ⟨rfl,res,Hout,hf,?_,h3,h4,hK⟩
 simp only[Bool.or_eq_true]at h1
 rcases h1 with h1 | h1
 ·exact .inl h1
 ·exact h2.imp id fun h=>⟨h1,h⟩
theorem CallZ.use0 (hf:HFn P f args' [] res []) (h1:(own||flatP res)=true) (h3:whole 0 res=true) (hK:K ⟨put S.fr d res,S.H⟩):CallZ P q f args' true own args d S K:=by
 refine CallZ.use hf h1 (.inr trivial) h3 rfl ?_
 rw[qiY h3,List.append_nil]
 exact hK
theorem CallY.use {ok:Bool} (hf:c=true→ok=true∧HFn P f args' [] res []) (h1:(own||flatP res)=true) (h3:whole 0 res=true) (hK:K ⟨put S.fr d (.opt c res),S.H⟩):CallY P q f args' ok own c args d S K :=
 .inl ⟨res,hf,by simpa using h1,h3,hK⟩
end use
section eqs
variable {rs:List ResultVar} {res:PV} {Hout:Heap}
@[simp] theorem quq:ret0 P rs res .normal ⟨fr,H⟩=(qaL P ⟨fr,H⟩ rs∧wkV H [] [] [] (retV P ⟨fr,H⟩ rs) res):=rfl
@[simp] theorem qur:ret0 P rs res .ret ⟨fr,H⟩=(qaL P ⟨fr,H⟩ rs∧wkV H [] [] [] (retV P ⟨fr,H⟩ rs) res):=rfl
@[simp] theorem qus {ρ φ:List Nat}:retN ρ φ P rs res Hout .normal ⟨fr,H⟩=(qaL P ⟨fr,H⟩ rs∧Wk ρ φ ⟨[(0,retV P ⟨fr,H⟩ rs)],H⟩ ⟨[(0,res)],Hout⟩):=rfl
@[simp] theorem qut {ρ φ:List Nat}:retN ρ φ P rs res Hout .ret ⟨fr,H⟩=(qaL P ⟨fr,H⟩ rs∧Wk ρ φ ⟨[(0,retV P ⟨fr,H⟩ rs)],H⟩ ⟨[(0,res)],Hout⟩):=rfl
@[simp] theorem quu {ρ φ:List Nat} {n:Nat} {kp:List Nat}:retM ρ φ P n rs kp res Hout .normal ⟨fr,H⟩=(qaL P ⟨fr,H⟩ rs∧Wk ρ φ ⟨(0,retV P ⟨fr,H⟩ rs)::ghK fr n 1 kp,H⟩ ⟨(0,res)::ghF 1 kp,Hout⟩):=rfl
@[simp] theorem quv {ρ φ:List Nat} {n:Nat} {kp:List Nat}:retM ρ φ P n rs kp res Hout .ret ⟨fr,H⟩=(qaL P ⟨fr,H⟩ rs∧Wk ρ φ ⟨(0,retV P ⟨fr,H⟩ rs)::ghK fr n 1 kp,H⟩ ⟨(0,res)::ghF 1 kp,Hout⟩):=rfl
@[simp] theorem Wk_eq {ρ φ:List Nat} {fr fr':Fr} {H H':Heap}:Wk ρ φ ⟨fr,H⟩ ⟨fr',H'⟩=(qb7 (ρ++φ)=true∧wkF H ρ φ H' fr fr'∧wkH H ρ φ H' ρ H'):=rfl
end eqs
attribute [simp] ghF ghK shK qaD argFr retV1 qe9 qaL retV wkL wkT wkF wkH qb7
theorem w64 {n:Int} (h1 : -9223372036854775808≤n) (h2:n≤9223372036854775807):IntKind.i64.wrap n=n:=by
 rw[IntKind.wrap_i64]
 omega
section wkeqs
variable {H H':Heap} {ρ φ:List Nat} {p q:PV}
@[simp] theorem quw {k k':IntKind} {n n':Int}:wkA H ρ φ H' (.int k n) (.int k' n')=(k=k'∧n=n'):=by simp[wkA,qak]
@[simp] theorem qux {b b':Bool}:wkA H ρ φ H' (.bool b) (.bool b')=(b=b'):=by simp[wkA,qak]
@[simp] theorem quy {s s':List UInt8}:wkA H ρ φ H' (.str s) (.str s')=(s=s'):=by simp[wkA,qak]
@[simp] theorem quz {z z':Nat} {r r':List (List PV)}:wkA H ρ φ H' (.sl z r) (.sl z' r')=(z=z'∧r=r'):=by simp[wkA,qak]
@[simp] theorem quA {v v':Value}:wkA H ρ φ H' (.raw v) (.raw v')=(v=v'):=by simp[wkA,qak]
@[simp] theorem quB {z z':Nat} {r r':List (List PV)} {i i' o o':Nat}:wkA H ρ φ H' (.pe z r i o) (.pe z' r' i' o')=(z=z'∧r=r'∧i=i'∧o=o'):=by simp[wkA,qak]
@[simp] theorem quC:wkA H ρ φ H' .nils .nils=True:=by simp[wkA,qak]
@[simp] theorem quD {k:IntKind} {n:Int}:wkB H ρ φ H' (.int k n) q=wkA H ρ φ H' (.int k n) q:=by cases q<;>rfl
@[simp] theorem quE {k:IntKind} {n:Int}:wkV H ρ φ H' (.int k n) q=wkA H ρ φ H' (.int k n) q:=by cases q<;>rfl
@[simp] theorem quF {b:Bool}:wkB H ρ φ H' (.bool b) q=wkA H ρ φ H' (.bool b) q:=by cases q<;>rfl
@[simp] theorem quG {b:Bool}:wkV H ρ φ H' (.bool b) q=wkA H ρ φ H' (.bool b) q:=by cases q<;>rfl
@[simp] theorem quH {s:List UInt8}:wkV H ρ φ H' (.str s) q=wkA H ρ φ H' (.str s) q:=by cases q<;>rfl
@[simp] theorem quI {z:Nat} {r:List (List PV)}:wkV H ρ φ H' (.sl z r) q=wkA H ρ φ H' (.sl z r) q:=by cases q<;>rfl
@[simp] theorem quJ {z:Nat} {r:List (List PV)} {i o:Nat}:wkV H ρ φ H' (.pe z r i o) q=wkA H ρ φ H' (.pe z r i o) q:=by cases q<;>rfl
@[simp] theorem quK {k z:Nat}:wkB H ρ φ H' (.sf k z) q=wkA H ρ φ H' (.sf k z) q:=by cases q<;>rfl
@[simp] theorem quL {k z:Nat}:wkV H ρ φ H' (.sf k z) q=wkA H ρ φ H' (.sf k z) q:=by cases q<;>rfl
@[simp] theorem quM {k z l n:Nat}:wkV H ρ φ H' (.so k z l n) q=wkA H ρ φ H' (.so k z l n) q:=by cases q<;>rfl
@[simp] theorem quN {k o:Nat}:wkV H ρ φ H' (.pb k o) q=wkA H ρ φ H' (.pb k o) q:=by cases q<;>rfl
@[simp] theorem quO {k:Nat}:wkV H ρ φ H' (.own k) q=wkA H ρ φ H' (.own k) q:=by cases q<;>rfl
@[simp] theorem quP {k k' C C':Nat}:wkA H ρ φ H' (.cp k C) (.cp k' C')=(ρ[k']?=some k∧C=C'∧∃o,H'[k']?=some (some o)):=rfl
@[simp] theorem quQ {k k':Nat}:wkA H ρ φ H' (.own k) (.own k')=(ρ[k']?=some k∧∃o,H'[k']?=some (some o)):=rfl
@[simp] theorem quR {v:Value}:wkV H ρ φ H' (.raw v) q=wkA H ρ φ H' (.raw v) q:=by cases q<;>rfl
@[simp] theorem quS {k z k' z':Nat}:wkA H ρ φ H' (.sf k z) (.sf k' z')=(ρ[k']?=some k∧z=z'∧isArr H' k' z):=rfl
@[simp] theorem quT {k z l n k' z' l' n':Nat}:wkA H ρ φ H' (.so k z l n) (.so k' z' l' n')=(ρ[k']?=some k∧z=z'∧l=l'∧n=n'∧isArr H' k' z):=rfl
@[simp] theorem quU {k z l n k' z' l' n':Nat}:wkA H ρ φ H' (.pa k z l n) (.pa k' z' l' n')=(ρ[k']?=some k∧z=z'∧l=l'∧n=n'∧isArr H' k' z):=rfl
@[simp] theorem quV {k o k' o':Nat}:wkA H ρ φ H' (.pb k o) (.pb k' o')=(ρ[k']?=some k∧o=o'∧isBox H' k'):=rfl
@[simp] theorem quW {k o z i o':Nat} {rows:List (List PV)}:wkA H ρ φ H' (.pb k o) (.pe z rows i o')=(k∈φ∧i=0∧o=o'∧∃cs,H[k]?=some (some (.box cs))∧cs.all qak=true∧z=cs.length∧rows=[cs]):=rfl
@[simp] theorem quX {f g:Nat} {cs ds:List PV}:wkA H ρ φ H' (.fn f cs) (.fn g ds)=(f=g∧wkCs ρ H' cs ds):=rfl
@[simp] theorem quY {k o k' o':Nat}:wkC ρ H' (.pb k o) (.pb k' o')=(ρ[k']?=some k∧o=o'∧isBox H' k'):=rfl
@[simp] theorem quZ:wkCs ρ H' [] []=True:=rfl
@[simp] theorem qu0 {p q:PV} {r s:List PV}:wkCs ρ H' (p::r) (q::s)=(wkC ρ H' p q∧wkCs ρ H' r s):=rfl
@[simp] theorem qu1 {k z z':Nat} {rows:List (List PV)}:wkA H ρ φ H' (.sf k z) (.sl z' rows)=(k∈φ∧H[k]?=some (some (.arr z rows))∧z=z'):=rfl
@[simp] theorem qu2 {cs ds:List PV}:wkB H ρ φ H' (.agg cs) (.agg ds)=wkL H ρ φ H' cs ds:=rfl
@[simp] theorem qu3 {cs ds:List PV}:wkV H ρ φ H' (.agg cs) (.agg ds)=wkL H ρ φ H' cs ds:=rfl
@[simp] theorem qu4 {cs ds:List PV}:wkV H ρ φ H' (.tup cs) (.tup ds)=wkT H ρ φ H' cs ds:=rfl
@[simp] theorem qu5 {f g:Nat} {cs ds:List PV}:wkV H ρ φ H' (.fn f cs) (.fn g ds)=(f=g∧wkL H ρ φ H' cs ds):=rfl
@[simp] theorem qu6 {c:Bool}:wkV H ρ φ H' (.opt c p) q=(c=true∧wkA H ρ φ H' p q):=rfl
@[simp] theorem qu7 {z z':Nat} {rows rows':List (List PV)}:wkO H ρ φ H' (some (some (.arr z rows))) (some (.arr z' rows'))=(z=z'∧rows=rows'):=rfl
@[simp] theorem qu8 {cs ds:List PV}:wkO H ρ φ H' (some (some (.box cs))) (some (.box ds))=wkL H ρ φ H' cs ds:=rfl
end wkeqs
end Go.Ab
