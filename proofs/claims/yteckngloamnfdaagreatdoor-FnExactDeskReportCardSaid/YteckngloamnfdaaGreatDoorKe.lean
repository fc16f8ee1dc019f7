/- Regions of which one operation is answered by hand: the first, or the last where the order is drawn. No condition. A region that is cut in two, with less known between; loops of which a region is left. No condition. -/
import Derived.Test.YteckngloamnfdaaGreatDoorKc
namespace Go.Ab
variable {P:Program} {A A':Nat→Prop} {m m':OMap} {h h':OFun} {w w':World} {H:Heap} {fr fr':Fr} {a:Act}
theorem qjG {all:List Oper} {K:St→Prop}:∀(pre:List Oper) (S:St),(∀o∈pre,isEff all o.op=false)→(∀o∈pre,o.dst≠some effS)→(∀f,isEf f (slot S.fr effS)=false)→aOps P true all pre S K →
  ∃ σ pv new,Lex P all pre S σ pv new∧K (σ pre.length)
 | [],S,_,_,_,h=>⟨fun _=>S,fun _ => .top,fun _=>[],⟨rfl,fun i o hi=>by simp at hi,fun i o hi=>by simp at hi⟩,h⟩
 | o::r,S,he,hd,hS,h=>by
  have hm:markB S.fr o.op=false:=by
   unfold markB
   cases qep o.op with
   | none=>rfl
   | some f=>exact hS f
  have one:∃pv new,qdh P all o S pv new∧aOps P true all r ⟨put S.fr o.dst pv,S.H++new⟩ K:=by
   simp only[aOps]at h
   cases hg:o.guard with
   | none =>
    simp only[hg,hm,he o (by simp),Bool.not_false,Bool.and_true,Bool.and_false,cond_false]at h
    obtain⟨pv,new,hp,hK⟩:=qiU (fun t p x e=>by
     have:=he o (by simp)
     rw[e]at this
     cases this) h
    exact⟨pv,new,by simp only[qdh,hg]; exact hp,hK⟩
   | some g =>
    obtain⟨j,want⟩:=g
    simp only[hg]at h
    obtain⟨c,hc,hK⟩:=qi1 h
    obtain⟨pv,hp,hK⟩:=qiZ hK
    exact⟨.opt c pv,[],by unfold qdh; rw[hg]; exact⟨c,pv,hc,rfl,rfl,hp⟩,by rw[List.append_nil]; exact hK⟩
  obtain⟨pv0,new0,hst,hrest⟩:=one
  have hS':∀f,isEf f (slot (put S.fr o.dst pv0) effS)=false:=by
   cases hod:o.dst with
   | none=>exact hS
   | some d =>
    intro f
    rw[qfJ,if_neg (fun e=>hd o (by simp) (by rw[hod,e]))]
    exact hS f
  obtain⟨σ,pv,new,hL,hK⟩:=qjG r _ (fun o ho=>he o (by simp[ho])) (fun o ho=>hd o (by simp[ho])) hS' hrest
  refine⟨fun i=>match i with | 0=>S | i+1=>σ i,fun i=>match i with | 0=>pv0 | i+1=>pv i,fun i=>match i with | 0=>new0 | i+1=>new i,⟨rfl,fun i o' hi =>?_,fun i o' hi =>?_⟩,hK⟩
  ·cases i with
   | zero=>cases hi; exact hL.zero
   | succ i=>exact hL.succ i o' (by simpa using hi)
  ·cases i with
   | zero=>cases hi; exact hst
   | succ i=>exact hL.step i o' (by simpa using hi)
section lex
variable {ops:List Oper} {S:St} {σ:Nat→St} {pv:Nat→PV} {new:Nat→List (Option Obj)}
theorem qnL {x:Ctx} {n T:Nat} {Q:Exit→Act→World→Prop} (hall:ops.all (opOk n)=true) (hT:T≤ops.length) (hok:DrawOk ops T) (hL:Lex P ops (ops.take T) S σ pv new)
  (hrest:∀a w A m,Inv x n (σ T) a w A m→wpList P ops.toArray Q (ops.drop T) a w) (hP:∀c a w,¬Q (.panic c) a w) :
  ∀(fuel:Nat) (listed:Array Bool) (a:Act) (w:World) (A:Nat→Prop) (m:OMap),listed.size=ops.length→DInv x n (ops.take T) S σ pv (fun i=>listed.getD i false=true) a w A m →
   qd1 ops (fun i=>listed.getD i false=true)→(∀j,T≤j→listed.getD j false=false)→Left ops.length listed fuel→wpAny P .any ops.toArray Q fuel listed a w:=by
 have hlen:(ops.take T).length=T:=by rw[List.length_take]; omega
 intro fuel
 have full:∀(fuel:Nat) (listed:Array Bool) (a:Act) (w:World) (A:Nat→Prop) (m:OMap),listed.size=ops.length→DInv x n (ops.take T) S σ pv (fun i=>listed.getD i false=true) a w A m →
   (∀j,T≤j→listed.getD j false=false)→Left ops.length listed fuel→(∀i,i<T→listed.getD i false=true)→wpAny P .any ops.toArray Q fuel listed a w:=fun fuel listed a w A m hsz hD htail hleft hfull=>by
  refine qjf hok.low (fun j i hj hi hij=>(hok.tail j i hj (by omega) hij).resolve_right fun h=>by omega) fuel T listed a w hsz (Nat.le_refl _) hT (fun i hi=>⟨fun h =>?_,hfull i⟩) hleft ?_
  ·rcases Nat.lt_or_ge i T with h' | h'
   ·exact h'
   ·rw[htail i h']at h; cases h
  ·have hI:=qi5 hL (fun i hi=>hfull i (by omega)) hD
   rw[hlen]at hI
   exact hrest a w A m hI

 have least:∀(listed:Array Bool),¬(∀i,i<T→listed.getD i false=true)→∃i,i<T∧listed.getD i false=false∧∀k,k<i→listed.getD k false=true:=fun listed hn=>by
  have:∃i,i<T∧listed.getD i false=false:=by
   refine Classical.byContradiction fun hc=>hn fun i hi =>?_
   cases hq:listed.getD i false with
   | true=>rfl
   | false=>exact absurd ⟨i,hi,hq⟩ hc
  obtain⟨i,hi,hf⟩:=this
  induction i using Nat.strongRecOn with
  | _ i ih =>
   by_cases h:∀k,k<i→listed.getD k false=true
   ·exact⟨i,hi,hf,h⟩
   ·have:∃k,k<i∧listed.getD k false=false:=by
     refine Classical.byContradiction fun hc=>h fun k hk =>?_
     cases hq:listed.getD k false with
     | true=>rfl
     | false=>exact absurd ⟨k,hk,hq⟩ hc
    obtain⟨k,hk,hkf⟩:=this
    exact ih k hk (by omega) hkf
 have isready:∀(listed:Array Bool) (i:Nat),listed.size=ops.length→i<T→listed.getD i false=false→(∀k,k<i→listed.getD k false=true)→i∈Region.ready .any ops.toArray listed:=fun listed i hsz hi hf hk=>by
  have hlt:i<ops.length:=by omega
  refine mem_ready.2 ⟨getD_in (by omega) hf,ops[i],by simp[hlt],fun e he hb =>?_⟩
  exact hk _ (hok.low i _ (List.getElem?_eq_getElem hlt) e he hb)
 induction fuel with
 | zero =>
  intro listed a w A m hsz hD hc htail hleft
  by_cases hf:∀i,i<T→listed.getD i false=true
  ·exact full 0 listed a w A m hsz hD htail hleft hf
  ·obtain⟨i,hi,hif,_⟩:=least listed hf
   obtain⟨l,h1,h2⟩:=hleft
   have:=h2 i (by omega) (getD_in (by omega) hif)
   have:l=[]:=List.eq_nil_of_length_eq_zero (by omega)
   simp_all
 | succ fuel ih =>
  intro listed a w A m hsz hD hc htail hleft
  by_cases hf:∀i,i<T→listed.getD i false=true
  ·exact full _ listed a w A m hsz hD htail hleft hf
  ·obtain⟨i0,hi0,hif0,hlow0⟩:=least listed hf

   have next:∀(j:Nat) (o:Oper),j∈Region.ready .any ops.toArray listed→ops[j]?=some o→j<T→∀a' w' A' m',DInv x n (ops.take T) S σ pv (fun i=>listed.getD i false=true∨i=j) a' w' A' m' →
     wpAny P .any ops.toArray Q fuel (listed.setIfInBounds j true) a' w':=fun j o hj ho hjT a' w' A' m' hD'=>by
    obtain⟨h1,o',ho',hall'⟩:=mem_ready.1 hj
    simp only[List.getElem?_toArray]at ho'
    rw[ho]at ho'
    cases ho'
    have hjl:j<ops.length:=(List.getElem?_eq_some_iff.1 ho).1
    have hE':(fun i=>(listed.setIfInBounds j true).getD i false=true)=fun i=>listed.getD i false=true∨i=j:=by
     funext i
     exact propext (qha hsz hjl)
    refine ih _ a' w' A' m' (by simpa using hsz) (by rw[hE']; exact hD') ?_ (fun k hk =>?_) (hleft.set hjl h1)
    ·rw[hE']
     intro k ok hok' hk e he hb
     rcases hk with hk | rfl
     ·exact .inl (hc k ok hok' hk e he hb)
     ·rw[ho]at hok'
      cases hok'
      exact .inl (hall' e he hb)
    ·rw[getD_set_ne false (by omega)]
     exact htail k hk
   by_cases hh:∀i,i<T→listed.getD i false=false→qdy ops i=true
   ·have hr:=isready listed i0 hsz hi0 hif0 hlow0
    have hlt:i0<ops.length:=by omega
    have ho:ops[i0]?=some ops[i0]:=List.getElem?_eq_getElem hlt
    obtain⟨h1,o',ho',hall'⟩:=mem_ready.1 hr
    simp only[List.getElem?_toArray]at ho'
    rw[ho]at ho'
    cases ho'
    have hB:=hh i0 hi0 hif0
    unfold qdy at hB
    simp only[ho,Bool.and_eq_true]at hB
    obtain⟨hk,hap⟩:=hB
    obtain⟨v,m',hy,hD'⟩:=qje hall hT hok hL hD hc hi0 (by simp[hif0]) ho hall' hk
    refine wpAny_first (i:=i0) (oi:=ops[i0]) (v:=v) (by simp) (fun j oj cs b hoj hs =>?_) (fun c a w h=>(hP _ _ _ h).elim) fuel listed a w (fun j oj hoj hji hun hno =>?_) hr hy (next i0 _ hr ho hi0 _ _ _ _ hD')
    ·have:=List.all_eq_true.1 hall oj (List.mem_of_getElem? (by simpa using hoj))
     simp[opOk,hs]at this
    ·simp only[List.getElem?_toArray]at hoj
     have hjl:j<ops.length:=(List.getElem?_eq_some_iff.1 hoj).1
     have h2:=List.all_eq_true.1 hap j (List.mem_range.2 hjl)
     simp only[hoj,Bool.or_eq_true,decide_eq_true_eq]at h2
     rcases h2 with h2 | h2 | h2
     ·have:j<i0:=by omega
      have h3:=hlow0 j this
      rw[getD_both hun]at h3
      cases h3
     ·obtain⟨e,he,hb⟩:=Array.any_eq_true'.1 h2
      simp only[Bool.and_eq_true,beq_iff_eq]at hb
      exact absurd hb.2 (hno e he hb.1)
     ·exact h2
   obtain⟨i1,hi1,hif1,hnh⟩:∃i,i<T∧listed.getD i false=false∧¬qdy ops i=true:=by
    refine Classical.byContradiction fun hc'=>hh fun i hi hif=>Classical.byContradiction fun hb=>hc' ⟨i,hi,hif,hb⟩
   refine⟨fun hnil =>?_,fun j hj =>?_⟩
   ·have:=isready listed i0 hsz hi0 hif0 hlow0
    rw[hnil]at this
    cases this
   ·obtain⟨h1,o,ho,hall'⟩:=mem_ready.1 hj
    simp only[List.getElem?_toArray]at ho
    have hjl:j<ops.length:=(List.getElem?_eq_some_iff.1 ho).1
    have hjT:j<T:=by
     rcases Nat.lt_or_ge j T with h | h
     ·exact h
     ·have:=((hok.tail j i1 hjl h (by omega)).resolve_right fun h=>hnh h.2).closed hc fun o' ho' e he hb=>by rw[ho]at ho'; cases ho'; exact hall' e he hb
      rw[hif1]at this
      cases this
    exact qjb hall hT hok.toDrawB hL hD hc hjT (by simp[getD_both h1]) ho hall' fun a' w' A' m' hD'=>next j o hj ho hjT a' w' A' m' hD'
end lex
def tailB (n:Nat) (ops:List Oper) (T:Nat):Bool :=
 decide (T≤ops.length)&&ops.all (opOk n)&&qdX ops T&&(ops.take T).all (fun o => !isEff ops o.op&&decide (o.dst≠some effS))
theorem qnM {x:Ctx} {n T:Nat} {ops:List Oper} {id:Nat} {S:St} {K:St→Prop} {Q:Exit→Act→World→Prop} (hm:P.follows .mixedOrders=true) (hb:tailB n ops T=true) (hS:∀f,isEf f (slot S.fr effS)=false) (hI:Inv x n S a w A m)
  (h:aOps P true ops (ops.take T) S K) (hrest:∀S' a' w' A' m',K S'→Inv x n S' a' w' A' m'→wpList P ops.toArray (fun e a w=>e = .normal∧Q e a w) (ops.drop T) a' w'):(Code.region id ops.toArray true).wp P Q a w:=by
 simp only[tailB,Bool.and_eq_true,decide_eq_true_eq,List.all_eq_true,Bool.not_eq_true']at hb
 obtain⟨⟨⟨hT,hall⟩,hd⟩,hpre⟩:=hb
 obtain⟨σ,pv,new,hL,hK⟩:=qjG _ S (fun o ho=>(hpre o ho).1) (fun o ho=>(hpre o ho).2) hS h
 rw[List.length_take,Nat.min_eq_left hT]at hK
 have hok:DrawOk ops T:=qi8 hT hd
 have hI':Inv x n S a { w with drawn:=w.drawn+1 } A m:=by
  refine⟨⟨hI.moved.os,hI.moved.tape,hI.moved.output,hI.moved.size,hI.moved.block,fun hd=>Nat.le_trans (hI.moved.drawn hd) (Nat.le_succ _)⟩,hI.sub,hI.aok.mono hI.aok.lt (fun _ h=>h) (fun _ _=>rfl),hI.conc.same rfl,hI.own,fun t=>RepO.mono (w:=w) (w':={ w with drawn:=w.drawn+1 }) (fun _ h=>h) (fun _ _=>rfl) (Shaped.refl _ _ _) (hI.fr t),hI.sz,hI.df⟩
 refine wp_mono (Q:=fun e a w=>e = .normal∧Q e a w) ?_ fun _ _ _ h=>h.2
 refine wp_region_any hm ?_
 have hE':(fun i=>(Array.replicate ops.length false).getD i false=true)=fun _=>False:=by
  funext i
  rw[getD_replicate_false]
  simp
 have:=qnL (P:=P) (x:=x) (Q:=fun e a w=>e = .normal∧Q e a w) (List.all_eq_true.2 hall) hT hok hL (fun a' w' A' m' hi=>hrest _ a' w' A' m' hK hi) (fun c a w h=>by cases h.1) ops.length (Array.replicate ops.length false) a { w with drawn:=w.drawn+1 } A m (by simp) (by rw[hE']; exact qi4 hL hI') (by rw[hE']; exact fun _ _ _ h=>h.elim) (fun j _=>getD_replicate_false _ _)
  ⟨List.range ops.length,by simp,fun i hi _=>by simpa using hi⟩
 simpa using this
theorem HFn.less {P:Program} {f:FuncId} {args:List PV} {Hin Hout Hout':Heap} {res res':PV} (hf:HFn P f args Hin res Hout) (hw:Weak ⟨[(0,res)],Hout⟩ ⟨[(0,res')],Hout'⟩):HFn P f args Hin res' Hout':=fun A m w vs hA hC hs ha=>by
 refine (hf A m w vs hA hC hs ha).mono fun e w' ⟨v,A',m',he,hc⟩ =>?_
 have hI:Inv ⟨w,A,OwnB m (getO Hin),fun _=>undef⟩ 1 ⟨[(0,res)],Hout⟩ { tmps := #[v],defers:=[] } w' A' m':=⟨hc.moved,hc.sub,hc.aok,hc.conc,hc.own,fun t=>by
  cases t with
  | zero=>exact hc.rep
  | succ t=>exact .imm (.top _),rfl,rfl⟩
 obtain⟨A'',m'',hI2⟩:=hw _ _ _ _ _ _ hI
 exact⟨v,A'',m'',he,⟨hI2.moved,hI2.sub,hI2.aok,hI2.conc,hI2.own,hI2.fr 0⟩⟩
end Go.Ab
namespace Go.Ab
variable {P:Program} {A A':Nat→Prop} {m m':OMap} {h h':OFun} {w w':World} {H:Heap} {fr fr':Fr} {a:Act}
theorem qdF {x:Ctx} {n:Nat} {all:List Oper} {Q:Exit→Act→World→Prop} {K:St→Prop} (hall:all.all (opOk n)=true) (post:List Oper)
  (hQ:∀S' a' w' A' m',K S'→Inv x n S' a' w' A' m'→wpList P all.toArray Q post a' w') :
  ∀(ops:List Oper) (q:Bool) (S:St) (a:Act) (w:World) (A:Nat→Prop) (m:OMap),ops.all (opOk n)=true→Inv x n S a w A m→aOps P q all ops S K→wpList P all.toArray Q (ops++post) a w
 | [],_,S,a,w,A,m,_,hI,h=>hQ S a w A m h hI
 | o::r,q,S,a,w,A,m,hok,hI,h=>by
  simp only[List.all_cons,Bool.and_eq_true]at hok
  rw[List.cons_append]
  unfold wpList
  cases hg:o.guard with
  | none =>
   simp only[aOps,hg]at h
   rw[if_pos (by simp[Region.wanted,hg])]
   cases hmk:q&&markB S.fr o.op with
   | true =>
    rw[hmk,cond_true]at h
    refine .inl (qew hok.1 hI h.2 _ _ fun v w' ⟨S',A',m',hK,hI'⟩ =>?_)
    exact qdF hall post hQ r _ S' _ w' A' m' hok.2 hI' hK
   | false =>
    rw[hmk,cond_false]at h
    refine .inl (qew hok.1 hI h _ _ fun v w' ⟨S',A',m',hK,hI'⟩ =>?_)
    exact qdF hall post hQ r _ S' _ w' A' m' hok.2 hI' hK
  | some g =>
   obtain⟨j,want⟩:=g
   simp only[aOps,hg]at h
   obtain⟨c,hw,hc⟩:=qi0 hI hall hg h
   rcases qg6 hc with ⟨pv,hp,hK⟩ | ⟨hc1,hq,hE⟩
   rotate_left
   ·subst hc1
    rw[if_pos hw]
    refine .inl (qew hok.1 hI hE _ _ fun v w' ⟨S',A',m',hK,hI'⟩ =>?_)
    exact qdF hall post hQ r _ S' _ w' A' m' hok.2 hI' hK
   cases c with
   | true =>
    rw[if_pos hw]
    refine .inl (qfM (qfR (qev (qbS (qcD hok.1)) (hp rfl)) A m (getO S.H) w a hI.aok hI.conc qdC hI.opnd fun i hi=>absurd hi (by simp)) (fun v w' hR=>hR) _ _ fun v w' ⟨A',m',hN,hr⟩ =>?_)
    have:=hI.newW hN
    rw[List.append_nil]at this
    rw[qb4]at hr
    exact qdF hall post hQ r _ _ _ w' A' m' hok.2 (this.val (S:=S) (qcm hok.1) (.optT _ _ hr)) hK
   | false =>
    rw[if_neg (by rw[hw]; decide)]
    exact qdF hall post hQ r _ _ _ w A m hok.2 (hI.val (qcm hok.1) (.optF _)) hK
theorem qjH {n id:Nat} {ops:List Oper} {S:St} {Q:Exit→St→Prop} (T:Nat) (hok:ops.all (opOk n)=true)
  (h:aOps P false ops (ops.take T) S fun S1=>∃S2,Weak S1 S2∧aOps P false ops (ops.drop T) S2 (Q .normal)):Ends P n (.region id ops.toArray false) S Q:=fun x a w A m hI=>by
 refine wp_region_list ?_
 have hl:ops.toArray.toList=ops.take T++ops.drop T:=by simp
 rw[hl]
 have hall1:(ops.take T).all (opOk n)=true:=by
  rw[List.all_eq_true]at hok ⊢
  exact fun o ho=>hok o (List.mem_of_mem_take ho)
 have hall2:(ops.drop T).all (opOk n)=true:=by
  rw[List.all_eq_true]at hok ⊢
  exact fun o ho=>hok o (List.mem_of_mem_drop ho)
 refine qdF hok (ops.drop T) (fun S' a' w' A' m' ⟨S2,hw,h2⟩ hI' =>?_) (ops.take T) false S a w A m hall1 hI h
 obtain⟨A'',m'',hI''⟩:=hw x n a' w' A' m' hI'
 exact qcW hok (fun S3 a3 w3 A3 m3 h3 hI3=>⟨S3,A3,m3,h3,hI3⟩) (ops.drop T) false S2 a' w' A'' m'' hall2 hI'' h2
theorem qjI (hm:P.follows .mixedOrders=true) {n:Nat} (L:List Nat) (N:Nat) (σ:Nat→St) (I:Nat→Prop) {c:Code} (hok:qcE n L c=true) {S:St} {Q:Exit→St→Prop} (h0:Weak S (σ 0)) (i0:I 0)
  (round:∀i,i<N→I i→awpL P n L c (σ i) (thenQ (fun S'=>I (i+1)∧Weak S' (σ (i+1))) Q)) (fin:I N→awpL P n L c (σ N) (thenQ (fun _=>False) Q)):Ends P n (.loop c) S Q:=fun x a w A m hI=>by
 have key:∀(k i:Nat) (a:Act) (w:World) (A:Nat→Prop) (m:OMap),i≤N→N-i<k→I i→Inv x n (σ i) a w A m→Code.rounds P c (fun e a' w'=>∃S' A' m',Q e S'∧Inv x n S' a' w' A' m') k a w:=by
  intro k
  induction k with
  | zero=>intro i a w A m _ h; exact absurd h (Nat.not_lt_zero _)
  | succ k ih =>
   intro i a w A m hle hlt hi hI
   rw[rounds_succ]
   by_cases h:i<N
   ·refine wp_mono (qdE hm c (σ i) _ hok (round i h hi) x a w A m hI) fun e a' w' ⟨S',A',m',hq,hI'⟩ =>?_
    cases e with
    | normal =>
     obtain⟨hi',hw⟩:=hq
     obtain⟨A'',m'',hI''⟩:=hw x n a' w' A' m' hI'
     exact ih (i+1) a' w' A'' m'' h (by omega) hi' hI''
    | _=>exact⟨S',A',m',hq,hI'⟩
   ·obtain rfl:i=N:=by omega
    refine wp_mono (qdE hm c (σ i) _ hok (fin hi) x a w A m hI) fun e a' w' ⟨S',A',m',hq,hI'⟩ =>?_
    cases e with
    | normal=>exact hq.elim
    | _=>exact⟨S',A',m',hq,hI'⟩
 obtain⟨A',m',hI'⟩:=h0 x n a w A m hI
 exact wp_loop_rounds (N+1) (key _ 0 a w A' m' (Nat.zero_le _) (by omega) i0 hI')
end Go.Ab
namespace Go.Ab
variable {P:Program} {A A' B:Nat→Prop} {m m':OMap} {h h':OFun} {w w':World} {fr:Fr} {a:Act} {x y:Ctx} {n:Nat} {S S1:St}
def pureP:PV→Bool
 | .int _ _ | .bool _ | .str _ | .raw _ | .top=>true
 | _=>false
theorem RepO.pure {p:PV} {v:Value} (hp:pureP p=true) (hr:RepO A m h w p v):RepO A' m' h' w' p v:=by
 cases p<;>simp only[pureP,Bool.false_eq_true]at hp
 case int=>cases hr with | imm hi=>cases hi; exact .imm (.int _ _)
 case bool=>cases hr with | imm hi=>cases hi; exact .imm (.bool _)
 case str=>cases hr with | imm hi=>cases hi; exact .imm (.str _ _ ‹_›)
 case raw=>cases hr with | imm hi=>cases hi; exact .imm (.raw _)
 case top=>exact .imm (.top _)
theorem Inv.know (hI:Inv x n S a w A m) {d:Nat} {p:PV} (hr:RepO A m (getO S.H) w p (look x n a d)):Inv x n ⟨put S.fr (some d) p,S.H⟩ a w A m :=
 ⟨hI.moved,hI.sub,hI.aok,hI.conc,hI.own,fun t=>by
  rw[qfJ]
  split
  ·rename_i e; rw[e]; exact hr
  ·exact hI.fr t,hI.sz,hI.df⟩
theorem piece (hm:P.follows .mixedOrders=true) {c d:Code} {Q:Exit→Act→World→Prop} (hok:qa8 n c=true) (hI:Inv x n S a w A m) (h:awp P n c S (thenQ (fun S'=>Weak S' S1) fun _ _=>False))
  (hrest:∀a' w' A' m',Inv x n S1 a' w' A' m'→d.wp P Q a' w'):c.wp P (Exit.then (d.wp P Q) Q) a w:=by
 refine wp_mono (qaE hm c S _ hok h x a w A m hI) fun e a' w' ⟨S',A',m',hq,hI'⟩ =>?_
 cases e with
 | normal =>
  obtain⟨A'',m'',hI''⟩:=hq _ _ _ _ _ _ hI'
  exact hrest _ _ _ _ hI''
 | _=>exact hq.elim
theorem qdj {t:Nat} {c:Bool} (hI:Inv x n S a w A m) (hs:slot S.fr t = .bool c) (ht:t<n):a.tmps.getD t undef = .bool c:=by
 have:=hI.fr t
 rw[hs,qb3 ht]at this
 exact this.bool
theorem qf2 {t:Nat} {v:Value} (hI:Inv x n S a w A m) (hs:slot S.fr t = .raw v):look x n a t=v:=by
 have:=hI.fr t
 rw[hs]at this
 cases this with
 | imm hi=>cases hi; rfl
end Go.Ab
