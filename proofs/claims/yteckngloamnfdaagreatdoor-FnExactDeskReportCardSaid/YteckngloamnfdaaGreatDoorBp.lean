/- Lists of one's own that are kept in mind beside the engine: taken out of it, given back to it. No condition. A region that lays a list of functions: the engine takes it in its stride, the list known as it lies. No condition. -/
import Derived.Test.YteckngloamnfdaaGreatDoorKe
namespace Go.Ab
variable {P:Program} {A A' B:Nat→Prop} {m m':OMap} {h h':OFun} {w w' w'':World} {H:Heap} {fr:Fr} {a:Act} {x y:Ctx} {n:Nat} {S S1:St}
abbrev noB:Nat→Prop:=fun _=>False
abbrev noM:OMap:=fun _=>none
abbrev noH:OFun:=fun _=>none
def qaT (rows:List (List PV)):Prop:=∀r∈rows,∀c∈r,pureP c=true
theorem RepI.pure {p:PV} {v:Value} (hp:pureP p=true) (hr:RepI A w p v):RepI A' w' p v:=by
 cases p<;>simp only[pureP,Bool.false_eq_true]at hp
 case int=>cases hr; exact .int _ _
 case bool=>cases hr; exact .bool _
 case str=>cases hr; exact .str _ _ ‹_›
 case raw=>cases hr; exact .raw _
 case top=>exact .top _
theorem qa6 {rows:List (List PV)} (hf:qbp rows):qaT rows:=fun r hr c hc=>by
 have:=hf r hr c hc
 cases c<;>simp_all[flatC,pureP]
def OwnAt (w:World) (z:Nat) (rows:List (List PV)) (v:Value):Option Nat→Prop
 | none=>rows=[]∧∃ao,v = .slice ao 0 0
 | some b=>∃C,v = .slice (some ⟨b,0,none⟩) rows.length C∧ObjAt noB noM noH w (.arr z rows) (some b) C
theorem OwnAt.of {k z:Nat} {rows:List (List PV)} {v:Value} (hC:ConcO A m h w) (hk:h k=some (.arr z rows)) (hr:RepO A m h w (.sf k z) v) (hp:qaT rows) :
  ∃ob C,m k=some (ob,C)∧OwnAt w z rows v ob:=by
 cases hr with
 | imm hi=>cases hi
 | sfN _ _ C ao hk' hm =>
  rw[hk]at hk'
  cases hk'
  exact⟨none,C,hm,rfl,ao,rfl⟩
 | sf _ _ C b rows' hk' hm =>
  rw[hk]at hk'
  cases hk'
  refine⟨some b,C,hm,C,rfl,?_⟩
  obtain⟨ob,C',hm',ho⟩:=hC.at_ k _ hk
  rw[hm]at hm'
  cases hm'
  obtain⟨h1,h2,h3,h4,h5,cur,e,hcur,hsz,hcell⟩:=ho
  refine⟨fun h=>h,h2,h3,h4,h5,cur,e,hcur,hsz,fun i j r c hi hj =>?_⟩
  obtain⟨u,hu,hru⟩:=hcell i j r c hi hj
  exact⟨u,hu,hru.pure (hp r (List.mem_of_getElem? hi) c (List.mem_of_getElem? hj))⟩
theorem OwnAt.lt {z b:Nat} {rows:List (List PV)} {v:Value} (ho:OwnAt w z rows v (some b)):b<w.heap.size:=by
 obtain⟨C,_,h⟩:=ho
 exact h.2.1
theorem OwnAt.moved {M:Nat→Prop} {z:Nat} {rows:List (List PV)} {v:Value} {ob:Option Nat} (ho:OwnAt w z rows v ob) (hp:qaT rows) (hm:Moved M w w') (hM:∀b,ob=some b→¬M b):OwnAt w' z rows v ob:=by
 cases ob with
 | none=>exact ho
 | some b =>
  obtain⟨C,hv,h1,h2,h3,h4,h5,cur,e,hcur,hsz,hcell⟩:=ho
  refine⟨C,hv,h1,Nat.lt_of_lt_of_le h2 hm.size,h3,h4,h5,cur,e,?_,hsz,fun i j r c hi hj =>?_⟩
  ·rw[hm.block b h2 (hM b rfl)]; exact hcur
  ·obtain⟨u,hu,hru⟩:=hcell i j r c hi hj
   exact⟨u,hu,hru.pure (hp r (List.mem_of_getElem? hi) c (List.mem_of_getElem? hj))⟩
theorem OwnAt.read {z:Nat} {rows:List (List PV)} {v:Value} {ob:Option Nat} {F:Nat→Prop} (ho:OwnAt w z rows v ob) (hF:∀b,ob=some b→F b) {rows':List (List PV)} (hl:rows'.length=rows.length)
  (hc:∀(i:Nat) (r r':List PV),rows[i]?=some r→rows'[i]?=some r'→r'.length=r.length∧∀(j:Nat) (c c':PV) (u:Value),r[j]?=some c→r'[j]?=some c'→RepI noB w c u→RepI F w c' u):RepI F w (.sl z rows') v:=by
 cases ob with
 | none =>
  obtain⟨rfl,ao,rfl⟩:=ho
  obtain rfl:=List.eq_nil_of_length_eq_zero hl
  exact .slE z ao 0
 | some b =>
  obtain⟨C,rfl,h1,h2,h3,h4,h5,cur,e,hcur,hsz,hcell⟩:=ho
  rw[←hl]
  have hget:∀(i:Nat) (r':List PV),rows'[i]?=some r'→∃r,rows[i]?=some r:=fun i r' hr'=>by
   have:=(List.getElem?_eq_some_iff.1 hr').1
   exact⟨_,List.getElem?_eq_getElem (by omega)⟩
  refine .sl z rows' b 0 C (fun i j=>cur.getD (i*z+j) undef) (hF b rfl) (by omega) (fun i r' hr' =>?_) (fun i j r' c' hr' hc' =>?_) fun i j r' c' hr' hc' =>?_
  ·obtain⟨r,hr⟩:=hget i r' hr'
   rw[(hc i r r' hr hr').1]
   exact h5 i r hr
  ·obtain⟨r,hr⟩:=hget i r' hr'
   have hlen:=(hc i r r' hr hr').1
   have hjl:=(List.getElem?_eq_some_iff.1 hc').1
   obtain⟨u,hu,hru⟩:=hcell i j r r[j] hr (List.getElem?_eq_getElem (by omega))
   simp[World.cell?,hcur,hu,Array.getD_eq_getD_getElem?]
  ·obtain⟨r,hr⟩:=hget i r' hr'
   obtain⟨hlen,hcc⟩:=hc i r r' hr hr'
   have hjl:=(List.getElem?_eq_some_iff.1 hc').1
   have hcj:=List.getElem?_eq_getElem (show j<r.length by omega)
   obtain⟨u,hu,hru⟩:=hcell i j r r[j] hr hcj
   have:=hcc j r[j] c' u hcj hc' hru
   simpa[Array.getD_eq_getD_getElem?,hu]using this
theorem Inv.rebase (hI:Inv x n S a w A m):Inv ⟨w,A,OwnB m (getO S.H),x.gh⟩ n S a w A m :=
 ⟨.refl _ _,fun _ h => .inl h,hI.aok,hI.conc,fun _ h => .inl h,fun t=>hI.fr t,hI.sz,hI.df⟩
def capV:Value→Nat
 | .slice _ _ C=>C
 | _=>0
theorem Inv.adopt {z:Nat} {rows:List (List PV)} {v:Value} {ob:Option Nat} (hI:Inv x n ⟨fr,H⟩ a w A m) (ho:OwnAt w z rows v ob) (hp:qaT rows) (hb:∀b,ob=some b→¬A b∧¬OwnB m (getO H) b) :
  ∃m',Inv ⟨w,A,fun b=>OwnB m (getO H) b∨ob=some b,x.gh⟩ n ⟨fr,H++[some (.arr z rows)]⟩ a w A m'∧RepO A m' (getO (H++[some (.arr z rows)])) w (.sf H.length z) v∧m' H.length=some (ob,capV v):=by
 obtain⟨C,hCv,hv⟩:∃C,C=capV v∧match ob with
   | none=>rows=[]∧C=0∧∃ao,v = .slice ao 0 0
   | some b=>v = .slice (some ⟨b,0,none⟩) rows.length C∧ObjAt noB noM noH w (.arr z rows) (some b) C:=by
  cases ob with
  | none=>obtain⟨h1,ao,h2⟩:=ho; exact⟨0,by rw[h2]; rfl,h1,rfl,ao,h2⟩
  | some b=>obtain⟨C,h1,h2⟩:=ho; exact⟨C,by rw[h1]; rfl,h1,h2⟩
 have hk:getO H H.length=none:=by simp[getO]
 have e:getO (H++[some (.arr z rows)])=updO (getO H) H.length (.arr z rows):=by
  rw[qe0,qb5]
 have hsh:=qd0 (m:=m) (x:=(ob,C)) (o := .arr z rows) hk
 have hobj:ObjAt A (updM m H.length (ob,C)) (updO (getO H) H.length (.arr z rows)) w (.arr z rows) ob C:=by
  cases ob with
  | none=>exact⟨hv.1,hv.2.1⟩
  | some b =>
   obtain⟨_,h1,h2,h3,h4,h5,cur,e,hcur,hsz,hcell⟩:=hv
   refine⟨(hb b rfl).1,h2,h3,h4,h5,cur,e,hcur,hsz,fun i j r c hi hj =>?_⟩
   obtain⟨u,hu,hru⟩:=hcell i j r c hi hj
   exact⟨u,hu,hru.pure (hp r (List.mem_of_getElem? hi) c (List.mem_of_getElem? hj))⟩
 have hself:updO (getO H) H.length (.arr z rows) H.length=some (.arr z rows):=by simp[updO]
 have hmself:updM m H.length (ob,C) H.length=some (ob,C):=by simp[updM]
 have hne:∀k,k≠H.length→updO (getO H) H.length (.arr z rows) k=getO H k∧updM m H.length (ob,C) k=m k:=fun k hk=>by simp[updO,updM,hk]
 have hconc:ConcO A (updM m H.length (ob,C)) (updO (getO H) H.length (.arr z rows)) w:=by
  refine⟨fun k o ho' =>?_,fun k k' o o' b C1 C2 hk1 hk2 hm1 hm2 =>?_⟩
  ·by_cases ek:k=H.length
   ·subst ek
    rw[hself]at ho'
    cases ho'
    exact⟨ob,C,hmself,hobj⟩
   ·rw[(hne k ek).1]at ho'
    obtain⟨ob',C',hm',hO⟩:=hI.conc.at_ k o ho'
    exact⟨ob',C',by rw[(hne k ek).2]; exact hm',hO.mono (fun _ h=>h) (fun _ _=>rfl) hsh (Nat.le_refl _) fun b' e'=>⟨(hI.conc.lt ⟨k,o,C',ho',by rw[hm',e']⟩).2,rfl⟩⟩
  ·by_cases e1:k=H.length
   ·by_cases e2:k'=H.length
    ·rw[e1,e2]
    ·subst e1
     rw[hmself]at hm1
     cases hm1
     rw[(hne k' e2).1]at hk2
     rw[(hne k' e2).2]at hm2
     exact absurd ⟨k',o',C2,hk2,hm2⟩ (hb b rfl).2
   ·by_cases e2:k'=H.length
    ·subst e2
     rw[hmself]at hm2
     cases hm2
     rw[(hne k e1).1]at hk1
     rw[(hne k e1).2]at hm1
     exact absurd ⟨k,o,C1,hk1,hm1⟩ (hb b rfl).2
    ·rw[(hne k e1).1]at hk1
     rw[(hne k' e2).1]at hk2
     rw[(hne k e1).2]at hm1
     rw[(hne k' e2).2]at hm2
     exact hI.conc.inj k k' o o' b C1 C2 hk1 hk2 hm1 hm2
 refine⟨updM m H.length (ob,C),⟨.refl _ _,fun _ h => .inl h,hI.aok,by rw[e]; exact hconc,fun b hbo => .inl ?_,fun t =>?_,hI.sz,hI.df⟩,?_,by rw[←hCv]; exact hmself⟩
 ·rw[e]at hbo
  obtain⟨k,o,C',hk',hm'⟩:=hbo
  by_cases ek:k=H.length
  ·subst ek
   rw[hmself]at hm'
   cases hm'
   exact .inr rfl
  ·rw[(hne k ek).1]at hk'
   rw[(hne k ek).2]at hm'
   exact .inl ⟨k,o,C',hk',hm'⟩
 ·rw[e]
  exact (hI.fr t).mono (fun _ h=>h) (fun _ _=>rfl) hsh
 ·rw[e]
  cases ob with
  | none =>
   obtain⟨rfl,rfl,ao,rfl⟩:=hv
   exact .sfN H.length z 0 ao hself hmself
  | some b =>
   obtain⟨rfl,_⟩:=hv
   exact .sf H.length z C b rows hself hmself
end Go.Ab
namespace Go.Ab
variable {P:Program} {A A':Nat→Prop} {m m':OMap} {h h':OFun} {w w':World} {H:Heap} {fr:Fr} {a:Act} {x:Ctx} {n:Nat} {S:St}
def qcg (fs:List Nat):List (List PV):=fs.map fun f=>[.fn f []]
theorem qkX (fs:List Nat):(qcg fs).length=fs.length:=by simp[qcg]
def fnPs (k:Nat):List Nat→List (Nat×Operand)
 | []=>[]
 | f::r=>(k, .func f)::fnPs (k+1) r
theorem qgj:∀(fs:List Nat) (k:Nat),(fnPs k fs).length=fs.length
 | [],_=>rfl
 | f::r,k=>by simp[fnPs,qgj r]
theorem qgk:∀(fs:List Nat) (k i:Nat) (p:Nat×Operand),(fnPs k fs)[i]?=some p→∃f,fs[i]?=some f∧p=(k+i, .func f)
 | [],_,i,p,h=>by simp[fnPs]at h
 | f::r,k,0,p,h=>by
  simp only[fnPs,List.getElem?_cons_zero,Option.some.injEq]at h
  exact⟨f,rfl,by rw[←h]; rfl⟩
 | f::r,k,i+1,p,h=>by
  simp only[fnPs,List.getElem?_cons_succ]at h
  obtain⟨g,hg,rfl⟩:=qgk r (k+1) i p h
  exact⟨g,by simpa using hg,by rw[show k+1+i=k+(i+1) by omega]⟩
theorem fn_ev (f:Nat):ev fr (.func f) = .fn f []:=rfl
theorem RepO.fn0 {f:Nat} {v:Value} (hr:RepO A m h w (.fn f []) v):RepI A' w' (.fn f []) v:=by
 cases hr with
 | imm hi=>cases hi with | fn _ _ us hl _=>exact .fn f [] us hl (fun i c hc=>by simp at hc)
 | fn _ _ us hl _=>exact .fn f [] us hl (fun i c hc=>by simp at hc)
theorem qrq {o:Oper} {t e:TypeId} {fs:List Nat} (ho:o.op = .buildSlice t fs.length (fnPs 0 fs).toArray) (hne:fs ≠ []) (he:elemT P t=some e) (hz:sizeT P e=1) (hzero:(zeroT P e).isSome=true) (hb:fs.length≤1000)
  (hA:AOk A w) (hC:ConcO A m h w) (hO:Opnd A m h w fr a) :
  qa2 P o a w fun v w'=>∃A',NewW A m h w A' m h w'∧RepI A' w' (.sl 1 (qcg fs)) v:=by
 have hu:=qaK he
 obtain⟨zs,hzs⟩:=Option.isSome_iff_exists.1 hzero
 unfold zeroT at hzs
 obtain⟨v,hv,rfl⟩:=Option.map_eq_some_iff.1 hzs
 obtain⟨i,hi,hiz⟩:=Option.bind_eq_some_iff.1 hv
 have hzval:(zeroValue e).run P w = .ok v w:=by simp[zeroValue,typeInfo,hi,hiz]
 have hmap:((fnPs 0 fs).toArray.map fun (i,x)=>(i,a.eval x)).toList=(fnPs 0 fs).map fun x=>(x.1,a.eval x.2):=by simp
 have h0:¬fs.length=0:=fun h=>hne (List.eq_nil_of_length_eq_zero h)
 generalize hus:(Array.range (fs.length*1)).map (fun q=>v.cells[q%v.cells.size]!)=us
 have hsz:us.size=fs.length*1:=by rw[←hus]; simp
 have hcells:Cells A m h w (List.replicate (fs.length*1) .top) us:=⟨by simp[hsz],fun j c hj=>by
  rw[List.getElem?_replicate]at hj
  split at hj
  ·cases hj; exact .topI _
  ·cases hj⟩
 have hps:∀(i:Nat) (x:Nat×Operand),(fnPs 0 fs)[i]?=some x→x.1=0+i∧(flatV (ev fr x.2)).length=1:=fun i x hx=>by
  obtain⟨f,_,rfl⟩:=qgk fs 0 i x hx
  exact⟨rfl,rfl⟩
 obtain⟨vs,hfill,hres⟩:=qfG (A:=A) (m:=m) (h:=h) (w:=w) (fr:=fr) (a:=a) (fun i=>some (i*1,1)) (fun i=>i*1) (fnPs 0 fs) _ us hcells hO
  (fun y hy=>by
   obtain⟨i,hi⟩:=List.getElem?_of_mem hy
   have hl:=(List.getElem?_eq_some_iff.1 hi).1
   rw[qgj]at hl
   obtain⟨f,_,rfl⟩:=qgk fs 0 i y hi
   refine⟨trivial,rfl,rfl,?_⟩
   rw[fn_ev]
   simp[flatV]
   omega)
 have hlen0:(0+(fnPs 0 fs).length)*1≤(List.replicate (fs.length*1) PV.top).length:=by simp[qgj]
 have hvs:vs.size=fs.length*1:=by rw[hres.1,qgR 0 _ _ hps hlen0]; simp
 have hr:(execOp a.eval o).run P w = .ok (.value (.slice (some ⟨w.heap.size,0,none⟩) fs.length fs.length)) (w.alloc (.cells vs e)):=by
  simp only[Nat.mul_one]at hfill hus
  simp only[execOp,ho,Instr.buildSlice,Sem.run_bind,run_underlying hu,Result.andThen_ok,qbj (show 0<sizeT P e by omega),hmap,hz]
  simp[show ¬ 16777216<fs.length by omega,hne,hzval,hus,hfill,newRow]
 have hcell:∀ {A':Nat→Prop} {w':World} (i j:Nat) (r:List PV) (c:PV),(qcg fs)[i]?=some r→r[j]?=some c→j=0∧i<vs.size∧RepI A' w' c (vs.getD i undef):=fun i j r c hr hc=>by
  simp only[qcg,List.getElem?_map,Option.map_eq_some_iff]at hr
  obtain⟨f,hf,rfl⟩:=hr
  have hj:j=0:=by
   have:=(List.getElem?_eq_some_iff.1 hc).1
   simpa using this
  subst hj
  obtain rfl:PV.fn f []=c:=by simpa using hc
  have hlt:=(List.getElem?_eq_some_iff.1 hf).1
  have hx:(fnPs 0 fs)[i]?=some (0+i, .func f):=by
   have hl:i<(fnPs 0 fs).length:=by rw[qgj]; exact hlt
   obtain⟨g,hg,e⟩:=qgk fs 0 i _ (List.getElem?_eq_getElem hl)
   rw[List.getElem?_eq_getElem hl,e]
   rw[hf]at hg
   cases hg
   rfl
  have hcell:=(qgQ (fr:=fr) (z:=1) (by omega) 0 (fnPs 0 fs) _ hps hlen0).2 i 0 _ hx (by omega)
  rw[Nat.zero_add,fn_ev]at hcell
  have hrep:=hres.2 _ _ (by simpa[flatV]using hcell)
  have hi':i<vs.size:=by omega
  refine⟨rfl,hi',RepO.fn0 (A:=A) (m:=m) (h:=h) (w:=w) ?_⟩
  simpa using hrep
 refine qaW hr ⟨fun b=>A b∨b=w.heap.size,?_,?_⟩
 ·refine⟨⟨rfl,rfl,rfl,by simp,fun _ hb _=>qa7 hb,fun _=>Nat.le_refl _⟩,fun _ h => .inl h,fun b hb=>hb.imp id fun e=>by omega,hA.mono (fun b hb =>?_) (fun _ h => .inl h) (fun b hb=>qa7 (hA b hb)),⟨fun k o' hk =>?_,hC.inj⟩, .refl _ _ _,fun _ h => .inl h⟩
  ·rcases hb with hb | hb
   ·exact Nat.lt_of_lt_of_le (hA b hb) (by simp)
   ·subst hb; simp
  ·obtain⟨ob,C,hm,ho⟩:=hC.at_ k o' hk
   refine⟨ob,C,hm,ho.mono (fun _ h => .inl h) (fun b hb=>qa7 (hA b hb)) (.refl _ _ _) (by simp) fun b hb =>?_⟩
   have:=hC.lt ⟨k,o',C,hk,by rw[hm,hb]⟩
   exact⟨fun h=>h.elim this.2 fun e=>by have:=this.1; omega,qa7 this.1⟩
 ·have hl:=qkX fs
  have key:=RepI.sl (A:=fun b=>A b∨b=w.heap.size) (w:=w.alloc (.cells vs e)) 1 (qcg fs) w.heap.size 0 fs.length (fun i j=>vs.getD (i*1+j) undef) (.inr rfl) (by omega) (fun i r hr=>by
   simp only[qcg,List.getElem?_map,Option.map_eq_some_iff]at hr
   obtain⟨f,_,rfl⟩:=hr
   rfl) (fun i j r c hr hc=>by
   obtain⟨rfl,hi',_⟩:=hcell (A':=A) (w':=w) i j r c hr hc
   have hh:=qdg (w:=w) (o := .cells vs e)
   simp only[World.cell?,hh]
   simp[hi']) (fun i j r c hr hc=>by
   obtain⟨rfl,hi',h⟩:=hcell (A':=fun b=>A b∨b=w.heap.size) (w':=w.alloc (.cells vs e)) i j r c hr hc
   simpa using h)
  rw[hl]at key
  exact key
theorem qrr {n id:Nat} {ops:List Oper} {o:Oper} {t:TypeId} {fs:List Nat} {S:St} {Q:Exit→St→Prop} (T:Nat) (hok:ops.all (opOk n)=true) (hT:ops[T]?=some o) (ho:o.op = .buildSlice t fs.length (fnPs 0 fs).toArray) (hg:o.guard=none) (hne:fs ≠ []) (hb:fs.length≤1000)
  (h:aOps P false ops (ops.take T) S fun S1=>∃e,elemT P t=some e∧sizeT P e=1∧(zeroT P e).isSome=true∧aOps P false ops (ops.drop (T+1)) ⟨put S1.fr o.dst (.sl 1 (qcg fs)),S1.H⟩ (Q .normal)):Ends P n (.region id ops.toArray false) S Q:=fun x a w A m hI=>by
 refine wp_region_list ?_
 have hlt:=(List.getElem?_eq_some_iff.1 hT).1
 have hl:ops.toArray.toList=ops.take T++(o::ops.drop (T+1)):=by
  have e:ops[T]=o:=(List.getElem?_eq_some_iff.1 hT).2
  rw[←e,←List.drop_eq_getElem_cons hlt]
  simp
 rw[hl]
 have hall1:(ops.take T).all (opOk n)=true:=by
  rw[List.all_eq_true]at hok ⊢
  exact fun o ho=>hok o (List.mem_of_mem_take ho)
 have hall2:(ops.drop (T+1)).all (opOk n)=true:=by
  rw[List.all_eq_true]at hok ⊢
  exact fun o ho=>hok o (List.mem_of_mem_drop ho)
 have hoo:opOk n o=true:=by
  rw[List.all_eq_true]at hok
  exact hok o (List.mem_of_getElem? hT)
 refine qdF hok (o::ops.drop (T+1)) (fun S' a' w' A' m' ⟨e,he,hz,hzero,h2⟩ hI' =>?_) (ops.take T) false S a w A m hall1 hI h
 unfold wpList
 rw[if_pos (by simp[Region.wanted,hg])]
 refine .inl (qfM (qrq ho hne he hz hzero hb hI'.aok hI'.conc hI'.opnd) (fun v w' hR=>hR) _ _ fun v w' ⟨A'',hN,hr⟩ =>?_)
 have hI2:=hI'.newW (new:=[]) (by rw[qb4]; exact hN)
 rw[List.append_nil]at hI2
 exact qcW hok (fun S3 a3 w3 A3 m3 h3 hI3=>⟨S3,A3,m3,h3,hI3⟩) (ops.drop (T+1)) false _ _ w' A'' m' hall2 (hI2.val (qcm hoo) (.imm hr)) h2
end Go.Ab
