/- From contracts to calls, loops that count up, slices cut and filled: what the walks over plain values lean on. No condition. -/
import Derived.ProofKit
import Derived.Sort.Walk0
import Derived.Test.YteckngloamnfdaaGreatDoorKb
namespace Go.Ab
open Go.ChangeShapes Go.WideShapes Go.ChangeAt Go.RowKit
theorem qjp {H:Type} {enc:TypeId×Value→H} {P:Program} (hl:laidOutB P=true) {W W':World} (hb:Below W.heap.size W W'):∀ {ts:List TypeId} {vs:List Value} {ds:List (DataW H)} {ps:List MemPlace},
  (∀t∈ts,P.readableRec t=true∧t<P.types.size)→DataW.TrodAll enc P W 0 (fun _=>true) true ts vs ds ps→(∀x∈ps,x.block<W.heap.size)→DataW.TrodAll enc P W' 0 (fun b=>decide (b<W.heap.size)) true ts vs ds ps
 | [],[],[],_,_,h,_=>h
 | t::ts,v::vs,d::ds,ps,hr,h,hlt=>by
  obtain⟨p,q,h1,h2,rfl⟩:=h
  exact⟨p,q,Below.trod hl (hr t (by simp)).1 (hr t (by simp)).2 h1 hb (fun x hx=>hlt x (by simp[hx])),qjp hl hb (fun t ht=>hr t (by simp[ht])) h2 (fun x hx=>hlt x (by simp[hx])),rfl⟩
 | [],[],_::_,_,_,h,_=>h.elim
 | [],_::_,_,_,_,h,_=>h.elim
 | _::_,[],_,_,_,h,_=>h.elim
 | _::_,_::_,[],_,_,h,_=>h.elim
theorem qnt {P : Program} {f : FuncId} {fn : Func} {c : Code} (hf : P.funcs[f]? = some fn) (hname : (fn.name == "runtime.NumGoroutine") = false) (hb : fn.body = some c) {pargs : List PV} (h : HFn P f pargs [] (.bool true) []) {W : World} {args : Array Value} (hA : AOk (fun b => b < W.heap.size) W)
  (hsz:args.size=pargs.length) (hrep:∀i p,pargs[i]?=some p→RepI (fun b=>b<W.heap.size) W p (args.getD i undef)):Calls P f args W fun e W'=>e = .returned (.bool true)∧Below W.heap.size W W':=by
 have hname' : fn.name ≠ "runtime.NumGoroutine" := by simpa using hname
 have hcall:(callFunc f args).run P W = .ok (.enter f args) W:=by simp[callFunc,hf,hname',hb]
 have hnone:∀b,¬OwnB (fun _=>none) (getO []) b:=fun b ⟨k,o,C,hk,_⟩=>by simp[getO]at hk
 have:=h (fun b=>b<W.heap.size) (fun _=>none) W args hA ⟨fun k o hk=>by simp[getO]at hk,fun k _ o _ _ _ _ hk=>by simp[getO]at hk⟩ hsz fun i p hp => .imm (hrep i p hp)
 unfold CallS at this
 rw[hcall]at this
 refine this.2.mono fun e W' ⟨v,A',m',he,hc⟩ =>?_
 have hv:v = .bool true:=hc.rep.bool
 subst hv
 exact⟨he,hc.moved.os,hc.moved.tape,hc.moved.output,hc.moved.size,fun k hk=>hc.moved.block k hk (hnone k)⟩
end Go.Ab
namespace Go.Ab
variable {P:Program} {A A':Nat→Prop} {m m':OMap} {h h':OFun} {w w':World} {H:Heap} {fr fr':Fr} {a:Act}
def qfa (ns:List Nat) (p:PV):PV:=ns.foldl (fun p k=>scrubV k p) p
def qd4 (ns:List Nat) (fr:Fr):Fr:=ns.foldl (fun fr k=>qcB k fr) fr
def qd5 (ns:List Nat) (p:PV):PV:=ns.foldl (fun p k=>scrubA k p) p
def qcZ (ns:List Nat) (H:Heap):Heap:=ns.foldl (fun H k=>H.map (qbR k)) H
def qeE (ns:List Nat):Obj→Obj
 | .box cs => .box (cs.map (qd5 ns))
 | o=>o
def rem (h:OFun) (ns:List Nat):OFun:=fun k=>if k∈ns then none else h k
theorem qjq {t:Nat}:∀ {ns:List Nat} {fr:Fr},slot (qd4 ns fr) t=qfa ns (slot fr t)
 | [],_=>rfl
 | k::ns,fr=>by
  show slot (qd4 ns (qcB k fr)) t=qfa ns (scrubV k (slot fr t))
  rw[qjq (ns:=ns),qe6]
theorem qjr {k:Nat} {ns:List Nat}:rem (rem h [k]) ns=rem h (k::ns):=by
 funext j
 simp only[rem,List.mem_cons,List.not_mem_nil,or_false]
 by_cases h1:j∈ns<;>by_cases h2:j=k<;>simp[h1,h2]
theorem qjs {k:Nat}:Shaped (some k) m h m (rem h [k]):=fun j o hj ho=>by
 have:j≠k:=fun e=>hj (by rw[e])
 exact⟨rfl,o,by simp[rem,this,ho],qaD.refl o⟩
theorem qjt {v:Value}:∀ {ns:List Nat} {h:OFun} {p:PV},RepO A m h w p v→RepO A m (rem h ns) w (qfa ns p) v
 | [],h,p,hr=>by
  have:rem h []=h:=by funext j; simp[rem]
  rw[this]; exact hr
 | k::ns,h,p,hr=>by
  rw[←qjr]
  exact qjt (hr.scrubV (fun _ h=>h) (fun _ _=>rfl) qjs)
theorem qju {v:Value}:∀ {ns:List Nat} {h:OFun} {p:PV},RepO A m h w p v→RepO A m (rem h ns) w (qd5 ns p) v
 | [],h,p,hr=>by
  have:rem h []=h:=by funext j; simp[rem]
  rw[this]; exact hr
 | k::ns,h,p,hr=>by
  rw[←qjr]
  exact qju (hr.scrubA (fun _ h=>h) (fun _ _=>rfl) qjs)
theorem qhg {k:Nat}:∀ {ns:List Nat} {H:Heap},getO (qcZ ns H) k=(getO H k).map (qeE ns)
 | [],H=>by
  show getO H k=_
  cases getO H k with
  | none=>rfl
  | some o =>
   cases o with
   | arr _ _=>rfl
   | box cs =>
    have:cs.map (qd5 [])=cs:=(List.map_congr_left fun _ _=>rfl).trans (List.map_id cs)
    simp[qeE,this]
 | j::ns,H=>by
  show getO (qcZ ns (H.map (qbR j))) k=_
  rw[qhg (ns:=ns)]
  have e:getO (H.map (qbR j)) k=(getO H k).map (qeE [j]):=by
   unfold getO
   rw[List.getElem?_map]
   cases H[k]? with
   | none=>rfl
   | some o =>
    cases o with
    | none=>rfl
    | some o=>cases o<;>rfl
  rw[e]
  cases getO H k with
  | none=>rfl
  | some o =>
   cases o with
   | arr _ _=>rfl
   | box cs =>
    show some (Obj.box ((cs.map (qd5 [j])).map (qd5 ns)))=some (Obj.box (cs.map (qd5 (j::ns))))
    rw[List.map_map]
    rfl
theorem qhh:∀ {ns:List Nat} {H:Heap},(qcZ ns H).length=H.length
 | [],_=>rfl
 | j::ns,H=>by
  show (qcZ ns (H.map (qbR j))).length=_
  rw[qhh (ns:=ns),List.length_map]
def rn (ρ:List Nat) (base k:Nat):Nat:=if k<ρ.length then ρ.getD k 0 else base+(k-ρ.length)
def renC (r:Nat→Nat):PV→PV
 | .pb k off => .pb (r k) off
 | p=>p
def capA:PV→Bool
 | .pb _ _=>true
 | p=>qak p
def capP:PV→Bool
 | .pb _ _=>true
 | _=>false
def renA (r:Nat→Nat):PV→PV
 | .sf k z => .sf (r k) z
 | .so k z lo len => .so (r k) z lo len
 | .pa k z i off => .pa (r k) z i off
 | .pb k off => .pb (r k) off
 | .sb k z n => .sb (r k) z n
 | .fn f cs => .fn f (cs.map (renC r))
 | p=>p
def renB (r:Nat→Nat):PV→PV
 | .agg cs => .agg (cs.map (renA r))
 | p=>renA r p
def ren (r:Nat→Nat):PV→PV
 | .tup cs => .tup (cs.map (renB r))
 | p=>renB r p
def renO (r:Nat→Nat):Option Obj→Option Obj
 | some (.box cs)=>some (.box (cs.map (renA r)))
 | o=>o
def renOb (r:Nat→Nat):Obj→Obj
 | .box cs => .box (cs.map (renA r))
 | o=>o
def qbr (r:Nat→Nat):Heap→List Nat→Heap→Heap
 | H,k::ρ,o::s=>qbr r (H.set k (renO r o)) ρ s
 | H,[],s=>H++s.map (renO r)
 | H,_::_,[]=>H
def cellA:PV→Bool
 | .fn _ cs=>cs.all capA
 | .agg _ | .tup _ | .opt _ _ | .own _ | .cp _ _=>false
 | _=>true
def cellB:PV→Bool
 | .agg cs=>cs.all cellA
 | p=>cellA p
def cellP:PV→Bool
 | .tup cs=>cs.all cellB
 | p=>cellB p
def thinA:PV→Bool
 | .sl _ _ | .pe _ _ _ _=>false
 | .fn _ cs=>cs.all capP
 | p=>cellA p
def thinB:PV→Bool
 | .agg cs=>cs.all thinA
 | p=>thinA p
def thinP:PV→Bool
 | .tup cs=>cs.all thinB
 | p=>thinB p
def cellO:List (Option Obj)→Bool
 | []=>true
 | some (.box cs)::r=>cs.all cellA&&cellO r
 | _::r=>cellO r
def thinO:List (Option Obj)→Prop
 | []=>True
 | some (.arr _ rows)::r=>(∀x∈rows,∀c∈x,thinA c=true)∧thinO r
 | some (.box cs)::r=>cs.all thinA=true∧thinO r
 | none::r=>thinO r
theorem qfW:∀ {Hout:Heap},cellO Hout=true→∀ {k:Nat} {cs:List PV},getO Hout k=some (.box cs)→cs.all cellA=true
 | [],_,k,cs=>by simp[getO]
 | none::r,ha,k,cs=>by
  cases k with
  | zero=>simp[getO]
  | succ k=>simpa[getO]using qfW (Hout:=r) ha (k:=k) (cs:=cs)
 | some (.arr z rows)::r,ha,k,cs=>by
  cases k with
  | zero=>simp[getO]
  | succ k=>simpa[getO]using qfW (Hout:=r) ha (k:=k) (cs:=cs)
 | some (.box ds)::r,ha,k,cs=>by
  simp only[cellO,Bool.and_eq_true]at ha
  cases k with
  | zero=>intro hk; simp[getO]at hk; subst hk; exact ha.1
  | succ k=>simpa[getO]using qfW (Hout:=r) ha.2 (k:=k) (cs:=cs)
theorem qfX:∀ {Hout:Heap},thinO Hout→∀ {k z:Nat} {rows:List (List PV)},getO Hout k=some (.arr z rows)→∀x∈rows,∀c∈x,thinA c=true
 | [],_,k,z,rows,hk=>by simp[getO]at hk
 | none::r,ha,k,z,rows,hk=>by
  cases k with
  | zero=>simp[getO]at hk
  | succ k=>exact qfX (Hout:=r) ha (k:=k) (by simpa[getO]using hk)
 | some (.arr z' rows')::r,ha,k,z,rows,hk=>by
  cases k with
  | zero=>simp[getO]at hk; obtain⟨rfl,rfl⟩:=hk; exact ha.1
  | succ k=>exact qfX (Hout:=r) ha.2 (k:=k) (by simpa[getO]using hk)
 | some (.box cs)::r,ha,k,z,rows,hk=>by
  cases k with
  | zero=>simp[getO]at hk
  | succ k=>exact qfX (Hout:=r) ha.2 (k:=k) (by simpa[getO]using hk)
theorem qfY:∀ {Hout:Heap},thinO Hout→∀ {k:Nat} {cs:List PV},getO Hout k=some (.box cs)→cs.all thinA=true
 | [],_,k,cs,hk=>by simp[getO]at hk
 | none::r,ha,k,cs,hk=>by
  cases k with
  | zero=>simp[getO]at hk
  | succ k=>exact qfY (Hout:=r) ha (k:=k) (by simpa[getO]using hk)
 | some (.arr z' rows')::r,ha,k,cs,hk=>by
  cases k with
  | zero=>simp[getO]at hk
  | succ k=>exact qfY (Hout:=r) ha.2 (k:=k) (by simpa[getO]using hk)
 | some (.box ds)::r,ha,k,cs,hk=>by
  cases k with
  | zero=>simp[getO]at hk; subst hk; exact ha.1
  | succ k=>exact qfY (Hout:=r) ha.2 (k:=k) (by simpa[getO]using hk)
theorem qnu {r:Nat→Nat} {x:Option (Option Obj)}:((x.map (renO r)).getD none)=(x.getD none).map (renOb r):=by
 cases x with
 | none=>rfl
 | some o =>
  cases o with
  | none=>rfl
  | some o=>cases o<;>rfl
theorem qjv {r:Nat→Nat}:∀ {ρ:List Nat} {H s:Heap},ρ.length≤s.length→(∀k∈ρ,k<H.length)→qb7 ρ=true →
  (∀(i k:Nat),ρ[i]?=some k→getO (qbr r H ρ s) k=(getO s i).map (renOb r))∧(∀k,k∉ρ→k<H.length→getO (qbr r H ρ s) k=getO H k) ∧
   (∀j,getO (qbr r H ρ s) (H.length+j)=(getO s (ρ.length+j)).map (renOb r))
 | [],H,s,_,_,_=>by
  refine⟨fun i k h=>by simp at h,fun k _ hk =>?_,fun j =>?_⟩
  ·simp only[qbr]; exact qi3 hk
  ·simp only[qbr,getO,List.length_nil,Nat.zero_add]
   rw[List.getElem?_append_right (by omega),Nat.add_sub_cancel_left,List.getElem?_map,qnu]
 | k0::ρ,H,o::s,hl,hk,hn=>by
  simp only[List.length_cons]at hl
  simp only[qb7,Bool.and_eq_true,Bool.not_eq_true',List.contains_eq_mem,decide_eq_false_iff_not]at hn
  obtain⟨i1,i2,i3⟩:=qjv (r:=r) (ρ:=ρ) (H:=H.set k0 (renO r o)) (s:=s) (by omega) (fun k h=>by rw[List.length_set]; exact hk k (by simp[h])) hn.2
  rw[List.length_set]at i2 i3
  refine⟨fun i k h =>?_,fun k h1 h2 =>?_,fun j =>?_⟩
  ·cases i with
   | zero =>
    cases h
    rw[qbr,i2 k0 hn.1 (hk k0 (by simp))]
    unfold getO
    rw[List.getElem?_set_self (hk k0 (by simp))]
    show renO r o=((some o).getD none).map (renOb r)
    cases o with
    | none=>rfl
    | some o=>cases o<;>rfl
   | succ i =>
    rw[qbr,i1 i k (by simpa using h)]
    simp[getO]
  ·simp only[List.mem_cons,not_or]at h1
   rw[qbr,i2 k h1.2 h2]
   unfold getO
   rw[List.getElem?_set_ne (fun e=>h1.1 e.symm)]
  ·rw[qbr,i3 j]
   simp[getO,Nat.add_right_comm]
 | _::_,H,[],hl,_,_=>by simp at hl
theorem qnv {A2 A3:Nat→Prop} {m2 m3:OMap} {h2 h3:OFun} {r:Nat→Nat} (hm:∀k o,h2 k=some o→m3 (r k)=m2 k∧h3 (r k)=some (renOb r o)) {c:PV} {v:Value} (hc:cellA c=true) (hr:RepO A2 m2 h2 w c v) (hI:RepI A2 w c v→RepI A3 w c v)
  (hF:∀(f:Nat) (cs:List PV),c = .fn f cs→∀(i:Nat) (q:PV) (u:Value),cs[i]?=some q→capP q=false→RepI A2 w q u→RepI A3 w q u) :
  RepO A3 m3 h3 w (renA r c) v:=by
 cases hr with
 | imm hi =>
  have:renA r c=c:=by
   cases c with
   | fn f cs=>cases hi with
    | fn _ _ us hl hh =>
     have:cs.map (renC r)=cs:=by
      conv=>rhs; rw[←List.map_id cs]
      refine List.map_congr_left fun c hc =>?_
      obtain⟨i,hi⟩:=List.mem_iff_getElem?.1 hc
      have:=hh i c hi
      cases c<;>first | rfl | (cases this)
     simp only[renA,this]
   | _=>first | rfl | (cases hi)
  rw[this]
  exact .imm (hI hi)
 | fn f cs us hl hh =>
  simp only[cellA]at hc
  refine .fn f _ us (by simpa using hl) fun i c' hc' =>?_
  obtain⟨q,h1,rfl⟩:=qdB hc'
  have hq:=hh i q h1
  generalize us.getD i undef=u at hq ⊢
  have hcq:=List.all_eq_true.1 hc q (List.mem_of_getElem? h1)
  cases q with
  | pb k off=>cases hq with
   | imm hi=>cases hi
   | pb _ _ C b cs' hk hm'=>obtain⟨e1,e2⟩:=hm k _ hk; exact .pb (r k) off C b _ e2 (e1.trans hm')
  | _=>exact .imm (hF f cs rfl i _ _ h1 rfl (hq.toI hcq))
 | sfN k z C ao hk hm'=>obtain⟨e1,e2⟩:=hm k _ hk; exact .sfN (r k) z C ao e2 (e1.trans hm')
 | sf k z C b rows hk hm'=>obtain⟨e1,e2⟩:=hm k _ hk; exact .sf (r k) z C b rows e2 (e1.trans hm')
 | so0 k z C cap ao hk hm' hcap=>obtain⟨e1,e2⟩:=hm k _ hk; exact .so0 (r k) z C cap ao e2 (e1.trans hm') hcap
 | soE k z lo C cap ao rows b hk hm' hlo=>obtain⟨e1,e2⟩:=hm k _ hk; exact .soE (r k) z lo C cap ao rows b e2 (e1.trans hm') hlo
 | so k z lo len C cap b rows hk hm' hl hcap=>obtain⟨e1,e2⟩:=hm k _ hk; exact .so (r k) z lo len C cap b rows e2 (e1.trans hm') hl hcap
 | pa k z i off C b rows hk hm'=>obtain⟨e1,e2⟩:=hm k _ hk; exact .pa (r k) z i off C b rows e2 (e1.trans hm')
 | pb k off C b cs hk hm'=>obtain⟨e1,e2⟩:=hm k _ hk; exact .pb (r k) off C b _ e2 (e1.trans hm')
 | sb k z n C b cap cs hk hm' hcap=>obtain⟨e1,e2⟩:=hm k _ hk; exact .sb (r k) z n C b cap _ e2 (e1.trans hm') hcap
 | _=>cases hc
end Go.Ab
namespace Go.Ab
variable {P:Program} {A A':Nat→Prop} {m m':OMap} {h h':OFun} {w w':World} {H:Heap} {fr fr':Fr} {a:Act}
theorem qnw {A2 A3:Nat→Prop} {c:PV} {u:Value} (ht:thinA c=true) (hr:RepI A2 w c u):RepI A3 w c u:=by
 cases hr with
 | str _ _ h=>exact .str _ _ h
 | fn f cs us hl hh =>
  refine .fn f cs us hl fun i c hc =>?_
  have h1:=List.all_eq_true.1 ht c (List.mem_of_getElem? hc)
  have h2:=hh i c hc
  cases c<;>first | (cases h1; done) | (cases h2)
 | _=>first | (cases ht; done) | constructor
theorem qjw:∀ {a b:List Nat},qb7 (a++b)=true→qb7 a=true
 | [],_,_=>rfl
 | x::a,b,h=>by
  simp only[List.cons_append,qb7,Bool.and_eq_true,Bool.not_eq_true',List.contains_eq_mem,decide_eq_false_iff_not,List.mem_append,not_or]at h ⊢
  exact⟨h.1.1,qjw h.2⟩
noncomputable def newM (ρ:List Nat) (base:Nat) (m m2:OMap):OMap:=fun k=>if k∈ρ then m2 (ρ.idxOf k) else if k<base then m k else m2 (ρ.length+(k-base))
theorem rn_at {ρ:List Nat} {base i k:Nat} (h:ρ[i]?=some k):rn ρ base i=k:=by
 unfold rn
 rw[if_pos (List.getElem?_eq_some_iff.1 h).1,List.getD_eq_getElem?_getD,h]
 rfl
theorem qnx {ρ:List Nat} {base:Nat} {m2:OMap} (hk:∀k∈ρ,k<base) (hn:qb7 ρ=true) (i:Nat):newM ρ base m m2 (rn ρ base i)=m2 i:=by
 unfold newM rn
 by_cases hi:i<ρ.length
 ·rw[if_pos hi]
  have e:ρ.getD i 0=ρ[i]:=by simp[List.getD,List.getElem?_eq_getElem hi]
  rw[e,if_pos (List.getElem_mem _)]
  congr 1
  have h1:ρ.idxOf ρ[i]<ρ.length:=List.idxOf_lt_length_of_mem (List.getElem_mem _)
  have h2:ρ[ρ.idxOf ρ[i]]?=some ρ[i]:=by rw[List.getElem?_eq_getElem h1,List.getElem_idxOf h1]
  exact qfU hn _ _ _ h2 (List.getElem?_eq_getElem hi)
 ·rw[if_neg hi]
  have:base+(i-ρ.length)∉ρ:=fun h=>by have:=hk _ h; omega
  rw[if_neg this,if_neg (by omega)]
  congr 1
  omega
theorem qny {f:FuncId} {args cargs:List PV} {Hin:Heap} {ρ φ kp ns:List Nat} {ι:Type} {I:ι→Prop} {resI:ι→PV} {HoutI:ι→Heap} (hf:GFn P f cargs Hin kp I resI HoutI) (hwk:Wk ρ φ ⟨argFr 0 args,H⟩ ⟨argFr 0 cargs,Hin⟩) (hlen:cargs.length=args.length)
  (hLoI:∀i,I i→ρ.length≤(HoutI i).length) (hk:∀k∈ρ,k<H.length) (hns:∀i k,ρ[i]?=some k→i∈kp∨k∈ns) (hcellI:∀i,I i→cellP (resI i)=true) (hcOI:∀i,I i→cellO (HoutI i)=true) (hflI:∀i,I i→φ=[]∨thinP (resI i)=true∧thinO (HoutI i)) :
  qdV P f args fr H fun pv fr' H'=>∃i,I i∧pv=ren (rn ρ H.length) (resI i)∧fr'=qd4 ns fr∧H'=qbr (rn ρ H.length) (qcZ ns H) ρ (HoutI i):=by
 intro A m w vs hA hC hsz hargs
 have hnd:qb7 ρ=true:=qjw hwk.1

 have hI:Inv ⟨w,A,OwnB m (getO H),fun _=>undef⟩ args.length ⟨argFr 0 args,H⟩ { tmps:=vs,defers:=[] } w A m:=by
  refine⟨.refl _ _,fun b hb => .inl hb,hA,hC,fun b hb => .inl hb,fun t =>?_,hsz,rfl⟩
  rw[qe8,if_pos (Nat.zero_le _),Nat.sub_zero]
  cases ht:args[t]? with
  | none=>rw[List.getD_eq_getElem?_getD,ht]; exact .topI _
  | some p =>
   rw[List.getD_eq_getElem?_getD,ht,qb3 (List.getElem?_eq_some_iff.1 ht).1]
   exact hargs t p ht
 have hI1:=hwk.inv hI
 generalize hA1:withA A m (⟨argFr 0 args,H⟩:St).H φ=A1 at hI1
 generalize hm1:mapM' ρ m=m1 at hI1
 have hcall:=hf A1 m1 w vs hI1.aok hI1.conc (by rw[hsz,hlen]) (fun i p hp=>by
  have:=hI1.fr i
  have hil:i<args.length:=by rw[←hlen]; exact (List.getElem?_eq_some_iff.1 hp).1
  rw[qe8,if_pos (Nat.zero_le _),Nat.sub_zero,List.getD_eq_getElem?_getD,hp,qb3 hil]at this
  exact this)
 have hA01:∀b,A b→A1 b:=fun b hb=>by rw[←hA1]; exact .inl hb

 have inObj:∀i o,getO Hin i=some o→∃k o',ρ[i]?=some k∧getO H k=some o'∧qaD o' o∧m1 i=m k:=fun i o hi=>by
  obtain⟨k,h1,h2⟩:=qeC hwk.2.2 i o (qnp hi)
  refine⟨k,?_⟩
  have e:m1 i=m k:=by rw[←hm1]; simp[mapM',h1]
  unfold wkO at h2
  split at h2
  ·rename_i e1; cases e1
  ·rename_i z rows z' rows' e1 e2
   cases e2
   obtain⟨rfl,rfl⟩:=h2
   exact⟨_,h1,qbq e1,⟨rfl,rfl⟩,e⟩
  ·rename_i cs ds e1 e2
   cases e2
   exact⟨_,h1,qbq e1,trivial,e⟩
  ·exact h2.elim
 have ownIn:∀b,OwnB m1 (getO Hin) b→∃k o C,k∈ρ∧getO H k=some o∧m k=some (some b,C):=fun b ⟨i,o,C,hi,hmi⟩=>by
  obtain⟨k,o',h1,h2,_,h4⟩:=inObj i o hi
  exact⟨k,o',C,List.mem_of_getElem? h1,h2,by rw[←h4]; exact hmi⟩
 refine hcall.mono fun e w' ⟨i0,v,A2,m2,hi0,he,hcame,hkeep⟩ =>?_
 have hLo:=hLoI i0 hi0
 have hcell:=hcellI i0 hi0
 have hcO:=hcOI i0 hi0
 have hfl:=hflI i0 hi0
 generalize hres:resI i0=res at hcame hcell hfl
 generalize hHout:HoutI i0=Hout at hcame hkeep hLo hcO hfl
 obtain⟨g1,g2,g3⟩:=qjv (r:=rn ρ H.length) (ρ:=ρ) (H:=qcZ ns H) (s:=Hout) hLo (fun k h=>by rw[qhh]; exact hk k h) hnd
 rw[qhh]at g2 g3
 generalize hH3:qbr (rn ρ H.length) (qcZ ns H) ρ Hout=H3 at g1 g2 g3
 generalize hm3:newM ρ H.length m m2=m3
 let A3:Nat→Prop:=fun b=>A b∨(A2 b∧(OwnB m1 (getO Hin) b∨w.heap.size≤b))

 have src:∀k o,getO H3 k=some o→(∃i o0,k=rn ρ H.length i∧getO Hout i=some o0∧o=renOb (rn ρ H.length) o0)∨(k∉ρ∧k<H.length∧∃o0,getO H k=some o0∧o=qeE ns o0):=fun k o ho=>by
  by_cases h1:k∈ρ
  ·obtain⟨i,hi⟩:=List.mem_iff_getElem?.1 h1
   rw[g1 i k hi]at ho
   cases ho0:getO Hout i with
   | none=>rw[ho0]at ho; cases ho
   | some o0 =>
    rw[ho0]at ho
    cases ho
    refine .inl ⟨i,o0,?_,ho0,rfl⟩
    exact (rn_at hi).symm
  ·by_cases h2:k<H.length
   ·rw[g2 k h1 h2,qhg]at ho
    cases ho0:getO H k with
    | none=>rw[ho0]at ho; cases ho
    | some o0=>rw[ho0]at ho; cases ho; exact .inr ⟨h1,h2,o0,rfl,rfl⟩
   ·have e:=g3 (k-H.length)
    rw[show H.length+(k-H.length)=k by omega]at e
    rw[e]at ho
    cases ho0:getO Hout (ρ.length+(k-H.length)) with
    | none=>rw[ho0]at ho; cases ho
    | some o0 =>
     rw[ho0]at ho
     cases ho
     refine .inl ⟨_,o0,?_,ho0,rfl⟩
     unfold rn
     rw[if_neg (by omega)]
     omega
 have fwd:∀i o,getO Hout i=some o→m3 (rn ρ H.length i)=m2 i∧getO H3 (rn ρ H.length i)=some (renOb (rn ρ H.length) o):=fun i o hi=>by
  refine⟨by rw[←hm3]; exact qnx hk hnd i,?_⟩
  by_cases hil:i<ρ.length
  ·have e:rn ρ H.length i=ρ[i]:=by simp[rn,hil,List.getD]
   rw[e,g1 i ρ[i] (List.getElem?_eq_getElem hil),hi]
   rfl
  ·have e:rn ρ H.length i=H.length+(i-ρ.length):=by simp[rn,hil]
   rw[e,g3,show ρ.length+(i-ρ.length)=i by omega,hi]
   rfl
 have stay:∀k,k∉ρ→k<H.length→m3 k=m k:=fun k h1 h2=>by rw[←hm3]; simp[newM,h1,h2]

 have blockB:∀k o b C,k∉ρ→getO H k=some o→m k=some (some b,C)→¬OwnB m1 (getO Hin) b:=fun k o b C h1 h2 h3 h4=>by
  obtain⟨k',o',C',h5,h6,h7⟩:=ownIn b h4
  have:=hC.inj k k' o o' b C C' h2 h6 h3 h7
  subst this
  exact h1 h5
 have blockA:∀b,A b→w'.heap[b]?=w.heap[b]?:=fun b hb=>hcame.moved.block b (hA b hb) fun hb'=>(hI1.conc.lt hb').2 (hA01 b hb)
 have hA3:∀b,A b→A3 b:=fun b hb => .inl hb
 have ownOut:∀b,OwnB m2 (getO Hout) b→¬A3 b:=fun b hb h3=>by
  rcases h3 with h3 | ⟨h3,_⟩
  ·rcases hcame.own b hb with h4 | h4
   ·exact (hI1.conc.lt h4).2 (hA01 b h3)
   ·have:=hA b h3; omega
  ·exact (hcame.conc.lt hb).2 h3

 have wide:∀c u,(φ=[]∨thinA c=true)→RepI A2 w' c u→RepI A3 w' c u:=fun c u hc hr=>by
  rcases hc with hc | hc
  ·refine hr.mono (fun b hb =>?_) fun _ _=>rfl
   rcases hcame.sub b hb with h1 | h1 | h1
   ·refine .inl ?_
    rw[←hA1,hc]at h1
    rcases h1 with h1 | ⟨_,_,_,h2,_⟩
    ·exact h1
    ·cases h2
   ·exact .inr ⟨hb, .inl h1⟩
   ·exact .inr ⟨hb, .inr h1⟩
  ·exact qnw hc hr
 have shp:Shaped none m (rem (getO H) ns) m3 (getO H3):=fun k o _ ho=>by
  unfold rem at ho
  split at ho
  ·cases ho
  ·rename_i hkn
   by_cases hkρ:k∈ρ
   ·obtain⟨i,hi⟩:=List.mem_iff_getElem?.1 hkρ
    have hkp:i∈kp:=(hns i k hi).resolve_right hkn
    obtain⟨e1,o1,o2,h1,h2,h3⟩:=hkeep i hkp
    obtain⟨f1,f2⟩:=fwd i o2 h2
    have hrk:rn ρ H.length i=k:=rn_at hi
    rw[hrk]at f1 f2
    obtain⟨k',o',h4,h5,h6,h7⟩:=inObj i o1 h1
    rw[hi]at h4
    cases h4
    rw[ho]at h5
    cases h5
    refine⟨by rw[f1,e1,h7],_,f2,?_⟩
    cases o<;>cases o1<;>cases o2<;>simp_all[qaD,renOb]
   ·have hlt:=qb6 ho
    refine⟨stay k hkρ hlt,qeE ns o,by rw[g2 k hkρ hlt,qhg,ho]; rfl,?_⟩
    cases o<;>simp[qaD,qeE]
 have oldA:∀ {p:PV} {u:Value},RepO A m (getO H) w p u→RepO A3 m3 (getO H3) w' (qd5 ns p) u:=fun hr=>(qju hr).mono hA3 blockA shp
 have oldV:∀ {p:PV} {u:Value},RepO A m (getO H) w p u→RepO A3 m3 (getO H3) w' (qfa ns p) u:=fun hr=>(qjt hr).mono hA3 blockA shp
 have newA:∀ {c:PV} {u:Value},cellA c=true→(φ=[]∨thinA c=true)→RepO A2 m2 (getO Hout) w' c u→RepO A3 m3 (getO H3) w' (renA (rn ρ H.length) c) u:=fun {c u} h1 h2 hr=>qnv fwd h1 hr (wide c u h2) fun f cs e i q u' hi hq hr'=>by
  rcases h2 with h2 | h2
  ·exact wide q u' (.inl h2) hr'
  ·subst e
   have:=List.all_eq_true.1 h2 q (List.mem_of_getElem? hi)
   rw[hq]at this
   cases this

 have newB:∀ {c:PV} {u:Value},cellB c=true→(φ=[]∨thinB c=true)→RepO A2 m2 (getO Hout) w' c u→RepO A3 m3 (getO H3) w' (renB (rn ρ H.length) c) u:=fun {c u} h1 h2 hr=>by
  cases c with
  | agg cs =>
   obtain⟨us,rfl,hl,hh⟩:=hr.aggI
   refine .agg _ us (by simpa using hl) fun i c hc =>?_
   obtain⟨c',q1,rfl⟩:=qdB hc
   exact newA (List.all_eq_true.1 h1 c' (List.mem_of_getElem? q1)) (h2.imp id fun h2=>List.all_eq_true.1 h2 c' (List.mem_of_getElem? q1)) (hh i c' q1)
  | _ =>
   simp only[cellB,thinB,renB]at h1 h2 ⊢
   exact newA h1 h2 hr
 have newP:RepO A3 m3 (getO H3) w' (ren (rn ρ H.length) res) v:=by
  have hr:=hcame.rep
  have hfl':φ=[]∨thinP res=true:=hfl.imp id And.left
  cases res with
  | tup cs =>
   obtain⟨us,rfl,hl,hh⟩:=hr.tupI
   refine .tup _ us (by simpa using hl) fun i c hc =>?_
   obtain⟨c',q1,rfl⟩:=qdB hc
   exact newB (List.all_eq_true.1 hcell c' (List.mem_of_getElem? q1)) (hfl'.imp id fun h2=>List.all_eq_true.1 h2 c' (List.mem_of_getElem? q1)) (hh i c' q1)
  | _ =>
   simp only[cellP,thinP,ren]at hcell hfl' ⊢
   exact newB hcell hfl' hr
 refine⟨v,A3,m3,ren (rn ρ H.length) res,qd4 ns fr,H3,⟨i0,hi0,by rw[hres],rfl,by rw[hHout,hH3]⟩,he,⟨hcame.moved.mono fun b hb h1 =>?_,fun b hb =>?_,hA.mono (fun b hb =>?_) (fun _ h => .inl h) (fun b hb=>hcame.moved.block b (hA b hb) fun h=>by
  obtain⟨k,o,C,_,h3,h4⟩:=ownIn b h
  exact (hC.lt ⟨k,o,C,h3,h4⟩).2 hb),⟨fun k o ho =>?_,fun k k' o o' b C C' ho ho' hmk hmk' =>?_⟩,fun b ⟨k,o,C,ho,hmk⟩ =>?_,newP⟩,fun t u hr=>by rw[qjq]; exact oldV hr⟩
 ·obtain⟨k,o,C,_,h3,h4⟩:=ownIn b h1
  exact⟨k,o,C,h3,h4⟩
 ·rcases hb with hb | ⟨_,hb | hb⟩
  ·exact .inl hb
  ·obtain⟨k,o,C,_,h3,h4⟩:=ownIn b hb
   exact .inr (.inl ⟨k,o,C,h3,h4⟩)
  ·exact .inr (.inr hb)
 ·rcases hb with hb | ⟨hb,_⟩
  ·exact Nat.lt_of_lt_of_le (hA b hb) hcame.moved.size
  ·exact hcame.aok b hb
 ·rcases src k o ho with ⟨i,o0,rfl,hi,rfl⟩ | ⟨hkρ,hkl,o0,hk0,rfl⟩
  ·obtain⟨f1,_⟩:=fwd i o0 hi
   obtain⟨ob,C,hm2,hob⟩:=hcame.conc.at_ i o0 hi
   refine⟨ob,C,by rw[f1]; exact hm2,?_⟩
   cases o0 with
   | arr z rows =>
    cases ob with
    | none=>exact hob
    | some b =>
     obtain⟨_,q2,q3,q4,q5,cur,ty,q6,q7,q8⟩:=hob
     refine⟨ownOut b ⟨i,_,C,hi,hm2⟩,q2,q3,q4,q5,cur,ty,q6,q7,fun i' j r c hr hc =>?_⟩
     obtain⟨u,hu,hru⟩:=q8 i' j r c hr hc
     exact⟨u,hu,wide c u (hfl.imp id fun h=>qfX h.2 hi r (List.mem_of_getElem? hr) c (List.mem_of_getElem? hc)) hru⟩
   | box cs =>
    cases ob with
    | none=>exact hob.elim
    | some b =>
     obtain⟨_,q2,cur,ty,fz,q6,q7,qz,q8⟩:=hob
     refine⟨ownOut b ⟨i,_,C,hi,hm2⟩,q2,cur,ty,fz,q6,by simpa using q7,qz,fun j c hc =>?_⟩
     obtain⟨c',q1,rfl⟩:=qdB hc
     obtain⟨u,hu,hru⟩:=q8 j c' q1
     exact⟨u,hu,newA (List.all_eq_true.1 (qfW hcO hi) c' (List.mem_of_getElem? q1)) (hfl.imp id fun h=>List.all_eq_true.1 (qfY h.2 hi) c' (List.mem_of_getElem? q1)) hru⟩
  ·obtain⟨ob,C,hmk,hob⟩:=hC.at_ k o0 hk0
   refine⟨ob,C,by rw[stay k hkρ hkl]; exact hmk,?_⟩
   have hb:∀b,ob=some b→¬A3 b∧w'.heap[b]?=w.heap[b]?∧b<w.heap.size:=fun b hb=>by
    subst hb
    have hlt:=hC.lt ⟨k,o0,C,hk0,hmk⟩
    have hno:=blockB k o0 b C hkρ hk0 hmk
    refine⟨fun h3 =>?_,hcame.moved.block b hlt.1 hno,hlt.1⟩
    rcases h3 with h3 | ⟨_,h3 | h3⟩
    ·exact hlt.2 h3
    ·exact hno h3
    ·omega
   cases o0 with
   | arr z rows =>
    cases ob with
    | none=>exact hob
    | some b =>
     obtain⟨_,q2,q3,q4,q5,cur,ty,q6,q7,q8⟩:=hob
     obtain⟨e1,e2,e3⟩:=hb b rfl
     refine⟨e1,Nat.lt_of_lt_of_le e3 hcame.moved.size,q3,q4,q5,cur,ty,by rw[e2]; exact q6,q7,fun i' j r c hr hc =>?_⟩
     obtain⟨u,hu,hru⟩:=q8 i' j r c hr hc
     exact⟨u,hu,hru.mono hA3 blockA⟩
   | box cs =>
    cases ob with
    | none=>exact hob.elim
    | some b =>
     obtain⟨_,q2,cur,ty,fz,q6,q7,qz,q8⟩:=hob
     obtain⟨e1,e2,e3⟩:=hb b rfl
     refine⟨e1,Nat.lt_of_lt_of_le e3 hcame.moved.size,cur,ty,fz,by rw[e2]; exact q6,by simpa using q7,qz,fun j c hc =>?_⟩
     obtain⟨c',q1,rfl⟩:=qdB hc
     obtain⟨u,hu,hru⟩:=q8 j c' q1
     exact⟨u,hu,oldA hru⟩
 ·have newOld:∀i o0 b C,getO Hout i=some o0→m2 i=some (some b,C)→∀k o1 C1,k∉ρ→getO H k=some o1→m k=some (some b,C1)→False:=fun i o0 b C h1 h2 k o1 C1 h3 h4 h5=>by
   rcases hcame.own b ⟨i,o0,C,h1,h2⟩ with q | q
   ·exact blockB k o1 b C1 h3 h4 h5 q
   ·have:=(hC.lt ⟨k,o1,C1,h4,h5⟩).1
    omega
  rcases src k o ho with ⟨i,o0,rfl,hi,rfl⟩ | ⟨hkρ,hkl,o0,hk0,rfl⟩<;>rcases src k' o' ho' with ⟨i',o0',rfl,hi',rfl⟩ | ⟨hkρ',hkl',o0',hk0',rfl⟩
  ·rw[(fwd i o0 hi).1]at hmk
   rw[(fwd i' o0' hi').1]at hmk'
   rw[hcame.conc.inj i i' o0 o0' b C C' hi hi' hmk hmk']
  ·rw[(fwd i o0 hi).1]at hmk
   rw[stay k' hkρ' hkl']at hmk'
   exact (newOld i o0 b C hi hmk k' o0' C' hkρ' hk0' hmk').elim
  ·rw[(fwd i' o0' hi').1]at hmk'
   rw[stay k hkρ hkl]at hmk
   exact (newOld i' o0' b C' hi' hmk' k o0 C hkρ hk0 hmk).elim
  ·rw[stay k hkρ hkl]at hmk
   rw[stay k' hkρ' hkl']at hmk'
   exact hC.inj k k' o0 o0' b C C' hk0 hk0' hmk hmk'
 ·rcases src k o ho with ⟨i,o0,rfl,hi,rfl⟩ | ⟨hkρ,hkl,o0,hk0,rfl⟩
  ·rw[(fwd i o0 hi).1]at hmk
   rcases hcame.own b ⟨i,o0,C,hi,hmk⟩ with q | q
   ·obtain⟨k,o,C,_,h3,h4⟩:=ownIn b q
    exact .inl ⟨k,o,C,h3,h4⟩
   ·exact .inr q
  ·rw[stay k hkρ hkl]at hmk
   exact .inl ⟨k,o0,C,hk0,hmk⟩
theorem qdV.mono {f:FuncId} {args:List PV} {K K':PV→Fr→Heap→Prop} (h:qdV P f args fr H K) (hK:∀pv fr' H',K pv fr' H'→K' pv fr' H'):qdV P f args fr H K':=fun A m w vs hA hC hvs hargs =>
 (h A m w vs hA hC hvs hargs).mono fun _e _w' ⟨v,A',m',pv,fr',H',h1,h2⟩=>⟨v,A',m',pv,fr',H',hK _ _ _ h1,h2⟩
theorem CallZ.useG {f:FuncId} {args args' cargs:List PV} {Hin:Heap} (ρ φ ns:List Nat) {kp:List Nat} {ι:Type} {I:ι→Prop} {res:ι→PV} {Hout:ι→Heap} {d:Option Nat} {K:St→Prop} {ok own:Bool} (hf:GFn P f cargs Hin kp I res Hout) (hwk:Wk ρ φ ⟨argFr 0 args,H⟩ ⟨argFr 0 cargs,Hin⟩)
  (hlen:cargs.length=args.length) (hk:∀k∈ρ,k<H.length) (hns:(ρ.zipIdx.all fun x=>kp.contains x.2||ns.contains x.1)=true)
  (hI:∀i,I i→Nat.ble ρ.length (Hout i).length=true∧cellP (res i)=true∧cellO (Hout i)=true∧(φ=[]∨thinP (res i)=true∧thinO (Hout i)))
  (hK:∀i,I i→K ⟨put (qd4 ns fr) d (ren (rn ρ H.length) (res i)),qbr (rn ρ H.length) (qcZ ns H) ρ (Hout i)⟩):CallZ P false f args' ok own args d ⟨fr,H⟩ K :=
 .inr ⟨rfl,(qny hf hwk hlen (fun i hi=>Nat.le_of_ble_eq_true (hI i hi).1) hk (fun i k hi=>by
  have:=List.all_eq_true.1 hns (k,i) (List.mem_zipIdx_iff_getElem?.2 hi)
  simpa using this) (fun i hi=>(hI i hi).2.1) (fun i hi=>(hI i hi).2.2.1) (fun i hi=>(hI i hi).2.2.2)).mono fun pv fr' H' h=>by obtain⟨i,hi,h1,h2,h3⟩:=h; subst h1; subst h2; subst h3; exact hK i hi⟩
theorem CallZ.useM {f:FuncId} {args args' cargs:List PV} {Hin Hout:Heap} (ρ φ ns:List Nat) {kp:List Nat} {res:PV} {d:Option Nat} {K:St→Prop} {ok own:Bool} (hf:MFn P f cargs Hin kp res Hout) (hwk:Wk ρ φ ⟨argFr 0 args,H⟩ ⟨argFr 0 cargs,Hin⟩)
  (hlen:cargs.length=args.length) (hLo:Nat.ble ρ.length Hout.length=true) (hk:∀k∈ρ,k<H.length) (hns:(ρ.zipIdx.all fun x=>kp.contains x.2||ns.contains x.1)=true) (hcell:cellP res=true) (hcO:cellO Hout=true) (hfl:φ=[]∨thinP res=true∧thinO Hout)
  (hK:K ⟨put (qd4 ns fr) d (ren (rn ρ H.length) res),qbr (rn ρ H.length) (qcZ ns H) ρ Hout⟩):CallZ P false f args' ok own args d ⟨fr,H⟩ K :=
 CallZ.useG ρ φ ns (MFn.gfn (I:=fun _:Unit=>True) (res:=fun _=>res) (Hout:=fun _=>Hout) () trivial hf) hwk hlen hk hns (fun _ _=>⟨hLo,hcell,hcO,hfl⟩) fun _ _=>hK
@[simp] theorem qIB {n:Nat} {L:List Nat} {Q:Exit→St→Prop}:awpL P n L .skip ⟨fr,H⟩ Q=Q .normal ⟨fr,H⟩:=rfl
@[simp] theorem qIC {n:Nat} {L:List Nat} {Q:Exit→St→Prop} {id:Nat} {l:List Oper} {b:Bool}:awpL P n L (.region id l.toArray b) ⟨fr,H⟩ Q=bif L.contains id then Ends P n (.region id l.toArray b) ⟨fr,H⟩ Q else aOps P b l l ⟨fr,H⟩ (Q .normal):=rfl
@[simp] theorem qID {n:Nat} {L:List Nat} {Q:Exit→St→Prop} {a b:Code}:awpL P n L (.seq a b) ⟨fr,H⟩ Q=awpL P n L a ⟨fr,H⟩ (thenQ (fun S'=>awpL P n L b S' Q) Q):=rfl
@[simp] theorem qIE {n:Nat} {L:List Nat} {Q:Exit→St→Prop} {c:Operand} {x y:Code}:awpL P n L (.cond c x y) ⟨fr,H⟩ Q=(okv fr c∧condK (ev fr c) (awpL P n L x ⟨fr,H⟩ Q) (awpL P n L y ⟨fr,H⟩ Q)):=rfl
@[simp] theorem qIF {n:Nat} {L:List Nat} {Q:Exit→St→Prop} {id:Nat} {b:Code}:awpL P n L (.block id b) ⟨fr,H⟩ Q=awpL P n L b ⟨fr,H⟩ (qdf id Q):=rfl
@[simp] theorem qIG {n:Nat} {L:List Nat} {Q:Exit→St→Prop} {b:Code}:awpL P n L (.loop b) ⟨fr,H⟩ Q=Ends P n (.loop b) ⟨fr,H⟩ Q:=rfl
@[simp] theorem qIH {n:Nat} {L:List Nat} {Q:Exit→St→Prop} {id:Nat}:awpL P n L (.exit id) ⟨fr,H⟩ Q=Q (.exit id) ⟨fr,H⟩:=rfl
@[simp] theorem qII {n:Nat} {L:List Nat} {Q:Exit→St→Prop}:awpL P n L .ret ⟨fr,H⟩ Q=Q .ret ⟨fr,H⟩:=rfl
@[simp] theorem qIJ {T:Nat} {Us:List (List Nat)} {ops:List Oper} {S:St} {K:St→Prop}:qnj P T Us ops S K=aOps P true ops (ops.take T) S fun ST=>qeA P ops T Us ST K:=rfl
@[simp] theorem qIK {ops:List Oper} {p:Nat} {K:St→Prop}:qeA P ops p [] ⟨fr,H⟩ K=aOps P false ops (ops.drop p) ⟨fr,H⟩ K:=rfl
@[simp] theorem qIL {ops:List Oper} {p:Nat} {U:List Nat} {r:List (List Nat)} {K:St→Prop}:qeA P ops p (U::r) ⟨fr,H⟩ K=match ops[p]? with
  | some o=>aEx P false o.op o.dst ⟨fr,H⟩ fun S'=>qez P ops S' U∧qeA P ops (p+1) r S' K
  | none=>False:=rfl
@[simp] theorem qIM {ops:List Oper} {S:St}:qez P ops S []=True:=rfl
@[simp] theorem qIN {ops:List Oper} {i:Nat} {r:List Nat}:qez P ops ⟨fr,H⟩ (i::r)=((match ops[i]? with
  | some o=>vok P fr H o.op∧(match o.dst with
   | some d=>late1 (slot fr d) (vop P fr H o.op)
   | none=>True)
  | none=>False)∧qez P ops ⟨fr,H⟩ r):=rfl
attribute [simp] late1 qd4 qcZ qfa rn renC capA capP renA renB ren renO qbr cellA cellB cellP cellO thinA thinB thinP thinO
end Go.Ab
namespace Go.Ab
variable {P:Program}
theorem qac (hm:P.follows .mixedOrders=true) {n:Nat} (N:Nat) (σ:Nat→St) (I:Nat→Prop) {c:Code} (hok:qa8 n c=true) {S:St} {Q:Exit→St→Prop} (h0:Weak S (σ 0)) (i0:I 0)
  (round:∀i,i<N→I i→awp P n c (σ i) (thenQ (fun S'=>I (i+1)∧Weak S' (σ (i+1))) Q)) (fin:I N→awp P n c (σ N) (thenQ (fun _=>False) Q)):Ends P n (.loop c) S Q:=fun x a w A m hI=>by
 have key:∀(k i:Nat) (a:Act) (w:World) (A:Nat→Prop) (m:OMap),i≤N→N-i<k→I i→Inv x n (σ i) a w A m→Code.rounds P c (fun e a' w'=>∃S' A' m',Q e S'∧Inv x n S' a' w' A' m') k a w:=by
  intro k
  induction k with
  | zero=>intro i a w A m _ h; exact absurd h (Nat.not_lt_zero _)
  | succ k ih =>
   intro i a w A m hle hlt hi hI
   rw[rounds_succ]
   by_cases h:i<N
   ·refine wp_mono (qaE hm c (σ i) _ hok (round i h hi) x a w A m hI) fun e a' w' ⟨S',A',m',hq,hI'⟩ =>?_
    cases e with
    | normal =>
     obtain⟨hi',hw⟩:=hq
     obtain⟨A'',m'',hI''⟩:=hw x n a' w' A' m' hI'
     exact ih (i+1) a' w' A'' m'' h (by omega) hi' hI''
    | _=>exact⟨S',A',m',hq,hI'⟩
   ·obtain rfl:i=N:=by omega
    refine wp_mono (qaE hm c (σ i) _ hok (fin hi) x a w A m hI) fun e a' w' ⟨S',A',m',hq,hI'⟩ =>?_
    cases e with
    | normal=>exact hq.elim
    | _=>exact⟨S',A',m',hq,hI'⟩
 obtain⟨A',m',hI'⟩:=h0 x n a w A m hI
 exact wp_loop_rounds (N-0+1) (key _ 0 a w A' m' (Nat.zero_le _) (Nat.lt_succ_self _) i0 hI')
theorem qnz (hm:P.follows .mixedOrders=true) {n:Nat} {δ:Type} (N:Nat) (σ:Nat→δ→St) (I:Nat→δ→Prop) {c:Code} (hok:qa8 n c=true) {S:St} {Q:Exit→St→Prop} (h0:ExL (I 0) (σ 0) S)
  (round:∀i y,i<N→I i y→awp P n c (σ i y) (thenQ (fun S'=>ExL (I (i+1)) (σ (i+1)) S') Q)) (fin:∀y,I N y→awp P n c (σ N y) (thenQ (fun _=>False) Q)):Ends P n (.loop c) S Q:=fun x a w A m hI=>by
 have key:∀(k i:Nat) (y:δ) (a:Act) (w:World) (A:Nat→Prop) (m:OMap),i≤N→N-i<k→I i y→Inv x n (σ i y) a w A m→Code.rounds P c (fun e a' w'=>∃S' A' m',Q e S'∧Inv x n S' a' w' A' m') k a w:=by
  intro k
  induction k with
  | zero=>intro i y a w A m _ h; exact absurd h (Nat.not_lt_zero _)
  | succ k ih =>
   intro i y a w A m hle hlt hi hI
   rw[rounds_succ]
   by_cases h:i<N
   ·refine wp_mono (qaE hm c (σ i y) _ hok (round i y h hi) x a w A m hI) fun e a' w' ⟨S',A',m',hq,hI'⟩ =>?_
    cases e with
    | normal =>
     obtain⟨y',hi',hw⟩:=hq
     obtain⟨A'',m'',hI''⟩:=hw x n a' w' A' m' hI'
     exact ih (i+1) y' a' w' A'' m'' h (by omega) hi' hI''
    | _=>exact⟨S',A',m',hq,hI'⟩
   ·obtain rfl:i=N:=by omega
    refine wp_mono (qaE hm c (σ i y) _ hok (fin y hi) x a w A m hI) fun e a' w' ⟨S',A',m',hq,hI'⟩ =>?_
    cases e with
    | normal=>exact hq.elim
    | _=>exact⟨S',A',m',hq,hI'⟩
 obtain⟨y0,i0,h0⟩:=h0
 obtain⟨A',m',hI'⟩:=h0 x n a w A m hI
 exact wp_loop_rounds (N-0+1) (key _ 0 y0 a w A' m' (Nat.zero_le _) (Nat.lt_succ_self _) i0 hI')
def exQ (id:Nat) (K E:St→Prop):Exit→St→Prop
 | .normal,S=>K S
 | .exit id',S=>id'=id∧E S
 | _,_=>False
@[simp] theorem qIO {id:Nat} {K E:St→Prop} {S:St}:exQ id K E .normal S=K S:=rfl
@[simp] theorem qIP {id id':Nat} {K E:St→Prop} {S:St}:exQ id K E (.exit id') S=(id'=id∧E S):=rfl
@[simp] theorem qIQ {id:Nat} {K E:St→Prop} {S:St}:exQ id K E .ret S=False:=rfl
@[simp] theorem qIR {rs:List ResultVar} {res:PV} {Hout:Heap} {fr:Fr} {H:Heap}:RetOk P rs res Hout .ret ⟨fr,H⟩=(qaL P ⟨fr,H⟩ rs∧Weak ⟨[(0,retV P ⟨fr,H⟩ rs)],H⟩ ⟨[(0,res)],Hout⟩):=rfl
@[simp] theorem qIS {rs:List ResultVar} {res:PV} {Hout:Heap} {fr:Fr} {H:Heap}:RetOk P rs res Hout .normal ⟨fr,H⟩=(qaL P ⟨fr,H⟩ rs∧Weak ⟨[(0,retV P ⟨fr,H⟩ rs)],H⟩ ⟨[(0,res)],Hout⟩):=rfl
theorem qnA {S:St} {t z:Nat} {q:PV} (h:∀(A:Nat→Prop) (m m':OMap) (h h':OFun) (w:World) (v:Value),Shaped none m h m' h'→h' S.H.length=some (.arr z [])→m' S.H.length=some (none,0)→RepO A m h w (slot S.fr t) v→RepO A m' h' w q v) :
  Weak S ⟨(t,q)::S.fr,S.H++[some (.arr z [])]⟩:=fun x n a w A m hI=>by
 have hN:=qg1 (z:=z) hI.aok hI.conc (qfI (H:=S.H))
 have hsh:=hN.shaped
 rw[←qb5]at hN
 have hI':=hI.newW hN
 refine⟨A,_,hI'.moved,hI'.sub,hI'.aok,hI'.conc,hI'.own,fun t' =>?_,hI'.sz,hI'.df⟩
 simp only[slot]
 cases e:t==t' with
 | false=>exact hI'.fr t'
 | true =>
  have:t=t':=by simpa using e
  subst this
  have e2:getO (S.H++[some (.arr z [])])=updO (getO S.H) S.H.length (.arr z []):=qgP
  show RepO A (updM m S.H.length (none,0)) (getO (S.H++[some (.arr z [])])) w q (look x n a t)
  rw[e2]
  exact h A m _ _ _ w _ hsh (by simp[updO]) (by simp[updM]) (hI.fr t)
theorem qco {fr:Fr} {H:Heap} {cs:List PV} {t:Nat} (i z:Nat) (hs:slot fr t = .tup cs) (hi:cs[i]?=some .nils):Weak ⟨fr,H⟩ ⟨(t, .tup (cs.set i (.sf H.length z)))::fr,H++[some (.arr z [])]⟩ :=
 qnA (S:=⟨fr,H⟩) fun A m m' h h' w v hsh h1 h2 hr=>by
  have hr:RepO A m h w (slot fr t) v:=hr
  rw[hs]at hr
  obtain⟨us,rfl,hl,hh⟩:=hr.tupI
  refine .tup _ us (by simpa using hl) fun j c hc =>?_
  rw[List.getElem?_set]at hc
  by_cases e:i=j
  ·subst e
   have hlt:i<cs.length:=(List.getElem?_eq_some_iff.1 hi).1
   simp[hlt]at hc
   subst hc
   obtain⟨ao,hao⟩:=(hh i _ hi).nilsI
   rw[hao]
   exact .sfN _ z 0 ao h1 h2
  ·rw[if_neg e]at hc
   exact (hh j c hc).mono (fun _ h=>h) (fun _ _=>rfl) hsh
theorem w8 {n:Int} (h1:0≤n) (h2:n<256):IntKind.u8.wrap n=n:=by
 have e:IntKind.u8.wrap n=n%256:=rfl
 omega
theorem CallZ.useK {q:Bool} {fr:Fr} {H:Heap} {f:FuncId} {args args' cargs:List PV} {o o':Option Obj} (k:Nat) {res:PV} {d:Option Nat} {K:St→Prop} {ok own:Bool} (hf:MFn P f cargs [o] [0] res [o']) (hq:q=false) (hwk:Wk [k] [] ⟨argFr 0 args,H⟩ ⟨argFr 0 cargs,[o]⟩)
  (hlen:cargs.length=args.length) (hk:k<H.length) (hcell:cellP res=true) (hcO:cellO [o']=true) (hK:K ⟨put fr d (ren (rn [k] H.length) res),qbr (rn [k] H.length) H [k] [o']⟩):CallZ P q f args' ok own args d ⟨fr,H⟩ K:=by
 subst hq
 exact CallZ.useM [k] [] [] hf hwk hlen rfl (by simpa using hk) rfl hcell hcO (.inl rfl) hK
theorem qc0 {α:Type} {a b:List α} {i:Nat} {x y:α} (h:a.take i=b.take i) (ha:a[i]?=some x) (hb:b[i]?=some y) (e:x=y):a.take (i+1)=b.take (i+1):=by
 rw[List.take_add_one,List.take_add_one,h,ha,hb,e]
theorem qc1 {α:Type} {a b:List α} (h:a.take a.length=b.take a.length) (hl:a.length=b.length):a=b:=by
 have e:b.take a.length=b:=by rw[hl]; exact List.take_length
 rw[←e,←h,List.take_length]
theorem qnB {α:Type} (f:Nat→α) (l:List α) (i:Nat) (h:i<l.length):((List.range i).map f++l.drop i).set i (f i)=(List.range (i+1)).map f++l.drop (i+1):=by
 rw[List.range_succ,List.map_append,List.append_assoc,List.set_append_right (h:=by simp)]
 simp only[List.length_map,List.length_range,Nat.sub_self]
 rw[List.drop_eq_getElem_cons h]
 rfl
theorem qbk {α β:Type} (f:α→β) (l:List α) (z:β) {i:Nat} (h:i<l.length):∃X,(l.take i).map f++List.replicate (l.length-i) z=X∧X.length=l.length∧∀h,X[i]'h=z:=by
 refine⟨_,rfl,by simp; omega,fun h' =>?_⟩
 apply Option.some.inj
 rw[←List.getElem?_eq_getElem]
 rw[List.getElem?_append_right (by simp; omega),List.getElem?_replicate,if_pos (by simp; omega)]
theorem qbC {α β:Type} (f:α→β) (l:List α) (z:β) {i:Nat} (h:i<l.length):((l.take i).map f++List.replicate (l.length-i) z).set i (f l[i])=(l.map f).take (i+1)++List.replicate (l.length-(i+1)) z:=by
 rw[←List.map_take]
 have e:l.length-i=(l.length-(i+1))+1:=by omega
 have hl:((l.take i).map f).length=i:=by simp; omega
 rw[List.set_append_right (h:=by omega),hl,Nat.sub_self,e,List.replicate_succ,List.set_cons_zero,List.take_add_one,List.getElem?_eq_getElem h,List.map_append]
 simp
theorem qbD {α β:Type} {f:α→β} {p:α→Prop}:∀ {rows:List β},(∀r∈rows,∃x,r=f x∧p x)→∃l:List α,rows=l.map f∧∀x∈l,p x
 | [],_=>⟨[],rfl,by simp⟩
 | r::rows,h=>by
  obtain⟨x,rfl,hx⟩:=h r (by simp)
  obtain⟨l,rfl,hl⟩:=qbD (rows:=rows) fun r hr=>h r (by simp[hr])
  exact⟨x::l,rfl,by simpa using ⟨hx,hl⟩⟩
theorem lit64 {n:Int} (h:(Lit.int .i64 n).wf=true) : -9223372036854775808≤n∧n≤9223372036854775807:=by
 have h1:IntKind.i64.min = -9223372036854775808:=rfl
 have h2:IntKind.i64.max=9223372036854775807:=rfl
 simp only[Lit.wf,Bool.and_eq_true,decide_eq_true_eq,h1,h2]at h
 exact h
theorem qcG (a b:List UInt8):Op.bytesLess a b=decide (a<b):=Proofs.bytesLess_eq a b
theorem qc2 (a b:List UInt8):(Op.bytesLess b a||decide (b=a)) = !Op.bytesLess a b:=by
 rw[qcG,qcG]
 by_cases h:a<b
 ·have h1:¬b<a:=fun h2=>List.lt_irrefl _ (List.lt_trans h h2)
  have h2:¬b=a:=fun e=>by subst e; exact List.lt_irrefl _ h
  simp[h,h1,h2]
 ·have:b≤a:=List.not_lt.1 h
  rcases List.le_iff_lt_or_eq.1 this with h1 | h1
  ·simp[h,h1]
  ·simp[h1]
theorem qaG {n i:Nat} {p:Nat→Bool} (hi:i<n) (h:p i=false):(List.range n).all p=false:=by
 rw[←Bool.not_eq_true,List.all_eq_true]
 exact fun hc=>by rw[hc i (List.mem_range.2 hi)]at h; cases h
theorem qaM {n:Nat} {p:Nat→Bool} (h:∀j,j<n→p j=true):(List.range n).all p=true:=List.all_eq_true.2 fun j hj=>h j (List.mem_range.1 hj)
theorem qaN {i:Nat} {q:Nat→Prop} (h:∀j,j<i→q j) (hi:q i):∀j,j<i+1→q j:=fun j hj=>by
 by_cases e:j=i
 ·subst e; exact hi
 ·exact h j (by omega)
def findI {α:Type} (p:α→Bool) (l:List α):Int:=match l.findIdx? p with
 | some i=>i
 | none => -1
theorem qb9 {α:Type} {p:α→Bool} {l:List α} {i:Nat} (hi:i<l.length) (h:p l[i]=true) (hb:∀j (hj:j<l.length),j<i→p l[j]=false):findI p l=i:=by
 have:l.findIdx? p=some i:=List.findIdx?_eq_some_iff_getElem.2 ⟨hi,h,fun j hj=>by simpa using hb j (by omega) hj⟩
 simp[findI,this]
theorem qca {α:Type} {p:α→Bool} {l:List α} (hb:∀j (hj:j<l.length),p l[j]=false):findI p l = -1:=by
 have:l.findIdx? p=none:=List.findIdx?_eq_none_iff.2 fun x hx=>by
  obtain⟨j,hj,rfl⟩:=List.getElem_of_mem hx
  exact hb j hj
 simp[findI,this]
theorem qdi {α:Type} {p:α→Bool} {l:List α}:decide (0≤findI p l)=l.any p:=by
 unfold findI
 cases h:l.findIdx? p with
 | none =>
  have h1:l.any p=false:=by
   rw[List.any_eq_false]
   exact fun x hx=>by simpa using List.findIdx?_eq_none_iff.1 h x hx
  rw[h1]
  rfl
 | some i =>
  obtain⟨h1,h2,_⟩:=List.findIdx?_eq_some_iff_getElem.1 h
  have h3:l.any p=true:=List.any_eq_true.2 ⟨_,List.getElem_mem h1,h2⟩
  rw[h3]
  simp
def szR (s left:Nat):Int:=if s≤left then (left:Int)-s else -1
theorem qam {s left:Nat} (h:left<s):szR s left = -1:=by unfold szR; rw[if_neg (by omega)]
theorem qal {s left:Nat} (h:s≤left):szR s left=(left:Int)-s:=by unfold szR; rw[if_pos h]
theorem qaO {s left:Nat} (h:szR s left<0):left<s:=by
 rcases Nat.lt_or_ge left s with h' | h'
 ·exact h'
 ·rw[qal h']at h; omega
theorem qaI {s left:Nat} (h:0≤szR s left):s≤left:=by
 rcases Nat.lt_or_ge left s with h' | h'
 ·rw[qam h']at h; omega
 ·exact h'
theorem qfZ {α:Type}:∀(l:List α),(l.map fun _=>0).sum=0
 | []=>rfl
 | _::l=>by simpa using qfZ l
def sumT {α:Type} (f:α→Nat) (l:List α) (i:Nat):Nat:=((l.take i).map f).sum
theorem qaR {α:Type} (f:α→Nat) (l:List α):sumT f l 0=0:=rfl
theorem qbE {α:Type} (f:α→Nat) (l:List α):sumT f l l.length=(l.map f).sum:=by unfold sumT; rw[List.take_length]
theorem qbF {α:Type} (f:α→Nat) {l:List α} {i:Nat} (h:i<l.length):sumT f l (i+1)=sumT f l i+f l[i]:=by
 unfold sumT
 rw[List.take_add_one,List.getElem?_eq_getElem h,List.map_append,List.sum_append]
 simp
theorem qbG {α:Type} (f:α→Nat) (l:List α) (i:Nat):sumT f l i≤(l.map f).sum:=by
 have:(l.map f).sum=((l.take i).map f).sum+((l.drop i).map f).sum:=by rw[←List.sum_append,←List.map_append,List.take_append_drop]
 unfold sumT
 omega
theorem qa3 {α:Type} (f:Nat→α) (l:List α) {i:Nat} (h:i<l.length):∃X,(List.range i).map f++l.drop i=X∧X.length=l.length∧∀h,X[i]'h=l[i]:=by
 refine⟨_,rfl,by simp; omega,fun h' =>?_⟩
 apply Option.some.inj
 rw[←List.getElem?_eq_getElem]
 rw[List.getElem?_append_right (by simp),List.getElem?_drop]
 simp[h]
theorem qc3 {α β:Type} (g:α→β) (f:Nat→α) (l:List α) {i:Nat} (h:i<l.length):(((List.range i).map f++l.drop i).map g).set i (g (f i))=((List.range (i+1)).map f).map g++(l.map g).drop (i+1):=by
 rw[←List.map_set,qnB f l i h,List.map_append,List.map_drop]
end Go.Ab
namespace Go.Ab
variable {P:Program} {A A':Nat→Prop} {m m':OMap} {h h':OFun} {w w':World} {H:Heap} {fr fr':Fr} {a:Act}
theorem qf0 {k:Nat} {x:Option Nat×Nat} (hm:m k=some x):updM m k x=m:=by
 funext j
 unfold updM
 split
 ·rename_i e; rw[e,hm]
 ·rfl
theorem qjx {x:Ctx} {n:Nat} {S:St} (hI:Inv x n S a w A m) {k z:Nat} {rows rows':List (List PV)} {ob:Option Nat} {C:Nat} (hk:getO S.H k=some (.arr z rows)) (hm:m k=some (ob,C))
  (ho:∀h',ObjAt A m h' w (.arr z rows') ob C) {fr':Fr} (hfr:∀t,RepO A m (turnO (getO S.H) k (.arr z rows')) w (slot fr' t) (look x n a t)) :
  Inv x n ⟨fr',(S.H.map (qbR k)).set k (some (.arr z rows'))⟩ a w A m:=by
 have hc:=qiF (o' := .arr z rows') (ob':=ob) (C':=C) (w':=w) hI.aok hI.conc hk hm (Nat.le_refl _) (fun _ _ _=>rfl) (fun _ hb => .inl hb) (by rw[qf0 hm]; exact ho _)
 rw[qf0 hm]at hc
 have hg:=qg0 (o := .arr z rows') (qb6 hk)
 refine⟨hI.moved,hI.sub,hI.aok,by show ConcO A m (getO _) w; rw[hg]; exact hc,fun b ⟨j,o,C',hj,hmj⟩ =>?_,fun t=>by show RepO A m (getO _) w _ _; rw[hg]; exact hfr t,hI.sz,hI.df⟩
 have hj:getO ((S.H.map (qbR k)).set k (some (.arr z rows'))) j=some o:=hj
 rw[hg]at hj
 by_cases e:j=k
 ·subst e; exact hI.own b ⟨j,_,C',hk,hmj⟩
 ·simp only[turnO,if_neg e]at hj
  obtain⟨y,hy,_⟩:=qgZ hj
  exact hI.own b ⟨j,y,C',hy,hmj⟩
theorem qjy {k:Nat} {o':Obj} {p:PV} {v:Value} {ob:Option Nat} {C:Nat} (hm:m k=some (ob,C)) (hr:RepO A m h w p v):RepO A m (turnO h k o') w (scrubV k p) v:=by
 have hsh:=qe4 (m:=m) (h:=h) (k:=k) (o':=o') (x:=(ob,C))
 rw[qf0 hm]at hsh
 exact hr.scrubV (fun _ h=>h) (fun _ _=>rfl) hsh
theorem qfb {S:St} {t k z len:Nat} {rows:List (List PV)} (hk:S.H[k]?=some (some (.arr z rows))) (ht:slot S.fr t = .so k z 0 len) (hl:len≤rows.length) :
  Weak S ⟨(t, .sf k z)::qcB k S.fr,(S.H.map (qbR k)).set k (some (.arr z (rows.take len)))⟩:=fun x n a w A m hI=>by
 have hk':getO S.H k=some (.arr z rows):=by simp[getO,hk]
 have hr:=hI.fr t
 rw[ht]at hr
 obtain⟨rows',ob,C,cap,hk2,hm,hv⟩:=hr.soI
 obtain rfl:rows'=rows:=by rw[hk']at hk2; cases hk2; rfl
 have hlt:(rows'.take len).length=len:=by rw[List.length_take]; omega
 refine⟨A,m,qjx hI hk' hm (fun h' =>?_) fun t' =>?_⟩
 ·obtain⟨ob',C',hm',ho⟩:=hI.conc.at_ k _ hk'
  rw[hm]at hm'
  cases hm'
  cases ob with
  | none=>obtain⟨rfl,rfl⟩:=ho; exact⟨by simp,rfl⟩
  | some b =>
   obtain⟨g1,g2,g3,g4,g5,cur,e,q1,q2,q3⟩:=ho
   have key:∀(i:Nat) (r:List PV),(rows'.take len)[i]?=some r→rows'[i]?=some r:=fun i r hr=>by
    rw[List.getElem?_take]at hr
    split at hr
    ·exact hr
    ·cases hr
   exact⟨g1,g2,by omega,g4,fun i r hr=>g5 i r (key i r hr),cur,e,q1,q2,fun i j r c hr hc=>q3 i j r c (key i r hr) hc⟩
 ·simp only[slot]
  cases e:t==t' with
  | true =>
   have:t=t':=by simpa using e
   subst this
   show RepO A m _ w (.sf k z) _
   rcases hv with ⟨rfl,ao,hao,h0⟩ | ⟨b,rfl,hao,_,hcap⟩
   ·obtain⟨rfl,rfl,rfl⟩:=h0 rfl
    rw[hao]
    exact .sfN k z C ao (by simp[turnO]) hm
   ·rw[hao,Nat.zero_mul]
    obtain rfl:cap=C:=by omega
    have:=RepO.sf (A:=A) (m:=m) (w:=w) (h:=turnO (getO S.H) k (.arr z (rows'.take len))) k z cap b (rows'.take len) (by simp[turnO]) hm
    rw[hlt]at this
    exact this
  | false =>
   simp only[cond_false]
   rw[qe6]
   exact qjy hm (hI.fr t')
theorem qnC {S:St} {t k z C:Nat} {rows:List (List PV)} (hk:S.H[k]?=some (some (.arr z rows))) (ht:slot S.fr t = .sf k z) (hc:slot S.fr (capS k) = .cp k C) (_hne:capS k≠t) (hrows:rows ≠ []) :
  Weak S ⟨(t, .so k z 0 rows.length)::(capS k, .cp k C)::qcB k S.fr,(S.H.map (qbR k)).set k (some (.arr z (rows++List.replicate (C-rows.length) (List.replicate z .top))))⟩:=fun x n a w A m hI=>by
 have hk':getO S.H k=some (.arr z rows):=by simp[getO,hk]
 have hr:=hI.fr t
 rw[ht]at hr
 have hcp:=hI.fr (capS k)
 rw[hc]at hcp
 obtain⟨ob,hm⟩:∃ob,m k=some (ob,C):=by
  cases hcp with
  | imm hi=>cases hi
  | cp _ _ ob o' _ _ hm=>exact⟨ob,hm⟩
 obtain⟨ob',C',hm',ho⟩:=hI.conc.at_ k _ hk'
 rw[hm]at hm'
 cases hm'
 cases ob with
 | none=>exact absurd ho.1 hrows
 | some b =>
  obtain⟨g1,g2,g3,g4,g5,cur,e,q1,q2,q3⟩:=ho
  have hrow:∀(i:Nat) (r:List PV),(rows++List.replicate (C-rows.length) (List.replicate z PV.top))[i]?=some r→rows[i]?=some r∨(i<C∧r=List.replicate z .top):=fun i r hr=>by
   rw[List.getElem?_append]at hr
   split at hr
   ·exact .inl hr
   ·rw[List.getElem?_replicate]at hr
    split at hr
    ·cases hr; exact .inr ⟨by omega,rfl⟩
    ·cases hr
  refine⟨A,m,qjx hI hk' hm (fun h' =>?_) fun t' =>?_⟩
  ·refine⟨g1,g2,by simp; omega,g4,fun i r hr =>?_,cur,e,q1,q2,fun i j r c hr hc =>?_⟩
   ·rcases hrow i r hr with h1 | ⟨_,rfl⟩
    ·exact g5 i r h1
    ·simp
   ·rcases hrow i r hr with h1 | ⟨hi,rfl⟩
    ·exact q3 i j r c h1 hc
    ·have hj:j<z:=by have:=(List.getElem?_eq_some_iff.1 hc).1; simpa using this
     have hq:i*z+j<cur.size:=by rw[q2]; exact qdA hi hj
     rw[List.getElem?_replicate,if_pos hj]at hc
     cases hc
     exact⟨cur[i*z+j],by simp[hq], .top _⟩
  ·simp only[slot]
   cases e1:t==t' with
   | true =>
    have:t=t':=by simpa using e1
    subst this
    show RepO A m _ w (.so k z 0 rows.length) _
    generalize hv:look x n a t=v at hr
    cases hr with
    | imm hi=>cases hi
    | sfN _ _ C' ao hk2 hm2=>rw[hm]at hm2; cases hm2
    | sf _ _ C' b' rows' hk2 hm2 =>
     rw[hm]at hm2
     cases hm2
     obtain rfl:rows'=rows:=by rw[hk']at hk2; cases hk2; rfl
     have:=RepO.so (A:=A) (m:=m) (w:=w) (h:=turnO (getO S.H) k (.arr z (rows'++List.replicate (C-rows'.length) (List.replicate z PV.top)))) k z 0 rows'.length C C b (rows'++List.replicate (C-rows'.length) (List.replicate z PV.top)) (by simp[turnO]) hm (by simp) (by omega)
     rw[Nat.zero_mul]at this
     exact this
   | false =>
    simp only[cond_false]
    cases e2:capS k==t' with
    | true =>
     have:capS k=t':=by simpa using e2
     subst this
     exact .cp k C (some b) _ _ (by simp[turnO]; rfl) hm
    | false =>
     simp only[cond_false]
     rw[qe6]
     exact qjy hm (hI.fr t')
theorem AWP.weak {n:Nat} {c:Code} {S S':St} {Q:Exit→St→Prop} (hw:Weak S S') (h:AWP P n c S' Q):AWP P n c S Q:=fun x a w A m hI=>by
 obtain⟨A',m',hI'⟩:=hw x n a w A m hI
 exact h x a w A' m' hI'
theorem AWP.cap {n:Nat} {c:Code} {fr:Fr} {H:Heap} {Q:Exit→St→Prop} {k z:Nat} {rows:List (List PV)} (hk:H[k]?=some (some (.arr z rows))) (h:∀C,rows.length≤C→C≤9223372036854775807→AWP P n c ⟨(capS k, .cp k C)::fr,H⟩ Q):AWP P n c ⟨fr,H⟩ Q:=fun x a w A m hI=>by
 have hk':getO H k=some (.arr z rows):=by simp[getO,hk]
 obtain⟨ob,C,hm,ho⟩:=hI.conc.at_ k _ hk'
 have hle:rows.length≤C∧C≤9223372036854775807:=by
  cases ob with
  | none=>obtain⟨rfl,rfl⟩:=ho; exact⟨Nat.le_refl _,by omega⟩
  | some b=>have h4:=ho.2.2.2.1; unfold maxLen at h4; exact⟨ho.2.2.1,h4⟩
 refine h C hle.1 hle.2 x a w A m ⟨hI.moved,hI.sub,hI.aok,hI.conc,hI.own,fun t =>?_,hI.sz,hI.df⟩
 simp only[slot]
 cases e:capS k==t with
 | true=>exact .cp k C ob _ _ hk' hm
 | false=>exact hI.fr t
theorem qnD (hm : P.follows .mixedOrders = true) {f : FuncId} {fn : Func} {c : Code} {args : List PV} {Hin : Heap} {res : PV} {Hout : Heap} {Q : Exit → St → Prop} {z : Nat} {rows : List (List PV)} (hf : P.funcs[f]? = some fn) (hname : (fn.name == "runtime.NumGoroutine") = false)
  (hb:fn.body=some c) (hok:funOk fn c=true) (hn0:Nat.ble args.length fn.ntmps=true) (hQ:∀e S,Q e S→qd3 P fn.ntmps fn.results.toList [] res Hout e S) (hk:Hin[0]?=some (some (.arr z rows)))
  (h:∀C,rows.length≤C→C≤9223372036854775807→AWP P fn.ntmps c ⟨(capS 0, .cp 0 C)::argFr 0 args,Hin⟩ Q):MFn P f args Hin [] res Hout:=by
 refine qhe hm hf hname hb hok hn0 trivial hQ ?_
 have:argFr 0 args++ghF fn.ntmps []=argFr 0 args:=by simp[ghF]
 rw[this]
 exact AWP.cap hk h
@[simp] theorem qIT {n:Nat} {rs:List ResultVar} {res:PV} {Hout:Heap}:qd3 P n rs [] res Hout .ret ⟨fr,H⟩=(qaL P ⟨fr,H⟩ rs∧Weak ⟨[(0,retV P ⟨fr,H⟩ rs)],H⟩ ⟨[(0,res)],Hout⟩):=rfl
@[simp] theorem qIU {n:Nat} {rs:List ResultVar} {res:PV} {Hout:Heap}:qd3 P n rs [] res Hout .normal ⟨fr,H⟩=(qaL P ⟨fr,H⟩ rs∧Weak ⟨[(0,retV P ⟨fr,H⟩ rs)],H⟩ ⟨[(0,res)],Hout⟩):=rfl
theorem qnE {α:Type} (rows:List α) (i j:Nat) (hij:i<j) (hj:j≤rows.length) (x:List α) :
  ((rows.take i++((rows.drop j).take (rows.length-j)++rows.drop (i+(rows.length-j)))).take (i+(rows.length-j))++x).take (i+(rows.length-j))=rows.take i++rows.drop j:=by
 have e:(rows.drop j).take (rows.length-j)=rows.drop j:=List.take_of_length_le (by simp)
 have hl:(rows.take i++rows.drop j).length=i+(rows.length-j):=by simp; omega
 rw[e,←List.append_assoc,List.take_left' hl,List.take_left' hl]
theorem qhi {α:Type} (A X:List α) (k:Nat):(A++X).take (A.length+k)=A++X.take k:=by simp[List.take_append,List.take_of_length_le]
end Go.Ab
namespace Go.Ab
variable {P:Program} {A A':Nat→Prop} {m m':OMap} {h h':OFun} {w w':World} {H:Heap} {fr fr':Fr} {a:Act}
end Go.Ab
