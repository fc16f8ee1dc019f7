/- Opening arguments: whatever reads at a type is a plain value of the type's shape. No condition. -/
import Derived.Test.YteckngloamnfdaaGreatDoorKc
namespace Go.Ab
open Go.ChangeShapes Go.WideShapes Go.ChangeAt Go.RowKit
inductive Sh where
 | bool
 | int (k:IntKind)
 | str
 | slc (e:List Sh)
mutual
def fits:Sh→PV→Prop
 | .bool,p=>∃b,p = .bool b
 | .int k,p=>∃n,p = .int k n∧(Lit.int k n).wf=true
 | .str,p=>∃s,p = .str s∧s.length≤9223372036854775807
 | .slc e,p=>∃rows,p = .sl e.length rows∧rows.length≤9223372036854775807∧∀r∈rows,fitsL e r
def fitsL:List Sh→List PV→Prop
 | [],[]=>True
 | s::r,p::q=>fits s p∧fitsL r q
 | _,_=>False
end
theorem qfc:∀ {shs:List Sh} {ps:List PV},fitsL shs ps→ps.length=shs.length
 | [],[],_=>rfl
 | s::r,p::q,h=>by
  rw[fitsL]at h
  simp[qfc h.2]
 | [],_::_,h=>by rw[fitsL]at h; exact h.elim; all_goals simp
 | _::_,[],h=>by rw[fitsL]at h; exact h.elim; all_goals simp
def shF (P:Program) (r:TypeId→Option (List Sh)):List Field→Nat→Option (List Sh)
 | [],_=>some []
 | f::fs,o=>if f.offset=o then
   match r f.type with
   | some s=>if P.cellsOf f.type=s.length then (shF P r fs (o+s.length)).map (s ++ ·) else none
   | none=>none
  else none
def shT (P:Program):Nat→TypeId→Option (List Sh)
 | 0,_=>none
 | n+1,t=>match P.underlying t with
  | some .bool=>some [.bool]
  | some (.int k)=>some [.int k]
  | some .string=>some [.str]
  | some (.slice e)=>match shT P n e with
   | some s=>if P.cellsOf e=s.length∧0<s.length then some [.slc s] else none
   | none=>none
  | some (.struct fs)=>match shF P (shT P n) fs.toList 0 with
   | some s=>if P.cellsOf t=s.length then some s else none
   | none=>none
  | _=>none
theorem qjz:∀ {s1 s2:List Sh} {p1 p2:List PV},fitsL s1 p1→fitsL s2 p2→fitsL (s1++s2) (p1++p2)
 | [],_,[],_,_,h=>h
 | s::r,_,p::q,_,h1,h2=>by
  rw[fitsL]at h1
  show fitsL (s::(r++_)) (p::(q++_))
  rw[fitsL]
  exact⟨h1.1,qjz h1.2 h2⟩
 | [],_,_::_,_,h,_=>by rw[fitsL]at h; exact h.elim; all_goals simp
 | _::_,_,[],_,h,_=>by rw[fitsL]at h; exact h.elim; all_goals simp
def InW (w:World):Nat→Prop:=fun b=>b<w.heap.size
def Shown (w:World) (cs:List Value) (ps:List PV):Prop:=ps.length=cs.length∧∀(i:Nat) (c:PV),ps[i]?=some c→∃v,cs[i]?=some v∧RepI (InW w) w c v
theorem Shown.append {w:World} {c1 c2:List Value} {p1 p2:List PV} (h1:Shown w c1 p1) (h2:Shown w c2 p2):Shown w (c1++c2) (p1++p2):=by
 refine⟨by simp[h1.1,h2.1],fun i c hc =>?_⟩
 rw[List.getElem?_append]at hc ⊢
 rw[←h1.1]
 split at hc
 ·rename_i hl
  rw[if_pos hl]
  exact h1.2 i c hc
 ·rename_i hl
  rw[if_neg hl]
  exact h2.2 _ c hc
section openc
variable {H:Type} {enc:TypeId×Value→H} {P:Program} {w:World} {base:Nat} {sp:Nat→Bool} {held:Bool}
theorem qjA {r:TypeId→Option (List Sh)} {fuel:Nat} (IH:∀t shs,r t=some shs→∀cs x,DataW.trod enc P w base sp held fuel t cs=some x→∃pvs,fitsL shs pvs∧Shown w cs pvs) :
  ∀(fs:List Field) (o:Nat) (shs:List Sh) (cs:List Value),shF P r fs o=some shs→(∀f∈fs,∃x,DataW.trod enc P w base sp held fuel f.type ((cs.drop f.offset).take (P.cellsOf f.type))=some x) →
   ∃pvs,fitsL shs pvs∧Shown w ((cs.drop o).take shs.length) pvs
 | [],o,shs,cs,h,_=>by
  simp only[shF,Option.some.injEq]at h
  subst h
  exact⟨[],by rw[fitsL]; trivial,by simp,fun i c hc=>by simp at hc⟩
 | f::fs,o,shs,cs,h,hx=>by
  simp only[shF]at h
  split at h
  ·rename_i ho
   cases hr:r f.type with
   | none=>rw[hr]at h; cases h
   | some s =>
    rw[hr]at h
    simp only at h
    split at h
    ·rename_i hc
     obtain⟨rest,hrest,rfl⟩:=Option.map_eq_some_iff.1 h
     obtain⟨x,hx1⟩:=hx f (by simp)
     obtain⟨p1,q1,q2⟩:=IH _ _ hr _ _ hx1
     obtain⟨p2,q3,q4⟩:=qjA IH fs (o+s.length) rest cs hrest fun g hg=>hx g (by simp[hg])
     refine⟨p1++p2,qjz q1 q3,?_⟩
     rw[ho,hc]at q2
     have:=q2.append q4
     rw[List.length_append,List.take_add,List.drop_drop]
     exact this
    ·cases h
  ·cases h
theorem qf1:∀(n:Nat) (t:TypeId) (shs:List Sh),shT P n t=some shs→∀(fuel:Nat) (cs:List Value) (x:DataW H×List MemPlace),DataW.trod enc P w base sp held fuel t cs=some x→∃pvs,fitsL shs pvs∧Shown w cs pvs
 | 0,_,_,h,_,_,_,_=>by cases h
 | n+1,t,shs,h,fuel,cs,x,hd=>by
  have one:∀ {s:Sh} {p:PV} {v:Value},fits s p→RepI (InW w) w p v→cs=[v]→shs=[s]→∃pvs,fitsL shs pvs∧Shown w cs pvs:=fun {s p v} h1 h2 h3 h4=>by
   subst h3
   subst h4
   refine⟨[p],by rw[fitsL,fitsL]; exact⟨h1,trivial⟩,rfl,fun i c hc =>?_⟩
   cases i with
   | zero=>cases hc; exact⟨v,rfl,h2⟩
   | succ i=>simp at hc
  unfold shT at h
  cases hu:P.underlying t with
  | none=>rw[hu]at h; cases h
  | some ty =>
   rw[hu]at h
   cases ty<;>simp only at h<;>try (cases h; done)
   case bool =>
    obtain⟨b,rfl,_⟩:=DataW.trod_bool hu hd
    exact one (s := .bool) (by rw[fits]; exact⟨b,rfl⟩) (.bool b) rfl (by simpa using h.symm)
   case int k =>
    obtain⟨m,rfl,_,hw⟩:=DataW.trod_int hu hd
    exact one (s := .int k) (by rw[fits]; exact⟨m,rfl,hw⟩) (.int k m) rfl (by simpa using h.symm)
   case string =>
    obtain⟨s,rfl,_,hs⟩:=DataW.trod_string hu hd
    exact one (s := .str) (by rw[fits]; exact⟨_,rfl,by unfold maxLen at hs; simpa using hs⟩) (.str _ s rfl) rfl (by simpa using h.symm)
   case slice e =>
    cases hs:shT P n e with
    | none=>rw[hs]at h; cases h
    | some s =>
     rw[hs]at h
     simp only at h
     split at h
     ·rename_i hc
      have h':shs=[.slc s]:=by simpa using h.symm
      rcases DataW.trod_slice hu hd with ⟨rfl,_⟩ | ⟨a,len,cap,elems,rest,k,_,rfl,_,hb,hlc,hcm,hel,hat,_⟩
      ·exact one (s := .slc s) (p := .sl s.length []) (by rw[fits]; exact⟨[],rfl,by simp,by simp⟩) (.slE _ _ _) rfl h'
      ·unfold maxLen at hcm
       have hrow:∀i,i<len→∃(cs:List Value) (pvs:List PV),w.cells? base (a.add (i*s.length)) s.length=some cs∧fitsL s pvs∧Shown w cs pvs:=fun i hi=>by
        have h1:=hat i hi
        rw[List.getElem?_eq_getElem (by omega),hc.1]at h1
        obtain⟨cs,h2,h3⟩:=Option.bind_eq_some_iff.1 h1
        obtain⟨pvs,h4,h5⟩:=qf1 n e s hs _ _ _ h3
        exact⟨cs,pvs,h2,h4,h5⟩
       rcases Nat.eq_zero_or_pos len with h0 | hpos
       ·subst h0
        exact one (s := .slc s) (p := .sl s.length []) (by rw[fits]; exact⟨[],rfl,by simp,by simp⟩) (.slE _ _ _) rfl h'
       ·have hspot:a.spot=none∧a.block<w.heap.size:=by
         obtain⟨cs,pvs,h1,_,_⟩:=hrow 0 hpos
         obtain⟨_,hl,hcell⟩:=World.cells?_some h1
         have:=hcell 0 hc.2
         rw[List.getElem?_eq_getElem (by omega)]at this
         simp only[Nat.zero_mul,Addr.add,if_true,World.cell?]at this
         split at this
         ·rename_i c ty fr hheap
          refine⟨?_,(Array.getElem?_eq_some_iff.1 hheap).1⟩
          split at this
          ·cases this
          ·rename_i hsp; simpa using hsp
         ·cases this
        obtain⟨b,o,spt⟩:=a
        obtain⟨rfl,hblk⟩:=hspot

        let row:Nat→List PV:=fun i=>if hi:i<len then Classical.choose (Classical.choose_spec (hrow i hi)) else []
        have hrowS:∀i,i<len→∃cs,w.cells? base ((⟨b,o,none⟩:Addr).add (i*s.length)) s.length=some cs∧fitsL s (row i)∧Shown w cs (row i):=fun i hi=>by
         have:=Classical.choose_spec (Classical.choose_spec (hrow i hi))
         refine⟨Classical.choose (hrow i hi),?_⟩
         simp only[row,dif_pos hi]
         exact this
        have hget:∀(i:Nat) (r:List PV),((List.range len).map row)[i]?=some r→i<len∧r=row i:=fun i r hr=>by
         rw[List.getElem?_map]at hr
         by_cases hi:i<len
         ·rw[List.getElem?_range hi]at hr
          cases hr
          exact⟨hi,rfl⟩
         ·rw[List.getElem?_eq_none (by simp; omega)]at hr
          cases hr
        have hcellV:∀(i j:Nat) (r:List PV) (c:PV),((List.range len).map row)[i]?=some r→r[j]?=some c→∃v,w.cell? ⟨b,o+(i*s.length+j),none⟩=some v∧RepI (InW w) w c v:=fun i j r c hr hcj=>by
         obtain⟨hi,rfl⟩:=hget i r hr
         obtain⟨cs,h1,h2,h3⟩:=hrowS i hi
         obtain⟨v,hv,hrv⟩:=h3.2 j c hcj
         obtain⟨_,hl,hcell⟩:=World.cells?_some h1
         have hj:j<s.length:=by rw[←hl]; exact (List.getElem?_eq_some_iff.1 hv).1
         refine⟨v,?_,hrv⟩
         rw[←hv,←hcell j hj,Addr.add_lit,Addr.add_lit,Nat.add_assoc]
        have hlenR:((List.range len).map row).length=len:=by simp
        have hfit:fits (.slc s) (.sl s.length ((List.range len).map row)):=by
         rw[fits]
         refine⟨_,rfl,by rw[hlenR]; omega,fun r hr =>?_⟩
         obtain⟨i,hi⟩:=List.mem_iff_getElem?.1 hr
         obtain⟨hi',rfl⟩:=hget i r hi
         obtain⟨_,_,h2,_⟩:=hrowS i hi'
         exact h2
        refine one (s := .slc s) hfit ?_ rfl h'
        have:=RepI.sl (A:=InW w) (w:=w) s.length ((List.range len).map row) b o cap (fun i j=>(w.cell? ⟨b,o+(i*s.length+j),none⟩).getD undef) hblk (by rw[hlenR]; exact hlc)
         (fun i r hr=>by obtain⟨hi,rfl⟩:=hget i r hr; obtain⟨_,_,h2,_⟩:=hrowS i hi; exact qfc h2)
         (fun i j r c hr hcj=>by obtain⟨v,hv,_⟩:=hcellV i j r c hr hcj; rw[hv]; rfl)
         (fun i j r c hr hcj=>by obtain⟨v,hv,hrv⟩:=hcellV i j r c hr hcj; rw[hv]; exact hrv)
        rw[hlenR]at this
        exact this
     ·cases h
   case struct fs =>
    cases hs:shF P (shT P n) fs.toList 0 with
    | none=>rw[hs]at h; cases h
    | some s =>
     rw[hs]at h
     simp only at h
     split at h
     ·rename_i hc
      cases h
      obtain⟨xs,k,_,_,hl,hxl,hat⟩:=DataW.trod_struct hu hd
      obtain⟨pvs,h1,h2⟩:=qjA (fun t shs ht cs x hx=>qf1 n t shs ht _ cs x hx) fs.toList 0 _ cs hs fun f hf=>by
       obtain⟨i,hi⟩:=List.mem_iff_getElem?.1 hf
       have hi':fs[i]?=some f:=by simpa using hi
       have:=hat i f hi'
       rw[List.getElem?_eq_getElem (by rw[hxl]; exact (Array.getElem?_eq_some_iff.1 hi').1)]at this
       exact⟨_,this⟩
      refine⟨pvs,h1,?_⟩
      rw[List.drop_zero,List.take_of_length_le (by omega)]at h2
      exact h2
     ·cases h
theorem qnF {n:Nat} {t:TypeId} {fs:Array Field} {shs:List Sh} (hu:P.underlying t=some (.struct fs)) (hsh:shT P n t=some shs) {b0:Nat} {v:Value} {d:DataW H} {ps:List MemPlace} (hval:Value.okWide P w .any b0 t v)
  (hd:DataW.Trod enc P w base sp held t v d ps):∃pvs,fitsL shs pvs∧RepI (InW w) w (.agg pvs) v:=by
 obtain⟨cs,rfl,_⟩:=okWide_struct hu hval
 obtain⟨fuel,hf⟩:=hd
 obtain⟨pvs,h1,h2,h3⟩:=qf1 n t shs hsh fuel _ _ hf
 have h2':pvs.length=cs.size:=h2
 refine⟨pvs,h1, .agg pvs cs h2'.symm fun i c hc =>?_⟩
 obtain⟨u,hu',hr⟩:=h3 i c hc
 have hu'':cs[i]?=some u:=by simpa[Value.cells]using hu'
 rw[Array.getD_eq_getD_getElem?,hu'']
 exact hr
def isOne:TypeDesc→Bool
 | .bool | .int _ | .string | .slice _=>true
 | _=>false
theorem qnG {n:Nat} {t:TypeId} {s:Sh} {ty:TypeDesc} (hu:P.underlying t=some ty) (hty:isOne ty=true) (hsh:shT P n t=some [s]) {b0:Nat} {v:Value} {d:DataW H} {ps:List MemPlace}
  (hval:Value.okWide P w .any b0 t v) (hd:DataW.Trod enc P w base sp held t v d ps):∃p,fits s p∧RepI (InW w) w p v:=by
 obtain⟨fuel,hf⟩:=hd
 obtain⟨pvs,h1,h2,h3⟩:=qf1 n t [s] hsh fuel _ _ hf
 have hc:v.cells = #[v]:=by
  cases ty<;>simp[isOne]at hty
  case bool=>obtain⟨b,rfl⟩:=okWide_bool hu hval; rfl
  case int=>obtain⟨b,rfl⟩:=okWide_int hu hval; rfl
  case string=>obtain⟨b,rfl⟩:=okWide_string hu hval; rfl
  case slice=>obtain⟨a,l,c,rfl⟩:=okWide_slice hu hval; rfl
 have hlen:=qfc h1
 match pvs,hlen with
 | [p],_ =>
  rw[fitsL]at h1
  obtain⟨u,hu',hr⟩:=h3 0 p rfl
  rw[hc]at hu'
  cases hu'
  exact⟨p,h1.1,hr⟩
end openc
inductive ASh where
 | one (s:Sh)
 | agg (shs:List Sh)
def fitsA:ASh→PV→Prop
 | .one s,p=>fits s p
 | .agg shs,p=>∃cs,p = .agg cs∧fitsL shs cs
def qd6:List ASh→List PV→Prop
 | [],[]=>True
 | a::r,p::q=>fitsA a p∧qd6 r q
 | _,_=>False
def shA (P:Program) (t:TypeId):Option ASh :=
 match P.underlying t with
 | some (.struct _)=>(shT P 8 t).map .agg
 | some .bool | some (.int _) | some .string | some (.slice _)=>match shT P 8 t with
  | some [s]=>some (.one s)
  | _=>none
 | _=>none
theorem qnH {H:Type} {enc:TypeId×Value→H} {P:Program} {w:World} {t:TypeId} {x:ASh} (hx:shA P t=some x) {b0:Nat} {v:Value} {d:DataW H} {ps:List MemPlace} (hval:Value.okWide P w .any b0 t v)
  (hd:DataW.Trod enc P w 0 (fun _=>true) true t v d ps):∃p,fitsA x p∧RepI (InW w) w p v:=by
 unfold shA at hx
 cases hu:P.underlying t with
 | none=>rw[hu]at hx; cases hx
 | some ty =>
  rw[hu]at hx
  have one:isOne ty=true→(match shT P 8 t with | some [s]=>some (ASh.one s) | _=>none)=some x→∃p,fitsA x p∧RepI (InW w) w p v:=fun h1 h2=>by
   split at h2
   ·rename_i s hs
    cases h2
    exact qnG hu h1 hs hval hd
   ·cases h2
  cases ty<;>simp only at hx<;>try (cases hx; done)
  case struct fs =>
   obtain⟨shs,h1,rfl⟩:=Option.map_eq_some_iff.1 hx
   obtain⟨pvs,h2,h3⟩:=qnF hu h1 hval hd
   exact⟨_,⟨pvs,rfl,h2⟩,h3⟩
  all_goals exact one rfl hx
theorem qjB {H:Type} {enc:TypeId×Value→H} {P:Program} {w:World} {b0:Nat}:∀ {ts:List TypeId} {vs:List Value} {ds:List (DataW H)} {ps:List MemPlace} {xs:List ASh},ts.map (shA P)=xs.map some→DataW.TrodAll enc P w 0 (fun _=>true) true ts vs ds ps →
  (∀(j:Nat) t v,ts[j]?=some t→vs[j]?=some v→Value.okWide P w .any b0 t v)→∃pargs,pargs.length=vs.length∧ds.length=ts.length∧qd6 xs pargs∧∀(i:Nat) (p:PV),pargs[i]?=some p→∃v,vs[i]?=some v∧RepI (InW w) w p v
 | [],[],[],_,xs,hx,_,_=>by
  cases xs with
  | nil=>exact⟨[],rfl,rfl,trivial,by simp⟩
  | cons x xs=>simp at hx
 | t::ts,v::vs,d::ds,ps,xs,hx,h,hv=>by
  cases xs with
  | nil=>simp at hx
  | cons x xs =>
   simp only[List.map_cons,List.cons.injEq]at hx
   obtain⟨p,q,h1,h2,rfl⟩:=h
   obtain⟨p0,f0,r0⟩:=qnH hx.1 (hv 0 t v rfl rfl) h1
   obtain⟨pargs,l1,l2,f1,r1⟩:=qjB hx.2 h2 fun j t' v' ht hv'=>hv (j+1) t' v' (by simpa using ht) (by simpa using hv')
   refine⟨p0::pargs,by simp[l1],by simp[l2],⟨f0,f1⟩,fun i p hp =>?_⟩
   cases i with
   | zero=>cases hp; exact⟨v,rfl,r0⟩
   | succ i =>
    obtain⟨u,hu,hr⟩:=r1 i p (by simpa using hp)
    exact⟨u,by simpa using hu,hr⟩
 | [],[],_::_,_,_,_,h,_=>h.elim
 | [],_::_,_,_,_,_,h,_=>h.elim
 | _::_,[],_,_,_,_,h,_=>h.elim
 | _::_,_::_,[],_,_,_,h,_=>h.elim
theorem qnI {a:ASh} {r:List ASh} {ps:List PV} (h:qd6 (a::r) ps):∃p q,ps=p::q∧fitsA a p∧qd6 r q:=by
 cases ps with
 | nil=>exact h.elim
 | cons p q=>exact⟨p,q,rfl,h.1,h.2⟩
theorem qnJ {ps:List PV} (h:qd6 [] ps):ps=[]:=by
 cases ps with
 | nil=>rfl
 | cons p q=>exact h.elim
theorem qah {a:Sh} {r:List Sh} {ps:List PV} (h:fitsL (a::r) ps):∃p q,ps=p::q∧fits a p∧fitsL r q:=by
 cases ps with
 | nil=>have:=qfc h; simp at this
 | cons p q=>rw[fitsL]at h; exact⟨p,q,rfl,h.1,h.2⟩
theorem qbH {ps:List PV} (h:fitsL [] ps):ps=[]:=List.eq_nil_of_length_eq_zero (qfc h)
theorem qaq {k:IntKind} {p:PV} (h:fits (.int k) p):∃n,p = .int k n∧(Lit.int k n).wf=true:=by rw[fits]at h; exact h
theorem qcb {p:PV} (h:fits .str p):∃s,p = .str s∧s.length≤9223372036854775807:=by rw[fits]at h; exact h
theorem qbT {e:List Sh} {p:PV} (h:fits (.slc e) p):∃rows,p = .sl e.length rows∧rows.length≤9223372036854775807∧∀r∈rows,fitsL e r:=by rw[fits]at h; exact h
end Go.Ab
