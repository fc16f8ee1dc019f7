/- Contracts: troubles of the metal. No condition. -/
import Derived.Test.YteckngloamnfdaaGreatDoorBg
import Derived.Test.YteckngloamnfdaaGreatDoorTFlat
namespace Go.Proofs.YteckngloamnfdaaGreatDoor
open Go Go.Ab
set_option maxRecDepth 100000
theorem ix_no {α:Type} {id:α→List UInt8} {l:List α} {s:List UInt8} (h:hasId id l s=false):ixOf id l s = -1:=by
 refine qca fun j hj =>?_
 have:=List.any_eq_false.1 h l[j] (List.getElem_mem hj)
 simpa using this
theorem sq_nn (d:Int):0≤d*d:=by
 rw[←Int.natAbs_mul_self]
 exact Int.natCast_nonneg _
abbrev trO (L:List Trouble):Option Go.Ab.Obj:=some (.arr 3 (Trouble.rows L))
theorem qlz (L M:List Trouble):Trouble.rows (L++M)=Trouble.rows L++Trouble.rows M:=by simp[Trouble.rows]
def upTo {α:Type} (f:α→List Trouble) (l:List α) (i:Nat):List Trouble:=((l.take i).map f).flatten
theorem qbP {α:Type} (f:α→List Trouble) (l:List α) {i:Nat} (hi:i<l.length):upTo f l (i+1)=upTo f l i++f l[i]:=by
 unfold upTo
 rw[←List.take_append_getElem hi,List.map_append,List.flatten_append]
 simp[-List.map_take]
theorem qbZ {α:Type} (f:α→List Trouble) (l:List α):upTo f l 0=[]:=by simp[upTo]
theorem qdb {α:Type} {f:α→List Trouble} (hf:∀x,(f x).length≤1) (l:List α) (i:Nat):(upTo f l i).length≤i:=by
 induction i with
 | zero=>simp[upTo]
 | succ i ih =>
  by_cases hi:i<l.length
  ·rw[qbP f l hi,List.length_append]
   have:=hf l[i]
   omega
  ·have:upTo f l (i+1)=upTo f l i:=by
    unfold upTo
    rw[List.take_of_length_le (by omega),List.take_of_length_le (by omega)]
   rw[this]
   omega
def qed:List UInt8:=[109,101,116,97,108]
def qee:List UInt8:=[108,111,115,116]
def qfm:List UInt8:=[117,110,107,110,111,119,110]
def qfn:List UInt8:=[108,105,103,104,116]
def qaU (bs:List Bell) (h:Hung):List Trouble:=if hasId Bell.id bs h.bell=true then (match bs[(ixOf Bell.id bs h.bell).toNat]? with
  | some b=>if h.mass<b.mass then [⟨2,h.bell,qfn⟩] else []
  | none=>[]) else [⟨2,h.bell,qfm⟩]
theorem qsF (bs:List Bell) (h:Hung):(qaU bs h).length≤1:=by
 unfold qaU
 split
 ·split
  ·split<;>simp
  ·simp
 ·simp
def qbA (c:Carillon):List Trouble:=if qcR c.ingots c.melts c.bells=true then [] else [⟨1,qed,qee⟩]
def qci (c:Carillon):List Trouble:=qbA c++upTo (qaU c.bells) c.hung c.hung.length
theorem qhN (c:Carillon):(qbA c).length≤1:=by unfold qbA; split<;>simp
theorem qfo (c:Carillon) (i:Nat):(qbA c++upTo (qaU c.bells) c.hung i).length≤i+1:=by
 have h1:=qhN c
 have h2:=qdb (qsF c.bells) c.hung i
 rw[List.length_append]
 omega
structure CarOk (c:Carillon):Prop where
 small:c.small
 ing:qbw c.ingots=true
 mel:qbc c.melts=true
 bel:qcd c.bells=true
 hung:qcs c.hung=true
 cham:qeb c.chamber=true
 plac:qbL c.places=true
 gap:0≤c.gap∧c.gap≤5000
 tow:qbW c.tower=true
 fram:qc8 c.frame=true
 stress:0≤c.stress∧c.stress≤1000000
 bend:0≤c.bending∧c.bending≤1000000
 clav:qcx c.clavier=true
 tune:qbK c.tune=true
theorem qfp {c:Carillon} (hs:c.small) (h:carOk c=true):CarOk c:=by
 simp only[carOk,Bool.and_eq_true,decide_eq_true_eq]at h
 obtain⟨⟨⟨⟨⟨⟨h1,h2⟩,h3⟩,⟨⟨h4,h5⟩,h6⟩,h7⟩,⟨⟨h8,h9⟩,h10⟩,h11⟩,h12⟩,h13⟩:=h
 exact⟨hs,h1,h2,h3,h4,h5,h6,h7,h8,h9,h10,h11,h12,h13⟩
theorem CarOk.hl {c:Carillon} (h:CarOk c):c.hung.length≤16:=(qhq h.hung).1
theorem qlA (b:Bell) (h:Hung) (rows:List (List PV)) (i0:Nat) (hr:rows[i0]?=some h.cells):HFn Tryz.prog 151 [.agg b.cells, .pe 5 rows i0 0] [] (.bool (decide (b.id=h.bell))) []:=by
 have hi:i0<rows.length:=(List.getElem?_eq_some_iff.1 hr).1
 have hx0:rows[i0]=h.cells:=(List.getElem?_eq_some_iff.1 hr).2
 rw[Hung.cells]at hr hx0
 refine qaa hm Tryz.func151 (by kernel_rfl) rfl (by kernel_rfl) rfl qab ?_
 simp[hi,hx0,Bell.cells]
theorem qgw (bs:List Bell) (s:List UInt8):(hasId Bell.id bs s=false∧ixOf Bell.id bs s = -1)∨(hasId Bell.id bs s=true∧∃k:Nat,ixOf Bell.id bs s=k∧k<bs.length):=by
 cases h:hasId Bell.id bs s with
 | false=>exact .inl ⟨rfl,ix_no h⟩
 | true =>
  obtain⟨k,h1,h2,_⟩:=qhK h
  exact .inr ⟨rfl,k,h1,h2⟩
set_option maxHeartbeats 8000000 in
theorem qsG (c:Carillon) (hc:CarOk c):HFn Tryz.prog 74 [.agg c.cells] [] (.sf 0 3) [trO (qci c)]:=by
 have hl:=hc.hl
 have hb:=(qec hc.bel).len
 have hm0:=qhN c
 refine qaa hm Tryz.func74 (by kernel_rfl) rfl (by kernel_rfl) rfl (fun _ _ h=>h) ?_
 simp[Carillon.cells]
 refine CallZ.use0 (qso c.ingots c.melts c.bells hc.ing hc.mel hc.bel) rfl rfl ?_
 cases ht:qcR c.ingots c.melts c.bells
 ·have hm0':qbA c=if qcR c.ingots c.melts c.bells=true then [] else [⟨1,qed,qee⟩]:=rfl
  rw[ht]at hm0'
  simp[Hung.rows_len]
  refine⟨by simp[rowsOne],?_⟩
  refine qac hm c.hung.length (fun i=>⟨[(1, .pb 0 0),(3, .sf 1 3),(20, .sl 5 (Hung.rows c.hung)),(21, .int .i64 c.hung.length),(22, .int .i64 i)],[some (.box c.cells),trO (qbA c++upTo (qaU c.bells) c.hung i)]⟩) (fun _=>True) (by kernel_rfl) ?_ trivial (fun i hi _ =>?_) (fun _ =>?_)
  ·rw[qbZ,List.append_nil,hm0']
   exact Wk.weak (ρ:=[0,2]) (φ:=[]) (by simp[Carillon.cells,Trouble.rows,Trouble.cells,qed,qee])
  ·have w1:IntKind.i64.wrap ((i:Int)+1)=(i:Int)+1:=w64 (by omega) (by omega)
   have hlen:=qfo c i
   have kI:HFn Tryz.prog 150 [.sl 5 (Bell.rows c.bells), .fn 151 [.pe 5 [c.hung[i].cells] 0 0]] [] (.int .i64 (ixOf Bell.id c.bells c.hung[i].bell)) [] :=
    qhu 151 5 [c.hung[i].cells] 0 0 (fun b=>decide (b.id=c.hung[i].bell)) c.bells (fun b _=>qlA b c.hung[i] _ 0 rfl) (by omega)
   rw[qbP _ _ hi,←List.append_assoc]
   generalize qbA c++upTo (qaU c.bells) c.hung i=T at hlen ⊢
   simp only[Hung.cells]at kI
   simp[Carillon.cells,Hung.rows,Hung.cells,hi]
   refine CallZ.use0 kI rfl rfl ?_
   rcases qgw c.bells c.hung[i].bell with ⟨h1,h2⟩ | ⟨h1,k,h2,hk⟩
   ·rw[h2]
    simp[Trouble.rows_len]
    refine⟨by simp[rowsOne],by omega,by omega,Wk.weak (ρ:=[0,1]) (φ:=[]) ?_⟩
    simp[w1,qaU,h1,Trouble.rows,Trouble.cells,qfm]
   ·rw[h2]
    have hge:¬((k:Int)<0):=by omega
    simp[hge,hk,Bell.rows_len,Bell.row_get,Bell.cells,Trouble.rows_len]
    refine⟨fun h3=>⟨by simp[rowsOne],by omega,by omega,Wk.weak (ρ:=[0,1]) (φ:=[]) ?_⟩,fun h3=>Wk.weak (ρ:=[0,1]) (φ:=[]) ?_⟩
    ·simp[w1,qaU,h1,h2,hk,h3,Trouble.rows,Trouble.cells,qfn]
    ·have h3':¬c.hung[i].mass<c.bells[k].mass:=by omega
     simp[w1,qaU,h1,h2,hk,h3']
  ·simp
   refine Wk.weak (ρ:=[1]) (φ:=[]) ?_
   simp[qci]
 ·have hm0':qbA c=if qcR c.ingots c.melts c.bells=true then [] else [⟨1,qed,qee⟩]:=rfl
  rw[ht]at hm0'
  simp[Hung.rows_len]
  refine qac hm c.hung.length (fun i=>⟨[(1, .pb 0 0),(3, .sf 1 3),(20, .sl 5 (Hung.rows c.hung)),(21, .int .i64 c.hung.length),(22, .int .i64 i)],[some (.box c.cells),trO (qbA c++upTo (qaU c.bells) c.hung i)]⟩) (fun _=>True) (by kernel_rfl) ?_ trivial (fun i hi _ =>?_) (fun _ =>?_)
  ·rw[qbZ,List.append_nil,hm0']
   exact (qaA (t:=3) (z:=3) rfl).trans (Wk.weak (ρ:=[0,1]) (φ:=[]) (by simp[Carillon.cells,Trouble.rows]))
  ·have w1:IntKind.i64.wrap ((i:Int)+1)=(i:Int)+1:=w64 (by omega) (by omega)
   have hlen:=qfo c i
   have kI:HFn Tryz.prog 150 [.sl 5 (Bell.rows c.bells), .fn 151 [.pe 5 [c.hung[i].cells] 0 0]] [] (.int .i64 (ixOf Bell.id c.bells c.hung[i].bell)) [] :=
    qhu 151 5 [c.hung[i].cells] 0 0 (fun b=>decide (b.id=c.hung[i].bell)) c.bells (fun b _=>qlA b c.hung[i] _ 0 rfl) (by omega)
   rw[qbP _ _ hi,←List.append_assoc]
   generalize qbA c++upTo (qaU c.bells) c.hung i=T at hlen ⊢
   simp only[Hung.cells]at kI
   simp[Carillon.cells,Hung.rows,Hung.cells,hi]
   refine CallZ.use0 kI rfl rfl ?_
   rcases qgw c.bells c.hung[i].bell with ⟨h1,h2⟩ | ⟨h1,k,h2,hk⟩
   ·rw[h2]
    simp[Trouble.rows_len]
    refine⟨by simp[rowsOne],by omega,by omega,Wk.weak (ρ:=[0,1]) (φ:=[]) ?_⟩
    simp[w1,qaU,h1,Trouble.rows,Trouble.cells,qfm]
   ·rw[h2]
    have hge:¬((k:Int)<0):=by omega
    simp[hge,hk,Bell.rows_len,Bell.row_get,Bell.cells,Trouble.rows_len]
    refine⟨fun h3=>⟨by simp[rowsOne],by omega,by omega,Wk.weak (ρ:=[0,1]) (φ:=[]) ?_⟩,fun h3=>Wk.weak (ρ:=[0,1]) (φ:=[]) ?_⟩
    ·simp[w1,qaU,h1,h2,hk,h3,Trouble.rows,Trouble.cells,qfn]
    ·have h3':¬c.hung[i].mass<c.bells[k].mass:=by omega
     simp[w1,qaU,h1,h2,hk,h3']
  ·simp
   refine Wk.weak (ρ:=[1]) (φ:=[]) ?_
   simp[qci]
theorem qsH (c:Carillon) (tl:List PV) (w:Nat) (rows:List (List PV)) (i0:Nat) (hr:rows[i0]?=some (c.cells++tl)) (s:List UInt8) (hb:c.bells.length≤1048576):HFn Tryz.prog 199 [.pe (w+20) rows i0 0, .str s] [] (.int .i64 (ixOf Bell.id c.bells s)) []:=by
 have hi:i0<rows.length:=(List.getElem?_eq_some_iff.1 hr).1
 have hx:rows[i0]=c.cells++tl:=(List.getElem?_eq_some_iff.1 hr).2
 rw[Carillon.cells]at hr hx
 simp only[List.cons_append,List.nil_append]at hr hx
 refine qaa hm Tryz.func199 (by kernel_rfl) rfl (by kernel_rfl) rfl qab ?_
 simp
 refine qac hm c.bells.length (fun i=>⟨[(0, .pe (w+20) rows i0 0),(1, .str s),(5, .int .i64 i)],[]⟩) (fun i=>∀j (h:j<c.bells.length),j<i→decide (c.bells[j].id=s)=false) (by kernel_rfl) ?_ (by simp) (fun i hi' hI =>?_) (fun hI =>?_)
 ·exact Wk.weak (ρ:=[]) (φ:=[]) (by simp)
 ·have w1:IntKind.i64.wrap ((i:Int)+1)=(i:Int)+1:=w64 (by omega) (by omega)
  simp[hi,hx,Bell.rows_len,Bell.row_get,Bell.cells,hi']
  refine⟨fun h=>(qb9 hi' (by simpa using h) hI).symm,fun h=>⟨?_,Wk.weak (ρ:=[]) (φ:=[]) ?_⟩⟩
  ·simpa using qch (p:=fun j hj=>decide (c.bells[j].id=s)=false) hi' hI (by simpa using h)
  ·simp[w1]
 ·simp[hi,hx,Bell.rows_len]
  exact (qca fun j hj=>hI j hj hj).symm
set_option maxHeartbeats 8000000 in
theorem qsI (c:Carillon) (tl:List PV) (w:Nat) (rows:List (List PV)) (i0:Nat) (hr:rows[i0]?=some (c.cells++tl)) (hc:CarOk c):HFn Tryz.prog 122 [.pe (w+20) rows i0 0] [] (.sf 0 3) [trO (qci c)]:=by
 have hl:=hc.hl
 have hb:=(qec hc.bel).len
 have hm0:=qhN c
 have hi:i0<rows.length:=(List.getElem?_eq_some_iff.1 hr).1
 have hx:rows[i0]=c.cells++tl:=(List.getElem?_eq_some_iff.1 hr).2
 have kB:=fun s=>qsH c tl w rows i0 hr s (by omega)
 rw[Carillon.cells]at hr hx
 simp only[List.cons_append,List.nil_append]at hr hx
 refine qaa hm Tryz.func122 (by kernel_rfl) rfl (by kernel_rfl) rfl (fun _ _ h=>h) ?_
 simp[hi,hx]
 refine CallZ.use0 (qsE c.ingots c.melts c.bells hc.ing hc.mel hc.bel) rfl rfl ?_
 cases ht:qcR c.ingots c.melts c.bells
 ·have hm0':qbA c=if qcR c.ingots c.melts c.bells=true then [] else [⟨1,qed,qee⟩]:=rfl
  rw[ht]at hm0'
  simp
  refine⟨by simp[rowsOne],?_⟩
  refine qac hm c.hung.length (fun i=>⟨[(0, .pe (w+20) rows i0 0),(3, .sf 0 3),(4, .int .i64 i)],[trO (qbA c++upTo (qaU c.bells) c.hung i)]⟩) (fun _=>True) (by kernel_rfl) ?_ trivial (fun i hi' _ =>?_) (fun _ =>?_)
  ·rw[qbZ,List.append_nil,hm0']
   exact Wk.weak (ρ:=[1]) (φ:=[]) (by simp[Trouble.rows,Trouble.cells,qed,qee])
  ·have w1:IntKind.i64.wrap ((i:Int)+1)=(i:Int)+1:=w64 (by omega) (by omega)
   have hlen:=qfo c i
   rw[qbP _ _ hi',←List.append_assoc]
   generalize qbA c++upTo (qaU c.bells) c.hung i=T at hlen ⊢
   simp[hi,hx,Hung.rows,Hung.cells,hi']
   refine CallZ.use0 (kB c.hung[i].bell) rfl rfl ?_
   rcases qgw c.bells c.hung[i].bell with ⟨h1,h2⟩ | ⟨h1,k,h2,hk⟩
   ·rw[h2]
    simp[hi,hx,Hung.rows,Hung.cells,hi',Trouble.rows_len]
    refine⟨by simp[rowsOne],by omega,by omega,Wk.weak (ρ:=[0]) (φ:=[]) ?_⟩
    simp[w1,qaU,h1,Trouble.rows,Trouble.cells,qfm]
   ·rw[h2]
    have hge:¬((k:Int)<0):=by omega
    simp[hi,hx,Hung.rows,Hung.cells,hi',hge,hk,Bell.rows_len,Bell.row_get,Bell.cells,Trouble.rows_len]
    refine⟨fun h3=>⟨by simp[rowsOne],by omega,by omega,Wk.weak (ρ:=[0]) (φ:=[]) ?_⟩,fun h3=>Wk.weak (ρ:=[0]) (φ:=[]) ?_⟩
    ·simp[w1,qaU,h1,h2,hk,h3,Trouble.rows,Trouble.cells,qfn]
    ·have h3':¬c.hung[i].mass<c.bells[k].mass:=by omega
     simp[w1,qaU,h1,h2,hk,h3']
  ·simp[hi,hx,Hung.rows_len]
   refine Wk.weak (ρ:=[0]) (φ:=[]) ?_
   simp[qci]
 ·have hm0':qbA c=if qcR c.ingots c.melts c.bells=true then [] else [⟨1,qed,qee⟩]:=rfl
  rw[ht]at hm0'
  simp
  refine qac hm c.hung.length (fun i=>⟨[(0, .pe (w+20) rows i0 0),(3, .sf 0 3),(4, .int .i64 i)],[trO (qbA c++upTo (qaU c.bells) c.hung i)]⟩) (fun _=>True) (by kernel_rfl) ?_ trivial (fun i hi' _ =>?_) (fun _ =>?_)
  ·rw[qbZ,List.append_nil,hm0']
   exact (qaA (t:=3) (z:=3) rfl).trans (Wk.weak (ρ:=[0]) (φ:=[]) (by simp[Trouble.rows]))
  ·have w1:IntKind.i64.wrap ((i:Int)+1)=(i:Int)+1:=w64 (by omega) (by omega)
   have hlen:=qfo c i
   rw[qbP _ _ hi',←List.append_assoc]
   generalize qbA c++upTo (qaU c.bells) c.hung i=T at hlen ⊢
   simp[hi,hx,Hung.rows,Hung.cells,hi']
   refine CallZ.use0 (kB c.hung[i].bell) rfl rfl ?_
   rcases qgw c.bells c.hung[i].bell with ⟨h1,h2⟩ | ⟨h1,k,h2,hk⟩
   ·rw[h2]
    simp[hi,hx,Hung.rows,Hung.cells,hi',Trouble.rows_len]
    refine⟨by simp[rowsOne],by omega,by omega,Wk.weak (ρ:=[0]) (φ:=[]) ?_⟩
    simp[w1,qaU,h1,Trouble.rows,Trouble.cells,qfm]
   ·rw[h2]
    have hge:¬((k:Int)<0):=by omega
    simp[hi,hx,Hung.rows,Hung.cells,hi',hge,hk,Bell.rows_len,Bell.row_get,Bell.cells,Trouble.rows_len]
    refine⟨fun h3=>⟨by simp[rowsOne],by omega,by omega,Wk.weak (ρ:=[0]) (φ:=[]) ?_⟩,fun h3=>Wk.weak (ρ:=[0]) (φ:=[]) ?_⟩
    ·simp[w1,qaU,h1,h2,hk,h3,Trouble.rows,Trouble.cells,qfn]
    ·have h3':¬c.hung[i].mass<c.bells[k].mass:=by omega
     simp[w1,qaU,h1,h2,hk,h3']
  ·simp[hi,hx,Hung.rows_len]
   refine Wk.weak (ρ:=[0]) (φ:=[]) ?_
   simp[qci]
end Go.Proofs.YteckngloamnfdaaGreatDoor
