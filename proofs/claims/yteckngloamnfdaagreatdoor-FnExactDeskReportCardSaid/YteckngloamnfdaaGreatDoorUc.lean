/- Tunes: what later texts need beside the type's own text. No condition. Contracts: valid tunes, and the numbers of a drum. No condition. Contracts: valid tunes. No condition. -/
import Derived.Test.YteckngloamnfdaaGreatDoorCg
import Derived.Test.YteckngloamnfdaaGreatDoorTNest
import Derived.Test.YteckngloamnfdaaGreatDoorCk
import Derived.Test.YteckngloamnfdaaGreatDoorCe
import Derived.Test.YteckngloamnfdaaGreatDoorTPair
import Derived.Test.YteckngloamnfdaaGreatDoorCj
namespace Go.Proofs.YteckngloamnfdaaGreatDoor
open Go Go.Ab
set_option maxRecDepth 100000
@[simp] def Tune.res (d:Tune):PV := .agg [.str d.name, .sf 0 3]
@[simp] def Tune.objs (d:Tune):Heap:=[some (.arr 3 (Tone.rows d.tones))]
end Go.Proofs.YteckngloamnfdaaGreatDoor
namespace Go.Proofs.YteckngloamnfdaaGreatDoor
open Go Go.Ab
set_option maxRecDepth 100000
theorem Tone.row_get (T:List Tone) {i:Nat} (h:i<(Tone.rows T).length):(Tone.rows T)[i]=[.int .i64 (T[i]'(by rw[Tone.rows_len]at h; exact h)).note, .int .i64 (T[i]'(by rw[Tone.rows_len]at h; exact h)).start, .int .i64 (T[i]'(by rw[Tone.rows_len]at h; exact h)).length]:=by simp[Tone.rows,Tone.cells]
def qdK (a b:Tone):Bool:=decide (a.start<b.start)||(decide (a.start=b.start)&&decide (a.note<b.note))
def qea (x:Tone):Bool:=(decide (0≤x.note)&&decide (x.note≤127))&&(decide (0≤x.start)&&decide (x.start≤20000))&&(decide (1≤x.length)&&decide (x.length≤20000-x.start))
def qeK (a b:Tone):Int:=orL [cmpI a.start b.start,cmpI a.note b.note]
theorem qpY (a b:Tone):0≤qeK a b↔qdK a b=false:=by
 unfold qeK cmpI qdK
 simp[orL]
 grind
def qcu (l:List Tone) (i:Nat):Bool:=match l[i]? with
 | some x=>qea x&&(decide (i=0)||match l[i-1]? with
  | some y=>qdK y x
  | none=>true)
 | none=>true
def qbK (t:Tune):Bool:=(List.range t.tones.length).all (qcu t.tones)&&(qaB t.name&&decide (t.tones.length≤128))
abbrev Tune.ptr (t:Tune):PV := .pe 2 [t.cells] 0 0
theorem qpZ (a b:Tone):HFn Tryz.prog 230 [.agg a.cells, .agg b.cells] [] (.int .i64 (qeK a b)) []:=by
 refine qaa hm Tryz.func230 (by kernel_rfl) rfl (by kernel_rfl) rfl qab ?_
 simp[Tone.cells]
 refine CallZ.use0 (qjY _ _) rfl rfl ?_
 simp
 refine CallZ.use0 (qjY _ _) rfl rfl ?_
 simp
 refine CallZ.use0 (by simpa[qad]using qpv [cmpI a.start b.start,cmpI a.note b.note] (by simp)) rfl rfl ?_
 simp[qeK]
theorem qp0 (x:Tone):HFn Tryz.prog 229 [.agg x.cells] [] (.bool (qea x)) []:=by
 refine qaa hm Tryz.func229 (by kernel_rfl) rfl (by kernel_rfl) rfl qab ?_
 simp[Tone.cells]
 refine CallZ.use0 (qf3 _) rfl rfl ?_
 simp
 refine⟨fun a b=>⟨a,b⟩,CallY.use (fun _=>⟨rfl,qai _ _ _⟩) rfl rfl ?_⟩
 simp
 refine⟨by intros; simp[*],CallY.use (fun _=>⟨rfl,qai _ _ _⟩) rfl rfl ?_⟩
 have hw:0≤x.start→x.start≤20000→IntKind.i64.wrap (20000-x.start)=20000-x.start:=fun h1 h2=>w64 (by omega) (by omega)
 generalize IntKind.i64.wrap (20000-x.start)=W at hw ⊢
 simp
 unfold qea
 grind
theorem qkk (x:Tone) (rows:List (List PV)) (i:Nat) (h:rows[i]?=some x.cells):HFn Tryz.prog 193 [.pe 3 rows i 0] [] (.bool (qea x)) []:=by
 obtain⟨hi,hr⟩:=List.getElem?_eq_some_iff.1 h
 rw[Tone.cells]at hr
 refine qaa hm Tryz.func193 (by kernel_rfl) rfl (by kernel_rfl) rfl qab ?_
 simp[hi,hr]
 refine CallZ.use0 (qhj _) rfl rfl ?_
 simp[hi,hr]
 refine⟨fun a b=>⟨a,b⟩,CallY.use (fun _=>⟨rfl,qaj _ _ _⟩) rfl rfl ?_⟩
 simp[hi,hr]
 refine⟨by intros; simp[*],CallY.use (fun _=>⟨rfl,qaj _ _ _⟩) rfl rfl ?_⟩
 have hw:0≤x.start→x.start≤20000→IntKind.i64.wrap (20000-x.start)=20000-x.start:=fun h1 h2=>w64 (by omega) (by omega)
 generalize IntKind.i64.wrap (20000-x.start)=W at hw ⊢
 simp
 unfold qea
 grind
theorem qkl (a b:Tone) (rows rows':List (List PV)) (i j:Nat) (h:rows[i]?=some a.cells) (h':rows'[j]?=some b.cells):HFn Tryz.prog 194 [.pe 3 rows i 0, .pe 3 rows' j 0] [] (.bool (qdK a b)) []:=by
 obtain⟨hi,hx⟩:=List.getElem?_eq_some_iff.1 h
 obtain⟨hj,hy⟩:=List.getElem?_eq_some_iff.1 h'
 rw[Tone.cells]at hx hy
 refine qaa hm Tryz.func194 (by kernel_rfl) rfl (by kernel_rfl) rfl qab ?_
 simp[hi,hj,hx,hy]
 unfold qdK
 grind
end Go.Proofs.YteckngloamnfdaaGreatDoor
namespace Go.Proofs.YteckngloamnfdaaGreatDoor
open Go Go.Ab
set_option maxRecDepth 100000
theorem qgb {l:List Tone} {i:Nat} (hi:i<l.length):qcu l i=(qea l[i]&&(decide (i=0)||qdK (l[i-1]'(by omega)) l[i])):=by
 have hx:=List.getElem?_eq_getElem hi
 have hy:l[i-1]?=some (l[i-1]'(by omega)):=List.getElem?_eq_getElem (by omega)
 simp[qcu,hx,hy]
theorem qp1 (t:Tune) (hl:t.tones.length≤1048576):HFn Tryz.prog 145 [.agg t.cells] [] (.bool (qbK t)) []:=by
 refine qaa hm Tryz.func145 (by kernel_rfl) rfl (by kernel_rfl) rfl qab ?_
 simp[Tune.cells,Tone.rows_len]
 refine qac hm t.tones.length (fun i=>⟨[(1, .pb 0 0),(6, .sl 3 (Tone.rows t.tones)),(7, .int .i64 t.tones.length),(8, .int .i64 i)],[some (.box [.str t.name, .sl 3 (Tone.rows t.tones)])]⟩) (fun i=>∀j,j<i→qcu t.tones j=true) (by kernel_rfl) ?_ (by simp) (fun i hi hI =>?_) (fun hI =>?_)
 ·exact Wk.weak (ρ:=[0]) (φ:=[]) (by simp)
 ·have e1:IntKind.i64.wrap ((i:Int)-1)=i-1:=w64 (by omega) (by omega)
  have hil:i-1<t.tones.length:=by omega
  have ho:=qgb hi
  have hlt:=qpY t.tones[i-1] t.tones[i]
  simp[Tone.rows_len,Tone.row_get,hi]
  refine CallZ.use0 (qp0 t.tones[i]) rfl rfl ?_
  simp[Tone.rows_len,Tone.row_get,e1,hil]
  refine⟨fun a b=>⟨a,b⟩,fun a b=>⟨⟨a,b⟩,by omega,by omega⟩,fun a b=>⟨a,b⟩,CallY.use (res := .int .i64 (qeK t.tones[i-1] t.tones[i])) (fun _=>⟨rfl,qpZ t.tones[i-1] t.tones[i]⟩) rfl rfl ?_⟩
  simp
  refine⟨by grind,fun h =>?_,fun h1 h2=>⟨qaN hI ?_,?_⟩⟩
  ·have:qcu t.tones i=false:=by
    rw[ho]
    rcases h with h | ⟨h,h'⟩
    ·simp[h]
    ·have h4:¬i=0:=by omega
     simp[hlt.1 h',h4]
   simp[qbK,qaG hi this]
  ·rw[ho,h1]
   by_cases h4:i=0
   ·simp[h4]
   ·have h5:=h2 (by omega)
    have h6:¬ 0≤qeK t.tones[i-1] t.tones[i]:=by omega
    rw[hlt]at h6
    simp[h6]
  ·refine Wk.weak (ρ:=[0]) (φ:=[]) ?_
   simp
   exact w64 (by omega) (by omega)
 ·simp
  have hall:(List.range t.tones.length).all (qcu t.tones)=true:=qaM hI
  refine CallZ.use0 (qa9 t.name) rfl rfl ?_
  simp[qbK,hall,Tone.rows_len]
  have h128:((t.tones.length:Int)≤128)↔t.tones.length≤128:=by omega
  simp[h128]
theorem qp3 (t:Tune) (hl:t.tones.length≤1048576):HFn Tryz.prog 118 [t.ptr] [] (.bool (qbK t)) []:=by
 refine qaa hm Tryz.func118 (by kernel_rfl) rfl (by kernel_rfl) rfl qab ?_
 simp
 refine qac hm t.tones.length (fun i=>⟨[(0, .pe 2 [[.str t.name, .sl 3 (Tone.rows t.tones)]] 0 0),(3, .int .i64 i)],[]⟩) (fun i=>∀j,j<i→qcu t.tones j=true) (by kernel_rfl) ?_ (by simp) (fun i hi hI =>?_) (fun hI =>?_)
 ·exact Wk.weak (ρ:=[]) (φ:=[]) (by simp[Tune.cells])
 ·have e1:IntKind.i64.wrap ((i:Int)-1)=i-1:=w64 (by omega) (by omega)
  have hil:i-1<t.tones.length:=by omega
  have ho:=qgb hi
  simp[Tone.rows_len,hi]
  refine CallZ.use0 (qkk t.tones[i] _ i (by simp[Tone.rows,hi])) rfl rfl ?_
  simp[Tone.rows_len,e1,hi]
  refine⟨fun a b=>⟨a,b⟩,fun a b=>⟨⟨a,b⟩,by omega,by omega⟩,fun a b=>⟨a,b⟩,CallY.use (res := .bool (qdK t.tones[i-1] t.tones[i])) (fun _=>⟨rfl,qkl t.tones[i-1] t.tones[i] _ _ (i-1) i (by simp[Tone.rows,hil]) (by simp[Tone.rows,hi])⟩) rfl rfl ?_⟩
  simp
  refine⟨by grind,fun h =>?_,fun h1 h2=>⟨qaN hI ?_,?_⟩⟩
  ·have:qcu t.tones i=false:=by
    rw[ho]
    rcases h with h | ⟨h,h'⟩
    ·simp[h]
    ·have h4:¬i=0:=by omega
     simp[h',h4]
   simp[qbK,qaG hi this]
  ·rw[ho,h1]
   by_cases h4:i=0
   ·simp[h4]
   ·simp[h2 (by omega)]
  ·refine Wk.weak (ρ:=[]) (φ:=[]) ?_
   simp
   exact w64 (by omega) (by omega)
 ·simp[Tone.rows_len]
  have hall:(List.range t.tones.length).all (qcu t.tones)=true:=qaM hI
  refine CallZ.use0 (qba t.name) rfl rfl ?_
  simp[qbK,hall,Tone.rows_len]
  have h128:((t.tones.length:Int)≤128)↔t.tones.length≤128:=by omega
  simp[h128]
end Go.Proofs.YteckngloamnfdaaGreatDoor
