/- slices.Sort and slices.Compact at machine numbers: the kit's contracts over memory as contracts over plain values. No condition. Contracts: the notes of a tune. No condition. The notes of a tune: each once, rising strictly. No condition. -/
import Derived.Test.YteckngloamnfdaaGreatDoorAcj
import Derived.Test.YteckngloamnfdaaGreatDoorBa
import Derived.Test.YteckngloamnfdaaGreatDoorSr
import Derived.Test.YteckngloamnfdaaGreatDoorCk
import Derived.Sort.OwnSortedInts
import Derived.Lib.SlicesCompact
import Derived.Test.YteckngloamnfdaaGreatDoorUc
namespace Go.Proofs.YteckngloamnfdaaGreatDoor
open Go Go.Ab
set_option maxRecDepth 100000
theorem qlM {A:Nat→Prop} {w:World} {ss:List Int} {cur:Array Value} (hcells:qdL A w 1 (qad ss) cur):cur.toList.take ss.length=ss.map (Value.int .i64):=by
 apply List.ext_getElem?
 intro j
 by_cases hj:j<ss.length
 ·obtain⟨u,hu,hr⟩:=hcells j 0 [.int .i64 ss[j]] (.int .i64 ss[j]) (by simp[qad,hj]) rfl
  cases hr
  rw[List.getElem?_take_of_lt hj,Array.getElem?_toList]
  simp only[Nat.mul_one,Nat.add_zero]at hu
  rw[hu,List.getElem?_map,List.getElem?_eq_getElem hj]
  rfl
 ·rw[List.getElem?_take_eq_none (by omega),List.getElem?_eq_none (by simp; omega)]
theorem qlN {A:Nat→Prop} {w:World} {cur:Array Value} (ss:List Int) (hC:ss.length≤cur.size):qdL A w 1 (qad ss) (Go.Sort.putCells (Value.int .i64) 0 ss.toArray cur):=fun i j r c hr hc=>by
 rw[qad,List.getElem?_map]at hr
 cases hx:ss[i]? with
 | none=>rw[hx]at hr; cases hr
 | some x =>
  rw[hx]at hr
  cases hr
  have hi:i<ss.length:=(List.getElem?_eq_some_iff.1 hx).1
  cases j with
  | zero =>
   cases hc
   have h1:=Go.take_putCellsI cur ss hC
   have h2:((Go.Sort.putCells (Value.int .i64) 0 ss.toArray cur).toList.take ss.length)[i]?=some (.int .i64 x):=by rw[h1,List.getElem?_map,hx]; rfl
   rw[List.getElem?_take_of_lt hi,Array.getElem?_toList]at h2
   exact⟨_,by simpa using h2, .int _ _⟩
  | succ j=>cases hc
theorem qlO {ss:List Int} (i:Nat) (r:List PV) (hr:(qad ss)[i]?=some r):r.length=1:=by
 rw[qad,List.getElem?_map]at hr
 cases hx:ss[i]? with
 | none=>rw[hx]at hr; cases hr
 | some x=>rw[hx]at hr; cases hr; rfl
def sortN (ss:List Int):List Int:=ss.mergeSort fun x y=>decide (x≤y)
theorem qtc (ss:List Int) (hss:ss.length≤2097152):MFn Tryz.prog 246 [.sf 0 1] [some (.arr 1 (qad ss))] [0] (.tup []) [some (.arr 1 (qad (sortN ss)))]:=by
 have hl:(qad ss).length=ss.length:=List.length_map _
 have hl':(sortN ss).length=ss.length:=List.length_mergeSort _
 refine qqK (by simp[qad,hl']) qlO (fun he ao cap w =>?_) (fun A w b C cur e p1 hb hsz hC hmax hne hcells =>?_)
 ·unfold CallS
  rw[qfr Tryz.func246 (by kernel_rfl) rfl]
  exact⟨rfl,Tryz.slices_Sort_int_none ao cap w⟩
 ·rw[hl]at hC ⊢
  unfold CallS
  rw[qfr Tryz.func246 (by kernel_rfl) rfl]
  refine⟨rfl,(Tryz.slices_Sort_int b 0 C ss w (Go.holds_of_blockI hb (qlM hcells)) (Array.getElem?_eq_some_iff.1 hb).1 (by omega)).mono fun e' w' ⟨g1,n,os,g2⟩ =>?_⟩
  subst g2
  refine⟨g1,rfl,rfl,rfl,Nat.le_add_right _ _,by simp,fun j hj hne' =>?_,_,Go.heap_sortedI _ hb,by simp[Go.Sort.putCells],qlN (sortN ss) (by omega)⟩
  rw[Go.Sort.heap_grow_old _ _ (by simpa using hj)]
  simp[Go.Sort.putRow,Go.Sort.mapBlock,Go.Sort.ahead,Array.getElem?_modify,Ne.symm hne']
theorem qlP (ss:List Int):(Lib.compact ss).length≤ss.length:=by
 unfold Lib.compact Lib.compactUpTo
 rw[List.length_map]
 refine Nat.le_trans (List.length_filter_le _ _) ?_
 simp
theorem qtd (ss:List Int) (hss:ss.length≤2097152):MFn Tryz.prog 247 [.sf 0 1] [some (.arr 1 (qad ss))] [0] (.so 0 1 0 (Lib.compact ss).length) [some (.arr 1 (qad (Lib.compact ss++List.replicate (ss.length-(Lib.compact ss).length) 0)))]:=by
 have hl:(qad ss).length=ss.length:=List.length_map _
 have hcl:=qlP ss
 obtain⟨D,hD⟩:∃D,Lib.compact ss++List.replicate (ss.length-(Lib.compact ss).length) 0=D:=⟨_,rfl⟩
 have hDl:D.length=ss.length:=by rw[←hD]; simp; omega
 have hk:=fun (b C:Nat) (w:World) hH hC=>Tryz.slices_Compact_int b 0 C ss w hH (by omega) hC
 rw[hD]at hk ⊢
 generalize hc:(Lib.compact ss).length=c at hcl hk ⊢
 refine qqL (by simp[qad]; omega) (by simp[qad]; omega) qlO (fun he ao cap w =>?_) (fun A w b C cur e p1 hb hsz hC hmax hne hcells =>?_)
 ·obtain rfl:ss=[]:=by cases ss with
   | nil=>rfl
   | cons x r=>cases he
  obtain rfl:c=0:=by simpa using hcl
  unfold CallS
  rw[qfr Tryz.func247 (by kernel_rfl) rfl]
  exact⟨rfl,Tryz.slices_Compact_int_empty ao cap w⟩
 ·rw[hl]at hC ⊢
  unfold CallS
  rw[qfr Tryz.func247 (by kernel_rfl) rfl]
  refine⟨rfl,(hk b C w (Go.holds_of_blockI hb (qlM hcells)) hC).mono fun e' w' ⟨g1,n,g2⟩ =>?_⟩
  subst g2
  have hs:=Go.heap_sortedI (n:=n) (os := #[]) D.toArray hb
  rw[Go.Sort.grow_empty]at hs
  refine⟨g1,rfl,rfl,rfl,Nat.le_add_right _ _,by simp[Go.Sort.putRow,Go.Sort.mapBlock,Go.Sort.ahead],fun j hj hne' =>?_,_,hs,by simp[Go.Sort.putCells],qlN D (by omega)⟩
  simp[Go.Sort.putRow,Go.Sort.mapBlock,Go.Sort.ahead,Array.getElem?_modify,Ne.symm hne']
end Go.Proofs.YteckngloamnfdaaGreatDoor
namespace Go.Proofs.YteckngloamnfdaaGreatDoor
open Go Go.Ab
set_option maxRecDepth 100000
def qbh (t:Tune):List Int:=Lib.compact (sortN (t.tones.map Tone.note))
theorem qte (t:Tune) (f:Nat) (hf:∀x:Tone,HFn Tryz.prog f [.agg x.cells] [] (.bool true) []) (hl:t.tones.length≤1048576) :
  HFn Tryz.prog 161 [.agg t.cells, .fn f []] [] (.sf 0 1) [some (.arr 1 (qad (qbh t)))]:=by
 refine qaa hm Tryz.func161 (by kernel_rfl) rfl (by kernel_rfl) rfl (fun _ _ h=>h) ?_
 simp[Tune.cells,Tone.rows_len]
 obtain⟨ns,hns⟩:∃ns,t.tones.map Tone.note=ns:=⟨_,rfl⟩
 have hnl:ns.length=t.tones.length:=by rw[←hns]; simp
 refine qac hm t.tones.length (fun i=>⟨[(1, .fn f []),(2, .pb 0 0),(5, .sf 1 1),(9, .sl 3 (Tone.rows t.tones)),(10, .int .i64 t.tones.length),(11, .int .i64 i)],[some (.box [.str t.name, .sl 3 (Tone.rows t.tones)]),some (.arr 1 (qad (ns.take i)))]⟩) (fun _=>True) (by kernel_rfl) ?_ trivial (fun i hi _ =>?_) (fun _ =>?_)
 ·refine (qaA (t:=5) (z:=1) rfl).trans (Wk.weak (ρ:=[0,1]) (φ:=[]) ?_)
  simp[qad]
 ·have w1:IntKind.i64.wrap ((i:Int)+1)=(i:Int)+1:=w64 (by omega) (by omega)
  have hs:ns.take (i+1)=ns.take i++[t.tones[i].note]:=by
   rw[←List.take_append_getElem (by omega)]
   subst hns
   simp
  simp[hi,Tone.rows_len,Tone.row_get]
  refine CallZ.use0 (hf t.tones[i]) rfl rfl ?_
  simp
  have hlt:(qad (ns.take i)).length≤1048576:=by rw[qao,List.length_take]; omega
  refine⟨by simp[Go.Ab.rowsOne],by omega,by omega,Wk.weak (ρ:=[0,1]) (φ:=[]) ?_⟩
  simp[w1,hs,qad]
 ·have hsl:(sortN ns).length=ns.length:=List.length_mergeSort _
  have hcl:=qlP (sortN ns)
  rw[List.take_of_length_le (by omega)]
  simp
  refine CallZ.useK 1 (qtc ns (by omega)) rfl (by simp) rfl (by simp) rfl rfl ?_
  simp
  refine CallZ.useK 1 (qtd (sortN ns) (by omega)) rfl (by simp) rfl (by simp) rfl rfl ?_
  have hN:qbh t=Lib.compact (sortN ns):=by unfold qbh; rw[hns]
  rw[←hN]at hcl ⊢
  generalize qbh t=K at hcl ⊢
  obtain⟨T,hT⟩:∃T,K++List.replicate ((sortN ns).length-K.length) 0=T:=⟨_,rfl⟩
  have hTl:(qad T).length=(sortN ns).length:=by rw[←hT]; simp[qad]; omega
  have hTK:(qad T).take K.length=qad K:=by rw[←hT]; simp[qad]
  rw[hT]
  simp
  refine (qfb (t:=0) (k:=1) (z:=1) (len:=K.length) (rows:=qad T) rfl rfl (by omega)).trans (Wk.weak (ρ:=[1]) (φ:=[]) ?_)
  rw[hTK]
  simp
end Go.Proofs.YteckngloamnfdaaGreatDoor
namespace Go.Proofs.YteckngloamnfdaaGreatDoor
open Go Go.Ab
set_option maxRecDepth 100000
def qbQ (l:List Int):Prop:=l.Pairwise fun x y=>x<y
theorem qlQ:∀ {l m:List Int},qbQ l→qbQ m→(∀x,x∈l↔x∈m)→l=m
 | [],[],_,_,_=>rfl
 | [],y::m,_,_,h=>by have:=(h y).2 (by simp); cases this
 | x::l,[],_,_,h=>by have:=(h x).1 (by simp); cases this
 | x::l,y::m,hl,hm,h=>by
  obtain⟨h1,h2⟩:=List.pairwise_cons.1 hl
  obtain⟨h3,h4⟩:=List.pairwise_cons.1 hm
  have e:x=y:=by
   rcases List.mem_cons.1 ((h x).1 (by simp)) with e | e
   ·exact e
   ·rcases List.mem_cons.1 ((h y).2 (by simp)) with e' | e'
    ·exact e'.symm
    ·have:=h1 y e'
     have:=h3 x e
     omega
  subst e
  rw[qlQ h2 h4 fun z=>⟨fun hz =>?_,fun hz =>?_⟩]
  ·rcases List.mem_cons.1 ((h z).1 (List.mem_cons_of_mem _ hz)) with e | e
   ·subst e; have:=h1 z hz; omega
   ·exact e
  ·rcases List.mem_cons.1 ((h z).2 (List.mem_cons_of_mem _ hz)) with e | e
   ·subst e; have:=h3 z hz; omega
   ·exact e
theorem qtf (zs:List Int) (hs:zs.Pairwise fun x y=>x≤y):qbQ (Lib.compact zs)∧∀x,x∈Lib.compact zs↔x∈zs:=by
 have key:∀m,m≤zs.length→qbQ (Lib.compactUpTo zs.toArray m)∧(∀x,x∈Lib.compactUpTo zs.toArray m↔x∈zs.take m):=fun m=>by
  induction m with
  | zero=>intro _; simp[Lib.compactUpTo,qbQ]
  | succ m ih =>
   intro hm
   obtain⟨i1,i2⟩:=ih (by omega)
   have hml:m<zs.length:=by omega
   have hg:zs.toArray[m]! = zs[m]:=by simp[hml]
   have hc:=Lib.compactUpTo_succ zs.toArray m
   rw[hg]at hc
   have ht:zs.take (m+1)=zs.take m++[zs[m]]:=(List.take_append_getElem hml).symm
   by_cases h0:m=0
   ·subst h0
    have hk:Lib.keeps zs.toArray 0=true:=Lib.keeps_lt_one _ 0 (by omega)
    rw[hc,if_pos hk,ht]
    simp[Lib.compactUpTo,qbQ]
   ·have hg1:zs.toArray[m-1]! = zs[m-1]:=by
     have:m-1<zs.length:=by omega
     simp[this]
    have g2:zs[m-1]≤zs[m]:=List.pairwise_iff_getElem.1 hs (m-1) m (by omega) hml (by omega)
    by_cases he:zs[m]=zs[m-1]
    ·have hk:Lib.keeps zs.toArray m=false:=Lib.keeps_neg (by omega) (by rw[hg,hg1,he])
     rw[hc,hk,ht]
     refine⟨by simpa using i1,fun x =>?_⟩
     have hmem:zs[m]∈zs.take m:=by
      rw[he]
      exact List.mem_iff_getElem.2 ⟨m-1,by rw[List.length_take]; omega,by rw[List.getElem_take]⟩
     rw[if_neg (by simp),List.append_nil,i2 x,List.mem_append,List.mem_singleton]
     constructor
     ·intro h; exact .inl h
     ·rintro (h | h)
      ·exact h
      ·rw[h]; exact hmem
    ·have hk:Lib.keeps zs.toArray m=true:=Lib.keeps_pos (by rw[hg,hg1]; exact he)
     rw[hc,if_pos hk,ht]
     have hlt:∀x∈zs.take m,x<zs[m]:=fun x hx=>by
      obtain⟨i,hi,rfl⟩:=List.getElem_of_mem hx
      rw[List.length_take]at hi
      rw[List.getElem_take]
      have g1:zs[i]≤zs[m-1]:=by
       by_cases e:i=m-1
       ·subst e; omega
       ·exact List.pairwise_iff_getElem.1 hs i (m-1) (by omega) (by omega) (by omega)
      omega
     refine⟨List.pairwise_append.2 ⟨i1,by simp,fun x hx y hy =>?_⟩,fun x =>?_⟩
     ·rw[List.mem_singleton.1 hy]
      exact hlt x ((i2 x).1 hx)
     ·rw[List.mem_append,List.mem_append,List.mem_singleton,i2 x]
 have:=key zs.length (Nat.le_refl _)
 rw[List.take_length]at this
 exact this
theorem qlR (t:Tune):qbQ (qbh t)∧∀n,n∈qbh t↔∃x∈t.tones,x.note=n:=by
 have hs:(sortN (t.tones.map Tone.note)).Pairwise fun x y=>x≤y:=by
  have:=List.pairwise_mergeSort (le:=fun x y:Int=>decide (x≤y)) (fun x y z h k=>by
   simp only[decide_eq_true_eq]at *
   omega) (fun x y=>by
   simp only[Bool.or_eq_true,decide_eq_true_eq]
   omega) (t.tones.map Tone.note)
  exact this.imp fun h=>by simpa using h
 obtain⟨h1,h2⟩:=qtf _ hs
 refine⟨h1,fun n =>?_⟩
 unfold qbh
 rw[h2 n]
 unfold sortN
 rw[List.mem_mergeSort,List.mem_map]
end Go.Proofs.YteckngloamnfdaaGreatDoor
