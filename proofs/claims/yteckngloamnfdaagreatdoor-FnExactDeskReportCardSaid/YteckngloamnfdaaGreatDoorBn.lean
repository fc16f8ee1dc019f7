/- Contracts: the audit of a carillon. No condition. -/
import Derived.Test.YteckngloamnfdaaGreatDoorBm
import Derived.Test.YteckngloamnfdaaGreatDoorBp
namespace Go.Proofs.YteckngloamnfdaaGreatDoor
open Go Go.Ab
set_option maxRecDepth 100000
def catTo (g:Nat→List Trouble) (i:Nat):List Trouble:=((List.range i).map g).flatten
theorem qmg (g:Nat→List Trouble) (i:Nat):catTo g (i+1)=catTo g i++g i:=by
 unfold catTo
 rw[List.range_succ]
 simp
theorem qtT {g:Nat→List Trouble} (hg:∀k,(g k).length≤2000) (i:Nat):(catTo g i).length≤2000*i:=by
 induction i with
 | zero=>simp[catTo]
 | succ i ih =>
  rw[qmg,List.length_append]
  have:=hg i
  omega
def auR (c:Carillon) (L:List Trouble):List Trouble:=if carOk c=true then L else []
def auC (c:Carillon):Int:=if carOk c=true then 0 else 1
set_option maxHeartbeats 4000000 in
theorem qtU (c:Carillon) (hs:c.small) (fs:List Nat) (g:Nat→List Trouble) (hn:fs.length≤4) (hg:∀k,(g k).length≤2000)
  (hf:CarOk c→∀k (h:k<fs.length),HFn Tryz.prog fs[k] [.agg c.cells] [] (.sf 0 3) [trO (g k)]) :
  HFn Tryz.prog 73 [.agg c.cells, .sl 1 (qcg fs)] [] (.tup [.sf 0 3, .int .i64 (auC c)]) [trO (auR c (catTo g fs.length))]:=by
 have kV:=qkV c hs
 simp only[Carillon.cells]at kV
 refine qaa hm Tryz.func73 (by kernel_rfl) rfl (by kernel_rfl) rfl (fun _ _ h=>h) ?_
 simp[Carillon.cells]
 refine CallZ.use0 kV rfl rfl ?_
 cases hv:carOk c
 ·simp
  refine (qco (t:=0) 0 3 rfl rfl).trans (Wk.weak (ρ:=[1]) (φ:=[]) ?_)
  simp[auR,auC,hv,Trouble.rows]
 ·have hc:=qfp hs hv
  have kF:=hf hc
  simp only[Carillon.cells]at kF
  simp[qkX]
  refine qac hm fs.length (fun i=>⟨[(2, .pb 0 0),(6, .sf 1 3),(12, .sl 1 (qcg fs)),(13, .int .i64 fs.length),(14, .int .i64 i)],[some (.box c.cells),trO (catTo g i)]⟩) (fun _=>True) (by kernel_rfl) ?_ trivial (fun i hi _ =>?_) (fun _ =>?_)
  ·exact (qaA (t:=6) (z:=3) rfl).trans (Wk.weak (ρ:=[0,1]) (φ:=[]) (by simp[Carillon.cells,catTo,Trouble.rows]))
  ·have w1:IntKind.i64.wrap ((i:Int)+1)=(i:Int)+1:=w64 (by omega) (by omega)
   have hle:=qtT hg i
   have hgi:=hg i
   rw[qmg]
   generalize catTo g i=T at hle ⊢
   simp[Carillon.cells,qcg,hi]
   refine CallZ.use (kF i hi) rfl (.inr ⟨Trouble.flat _,trivial⟩) rfl rfl ?_
   generalize g i=G at hgi ⊢
   simp[Trouble.rows_len]
   refine⟨Trouble.one _,by omega,by omega,Wk.weak (ρ:=[0,1]) (φ:=[]) ?_⟩
   simp[w1,qlz]
  ·simp
   refine Wk.weak (ρ:=[1]) (φ:=[]) ?_
   simp[auR,auC,hv]
theorem qh4 {c:Carillon} (hc:CarOk c):(qci c).length≤2000:=by
 have h1:=qfo c c.hung.length
 have h2:=hc.hl
 unfold qci
 omega
theorem qh5 {c:Carillon} (hc:CarOk c):(roomL c).length≤2000:=by
 have h1:=qdb (qfw c.places) c.hung c.hung.length
 have h2:=hc.hl
 have hp:=qeS hc.plac
 have hol:(outsL c).length≤24:=Nat.le_trans (qfu _ _ _ _) hp
 have hcl:(qdd c).length≤576:=Nat.le_trans (qfv _ _ _) (Nat.mul_le_mul hp hp)
 unfold roomL
 rw[List.length_append,List.length_append,List.length_map,List.length_map]
 omega
theorem qh6 {c:Carillon} (hc:CarOk c):(qb1 c).length≤2000:=by
 have h1:=qek c c.frame.length
 have h2:=(qh2 hc.fram).1
 unfold qb1
 omega
theorem qh7 {c:Carillon} (hc:CarOk c):(qdu c).length≤2000:=by
 have h1:=qdb (qh3 c) (qbh c.tune) (qbh c.tune).length
 have h2:=(qhW hc.tune).1
 unfold qdu
 omega
def partL (c:Carillon) (k:Nat):List Trouble:=if carOk c=true then (if k=0 then qci c else if k=1 then roomL c else if k=2 then qb1 c else qdu c) else []
theorem qtV {c:Carillon} (hs:c.small) (k:Nat):(partL c k).length≤2000:=by
 unfold partL
 split
 ·rename_i hv
  have hc:=qfp hs hv
  split
  ·exact qh4 hc
  ·split
   ·exact qh5 hc
   ·split
    ·exact qh6 hc
    ·exact qh7 hc
 ·simp
def allL (c:Carillon):List Trouble:=qci c++roomL c++qb1 c++qdu c
theorem qtW (c:Carillon) (hs:c.small):HFn Tryz.prog 25 [.agg c.cells] [] (.tup [.sf 0 3, .int .i64 (auC c)]) [trO (auR c (allL c))]:=by
 have k:=qtU c hs [74,75,76,77] (partL c) (by decide) (qtV hs) (fun hc k hk=>by
  have hv:carOk c=true:=by simp[carOk,hc.ing,hc.mel,hc.bel,hc.hung,hc.cham,hc.plac,hc.gap,hc.tow,hc.fram,hc.stress,hc.bend,hc.clav,hc.tune]
  match k,hk with
  | 0,_=>simpa[partL,hv]using qsG c hc
  | 1,_=>simpa[partL,hv]using qtF c hc
  | 2,_=>simpa[partL,hv]using qtM c hc
  | 3,_=>simpa[partL,hv]using qtQ c hc)
 have e:auR c (catTo (partL c) 4)=auR c (allL c):=by
  unfold auR catTo allL partL
  cases hv:carOk c<;>simp[List.range_succ]
 simp only[List.length_cons,List.length_nil,Nat.zero_add,Nat.reduceAdd]at k
 rw[e]at k
 simp only[Carillon.cells,qcg,List.map_cons,List.map_nil]at k
 refine qnr [1] hm Tryz.func25 (by kernel_rfl) rfl (by kernel_rfl) rfl (fun _ _ h=>h) ?_
 simp[Carillon.cells]
 refine qrr (fs:=[74,75,76,77]) 1 (by kernel_rfl) rfl rfl rfl (by simp) (by simp) ?_
 simp[qcg]
 refine CallZ.use k rfl (.inr ⟨Trouble.flat _,trivial⟩) rfl rfl ?_
 simp
 exact Wk.weak (ρ:=[1]) (φ:=[]) (by simp)
theorem qh8 {c:Carillon} (hc:CarOk c):(qci c++roomL c).length≤4000∧(qci c++roomL c++qb1 c).length≤6000∧(allL c).length≤8000:=by
 have h1:=qh4 hc
 have h2:=qh5 hc
 have h3:=qh6 hc
 have h4:=qh7 hc
 unfold allL
 simp only[List.length_append]
 omega
set_option maxHeartbeats 4000000 in
theorem qtX (c:Carillon) (tl:List PV) (w:Nat) (rows:List (List PV)) (i0:Nat) (hr:rows[i0]?=some (c.cells++tl)) (hc:CarOk c):HFn Tryz.prog 57 [.pe (w+20) rows i0 0] [] (.sf 0 3) [trO (allL c)]:=by
 obtain⟨h1,h2,h3⟩:=qh8 hc
 have m1:=qh4 hc
 have m2:=qh5 hc
 have m3:=qh6 hc
 have m4:=qh7 hc
 have k1:=qsI c tl w rows i0 hr hc
 have k2:=qtH c tl w rows i0 hr hc
 have k3:=qtN c tl w rows i0 hr hc
 have k4:=qtS c tl w rows i0 hr hc
 refine qaa hm Tryz.func57 (by kernel_rfl) rfl (by kernel_rfl) rfl (fun _ _ h=>h) ?_
 unfold allL at h3 ⊢
 generalize qci c=A at *
 generalize roomL c=B at *
 generalize qb1 c=C at *
 generalize qdu c=D at *
 simp
 refine CallZ.use k1 rfl (.inr ⟨Trouble.flat _,trivial⟩) rfl rfl ?_
 simp[Trouble.rows_len]
 refine⟨Trouble.one _,by omega,by omega,?_⟩
 refine CallZ.use k2 rfl (.inr ⟨Trouble.flat _,trivial⟩) rfl rfl ?_
 simp[Trouble.rows_len]
 refine⟨Trouble.one _,by omega,by omega,?_⟩
 refine CallZ.use k3 rfl (.inr ⟨Trouble.flat _,trivial⟩) rfl rfl ?_
 simp[Trouble.rows_len]
 refine⟨Trouble.one _,by omega,by omega,?_⟩
 refine CallZ.use k4 rfl (.inr ⟨Trouble.flat _,trivial⟩) rfl rfl ?_
 simp[Trouble.rows_len]
 refine⟨Trouble.one _,by omega,by omega,Wk.weak (ρ:=[1]) (φ:=[]) ?_⟩
 simp[qlz]
end Go.Proofs.YteckngloamnfdaaGreatDoor
