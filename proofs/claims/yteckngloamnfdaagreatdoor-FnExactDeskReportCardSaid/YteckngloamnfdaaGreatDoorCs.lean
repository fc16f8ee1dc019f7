/- Contracts: the report of a desk, on both sides. No condition. Copies of and marks on a desk in pinned memory. No condition. The law of a desk's report: a desk in pinned memory is marked beside the engine. No condition. -/
import Derived.Test.YteckngloamnfdaaGreatDoorFn
import Derived.Test.YteckngloamnfdaaGreatDoorCo
import Derived.Test.YteckngloamnfdaaGreatDoorJg
import Derived.Test.YteckngloamnfdaaGreatDoorHg
import Derived.Test.YteckngloamnfdaaGreatDoorBz
import Derived.Test.YteckngloamnfdaaGreatDoorTDesk
namespace Go.Proofs.YteckngloamnfdaaGreatDoor
open Go Go.Ab
set_option maxRecDepth 100000
theorem qtZ (z:Nat) (rows:List (List PV)):HFn Tryz.prog 26 [.sl z rows] [] (.int .i64 rows.length) []:=by
 refine qaa hm Tryz.func26 (by kernel_rfl) rfl (by kernel_rfl) rfl qab ?_
 simp
theorem qt0 (z:Nat) (rows:List (List PV)):HFn Tryz.prog 27 [.sl z rows] [] (.int .i64 rows.length) []:=by
 refine qaa hm Tryz.func27 (by kernel_rfl) rfl (by kernel_rfl) rfl qab ?_
 simp
theorem qt1 (z:Nat) (rows:List (List PV)):HFn Tryz.prog 28 [.sl z rows] [] (.int .i64 rows.length) []:=by
 refine qaa hm Tryz.func28 (by kernel_rfl) rfl (by kernel_rfl) rfl qab ?_
 simp
theorem qt2 (z:Nat) (rows:List (List PV)):HFn Tryz.prog 29 [.sl z rows] [] (.int .i64 rows.length) []:=by
 refine qaa hm Tryz.func29 (by kernel_rfl) rfl (by kernel_rfl) rfl qab ?_
 simp
theorem qt3 (z:Nat) (rows:List (List PV)):HFn Tryz.prog 30 [.sl z rows] [] (.int .i64 rows.length) []:=by
 refine qaa hm Tryz.func30 (by kernel_rfl) rfl (by kernel_rfl) rfl qab ?_
 simp
theorem qt4 (z:Nat) (rows:List (List PV)):HFn Tryz.prog 31 [.sl z rows] [] (.int .i64 rows.length) []:=by
 refine qaa hm Tryz.func31 (by kernel_rfl) rfl (by kernel_rfl) rfl qab ?_
 simp
theorem qt5 (z:Nat) (rows:List (List PV)):HFn Tryz.prog 32 [.sl z rows] [] (.int .i64 rows.length) []:=by
 refine qaa hm Tryz.func32 (by kernel_rfl) rfl (by kernel_rfl) rfl qab ?_
 simp
theorem qt6 (z:Nat) (rows:List (List PV)):HFn Tryz.prog 33 [.sl z rows] [] (.int .i64 rows.length) []:=by
 refine qaa hm Tryz.func33 (by kernel_rfl) rfl (by kernel_rfl) rfl qab ?_
 simp
theorem qt7 (z:Nat) (rows:List (List PV)):HFn Tryz.prog 34 [.sl z rows] [] (.int .i64 rows.length) []:=by
 refine qaa hm Tryz.func34 (by kernel_rfl) rfl (by kernel_rfl) rfl qab ?_
 simp
def qb2:List (List UInt8):=[[105,110,103,111,116,115],[109,101,108,116,115],[98,101,108,108,115],[104,117,110,103],[107,101,121,115],[116,111,110,101,115],[111,114,100,101,114,115],[114,101,99,111,114,100,115],[116,114,111,117,98,108,101,115]]
def qel (d:Desk) (n:Nat) (k:Nat):List Int:=[d.carillon.ingots.length,d.carillon.melts.length,d.carillon.bells.length,d.carillon.hung.length,d.carillon.clavier.length,d.carillon.tune.tones.length,d.orders.length,n,k]
def repL (ns:List Int):List (List UInt8):=List.zipWith (fun w n=>w++(32::Lib.itoa n)) qb2 ns
def dkC (d:Desk):Int:=if qc9 d=true then 0 else 1
def dkR (d:Desk):List (List UInt8):=if qc9 d=true then repL (qel d (actL d.records d.records.length).length (allL d.carillon).length) else []
theorem qmh {ns:List Int} (h:ns.length=9) {i:Nat} (hi:i<9):∃(h1:i<qb2.length) (h2:i<ns.length),(repL ns).take (i+1)=(repL ns).take i++[qb2[i]++(32::Lib.itoa ns[i])]:=by
 have h1:i<qb2.length:=hi
 have h2:i<ns.length:=by omega
 refine⟨h1,h2,?_⟩
 rw[List.take_add_one]
 congr 1
 unfold repL
 rw[List.getElem?_zipWith,List.getElem?_eq_getElem h1,List.getElem?_eq_getElem h2]
 rfl
theorem qfy {ns:List Int} (h:ns.length=9):(repL ns).length=9:=by
 unfold repL
 rw[List.length_zipWith,h]
 rfl
theorem qmi (i:Nat) (h:i<qb2.length):qb2[i].length≤10:=(by decide:∀i (h:i<qb2.length),qb2[i].length≤10) i h
theorem qmj {d:Desk} {n k:Nat} {ns:List Int} (hs:d.small) (h1:n≤2000000) (h2:k≤2000000) (h:ns=qel d n k):∀x∈ns,0≤x∧x≤2000000:=fun x hx=>by
 subst h
 have a1:=hs.car.ingots
 have a2:=hs.car.melts
 have a3:=hs.car.bells
 have a4:=hs.car.hung
 have a5:=hs.car.clavier
 have a6:=hs.car.tones
 have a7:=hs.orders
 simp only[qel,List.mem_cons,List.not_mem_nil,or_false]at hx
 rcases hx with rfl | rfl | rfl | rfl | rfl | rfl | rfl | rfl | rfl<;>omega
set_option maxHeartbeats 8000000 in
theorem qt8 (d:Desk) (hs:d.small) (hw:d.wf):HFn Tryz.prog 7 [.agg d.cells] [] (.tup [.sf 0 1, .int .i64 (dkC d)]) [some (.arr 1 (qae (dkR d)))]:=by
 have kV:=qro d hs hw
 simp only[Desk.cells]at kV
 cases hv:qc9 d
 ·rw[hv]at kV
  refine qaa hm Tryz.func7 (by kernel_rfl) rfl (by kernel_rfl) rfl (fun _ _ h=>h) ?_
  simp[Desk.cells]
  refine CallZ.use0 kV rfl rfl ?_
  simp
  refine (qco (t:=0) 0 1 rfl rfl).trans (Wk.weak (ρ:=[1]) (φ:=[]) ?_)
  simp[dkC,dkR,hv,qae]
 obtain⟨⟨hcv,hov⟩,hrv⟩:(carOk d.carillon=true∧qcH d.orders=true)∧qcP d.records=true:=by simpa[qc9,Bool.and_eq_true]using hv
 have hc:=qfp hs.car hcv
 have kA:=qtW d.carillon hs.car
 have kR:=qhC d.records hs.records
 have hL:=(qh8 hc).2.2
 have hn:=qgi d.records d.records.length
 have hr:=hs.records
 simp only[auR,auC,hcv,if_true,Carillon.cells]at kA
 rw[hv]at kV
 generalize hT:actL d.records d.records.length=T at *
 generalize hX:allL d.carillon=X at *
 obtain⟨ns,hns⟩:∃ns,ns=qel d T.length X.length:=⟨_,rfl⟩
 have n9:ns.length=9:=by rw[hns]; rfl
 have nb:=qmj (ns:=ns) hs (by omega) (by omega) hns
 refine qaa hm Tryz.func7 (by kernel_rfl) rfl (by kernel_rfl) rfl (fun _ _ h=>h) ?_
 simp[Desk.cells]
 refine CallZ.use0 kV rfl rfl ?_
 simp
 refine CallZ.use kR rfl (.inr ⟨qcc _,trivial⟩) rfl rfl ?_
 simp
 refine CallZ.use kA rfl (.inr ⟨Trouble.flat _,trivial⟩) rfl rfl ?_
 simp
 refine CallZ.use0 (qtZ _ _) rfl rfl ?_
 simp
 refine CallZ.use0 (qt0 _ _) rfl rfl ?_
 simp
 refine CallZ.use0 (qt1 _ _) rfl rfl ?_
 simp
 refine CallZ.use0 (qt2 _ _) rfl rfl ?_
 simp
 refine CallZ.use0 (qt3 _ _) rfl rfl ?_
 simp
 refine CallZ.use0 (qt4 _ _) rfl rfl ?_
 simp
 refine CallZ.use0 (qt5 _ _) rfl rfl ?_
 simp
 refine CallZ.use0 (qt6 _ _) rfl rfl ?_
 simp
 refine CallZ.use0 (qt7 _ _) rfl rfl ?_
 simp[Ingot.rows_len,Melt.rows_len,Bell.rows_len,Hung.rows_len,Action.rows_len,Tone.rows_len,Order.rows_len,qao,Trouble.rows_len]
 refine qac hm 9 (fun i=>⟨[(10, .sf 1 1),(11, .sf 2 1),(58, .sf 0 1),(59, .int .i64 9),(60, .int .i64 i)],[some (.arr 1 (qae qb2)),some (.arr 1 (qad ns)),some (.arr 1 (qae ((repL ns).take i)))]⟩) (fun _=>True) (by kernel_rfl) ?_ trivial (fun i hi _ =>?_) (fun _ =>?_)
 ·refine (qaA (t:=11) (z:=1) rfl).trans (Wk.weak (ρ:=[4,5,6]) (φ:=[]) ?_)
  simp[qb2,qae,qad,hns,qel]
 ·have w1:IntKind.i64.wrap ((i:Int)+1)=(i:Int)+1:=w64 (by omega) (by omega)
  obtain⟨q1,q2,e⟩:=qmh n9 hi
  have rw1:=qmi i q1
  have nb1:=nb _ (List.getElem_mem q2)
  have it:=qgB (n:=ns[i]) ⟨by omega,by omega⟩
  have tl:((repL ns).take i).length≤9:=by rw[List.length_take,qfy n9]; omega
  rw[e]
  generalize (repL ns).take i=Y at tl ⊢
  simp[qaF,qdk,qao,qbN,q1,q2,show (i:Int)<9 by omega]
  refine⟨by omega,?_⟩
  refine CallZ.use0 (qlX ns[i] ⟨by omega,by omega⟩) rfl rfl ?_
  simp[qaF]
  refine⟨by omega,by simp[rowsOne],by omega,by omega,Wk.weak (ρ:=[0,1,2]) (φ:=[]) ?_⟩
  simp[w1,qae]
 ·simp
  refine Wk.weak (ρ:=[2]) (φ:=[]) ?_
  simp[dkC,dkR,hv,hT,hX,←hns,List.take_of_length_le (Nat.le_of_eq (qfy n9))]
set_option maxHeartbeats 8000000 in
theorem qt9 (d:Desk) (hs:d.small) (hw:d.wf):HFn Tryz.prog 5 [.agg d.cells] [] (.tup [.sf 0 1, .int .i64 (dkC d)]) [some (.arr 1 (qae (dkR d)))]:=by
 have kV:=qrp d hs hw
 simp only[Desk.cells]at kV
 cases hv:qc9 d
 ·rw[hv]at kV
  refine qaa hm Tryz.func5 (by kernel_rfl) rfl (by kernel_rfl) rfl (fun _ _ h=>h) ?_
  simp[Desk.cells]
  refine CallZ.use0 kV rfl rfl ?_
  simp
  refine (qco (t:=0) 0 1 rfl rfl).trans (Wk.weak (ρ:=[1]) (φ:=[]) ?_)
  simp[dkC,dkR,hv,qae]
 obtain⟨⟨hcv,hov⟩,hrv⟩:(carOk d.carillon=true∧qcH d.orders=true)∧qcP d.records=true:=by simpa[qc9,Bool.and_eq_true]using hv
 have hc:=qfp hs.car hcv
 have kA:=qtY d.carillon hs.car
 have kR:=qhD d.records d.records.length (Nat.le_refl _) hs.records
 have hL:=(qh8 hc).2.2
 have hn:=qgi d.records d.records.length
 have hr:=hs.records
 simp only[auR,auC,hcv,if_true,Carillon.cells]at kA
 rw[hv]at kV
 generalize hT:actL d.records d.records.length=T at *
 generalize hX:allL d.carillon=X at *
 obtain⟨ns,hns⟩:∃ns,ns=qel d T.length X.length:=⟨_,rfl⟩
 have n9:ns.length=9:=by rw[hns]; rfl
 have nb:=qmj (ns:=ns) hs (by omega) (by omega) hns
 refine qaa hm Tryz.func5 (by kernel_rfl) rfl (by kernel_rfl) rfl (fun _ _ h=>h) ?_
 simp[Desk.cells]
 refine CallZ.use0 kV rfl rfl ?_
 simp[Record.rows_len]
 refine CallZ.use kR rfl (.inr ⟨qcc _,trivial⟩) rfl rfl ?_
 simp
 refine CallZ.use kA rfl (.inr ⟨Trouble.flat _,trivial⟩) rfl rfl ?_
 simp[Ingot.rows_len,Melt.rows_len,Bell.rows_len,Hung.rows_len,Action.rows_len,Tone.rows_len,Order.rows_len,qao,Trouble.rows_len]
 refine qac hm 9 (fun i=>⟨[(9, .sf 0 1),(10, .sf 1 1),(11, .sf 2 1),(12, .int .i64 i)],[some (.arr 1 (qae qb2)),some (.arr 1 (qad ns)),some (.arr 1 (qae ((repL ns).take i)))]⟩) (fun _=>True) (by kernel_rfl) ?_ trivial (fun i hi _ =>?_) (fun _ =>?_)
 ·refine (qaA (t:=11) (z:=1) rfl).trans (Wk.weak (ρ:=[3,4,5]) (φ:=[]) ?_)
  simp[qb2,qae,qad,hns,qel]
 ·have w1:IntKind.i64.wrap ((i:Int)+1)=(i:Int)+1:=w64 (by omega) (by omega)
  obtain⟨q1,q2,e⟩:=qmh n9 hi
  have rw1:=qmi i q1
  have nb1:=nb _ (List.getElem_mem q2)
  have it:=qgB (n:=ns[i]) ⟨by omega,by omega⟩
  have tl:((repL ns).take i).length≤9:=by rw[List.length_take,qfy n9]; omega
  have rl:(qae qb2).length=9:=rfl
  rw[e]
  generalize (repL ns).take i=Y at tl ⊢
  simp[rl,qdk,qao,qbN,q2,hi,show (i:Int)<9 by omega]
  refine⟨by omega,?_⟩
  refine CallZ.use0 (qlW ns[i] ⟨by omega,by omega⟩) rfl rfl ?_
  simp[qaF]
  refine⟨by omega,by simp[rowsOne],rfl,by omega,by omega,Wk.weak (ρ:=[0,1,2]) (φ:=[]) ?_⟩
  simp[w1,qae]
 ·have rl:(qae qb2).length=9:=rfl
  simp[rl]
  refine Wk.weak (ρ:=[2]) (φ:=[]) ?_
  simp[dkC,dkR,hv,hT,hX,←hns,List.take_of_length_le (Nat.le_of_eq (qfy n9))]
end Go.Proofs.YteckngloamnfdaaGreatDoor
namespace Go.Proofs.YteckngloamnfdaaGreatDoor
open Go Go.Ab
set_option maxRecDepth 100000
def deskV (c:Carillon) (u:CarV) (a b:Value):List PV:=u.cells c++[.raw a, .raw b]
theorem qh9 (c:Carillon) (u:CarV) (a b:Value):∀x∈deskV c u a b,pureP x=true:=by
 intro x hx
 unfold deskV at hx
 rcases List.mem_append.1 hx with h | h
 ·exact u.cells_pure c x h
 ·simp at h
  rcases h with rfl | rfl<;>rfl
def DeskR (d:Desk) (v:Value) (L:List Pind):Prop:=(∃Ls o1 o2,L=CarL.all Ls++([⟨5,Order.rows d.orders,partV 20 v,o1⟩]++[⟨3,Record.rows d.records,partV 21 v,o2⟩])∧CarP d.carillon (carV v) Ls)∧∀A w,RepI A w (.agg (deskV d.carillon (carV v) (partV 20 v) (partV 21 v))) v
def zd:List PV:=zc++[.nils, .nils]
def qmk (u:CarV):Prop:=u.u0.oneCell'=true∧u.u1.oneCell'=true∧u.u2.oneCell'=true∧u.u3.oneCell'=true∧u.u4.oneCell'=true∧u.u5.oneCell'=true∧u.u6.oneCell'=true∧u.u7.oneCell'=true
theorem qua {c:Carillon} {u:CarV} {x y v:Value} {A:Nat→Prop} {w:World} (h:RepI A w (.agg (deskV c u x y)) v):carV v=u∧partV 20 v=x∧partV 21 v=y:=by
 cases h with
 | agg _ us hl hh =>
  have key:∀(i:Nat) (z:Value),(deskV c u x y)[i]?=some (.raw z)→us.getD i undef=z:=fun i z hi=>by
   have:=hh i _ hi
   generalize us.getD i undef=q at this
   cases this
   rfl
  cases u
  simp only[carV,partV]
  rw[key 0 _ rfl,key 1 _ rfl,key 2 _ rfl,key 3 _ rfl,key 7 _ rfl,key 14 _ rfl,key 17 _ rfl,key 19 _ rfl,key 20 _ rfl,key 21 _ rfl]
  exact⟨rfl,rfl,rfl⟩
set_option maxHeartbeats 4000000 in
theorem qub (d:Desk) (h:d.sz≤1048576):NCopy Tryz.prog 6 [.agg d.cells] (DeskR d):=fun A w vs hA hvs hargs=>by
 have ⟨h0,h1,h2⟩:d.carillon.sz≤1048576∧Order.szS d.orders≤1048576∧Record.szS d.records≤1048576:=by
  unfold Desk.sz at h
  refine⟨?_,?_,?_⟩<;>omega
 refine (qcz (M:=noB) (gh:=fun _=>undef) (R:=fun v w'=>∃L,Moved noB w w'∧Pinds w' L∧(∀b,pindB L b→w.heap.size≤b)∧DeskR d v L) Tryz.func6 (by kernel_rfl) rfl (by kernel_rfl) (by kernel_rfl) hA hvs hargs fun a hI =>?_).mono fun e w' ⟨v,he,L,h1⟩=>⟨v,L,he,h1⟩
 refine wp_seq ?_
 refine qaf hm (S1:=⟨[(1, .pb 0 0),(2, .pb 1 0)],[some (.box d.cells),some (.box zd)]⟩) (by kernel_rfl) (InvP.nil hI) ?_ fun a1 w1 A1 m1 hI1 =>?_
 ·simp[Desk.cells,zd,zc]
  exact Wk.weak (ρ:=[0,1]) (φ:=[]) (by simp)
 refine wp_seq ?_
 refine qaf hm (S1:=⟨[(1, .pb 0 0),(2, .pb 1 0),(3, .pb 2 0)],[some (.box d.cells),some (.box zd),some (.box zd)]⟩) (by kernel_rfl) hI1 ?_ fun a2 w2 A2 m2 hI2 =>?_
 ·simp[Desk.cells,zd,zc]
  exact Wk.weak (ρ:=[0,1,2]) (φ:=[]) (by simp)
 refine wp_seq ?_
 refine copyP (t:=5) (d:=6) (p := .agg d.carillon.cells) (pv:=fun v => .agg ((carV v).cells d.carillon)) (R:=CarR d.carillon) (S1:=⟨[(5, .agg d.carillon.cells),(1, .pb 0 0),(2, .pb 1 0),(3, .pb 2 0)],[some (.box d.cells),some (.box zd),some (.box zd)]⟩) (S2:=fun v=>⟨[(1, .pb 0 0),(2, .pb 1 0),(3, .pb 2 0)],[some (.box d.cells),some (.box zd),some (.box ((carV v).cells d.carillon++[.nils, .nils]))]⟩)
  (C:=fun v=>qmk (carV v)) 2 (by kernel_rfl) hI2 rfl rfl rfl rfl (by decide) (by decide) (qrP d.carillon h0) (by simp[Carillon.cells]) rfl (fun _ _ hr=>hr.2) (fun v L' w hr hp =>?_) ?_ (fun v ho =>?_) fun v L3 a3 w3 A3 m3 ho3 hr hI3 =>?_
 ·obtain⟨⟨Ls,rfl,hP⟩,_⟩:=hr
  exact hP.ones hp
 ·simp[Desk.cells,Carillon.cells,zd,zc]
  exact Wk.weak (ρ:=[0,1,2]) (φ:=[]) (by simp)
 ·obtain⟨o0,o1,o2,o3,o4,o5,o6,o7⟩:=ho
  simp[Desk.cells,zd,zc,CarV.cells,o0,o1,o2,o3,o4,o5,o6,o7]
  exact Wk.weak (ρ:=[0,1,2]) (φ:=[]) (by simp)
 obtain⟨⟨Ls,rfl,hP⟩,hrv⟩:=hr
 generalize carV v=u at *
 refine wp_seq ?_
 refine copyP (t:=9) (d:=10) (pv:=fun v => .raw v) (R:=fun v L=>∃ob,L=[⟨5,Order.rows d.orders,v,ob⟩]) (S1:=⟨[(9, .sl 5 (Order.rows d.orders)),(1, .pb 0 0),(2, .pb 1 0),(3, .pb 2 0)],[some (.box d.cells),some (.box zd),some (.box (u.cells d.carillon++[.nils, .nils]))]⟩) (S2:=fun x=>⟨[(1, .pb 0 0),(2, .pb 1 0),(3, .pb 2 0)],[some (.box d.cells),some (.box zd),some (.box (u.cells d.carillon++[.raw x, .nils]))]⟩)
  2 (by kernel_rfl) hI3 rfl rfl rfl rfl (by decide) (by decide) (NCopy.flat (qjS d.orders (by unfold Order.szS at h1; omega)) (qa6 (Order.flat _))) rfl rfl (fun _ _ _ _ _ => .raw _) (C:=fun v=>v.oneCell'=true) (fun _ _ _ hr hp=>qda hr hp) ?_ (fun x ho =>?_) fun x L4 a4 w4 A4 m4 ho4 hr4 hI4 =>?_
 ·simp[Desk.cells,CarV.cells,zd,zc]
  exact Wk.weak (ρ:=[0,1,2]) (φ:=[]) (by simp)
 ·simp[Desk.cells,CarV.cells,zd,zc,ho]
  exact Wk.weak (ρ:=[0,1,2]) (φ:=[]) (by simp)
 refine wp_seq ?_
 refine copyP (t:=13) (d:=14) (pv:=fun v => .raw v) (R:=fun v L=>∃ob,L=[⟨3,Record.rows d.records,v,ob⟩]) (S1:=⟨[(13, .sl 3 (Record.rows d.records)),(1, .pb 0 0),(2, .pb 1 0),(3, .pb 2 0)],[some (.box d.cells),some (.box zd),some (.box (u.cells d.carillon++[.raw x, .nils]))]⟩) (S2:=fun y=>⟨[(1, .pb 0 0),(2, .pb 1 0),(3, .pb 2 0)],[some (.box d.cells),some (.box zd),some (.box (deskV d.carillon u x y))]⟩)
  2 (by kernel_rfl) hI4 rfl rfl rfl rfl (by decide) (by decide) (NCopy.flat (qjT d.records (by unfold Record.szS at h2; omega)) (qa6 (Record.flat _))) rfl rfl (fun _ _ _ _ _ => .raw _) (C:=fun v=>v.oneCell'=true) (fun _ _ _ hr hp=>qda hr hp) ?_ (fun y ho =>?_) fun y L5 a5 w5 A5 m5 ho5 hr5 hI5 =>?_
 ·simp[Desk.cells,CarV.cells,zd,zc]
  exact Wk.weak (ρ:=[0,1,2]) (φ:=[]) (by simp)
 ·simp[Desk.cells,CarV.cells,zd,zc,ho,deskV]
  exact Wk.weak (ρ:=[0,1,2]) (φ:=[]) (by simp)
 refine wp_seq ?_
 refine qaf hm (S1:=⟨[(2, .pb 0 0)],[some (.box (deskV d.carillon u x y))]⟩) (by kernel_rfl) hI5 ?_ fun a6 w6 A6 m6 hI6 =>?_
 ·obtain⟨o0,o1,o2,o3,o4,o5,o6,o7⟩:=ho3
  simp[zd,zc,deskV,CarV.cells,o0,o1,o2,o3,o4,o5,o6,o7,ho4,ho5]
  exact Wk.weak (ρ:=[1]) (φ:=[]) (by simp)
 refine wp_ret ⟨.inr rfl,_,_,_,hI6.inv,?_,fun r hr =>?_⟩
 ·refine⟨?_,trivial⟩
  simp[qe9,deskV,CarV.cells]
 obtain⟨ob1,rfl⟩:=hr4
 obtain⟨ob2,rfl⟩:=hr5
 simp[retV,retV1,deskV,CarV.cells]at hr
 have hI7:=hI6.perm (L':=CarL.all Ls++([⟨5,Order.rows d.orders,x,ob1⟩]++[⟨3,Record.rows d.records,y,ob2⟩])) (by
  classical
  refine List.perm_iff_count.2 fun q =>?_
  simp only[List.count_append,List.count_nil]
  omega)
 have hr':∀A w,RepI A w (.agg (deskV d.carillon u x y)) r:=fun A w=>qdP hr (qh9 d.carillon u x y)
 obtain⟨e1,e2,e3⟩:=qua (hr' noB default)
 refine⟨_,hI7.inv.moved,hI7.pin,fun b hb=>((hI7.off b hb).2.2).resolve_left fun h=>h,⟨Ls,ob1,ob2,?_,?_⟩,fun A w =>?_⟩
 ·rw[e2,e3]
 ·rw[e1]
  exact hP
 ·rw[e1,e2,e3]
  exact hr' A w
def Desk.cntD (d:Desk):Nat:=d.carillon.o8+5*d.orders.length+3*d.records.length
def Desk.mk' (k:Int) (d:Desk):Desk:=⟨d.carillon.mk' k,Order.marks (k+(d.carillon.o8:Int)) d.orders.length,Record.marks (k+(d.carillon.o8:Int)+5*d.orders.length) d.records.length⟩
theorem Desk.cntD_le (d:Desk):d.cntD≤5*d.sz:=by
 have:=d.carillon.o8_le
 unfold Desk.cntD Desk.sz Order.szS Record.szS
 omega
set_option maxHeartbeats 4000000 in
theorem quc (d:Desk) (u:CarV) (x y:Value) (Ls:CarL) (o1 o2:Option Nat) (hP:CarP d.carillon u Ls) (k:Int) (hk:0≤k) (hb:k+(d.cntD:Int)≤1000000000) (v:Value) (hv:∀A w,RepI A w (.agg (deskV d.carillon u x y)) v) :
  NMark Tryz.prog 10 v k (k+(d.cntD:Int)) (CarL.all Ls++([⟨5,Order.rows d.orders,x,o1⟩]++[⟨3,Record.rows d.records,y,o2⟩])) fun L'=>∃Ls',L'=CarL.all Ls'++([⟨5,Order.rows (d.mk' k).orders,x,o1⟩]++[⟨3,Record.rows (d.mk' k).records,y,o2⟩])∧CarP (d.mk' k).carillon u Ls':=by
 have e3:k+(d.cntD:Int)=k+(d.carillon.o8:Int)+5*(d.orders.length:Int)+3*(d.records.length:Int):=by unfold Desk.cntD; omega
 refine qhI Tryz.func10 (by kernel_rfl) rfl (by kernel_rfl) (by kernel_rfl) hv fun A w a hL hI =>?_
 obtain⟨s1,s2,_⟩:=hL.sub
 obtain⟨s3,s4,_⟩:=s2.sub
 obtain⟨p0,p1,p2,p3,p4,p5,p6,p7⟩:=hP.ones s1
 have px:=(s3.at_ _ (List.mem_singleton_self _)).1.one
 have py:=(s4.at_ _ (List.mem_singleton_self _)).1.one
 refine wp_seq ?_
 refine qaf hm (S1:=⟨[(1, .int .i64 k),(2, .pb 0 0)],[some (.box (deskV d.carillon u x y))]⟩) (by kernel_rfl) hI ?_ fun a0 w0 A0 m0 hI0 =>?_
 ·simp[deskV,CarV.cells,p0,p1,p2,p3,p4,p5,p6,p7,px,py]
  exact Wk.weak (ρ:=[0]) (φ:=[]) (by simp)
 refine wp_seq ?_
 refine markP (L1:=[]) (L0:=CarL.all Ls) (L2:=[⟨5,Order.rows d.orders,x,o1⟩]++[⟨3,Record.rows d.records,y,o2⟩]) (t:=6) (t':=7) (d:=8) (pv := .agg (u.cells d.carillon)) (k:=k) (k':=k+(d.carillon.o8:Int)) (R:=fun L'=>∃Ls',L'=CarL.all Ls'∧CarP (d.carillon.mk' k) u Ls') (S1:=⟨(6, .agg (u.cells d.carillon))::(7, .int .i64 k)::[(1, .int .i64 k),(2, .pb 0 0)],[some (.box (deskV d.carillon u x y))]⟩) (S2:=⟨[(1, .int .i64 (k+(d.carillon.o8:Int))),(2, .pb 0 0)],[some (.box (deskV d.carillon u x y))]⟩) 3 (by kernel_rfl) hI0 rfl rfl rfl rfl (by decide) (by decide) (by decide) (fun v hv=>qrZ d.carillon u Ls hP k hk (by omega) v hv) (fun hr=>qdP hr (u.cells_pure _)) rfl rfl ?_ ?_ fun g1 a1 w1 A1 m1 r1 hI1 =>?_
 ·simp[deskV,CarV.cells]
  exact Wk.weak (ρ:=[0]) (φ:=[]) (by simp)
 ·simp[deskV,CarV.cells]
  exact Wk.weak (ρ:=[0]) (φ:=[]) (by simp)
 obtain⟨Ls',rfl,hP'⟩:=r1
 show Code.wp _ _ _ _ _
 refine wp_seq ?_
 refine markP (L1:=CarL.all Ls') (L0:=[⟨5,Order.rows d.orders,x,o1⟩]) (L2:=[⟨3,Record.rows d.records,y,o2⟩]) (t:=10) (t':=11) (d:=12) (pv := .raw x) (k:=k+(d.carillon.o8:Int)) (k':=k+(d.carillon.o8:Int)+5*(d.orders.length:Int)) (R:=fun L'=>L'=[⟨5,Order.rows (Order.marks (k+(d.carillon.o8:Int)) d.orders.length),x,o1⟩]) (S1:=⟨(10, .raw x)::(11, .int .i64 (k+(d.carillon.o8:Int)))::[(1, .int .i64 (k+(d.carillon.o8:Int))),(2, .pb 0 0)],[some (.box (deskV d.carillon u x y))]⟩) (S2:=⟨[(1, .int .i64 (k+(d.carillon.o8:Int)+5*(d.orders.length:Int))),(2, .pb 0 0)],[some (.box (deskV d.carillon u x y))]⟩) 3 (by kernel_rfl) hI1 rfl rfl rfl rfl (by decide) (by decide) (by decide) (fun v hv =>?_) (fun hr=>qbm rfl hr) rfl rfl ?_ ?_ fun g2 a2 w2 A2 m2 r2 hI2 =>?_
 ·obtain rfl:v=x:=by
   have:=hv noB default
   cases this
   rfl
  exact NMark.flat (qpf d.orders (k+(d.carillon.o8:Int)) (by omega) (by omega)) (by simp[Order.rows,Order.marks]) (qa6 (Order.flat _))
 ·simp[deskV,CarV.cells]
  exact Wk.weak (ρ:=[0]) (φ:=[]) (by simp)
 ·simp[deskV,CarV.cells]
  exact Wk.weak (ρ:=[0]) (φ:=[]) (by simp)
 subst r2
 show Code.wp _ _ _ _ _
 refine wp_seq ?_
 refine markP (L1:=CarL.all Ls'++[⟨5,Order.rows (Order.marks (k+(d.carillon.o8:Int)) d.orders.length),x,o1⟩]) (L0:=[⟨3,Record.rows d.records,y,o2⟩]) (L2:=[]) (t:=14) (t':=15) (d:=16) (pv := .raw y) (k:=k+(d.carillon.o8:Int)+5*(d.orders.length:Int)) (k':=k+(d.cntD:Int)) (R:=fun L'=>L'=[⟨3,Record.rows (Record.marks (k+(d.carillon.o8:Int)+5*(d.orders.length:Int)) d.records.length),y,o2⟩]) (S1:=⟨(14, .raw y)::(15, .int .i64 (k+(d.carillon.o8:Int)+5*(d.orders.length:Int)))::[(1, .int .i64 (k+(d.carillon.o8:Int)+5*(d.orders.length:Int))),(2, .pb 0 0)],[some (.box (deskV d.carillon u x y))]⟩) (S2:=⟨[(1, .int .i64 (k+(d.cntD:Int)))],[]⟩) 3 (by kernel_rfl) (hI2.as (by simp)) rfl rfl rfl rfl (by decide) (by decide) (by decide) (fun v hv =>?_) (fun hr=>qbm rfl hr) rfl rfl ?_ ?_ fun g3 a3 w3 A3 m3 r3 hI3 =>?_
 ·obtain rfl:v=y:=by
   have:=hv noB default
   cases this
   rfl
  rw[e3]
  exact NMark.flat (qpm d.records (k+(d.carillon.o8:Int)+5*(d.orders.length:Int)) (by omega) (by omega)) (by simp[Record.rows,Record.marks]) (qa6 (Record.flat _))
 ·simp[deskV,CarV.cells]
  exact Wk.weak (ρ:=[0]) (φ:=[]) (by simp)
 ·simp
  exact Wk.weak (ρ:=[]) (φ:=[]) (by simp)
 subst r3
 show Code.wp _ _ _ _ _
 refine wp_seq ?_
 refine qaf hm (S1:=⟨[(4, .int .i64 (k+(d.cntD:Int)))],[]⟩) (by kernel_rfl) hI3 ?_ fun a9 w9 A9 m9 hI9 =>?_
 ·simp
  exact Wk.weak (ρ:=[]) (φ:=[]) (by simp)
 refine wp_ret ⟨.inr rfl,_,_,_,_,hI9,⟨trivial,trivial⟩,rfl,Ls',?_,hP'⟩
 simp[Desk.mk']
end Go.Proofs.YteckngloamnfdaaGreatDoor
namespace Go.Proofs.YteckngloamnfdaaGreatDoor
open Go Go.Ab
set_option maxRecDepth 100000
theorem qud (d:Desk):(dkR d).length≤9:=by
 unfold dkR
 split
 ·exact Nat.le_of_eq (qfy rfl)
 ·exact Nat.zero_le _
theorem que {d:Desk} {u:CarV} {x y:Value} {Ls:CarL} {o1 o2:Option Nat} {w:World} {F:Nat→Prop} {v:Value} (h:CarP d.carillon u Ls) (hp:Pinds w (CarL.all Ls++([⟨5,Order.rows d.orders,x,o1⟩]++[⟨3,Record.rows d.records,y,o2⟩]))) (hF:∀b,pindB (CarL.all Ls++([⟨5,Order.rows d.orders,x,o1⟩]++[⟨3,Record.rows d.records,y,o2⟩])) b→F b)
  (hv:RepI F w (.agg (deskV d.carillon u x y)) v):RepI F w (.agg d.cells) v:=by
 obtain⟨h0,h1,h2,h3,h4,h5,h6,h7⟩:=h.read hp.sub.1 fun b hb=>hF b (by rw[qau]; exact .inl hb)
 have flat:∀ {z:Nat} {rows:List (List PV)} {t:Value} {o:Option Nat},(⟨z,rows,t,o⟩:Pind)∈CarL.all Ls++([⟨5,Order.rows d.orders,x,o1⟩]++[⟨3,Record.rows d.records,y,o2⟩])→RepI F w (.sl z rows) t:=fun hm=>by
  obtain⟨ho,hpr⟩:=hp.at_ _ hm
  exact ho.plain (fun b e=>hF b ⟨_,hm,e⟩) hpr
 have h8:RepI F w (.sl 5 (Order.rows d.orders)) x:=flat (o:=o1) (by simp)
 have h9:RepI F w (.sl 3 (Record.rows d.records)) y:=flat (o:=o2) (by simp)
 cases hv with
 | agg _ us hl hh =>
  have key:∀(i:Nat) (x':Value),(deskV d.carillon u x y)[i]?=some (.raw x')→us.getD i undef=x':=fun i x' hi=>by
   have:=hh i _ hi
   generalize us.getD i undef=y' at this
   cases this
   rfl
  refine .agg _ us (by rw[hl]; rfl) fun i p hi =>?_
  match i with
  | 0=>cases hi; rw[key 0 _ rfl]; exact h0
  | 1=>cases hi; rw[key 1 _ rfl]; exact h1
  | 2=>cases hi; rw[key 2 _ rfl]; exact h2
  | 3=>cases hi; rw[key 3 _ rfl]; exact h3
  | 4=>cases hi; exact hh 4 _ rfl
  | 5=>cases hi; exact hh 5 _ rfl
  | 6=>cases hi; exact hh 6 _ rfl
  | 7=>cases hi; rw[key 7 _ rfl]; exact h4
  | 8=>cases hi; exact hh 8 _ rfl
  | 9=>cases hi; exact hh 9 _ rfl
  | 10=>cases hi; exact hh 10 _ rfl
  | 11=>cases hi; exact hh 11 _ rfl
  | 12=>cases hi; exact hh 12 _ rfl
  | 13=>cases hi; exact hh 13 _ rfl
  | 14=>cases hi; rw[key 14 _ rfl]; exact h5
  | 15=>cases hi; exact hh 15 _ rfl
  | 16=>cases hi; exact hh 16 _ rfl
  | 17=>cases hi; rw[key 17 _ rfl]; exact h6
  | 18=>cases hi; exact hh 18 _ rfl
  | 19=>cases hi; rw[key 19 _ rfl]; exact h7
  | 20=>cases hi; rw[key 20 _ rfl]; exact h8
  | 21=>cases hi; rw[key 21 _ rfl]; exact h9
  | i+22=>simp[Desk.cells]at hi
set_option maxHeartbeats 4000000 in
theorem quf (a:Desk) (ha:a.wf):HFn Tryz.prog 3 [.agg a.cells] [] (.bool true) []:=qrB (by simp[Desk.cells]) fun A w vs hA hvs hargs=>by
 have kZ:=qpn a 1048576 (by omega) ha
 have kEa:=qjU a ha
 refine (qcz (M:=noB) (gh:=fun _=>undef) (R:=fun v w'=>Moved noB w w'∧∀A',RepI A' w' (.bool true) v) Tryz.func3 (by kernel_rfl) rfl (by kernel_rfl) (by kernel_rfl) hA hvs hargs fun a0 hI =>?_).mono fun e w' ⟨v,he,hm,hr⟩=>⟨v,he,hm,hr _⟩
 refine wp_seq ?_
 refine qaf hm (S1:=⟨[(1, .pb 0 0)],[some (.box a.cells)]⟩) (by kernel_rfl) (InvP.nil hI) ?_ fun a1 w1 A1 m1 hI1 =>?_
 ·simp[Desk.cells]
  exact Wk.weak (ρ:=[0]) (φ:=[]) (by simp)
 refine wp_seq ?_
 refine qaf hm (S1:=⟨[(1, .pb 0 0),(3, .int .i64 1048576)],[some (.box a.cells)]⟩) (by kernel_rfl) hI1 ?_ fun a2 w2 A2 m2 hI2 =>?_
 ·simp[Desk.cells]
  exact Wk.weak (ρ:=[0]) (φ:=[]) (by simp)
 refine wp_seq ?_
 simp only[Desk.cells]at kZ kEa
 refine qaf hm (S1:=⟨[(1, .pb 0 0),(3, .int .i64 (szR a.sz 1048576))],[some (.box a.cells)]⟩) (by kernel_rfl) hI2 ?_ fun a3 w3 A3 m3 hI3 =>?_
 ·simp[Desk.cells]
  refine CallZ.use0 kZ rfl rfl ?_
  simp
  exact Wk.weak (ρ:=[0]) (φ:=[]) (by simp)
 refine wp_seq (wp_seq ?_)
 refine qaf hm (S1:=⟨[(18, .bool (decide (szR a.sz 1048576<0))),(1, .pb 0 0)],[some (.box a.cells)]⟩) (by kernel_rfl) hI3 ?_ fun a4 w4 A4 m4 hI4 =>?_
 ·simp
  exact Wk.weak (ρ:=[0]) (φ:=[]) (by simp[Desk.cells])
 refine wp_cond_split (t:=decide (szR a.sz 1048576<0)) (qdj hI4.inv rfl (by decide)) (fun ht =>?_) fun ht=>wp_skip ?_
 ·refine wp_seq ?_
  refine qaf hm (S1:=⟨[(2, .bool true)],[]⟩) (by kernel_rfl) hI4 ?_ fun a5 w5 A5 m5 hI5 =>?_
  ·simp
   exact Wk.weak (ρ:=[]) (φ:=[]) (by simp[Desk.cells])
  exact wp_ret ⟨.inr rfl,_,_,_,hI5.inv,⟨trivial,trivial⟩,fun v hv=>⟨hI5.inv.moved,fun A'=>qbm (p := .bool true) rfl hv⟩⟩
 have h1':=qaI (show 0≤szR a.sz 1048576 by have:=of_decide_eq_false ht; omega)
 have hsz:a.sz≤1048576:=by omega
 have hsm:=Desk.small_of_sz hsz
 have kT:=qpo a hsz
 have kS:=qt9 a hsm ha
 have kI:=qt8 a hsm ha
 have hle:(dkR a).length≤9:=qud a
 obtain⟨W,hW⟩:∃W,W=dkR a:=⟨_,rfl⟩
 obtain⟨cd,hcd'⟩:∃cd,cd=dkC a:=⟨_,rfl⟩
 rw[←hW]at kS kI hle
 rw[←hcd']at kS kI
 show Code.wp _ _ _ _ _
 refine wp_seq ?_
 simp only[Desk.cells]at kT kS
 refine qaf hm (S1:=⟨[(1, .pb 0 0),(4, .sf 1 1),(5, .int .i64 cd)],[some (.box a.cells),some (.arr 1 (qae W))]⟩) (by kernel_rfl) hI4 ?_ fun a5 w5 A5 m5 hI5 =>?_
 ·simp[Desk.cells]
  refine CallZ.use0 kT rfl rfl ?_
  simp
  refine CallZ.use kS rfl (.inr ⟨qd7 _,trivial⟩) rfl rfl ?_
  simp
  exact Wk.weak (ρ:=[0,1]) (φ:=[]) (by simp)
 refine wp_seq ?_
 refine copyP (t:=25) (d:=26) (p := .agg a.cells) (pv:=fun v => .agg (deskV a.carillon (carV v) (partV 20 v) (partV 21 v))) (R:=DeskR a) (S1:=⟨[(25, .agg a.cells),(1, .pb 0 0),(4, .sf 1 1),(5, .int .i64 cd)],[some (.box a.cells),some (.arr 1 (qae W))]⟩) (S2:=fun v=>⟨[(1, .pb 0 0),(4, .sf 1 1),(5, .int .i64 cd),(6, .pb 2 0)],[some (.box a.cells),some (.arr 1 (qae W)),some (.box (deskV a.carillon (carV v) (partV 20 v) (partV 21 v)))]⟩)
  (C:=fun v=>qmk (carV v)∧(partV 20 v).oneCell'=true∧(partV 21 v).oneCell'=true)
  1 (by kernel_rfl) hI5 rfl rfl rfl rfl (by decide) (by decide) (qub a hsz) (by simp[Desk.cells]) rfl (fun _ _ hr=>hr.2) (fun v L' w hr hp =>?_) ?_ (fun v ho =>?_) fun v L6 a6 w6 A6 m6 ho hr hI6 =>?_
 ·obtain⟨⟨Ls,ob1,ob2,rfl,hP⟩,_⟩:=hr
  obtain⟨s1,s2,_⟩:=hp.sub
  obtain⟨s3,s4,_⟩:=s2.sub
  exact⟨hP.ones s1,(s3.at_ _ (List.mem_singleton_self _)).1.one,(s4.at_ _ (List.mem_singleton_self _)).1.one⟩
 ·simp[Desk.cells]
  exact Wk.weak (ρ:=[0,1]) (φ:=[]) (by simp)
 ·obtain⟨⟨o0,o1,o2,o3,o4,o5,o6,o7⟩,o8,o9⟩:=ho
  simp[Desk.cells,deskV,CarV.cells,o0,o1,o2,o3,o4,o5,o6,o7,o8,o9]
  exact Wk.weak (ρ:=[0,1,2]) (φ:=[]) (by simp)
 obtain⟨⟨Ls,ob1,ob2,rfl,hP⟩,hrv⟩:=hr
 rw[List.append_nil]at hI6
 generalize carV v=u at *
 generalize partV 20 v=x at *
 generalize partV 21 v=y at *
 have hread:∀ {S:St} {aa:Act} {ww:World} {AA:Nat→Prop} {mm:OMap} {t:Nat},InvP ⟨w,A,noB,fun _=>undef⟩ 96 S aa ww AA mm (CarL.all Ls++([⟨5,Order.rows a.orders,x,ob1⟩]++[⟨3,Record.rows a.records,y,ob2⟩]))→slot S.fr t = .agg (deskV a.carillon u x y)→t<96→RepI (fun b=>AA b∨pindB (CarL.all Ls++([⟨5,Order.rows a.orders,x,ob1⟩]++[⟨3,Record.rows a.records,y,ob2⟩])) b) ww (.agg a.cells) (aa.tmps.getD t undef):=fun {S aa ww AA mm t} h hs ht=>by
  have:=h.inv.fr t
  rw[hs,qb3 ht]at this
  exact que hP h.pin (fun b hb => .inr hb) (qdP this (qh9 a.carillon u x y))
 show Code.wp _ _ _ _ _
 refine wp_seq ?_
 refine readP (t:=28) (d:=29) (z:=1) (code:=cd) (S1:=⟨[(28, .agg (deskV a.carillon u x y)),(1, .pb 0 0),(4, .sf 1 1),(5, .int .i64 cd),(6, .pb 2 0)],[some (.box a.cells),some (.arr 1 (qae W)),some (.box (deskV a.carillon u x y))]⟩) (S2:=⟨[(1, .pb 0 0),(4, .sf 1 1),(5, .int .i64 cd),(6, .pb 2 0),(7, .sf 3 1),(8, .int .i64 cd)],[some (.box a.cells),some (.arr 1 (qae W)),some (.box (deskV a.carillon u x y)),some (.arr 1 (qae W))]⟩) 1 (by kernel_rfl) hI6 rfl rfl rfl rfl (by decide) kI (qa6 (qd7 _)) ?_ (fun a1 w1 A1 m1 h=>hread h rfl (by decide)) ?_ fun a7 w7 A7 m7 hI7 =>?_
 ·simp[deskV,CarV.cells]
  exact Wk.weak (ρ:=[0,1,2]) (φ:=[]) (by simp[Desk.cells])
 ·simp[Desk.cells,deskV,CarV.cells]
  exact Wk.weak (ρ:=[0,1,2,3]) (φ:=[]) (by simp)
 show Code.wp _ _ _ _ _
 refine wp_seq ?_
 refine qaf hm (S1:=⟨[(1, .pb 0 0),(4, .sf 1 1),(5, .int .i64 cd),(6, .pb 2 0),(7, .sf 3 1),(8, .int .i64 cd)],[some (.box a.cells),some (.arr 1 (qae W)),some (.box (deskV a.carillon u x y)),some (.arr 1 (qae W))]⟩) (by kernel_rfl) hI7 ?_ fun a8 w8 A8 m8 hI8 =>?_
 ·simp[Desk.cells,deskV,CarV.cells]
  refine CallZ.use0 (qfd W W (by omega)) rfl rfl ?_
  simp
  exact Wk.weak (ρ:=[0,1,2,3]) (φ:=[]) (by simp)
 refine wp_seq (wp_seq ?_)
 refine qrD (t:=41) (t':=43) (d:=44) (p := .agg a.cells) (p' := .agg a.cells) (c:=true) (S1:=⟨[(41, .agg (deskV a.carillon u x y)),(43, .agg a.cells),(1, .pb 0 0),(4, .sf 1 1),(5, .int .i64 cd),(6, .pb 2 0),(7, .sf 3 1),(8, .int .i64 cd)],[some (.box a.cells),some (.arr 1 (qae W)),some (.box (deskV a.carillon u x y)),some (.arr 1 (qae W))]⟩) (S2:=⟨[(45, .bool false),(1, .pb 0 0),(4, .sf 1 1),(5, .int .i64 cd),(6, .pb 2 0),(7, .sf 3 1),(8, .int .i64 cd)],[some (.box a.cells),some (.arr 1 (qae W)),some (.box (deskV a.carillon u x y)),some (.arr 1 (qae W))]⟩) 3 hm (by kernel_rfl) (fun f=>rfl) hI8 rfl rfl rfl rfl (by decide) (qjU a ha) ?_ (fun a1 w1 A1 m1 h=>⟨hread h rfl (by decide),(h.arg (t:=43) rfl (by simp[Desk.cells]) (by decide)).mono (fun _ h => .inl h) fun _ _=>rfl⟩) ?_ fun a9 w9 A9 m9 hI9 =>?_
 ·simp[Desk.cells,deskV,CarV.cells]
  refine CallZ.use0 kT rfl rfl ?_
  simp
  exact Wk.weak (ρ:=[0,1,2,3]) (φ:=[]) (by simp)
 ·simp[Desk.cells,deskV,CarV.cells]
  exact Wk.weak (ρ:=[0,1,2,3]) (φ:=[]) (by simp)
 show Code.wp _ _ _ _ _
 refine qaf hm (S1:=⟨[(1, .pb 0 0),(4, .sf 1 1),(5, .int .i64 cd),(6, .pb 2 0),(7, .sf 3 1),(8, .int .i64 cd)],[some (.box a.cells),some (.arr 1 (qae W)),some (.box (deskV a.carillon u x y)),some (.arr 1 (qae W))]⟩) (by kernel_rfl) hI9 ?_ fun a10 w10 A10 m10 hI10 =>?_
 ·simp[Desk.cells,deskV,CarV.cells]
  exact Wk.weak (ρ:=[0,1,2,3]) (φ:=[]) (by simp)
 refine wp_seq ?_
 refine qaf hm (S1:=⟨[(1, .pb 0 0),(4, .sf 1 1),(5, .int .i64 cd),(6, .pb 2 0),(7, .sf 3 1),(8, .int .i64 cd),(9, .int .i64 1)],[some (.box a.cells),some (.arr 1 (qae W)),some (.box (deskV a.carillon u x y)),some (.arr 1 (qae W))]⟩) (by kernel_rfl) hI10 ?_ fun a11 w11 A11 m11 hI11 =>?_
 ·simp[Desk.cells,deskV,CarV.cells]
  exact Wk.weak (ρ:=[0,1,2,3]) (φ:=[]) (by simp)
 have ho8:=a.cntD_le
 refine wp_seq ?_
 refine markP (L1:=[]) (L0:=(CarL.all Ls++([⟨5,Order.rows a.orders,x,ob1⟩]++[⟨3,Record.rows a.records,y,ob2⟩]))) (L2:=[]) (t:=46) (t':=47) (d:=48) (pv := .agg (deskV a.carillon u x y)) (k:=1) (k':=1+(a.cntD:Int)) (R:=fun L'=>∃Ls',L'=CarL.all Ls'++([⟨5,Order.rows (a.mk' 1).orders,x,ob1⟩]++[⟨3,Record.rows (a.mk' 1).records,y,ob2⟩])∧CarP (a.mk' 1).carillon u Ls') (S1:=⟨[(46, .agg (deskV a.carillon u x y)),(47, .int .i64 1),(1, .pb 0 0),(4, .sf 1 1),(5, .int .i64 cd),(7, .sf 2 1),(8, .int .i64 cd)],[some (.box a.cells),some (.arr 1 (qae W)),some (.arr 1 (qae W))]⟩) (S2:=⟨[(1, .pb 0 0),(4, .sf 1 1),(5, .int .i64 cd),(7, .sf 2 1),(8, .int .i64 cd),(9, .int .i64 (1+(a.cntD:Int)))],[some (.box a.cells),some (.arr 1 (qae W)),some (.arr 1 (qae W))]⟩) 2 (by kernel_rfl) (by simpa using hI11) rfl rfl rfl rfl (by decide) (by decide) (by decide) (fun v hv=>quc a u x y Ls ob1 ob2 hP 1 (by omega) (by omega) v hv) (fun hr=>qdP hr (qh9 a.carillon u x y)) rfl rfl ?_ ?_ fun L' a12 w12 A12 m12 hL' hI12 =>?_
 ·simp[Desk.cells,deskV,CarV.cells]
  exact Wk.weak (ρ:=[0,1,3]) (φ:=[]) (by simp)
 ·simp[Desk.cells]
  exact Wk.weak (ρ:=[0,1,2]) (φ:=[]) (by simp)
 show Code.wp _ _ _ _ _
 refine wp_mono (qaE hm _ _ (ret0 Tryz.prog Tryz.f3.results.toList (.bool true)) (by kernel_rfl) ?_ _ _ _ _ _ hI12.inv) fun e a13 w13 ⟨S13,A13,m13,hq,hI13⟩ =>?_
 ·clear hI hI1 hI2 hI3 hI4 hI5 hI6 hI7 hI8 hI9 hI10 hI11 hI12
  simp only[Desk.cells]at kI
  simp
  have qq1:¬(1+(a.cntD:Int)<0):=by omega
  simp[qq1]
  first | refine CallY.use (fun _=>⟨rfl,qfd W W (by omega)⟩) rfl rfl ?_ | refine⟨by intros; simp[*],CallY.use (fun _=>⟨rfl,qfd W W (by omega)⟩) rfl rfl ?_⟩
  simp
  refine CallZ.useK 2 (qjF W (1) (by omega) (by omega)) rfl (by simp) rfl (by simp) rfl rfl ?_
  simp
  refine CallZ.use0 (qjE (qbf (1) W.length) (1) (by omega) (by simp[qeF]; omega) (by simp[qeF])) rfl rfl ?_
  simp[qeF]
  have qq2:¬(1+(W.length:Int)<0):=by omega
  have qp2:0≤1+(W.length:Int):=by omega
  try simp[qq2,qp2]
  simp[Desk.cells]
  refine CallZ.use0 kT rfl rfl ?_
  simp
  refine CallZ.use kI rfl (.inr ⟨qd7 _,trivial⟩) rfl rfl ?_
  simp
  refine CallZ.use0 (qfd W W (by omega)) rfl rfl ?_
  simp
  refine CallZ.use0 (qjE (qbf (1) W.length) (1) (by omega) (by simp[qeF]; omega) (by simp[qeF])) rfl rfl ?_
  simp[qeF]
  try simp[qp2]
 ·obtain⟨h1,h2,h3⟩:=qrC hq hI13 rfl
  exact⟨h1,_,_,_,hI13,h2,fun v hv=>⟨hI13.moved,fun A'=>h3 v hv A' _⟩⟩
theorem qug (pargs:List PV) (h:qd6 [.agg [.slc [.str, .int .i64, .int .i64, .int .i64, .int .i64], .slc [.str, .slc [.str], .int .i64], .slc [.str, .int .i64, .int .i64, .int .i64, .slc [.str, .int .i64]], .slc [.str, .int .i64, .int .i64, .int .i64, .int .i64], .int .i64, .int .i64, .int .i64, .slc [.str, .int .i64, .int .i64, .int .i64, .int .i64], .int .i64, .str, .int .i64, .int .i64, .int .i64, .int .i64, .slc [.str, .int .i64, .int .i64, .int .i64, .int .i64, .slc [.int .i64, .int .i64]], .int .i64, .int .i64, .slc [.int .i64, .slc [.int .i64, .int .i64], .int .i64, .int .i64], .str, .slc [.int .i64, .int .i64, .int .i64], .slc [.str, .int .i64, .int .i64, .int .i64, .int .i64], .slc [.int .i64, .str, .str]]] pargs):HFn Tryz.prog 3 pargs [] (.bool true) []:=by
 obtain⟨p,q,rfl,⟨cs,rfl,h0⟩,hz⟩:=qnI h
 obtain rfl:=qnJ hz
 obtain⟨x,rfl,hx⟩:=Desk.fits h0
 exact quf x hx
end Go.Proofs.YteckngloamnfdaaGreatDoor
