/- The copies of a carillon and of a desk in fresh pinned memory. No condition. Marks on pinned lists of structs that hold lists. No condition. Marks on a carillon in pinned memory. No condition. -/
import Derived.Test.YteckngloamnfdaaGreatDoorBw
import Derived.Test.YteckngloamnfdaaGreatDoorTNest
namespace Go.Proofs.YteckngloamnfdaaGreatDoor
open Go Go.Ab
set_option maxRecDepth 100000
def TuneR (t:Tune) (v:Value) (L:List Pind):Prop:=(∃ob,L=[⟨3,Tone.rows t.tones,partV 1 v,ob⟩])∧∀A w,RepI A w (.agg [.str t.name, .raw (partV 1 v)]) v
theorem qrN (t:Tune) (h:t.sz≤1048576):NCopy Tryz.prog 67 [.agg t.cells] (TuneR t) :=
 NCopy.part (j:=1) (qrx t h) rfl (qa6 (Tone.flat _)) fun u c hc=>by
  simp at hc
  rcases hc with rfl | rfl<;>rfl
structure CarV where
 u0:Value
 u1:Value
 u2:Value
 u3:Value
 u4:Value
 u5:Value
 u6:Value
 u7:Value
structure CarL where
 l0:List Pind
 l1:List Pind
 l2:List Pind
 l3:List Pind
 l4:List Pind
 l5:List Pind
 l6:List Pind
 l7:List Pind
def CarL.all (L:CarL):List Pind:=L.l0++(L.l1++(L.l2++(L.l3++(L.l4++(L.l5++(L.l6++L.l7))))))
structure CarP (c:Carillon) (u:CarV) (L:CarL):Prop where
 h0:∃ob,L.l0=[⟨5,Ingot.rows c.ingots,u.u0,ob⟩]
 h1:Nest 3 1 Melt.rw Melt.inn c.melts u.u1 L.l1
 h2:Nest 5 2 Bell.rw Bell.inn c.bells u.u2 L.l2
 h3:∃ob,L.l3=[⟨5,Hung.rows c.hung,u.u3,ob⟩]
 h4:∃ob,L.l4=[⟨5,Place.rows c.places,u.u4,ob⟩]
 h5:Nest 6 2 Beam.rw Beam.inn c.frame u.u5 L.l5
 h6:Nest 4 2 Action.rw Action.inn c.clavier u.u6 L.l6
 h7:∃ob,L.l7=[⟨3,Tone.rows c.tune.tones,u.u7,ob⟩]
theorem CarP.read {c:Carillon} {u:CarV} {L:CarL} {w:World} {F:Nat→Prop} (h:CarP c u L) (hp:Pinds w L.all) (hF:∀b,pindB L.all b→F b) :
  RepI F w (.sl 5 (Ingot.rows c.ingots)) u.u0∧RepI F w (.sl 3 (Melt.rows c.melts)) u.u1∧RepI F w (.sl 5 (Bell.rows c.bells)) u.u2∧RepI F w (.sl 5 (Hung.rows c.hung)) u.u3∧RepI F w (.sl 5 (Place.rows c.places)) u.u4 ∧
  RepI F w (.sl 6 (Beam.rows c.frame)) u.u5∧RepI F w (.sl 4 (Action.rows c.clavier)) u.u6∧RepI F w (.sl 3 (Tone.rows c.tune.tones)) u.u7:=by
 have flat:∀ {z:Nat} {rows:List (List PV)} {v:Value} {l:List Pind},(∃ob,l=[⟨z,rows,v,ob⟩])→(∀p∈l,p∈L.all)→RepI F w (.sl z rows) v:=fun {z rows v l} ⟨ob,hl⟩ hm=>by
  subst hl
  obtain⟨ho,hpr⟩:=hp.at_ _ (hm _ (List.mem_singleton_self _))
  exact ho.plain (fun b e=>hF b ⟨_,hm _ (List.mem_singleton_self _),e⟩) hpr
 unfold CarL.all at *
 have s0:=hp.sub
 have s1:=s0.2.1.sub
 have s2:=s1.2.1.sub
 have s3:=s2.2.1.sub
 have s4:=s3.2.1.sub
 have s5:=s4.2.1.sub
 have s6:=s5.2.1.sub
 refine⟨flat h.h0 (fun p hp=>by simp[hp]),?_,?_,flat h.h3 (fun p hp=>by simp[hp]),flat h.h4 (fun p hp=>by simp[hp]),?_,?_,flat h.h7 (fun p hp=>by simp[hp])⟩
 ·exact h.h1.read s1.1 (fun b hb=>hF b (by simp[qau,hb])) fun x u hu=>x.rw_read u hu
 ·exact h.h2.read s2.1 (fun b hb=>hF b (by simp[qau,hb])) fun x u hu=>x.rw_read u hu
 ·exact h.h5.read s5.1 (fun b hb=>hF b (by simp[qau,hb])) fun x u hu=>x.rw_read u hu
 ·exact h.h6.read s6.1 (fun b hb=>hF b (by simp[qau,hb])) fun x u hu=>x.rw_read u hu
theorem CarP.ones {c:Carillon} {u:CarV} {L:CarL} {w:World} (h:CarP c u L) (hp:Pinds w L.all):u.u0.oneCell'=true∧u.u1.oneCell'=true∧u.u2.oneCell'=true∧u.u3.oneCell'=true∧u.u4.oneCell'=true∧u.u5.oneCell'=true∧u.u6.oneCell'=true∧u.u7.oneCell'=true:=by
 unfold CarL.all at *
 have s0:=hp.sub
 have s1:=s0.2.1.sub
 have s2:=s1.2.1.sub
 have s3:=s2.2.1.sub
 have s4:=s3.2.1.sub
 have s5:=s4.2.1.sub
 have s6:=s5.2.1.sub
 exact⟨qda h.h0 s0.1,h.h1.one s1.1,h.h2.one s2.1,qda h.h3 s3.1,qda h.h4 s4.1,h.h5.one s5.1,h.h6.one s6.1,qda h.h7 s6.2.1⟩
def carV (v:Value):CarV:=⟨partV 0 v,partV 1 v,partV 2 v,partV 3 v,partV 7 v,partV 14 v,partV 17 v,partV 19 v⟩
def CarV.cells (c:Carillon) (u:CarV):List PV:=[.raw u.u0, .raw u.u1, .raw u.u2, .raw u.u3, .int .i64 c.chamber.width, .int .i64 c.chamber.length, .int .i64 c.chamber.height, .raw u.u4, .int .i64 c.gap, .str c.tower.name, .int .i64 c.tower.sway, .int .i64 c.tower.damping, .int .i64 c.tower.stiffness, .int .i64 c.tower.limit, .raw u.u5, .int .i64 c.stress, .int .i64 c.bending, .raw u.u6, .str c.tune.name, .raw u.u7]
def CarR (c:Carillon) (v:Value) (L:List Pind):Prop:=(∃Ls,L=CarL.all Ls∧CarP c (carV v) Ls)∧∀A w,RepI A w (.agg ((carV v).cells c)) v
def zc:List PV:=[.nils, .nils, .nils, .nils, .int .i64 0, .int .i64 0, .int .i64 0, .nils, .int .i64 0, .str [], .int .i64 0, .int .i64 0, .int .i64 0, .int .i64 0, .nils, .int .i64 0, .int .i64 0, .nils, .str [], .nils]
theorem qrO {c:Carillon} {u:CarV} {v:Value} {A:Nat→Prop} {w:World} (h:RepI A w (.agg (u.cells c)) v):carV v=u:=by
 cases h with
 | agg _ us hl hh =>
  have key:∀(i:Nat) (x:Value),(u.cells c)[i]?=some (.raw x)→us.getD i undef=x:=fun i x hi=>by
   have:=hh i _ hi
   generalize us.getD i undef=y at this
   cases this
   rfl
  cases u
  simp only[carV,partV]
  rw[key 0 _ rfl,key 1 _ rfl,key 2 _ rfl,key 3 _ rfl,key 7 _ rfl,key 14 _ rfl,key 17 _ rfl,key 19 _ rfl]
theorem CarV.cells_pure (c:Carillon) (u:CarV):∀x∈u.cells c,pureP x=true:=by
 intro x hx
 simp[CarV.cells]at hx
 rcases hx with rfl | rfl | rfl | rfl | rfl | rfl | rfl | rfl | rfl | rfl | rfl | rfl | rfl | rfl | rfl | rfl | rfl | rfl | rfl | rfl<;>rfl
set_option maxHeartbeats 4000000 in
theorem qrP (c:Carillon) (h:c.sz≤1048576):NCopy Tryz.prog 20 [.agg c.cells] (CarR c):=fun A w vs hA hvs hargs=>by
 have ⟨h0,h1,h2,h3,h5,h8,h11,h12⟩:Ingot.szS c.ingots≤1048576∧Melt.szS c.melts≤1048576∧Bell.szS c.bells≤1048576∧Hung.szS c.hung≤1048576∧Place.szS c.places≤1048576∧Beam.szS c.frame≤1048576∧Action.szS c.clavier≤1048576∧Tune.sz c.tune≤1048576:=by
  unfold Carillon.sz at h
  refine⟨?_,?_,?_,?_,?_,?_,?_,?_⟩<;>omega
 refine (qcz (M:=noB) (gh:=fun _=>undef) (R:=fun v w'=>∃L,Moved noB w w'∧Pinds w' L∧(∀b,pindB L b→w.heap.size≤b)∧CarR c v L) Tryz.func20 (by kernel_rfl) rfl (by kernel_rfl) (by kernel_rfl) hA hvs hargs fun a hI =>?_).mono fun e w' ⟨v,he,L,h1⟩=>⟨v,L,he,h1⟩
 refine wp_seq ?_
 refine qaf hm (S1:=⟨[(1, .pb 0 0),(2, .pb 1 0)],[some (.box c.cells),some (.box zc)]⟩) (by kernel_rfl) (InvP.nil hI) ?_ fun a1 w1 A1 m1 hI1 =>?_
 ·simp[Carillon.cells,zc]
  exact Wk.weak (ρ:=[0,1]) (φ:=[]) (by simp)
 refine wp_seq ?_
 refine qaf hm (S1:=⟨[(1, .pb 0 0),(2, .pb 1 0),(3, .pb 2 0)],[some (.box c.cells),some (.box zc),some (.box zc)]⟩) (by kernel_rfl) hI1 ?_ fun a2 w2 A2 m2 hI2 =>?_
 ·simp[Carillon.cells,zc]
  exact Wk.weak (ρ:=[0,1,2]) (φ:=[]) (by simp)
 refine wp_seq ?_
 refine copyP (t:=5) (d:=6) (pv:=fun v => .raw v) (R:=fun v L=>∃ob,L=[⟨5,Ingot.rows c.ingots,v,ob⟩]) (S1:=⟨(5, .sl 5 (Ingot.rows c.ingots))::[(1, .pb 0 0),(2, .pb 1 0),(3, .pb 2 0)],[some (.box c.cells),some (.box zc),some (.box [.nils, .nils, .nils, .nils, .int .i64 0, .int .i64 0, .int .i64 0, .nils, .int .i64 0, .str [], .int .i64 0, .int .i64 0, .int .i64 0, .int .i64 0, .nils, .int .i64 0, .int .i64 0, .nils, .str [], .nils])]⟩) (S2:=fun u0=>⟨[(1, .pb 0 0),(2, .pb 1 0),(3, .pb 2 0)],[some (.box c.cells),some (.box zc),some (.box [.raw u0, .nils, .nils, .nils, .int .i64 0, .int .i64 0, .int .i64 0, .nils, .int .i64 0, .str [], .int .i64 0, .int .i64 0, .int .i64 0, .int .i64 0, .nils, .int .i64 0, .int .i64 0, .nils, .str [], .nils])]⟩) 2 (by kernel_rfl) hI2 rfl rfl rfl rfl (by decide) (by decide) (NCopy.flat (qjJ c.ingots (by unfold Ingot.szS at h0; omega)) (qa6 (Ingot.flat _))) rfl rfl (fun _ _ _ _ _ => .raw _) (C:=fun v=>v.oneCell'=true) (fun _ _ _ hr hp=>qda hr hp) ?_ (fun u0 ho =>?_) fun u0 L0 a3 w3 A3 m3 o0 r0 hI3 =>?_
 ·simp[Carillon.cells,zc]
  exact Wk.weak (ρ:=[0,1,2]) (φ:=[]) (by simp)
 ·simp[Carillon.cells,ho,zc]
  exact Wk.weak (ρ:=[0,1,2]) (φ:=[]) (by simp)
 refine wp_seq ?_
 refine copyP (t:=9) (d:=10) (pv:=fun v => .raw v) (R:=fun v L=>Nest 3 1 Melt.rw Melt.inn c.melts v L) (S1:=⟨(9, .sl 3 (Melt.rows c.melts))::[(1, .pb 0 0),(2, .pb 1 0),(3, .pb 2 0)],[some (.box c.cells),some (.box zc),some (.box [.raw u0, .nils, .nils, .nils, .int .i64 0, .int .i64 0, .int .i64 0, .nils, .int .i64 0, .str [], .int .i64 0, .int .i64 0, .int .i64 0, .int .i64 0, .nils, .int .i64 0, .int .i64 0, .nils, .str [], .nils])]⟩) (S2:=fun u1=>⟨[(1, .pb 0 0),(2, .pb 1 0),(3, .pb 2 0)],[some (.box c.cells),some (.box zc),some (.box [.raw u0, .raw u1, .nils, .nils, .int .i64 0, .int .i64 0, .int .i64 0, .nils, .int .i64 0, .str [], .int .i64 0, .int .i64 0, .int .i64 0, .int .i64 0, .nils, .int .i64 0, .int .i64 0, .nils, .str [], .nils])]⟩) 2 (by kernel_rfl) hI3 rfl rfl rfl rfl (by decide) (by decide) (qrG c.melts (by omega)) rfl rfl (fun _ _ _ _ _ => .raw _) (C:=fun v=>v.oneCell'=true) (fun _ _ _ hr hp=>hr.one hp) ?_ (fun u1 ho =>?_) fun u1 L1 a4 w4 A4 m4 o1 r1 hI4 =>?_
 ·simp[Carillon.cells,zc]
  exact Wk.weak (ρ:=[0,1,2]) (φ:=[]) (by simp)
 ·simp[Carillon.cells,ho,zc]
  exact Wk.weak (ρ:=[0,1,2]) (φ:=[]) (by simp)
 refine wp_seq ?_
 refine copyP (t:=13) (d:=14) (pv:=fun v => .raw v) (R:=fun v L=>Nest 5 2 Bell.rw Bell.inn c.bells v L) (S1:=⟨(13, .sl 5 (Bell.rows c.bells))::[(1, .pb 0 0),(2, .pb 1 0),(3, .pb 2 0)],[some (.box c.cells),some (.box zc),some (.box [.raw u0, .raw u1, .nils, .nils, .int .i64 0, .int .i64 0, .int .i64 0, .nils, .int .i64 0, .str [], .int .i64 0, .int .i64 0, .int .i64 0, .int .i64 0, .nils, .int .i64 0, .int .i64 0, .nils, .str [], .nils])]⟩) (S2:=fun u2=>⟨[(1, .pb 0 0),(2, .pb 1 0),(3, .pb 2 0)],[some (.box c.cells),some (.box zc),some (.box [.raw u0, .raw u1, .raw u2, .nils, .int .i64 0, .int .i64 0, .int .i64 0, .nils, .int .i64 0, .str [], .int .i64 0, .int .i64 0, .int .i64 0, .int .i64 0, .nils, .int .i64 0, .int .i64 0, .nils, .str [], .nils])]⟩) 2 (by kernel_rfl) hI4 rfl rfl rfl rfl (by decide) (by decide) (qrI c.bells (by omega)) rfl rfl (fun _ _ _ _ _ => .raw _) (C:=fun v=>v.oneCell'=true) (fun _ _ _ hr hp=>hr.one hp) ?_ (fun u2 ho =>?_) fun u2 L2 a5 w5 A5 m5 o2 r2 hI5 =>?_
 ·simp[Carillon.cells,zc]
  exact Wk.weak (ρ:=[0,1,2]) (φ:=[]) (by simp)
 ·simp[Carillon.cells,ho,zc]
  exact Wk.weak (ρ:=[0,1,2]) (φ:=[]) (by simp)
 refine wp_seq ?_
 refine copyP (t:=17) (d:=18) (pv:=fun v => .raw v) (R:=fun v L=>∃ob,L=[⟨5,Hung.rows c.hung,v,ob⟩]) (S1:=⟨(17, .sl 5 (Hung.rows c.hung))::[(1, .pb 0 0),(2, .pb 1 0),(3, .pb 2 0)],[some (.box c.cells),some (.box zc),some (.box [.raw u0, .raw u1, .raw u2, .nils, .int .i64 0, .int .i64 0, .int .i64 0, .nils, .int .i64 0, .str [], .int .i64 0, .int .i64 0, .int .i64 0, .int .i64 0, .nils, .int .i64 0, .int .i64 0, .nils, .str [], .nils])]⟩) (S2:=fun u3=>⟨[(1, .pb 0 0),(2, .pb 1 0),(3, .pb 2 0)],[some (.box c.cells),some (.box zc),some (.box [.raw u0, .raw u1, .raw u2, .raw u3, .int .i64 0, .int .i64 0, .int .i64 0, .nils, .int .i64 0, .str [], .int .i64 0, .int .i64 0, .int .i64 0, .int .i64 0, .nils, .int .i64 0, .int .i64 0, .nils, .str [], .nils])]⟩) 2 (by kernel_rfl) hI5 rfl rfl rfl rfl (by decide) (by decide) (NCopy.flat (qjK c.hung (by unfold Hung.szS at h3; omega)) (qa6 (Hung.flat _))) rfl rfl (fun _ _ _ _ _ => .raw _) (C:=fun v=>v.oneCell'=true) (fun _ _ _ hr hp=>qda hr hp) ?_ (fun u3 ho =>?_) fun u3 L3 a6 w6 A6 m6 o3 r3 hI6 =>?_
 ·simp[Carillon.cells,zc]
  exact Wk.weak (ρ:=[0,1,2]) (φ:=[]) (by simp)
 ·simp[Carillon.cells,ho,zc]
  exact Wk.weak (ρ:=[0,1,2]) (φ:=[]) (by simp)
 refine wp_seq ?_
 refine qaf hm (S1:=⟨[(1, .pb 0 0),(2, .pb 1 0),(3, .pb 2 0)],[some (.box c.cells),some (.box zc),some (.box [.raw u0, .raw u1, .raw u2, .raw u3, .int .i64 c.chamber.width, .int .i64 c.chamber.length, .int .i64 c.chamber.height, .nils, .int .i64 0, .str [], .int .i64 0, .int .i64 0, .int .i64 0, .int .i64 0, .nils, .int .i64 0, .int .i64 0, .nils, .str [], .nils])]⟩) (by kernel_rfl) hI6 ?_ fun a7 w7 A7 m7 hI7 =>?_
 ·simp[Carillon.cells,zc]
  refine CallZ.use0 (qjL c.chamber) rfl rfl ?_
  simp[Chamber.cells]
  exact Wk.weak (ρ:=[0,1,2]) (φ:=[]) (by simp)
 refine wp_seq ?_
 refine copyP (t:=25) (d:=26) (pv:=fun v => .raw v) (R:=fun v L=>∃ob,L=[⟨5,Place.rows c.places,v,ob⟩]) (S1:=⟨(25, .sl 5 (Place.rows c.places))::[(1, .pb 0 0),(2, .pb 1 0),(3, .pb 2 0)],[some (.box c.cells),some (.box zc),some (.box [.raw u0, .raw u1, .raw u2, .raw u3, .int .i64 c.chamber.width, .int .i64 c.chamber.length, .int .i64 c.chamber.height, .nils, .int .i64 0, .str [], .int .i64 0, .int .i64 0, .int .i64 0, .int .i64 0, .nils, .int .i64 0, .int .i64 0, .nils, .str [], .nils])]⟩) (S2:=fun u4=>⟨[(1, .pb 0 0),(2, .pb 1 0),(3, .pb 2 0)],[some (.box c.cells),some (.box zc),some (.box [.raw u0, .raw u1, .raw u2, .raw u3, .int .i64 c.chamber.width, .int .i64 c.chamber.length, .int .i64 c.chamber.height, .raw u4, .int .i64 0, .str [], .int .i64 0, .int .i64 0, .int .i64 0, .int .i64 0, .nils, .int .i64 0, .int .i64 0, .nils, .str [], .nils])]⟩) 2 (by kernel_rfl) hI7 rfl rfl rfl rfl (by decide) (by decide) (NCopy.flat (qjM c.places (by unfold Place.szS at h5; omega)) (qa6 (Place.flat _))) rfl rfl (fun _ _ _ _ _ => .raw _) (C:=fun v=>v.oneCell'=true) (fun _ _ _ hr hp=>qda hr hp) ?_ (fun u4 ho =>?_) fun u4 L4 a8 w8 A8 m8 o4 r4 hI8 =>?_
 ·simp[Carillon.cells,zc]
  exact Wk.weak (ρ:=[0,1,2]) (φ:=[]) (by simp)
 ·simp[Carillon.cells,ho,zc]
  exact Wk.weak (ρ:=[0,1,2]) (φ:=[]) (by simp)
 refine wp_seq ?_
 refine qaf hm (S1:=⟨[(1, .pb 0 0),(2, .pb 1 0),(3, .pb 2 0)],[some (.box c.cells),some (.box zc),some (.box [.raw u0, .raw u1, .raw u2, .raw u3, .int .i64 c.chamber.width, .int .i64 c.chamber.length, .int .i64 c.chamber.height, .raw u4, .int .i64 c.gap, .str [], .int .i64 0, .int .i64 0, .int .i64 0, .int .i64 0, .nils, .int .i64 0, .int .i64 0, .nils, .str [], .nils])]⟩) (by kernel_rfl) hI8 ?_ fun a9 w9 A9 m9 hI9 =>?_
 ·simp[Carillon.cells,zc]
  exact Wk.weak (ρ:=[0,1,2]) (φ:=[]) (by simp)
 refine wp_seq ?_
 refine qaf hm (S1:=⟨[(1, .pb 0 0),(2, .pb 1 0),(3, .pb 2 0)],[some (.box c.cells),some (.box zc),some (.box [.raw u0, .raw u1, .raw u2, .raw u3, .int .i64 c.chamber.width, .int .i64 c.chamber.length, .int .i64 c.chamber.height, .raw u4, .int .i64 c.gap, .str c.tower.name, .int .i64 c.tower.sway, .int .i64 c.tower.damping, .int .i64 c.tower.stiffness, .int .i64 c.tower.limit, .nils, .int .i64 0, .int .i64 0, .nils, .str [], .nils])]⟩) (by kernel_rfl) hI9 ?_ fun a10 w10 A10 m10 hI10 =>?_
 ·simp[Carillon.cells,zc]
  refine CallZ.use0 (qjN c.tower) rfl rfl ?_
  simp[Tower.cells]
  exact Wk.weak (ρ:=[0,1,2]) (φ:=[]) (by simp)
 refine wp_seq ?_
 refine copyP (t:=36) (d:=37) (pv:=fun v => .raw v) (R:=fun v L=>Nest 6 2 Beam.rw Beam.inn c.frame v L) (S1:=⟨(36, .sl 6 (Beam.rows c.frame))::[(1, .pb 0 0),(2, .pb 1 0),(3, .pb 2 0)],[some (.box c.cells),some (.box zc),some (.box [.raw u0, .raw u1, .raw u2, .raw u3, .int .i64 c.chamber.width, .int .i64 c.chamber.length, .int .i64 c.chamber.height, .raw u4, .int .i64 c.gap, .str c.tower.name, .int .i64 c.tower.sway, .int .i64 c.tower.damping, .int .i64 c.tower.stiffness, .int .i64 c.tower.limit, .nils, .int .i64 0, .int .i64 0, .nils, .str [], .nils])]⟩) (S2:=fun u5=>⟨[(1, .pb 0 0),(2, .pb 1 0),(3, .pb 2 0)],[some (.box c.cells),some (.box zc),some (.box [.raw u0, .raw u1, .raw u2, .raw u3, .int .i64 c.chamber.width, .int .i64 c.chamber.length, .int .i64 c.chamber.height, .raw u4, .int .i64 c.gap, .str c.tower.name, .int .i64 c.tower.sway, .int .i64 c.tower.damping, .int .i64 c.tower.stiffness, .int .i64 c.tower.limit, .raw u5, .int .i64 0, .int .i64 0, .nils, .str [], .nils])]⟩) 2 (by kernel_rfl) hI10 rfl rfl rfl rfl (by decide) (by decide) (qrK c.frame (by omega)) rfl rfl (fun _ _ _ _ _ => .raw _) (C:=fun v=>v.oneCell'=true) (fun _ _ _ hr hp=>hr.one hp) ?_ (fun u5 ho =>?_) fun u5 L5 a11 w11 A11 m11 o5 r5 hI11 =>?_
 ·simp[Carillon.cells,zc]
  exact Wk.weak (ρ:=[0,1,2]) (φ:=[]) (by simp)
 ·simp[Carillon.cells,ho,zc]
  exact Wk.weak (ρ:=[0,1,2]) (φ:=[]) (by simp)
 refine wp_seq ?_
 refine qaf hm (S1:=⟨[(1, .pb 0 0),(2, .pb 1 0),(3, .pb 2 0)],[some (.box c.cells),some (.box zc),some (.box [.raw u0, .raw u1, .raw u2, .raw u3, .int .i64 c.chamber.width, .int .i64 c.chamber.length, .int .i64 c.chamber.height, .raw u4, .int .i64 c.gap, .str c.tower.name, .int .i64 c.tower.sway, .int .i64 c.tower.damping, .int .i64 c.tower.stiffness, .int .i64 c.tower.limit, .raw u5, .int .i64 c.stress, .int .i64 0, .nils, .str [], .nils])]⟩) (by kernel_rfl) hI11 ?_ fun a12 w12 A12 m12 hI12 =>?_
 ·simp[Carillon.cells,zc]
  exact Wk.weak (ρ:=[0,1,2]) (φ:=[]) (by simp)
 refine wp_seq ?_
 refine qaf hm (S1:=⟨[(1, .pb 0 0),(2, .pb 1 0),(3, .pb 2 0)],[some (.box c.cells),some (.box zc),some (.box [.raw u0, .raw u1, .raw u2, .raw u3, .int .i64 c.chamber.width, .int .i64 c.chamber.length, .int .i64 c.chamber.height, .raw u4, .int .i64 c.gap, .str c.tower.name, .int .i64 c.tower.sway, .int .i64 c.tower.damping, .int .i64 c.tower.stiffness, .int .i64 c.tower.limit, .raw u5, .int .i64 c.stress, .int .i64 c.bending, .nils, .str [], .nils])]⟩) (by kernel_rfl) hI12 ?_ fun a13 w13 A13 m13 hI13 =>?_
 ·simp[Carillon.cells,zc]
  exact Wk.weak (ρ:=[0,1,2]) (φ:=[]) (by simp)
 refine wp_seq ?_
 refine copyP (t:=46) (d:=47) (pv:=fun v => .raw v) (R:=fun v L=>Nest 4 2 Action.rw Action.inn c.clavier v L) (S1:=⟨(46, .sl 4 (Action.rows c.clavier))::[(1, .pb 0 0),(2, .pb 1 0),(3, .pb 2 0)],[some (.box c.cells),some (.box zc),some (.box [.raw u0, .raw u1, .raw u2, .raw u3, .int .i64 c.chamber.width, .int .i64 c.chamber.length, .int .i64 c.chamber.height, .raw u4, .int .i64 c.gap, .str c.tower.name, .int .i64 c.tower.sway, .int .i64 c.tower.damping, .int .i64 c.tower.stiffness, .int .i64 c.tower.limit, .raw u5, .int .i64 c.stress, .int .i64 c.bending, .nils, .str [], .nils])]⟩) (S2:=fun u6=>⟨[(1, .pb 0 0),(2, .pb 1 0),(3, .pb 2 0)],[some (.box c.cells),some (.box zc),some (.box [.raw u0, .raw u1, .raw u2, .raw u3, .int .i64 c.chamber.width, .int .i64 c.chamber.length, .int .i64 c.chamber.height, .raw u4, .int .i64 c.gap, .str c.tower.name, .int .i64 c.tower.sway, .int .i64 c.tower.damping, .int .i64 c.tower.stiffness, .int .i64 c.tower.limit, .raw u5, .int .i64 c.stress, .int .i64 c.bending, .raw u6, .str [], .nils])]⟩) 2 (by kernel_rfl) hI13 rfl rfl rfl rfl (by decide) (by decide) (qrM c.clavier (by omega)) rfl rfl (fun _ _ _ _ _ => .raw _) (C:=fun v=>v.oneCell'=true) (fun _ _ _ hr hp=>hr.one hp) ?_ (fun u6 ho =>?_) fun u6 L6 a14 w14 A14 m14 o6 r6 hI14 =>?_
 ·simp[Carillon.cells,zc]
  exact Wk.weak (ρ:=[0,1,2]) (φ:=[]) (by simp)
 ·simp[Carillon.cells,ho,zc]
  exact Wk.weak (ρ:=[0,1,2]) (φ:=[]) (by simp)
 refine wp_seq ?_
 refine copyP (t:=50) (d:=51) (pv:=fun v => .agg [.str c.tune.name, .raw (partV 1 v)]) (R:=TuneR c.tune) (S1:=⟨(50, .agg [.str c.tune.name, .sl 3 (Tone.rows c.tune.tones)])::[(1, .pb 0 0),(2, .pb 1 0),(3, .pb 2 0)],[some (.box c.cells),some (.box zc),some (.box [.raw u0, .raw u1, .raw u2, .raw u3, .int .i64 c.chamber.width, .int .i64 c.chamber.length, .int .i64 c.chamber.height, .raw u4, .int .i64 c.gap, .str c.tower.name, .int .i64 c.tower.sway, .int .i64 c.tower.damping, .int .i64 c.tower.stiffness, .int .i64 c.tower.limit, .raw u5, .int .i64 c.stress, .int .i64 c.bending, .raw u6, .str [], .nils])]⟩) (S2:=fun u7=>⟨[(1, .pb 0 0),(2, .pb 1 0),(3, .pb 2 0)],[some (.box c.cells),some (.box zc),some (.box [.raw u0, .raw u1, .raw u2, .raw u3, .int .i64 c.chamber.width, .int .i64 c.chamber.length, .int .i64 c.chamber.height, .raw u4, .int .i64 c.gap, .str c.tower.name, .int .i64 c.tower.sway, .int .i64 c.tower.damping, .int .i64 c.tower.stiffness, .int .i64 c.tower.limit, .raw u5, .int .i64 c.stress, .int .i64 c.bending, .raw u6, .str c.tune.name, .raw (partV 1 u7)])]⟩) 2 (by kernel_rfl) hI14 rfl rfl rfl rfl (by decide) (by decide) (qrN c.tune (by omega)) rfl rfl (fun _ _ hr=>hr.2) (C:=fun v=>(partV 1 v).oneCell'=true) (fun _ _ _ hr hp=>qda hr.1 hp) ?_ (fun u7 ho =>?_) fun u7 L7 a15 w15 A15 m15 o7 r7 hI15 =>?_
 ·simp[Carillon.cells,zc]
  exact Wk.weak (ρ:=[0,1,2]) (φ:=[]) (by simp)
 ·simp[Carillon.cells,ho,zc]
  exact Wk.weak (ρ:=[0,1,2]) (φ:=[]) (by simp)
 refine wp_seq ?_
 refine qaf hm (S1:=⟨[(2, .pb 0 0)],[some (.box [.raw u0, .raw u1, .raw u2, .raw u3, .int .i64 c.chamber.width, .int .i64 c.chamber.length, .int .i64 c.chamber.height, .raw u4, .int .i64 c.gap, .str c.tower.name, .int .i64 c.tower.sway, .int .i64 c.tower.damping, .int .i64 c.tower.stiffness, .int .i64 c.tower.limit, .raw u5, .int .i64 c.stress, .int .i64 c.bending, .raw u6, .str c.tune.name, .raw (partV 1 u7)])]⟩) (by kernel_rfl) hI15 ?_ fun a19 w19 A19 m19 hI19 =>?_
 ·simp[zc,o0,o1,o2,o3,o4,o5,o6,o7]
  exact Wk.weak (ρ:=[1]) (φ:=[]) (by simp)
 refine wp_ret ⟨.inr rfl,_,_,_,hI19.inv,?_,fun v hv =>?_⟩
 ·refine⟨?_,trivial⟩
  simp[qe9]
 simp[retV,retV1]at hv
 have hI20:=hI19.perm (L':=L0++(L1++(L2++(L3++(L4++(L5++(L6++L7))))))) (by
  classical
  refine List.perm_iff_count.2 fun q =>?_
  simp only[List.count_append,List.count_nil]
  omega)
 have hr:∀A w,RepI A w (.agg (CarV.cells c ⟨u0,u1,u2,u3,u4,u5,u6,partV 1 u7⟩)) v:=fun A w=>qdP hv (CarV.cells_pure c ⟨u0,u1,u2,u3,u4,u5,u6,partV 1 u7⟩)
 have hu:carV v=⟨u0,u1,u2,u3,u4,u5,u6,partV 1 u7⟩:=qrO (hr noB default)
 refine⟨_,hI20.inv.moved,hI20.pin,fun b hb=>((hI20.off b hb).2.2).resolve_left fun h=>h,⟨⟨L0,L1,L2,L3,L4,L5,L6,L7⟩,rfl,?_⟩,fun A w =>?_⟩
 ·rw[hu]
  exact⟨r0,r1,r2,r3,r4,r5,r6,r7.1⟩
 ·rw[hu]
  exact hr A w
end Go.Proofs.YteckngloamnfdaaGreatDoor
namespace Go.Proofs.YteckngloamnfdaaGreatDoor
open Go Go.Ab
set_option maxRecDepth 100000
def Melt.markN (k:Int) (x:Melt):Melt:=⟨markT (k),qbf (k+1) x.ingots.length,k+1+x.ingots.length⟩
def Melt.cnt (x:Melt):Nat:=2+x.ingots.length
noncomputable def qrQ:Code:=match Tryz.f92.body with
 | some (.seq _ (.seq (.seq _ (.block _ (.loop c))) _))=>c
 | _ => .skip
set_option maxHeartbeats 4000000 in
theorem qk5 (l:List Melt) (k:Int) (hk:0≤k) (hb:k+((l.map Melt.cnt).sum:Nat)≤1000000000) {x:Ctx} {LO:List Pind} {Q:Exit→Act→World→Prop}
  (hex:∀a w A m Li,NestI 1 Melt.inn (qav Melt.markN Melt.cnt k l) Li→(∀b,pindB Li b→pindB LO b)→InvP x 35 ⟨[(0, .sf 0 3),(1, .int .i64 (k+(((l.map Melt.cnt).sum:Nat):Int))),(5, .int .i64 l.length),(35, .own 0)],[some (.arr 3 (rowsN Melt.rw (qav Melt.markN Melt.cnt k l) Li))]⟩ a w A m Li→Q (.exit 0) a w) :
  ∀(kf i:Nat) (a:Act) (w:World) (A:Nat→Prop) (m:OMap) (Li:List Pind),l.length<kf+i→i≤l.length→NestI 1 Melt.inn (qaY Melt.markN Melt.cnt k l i) Li→(∀b,pindB Li b→pindB LO b)→InvP x 35 ⟨[(0, .sf 0 3),(1, .int .i64 (k+((sumT Melt.cnt l i:Nat):Int))),(5, .int .i64 i),(35, .own 0)],[some (.arr 3 (rowsN Melt.rw (qaY Melt.markN Melt.cnt k l i) Li))]⟩ a w A m Li→Code.rounds Tryz.prog qrQ Q kf a w
 | 0,i,a,w,A,m,Li,hkf,hi,_,_,_=>absurd hkf (by omega)
 | kf+1,i,a,w,A,m,Li,hkf,hi,hN,hLO,hI=>by
  have hlen:l.length≤1000000000:=by
   have h1:=qdq Melt.cnt l fun x=>by unfold Melt.cnt; omega
   omega
  rw[rounds_succ]
  obtain⟨X,hX,hXl⟩:∃X,rowsN Melt.rw (qaY Melt.markN Melt.cnt k l i) Li=X∧X.length=l.length:=⟨_,rfl,by rw[qbz hN.len,qdR]⟩
  rw[hX]at hI
  refine wp_seq (wp_seq ?_)
  refine qaf hm (S1:=⟨[(9, .bool (decide (i<l.length))),(0, .sf 0 3),(1, .int .i64 (k+((sumT Melt.cnt l i:Nat):Int))),(5, .int .i64 i),(35, .own 0)],[some (.arr 3 X)]⟩) (by kernel_rfl) hI ?_ fun a1 w1 A1 m1 hI1 =>?_
  ·simp[hXl]
   exact Wk.weak (ρ:=[0]) (φ:=[]) (by simp)
  refine wp_cond_split (t:=decide (i<l.length)) (qdj hI1.inv rfl (by decide)) (fun ht=>wp_skip ?_) fun ht=>wp_exit ?_
  rotate_left
  ·have hil:i=l.length:=by have:=of_decide_eq_false ht; omega
   subst hil
   rw[qgq]at hN hX
   rw[←hX,qbE]at hI1
   exact hex a1 w1 A1 m1 Li hN hLO (hI1.frame fun t=>by
    by_cases e:t=9
    ·subst e; exact .inl rfl
    ·exact .inr (by show _=(bif 9==t then _ else _); rw[show (9==t)=false by simpa using fun h=>e h.symm]; rfl))
  have hi':i<l.length:=of_decide_eq_true ht
  have hk2:k+((sumT Melt.cnt l (i+1):Nat):Int)≤1000000000:=by
   have:=qbG Melt.cnt l (i+1)
   omega
  have hk1:=qbF Melt.cnt hi'
  have hnx:=qgr (f:=Melt.markN) (cnt:=Melt.cnt) (k:=k) hi'
  obtain⟨kk,hkk⟩:∃kk:Int,kk=k+((sumT Melt.cnt l i:Nat):Int):=⟨_,rfl⟩
  have hkN:kk+((Melt.cnt l[i]:Nat):Int)=k+((sumT Melt.cnt l (i+1):Nat):Int):=by omega
  rw[←hkk]at hI1 hnx
  have hk0:0≤kk:=by omega
  have hkb:kk+((Melt.cnt l[i]:Nat):Int)≤1000000000:=by omega
  obtain⟨p,hpi⟩:∃p,Li[i]?=some p:=⟨_,List.getElem?_eq_getElem (by rw[hN.len,qdR]; exact hi')⟩
  obtain⟨hpz,hpr⟩:=hN.at_ i _ p (qdS hi') hpi
  obtain⟨pz,pr,u,ob⟩:=p
  simp only at hpz hpr
  subst hpz
  subst hpr
  have hset:=hN.set (rw:=Melt.rw) (i:=i) (x:=Melt.markN kk l[i]) (p:=⟨1,Melt.inn (Melt.markN kk l[i]),u,ob⟩) rfl rfl
  rw[hX,hnx]at hset
  have hXg:∀h,X[i]'h=Melt.rw l[i] u:=fun h=>by
   have h1:X[i]?=some (Melt.rw l[i] u):=by rw[←hX,rowsN,List.getElem?_zipWith,qdS hi',hpi]
   rw[List.getElem?_eq_getElem h]at h1
   exact Option.some.inj h1
  have eL:Li.take i++([⟨1,Melt.inn l[i],u,ob⟩]++Li.drop (i+1))=Li:=by
   have h1:=(List.getElem?_eq_some_iff.1 hpi)
   obtain⟨h1,h2⟩:=h1
   rw[←h2,List.singleton_append,←List.drop_eq_getElem_cons h1,List.take_append_drop]
  have eS:Li.take i++([⟨1,Melt.inn (Melt.markN kk l[i]),u,ob⟩]++Li.drop (i+1))=Li.set i ⟨1,Melt.inn (Melt.markN kk l[i]),u,ob⟩:=by
   rw[List.set_eq_take_append_cons_drop,if_pos (List.getElem?_eq_some_iff.1 hpi).1,List.singleton_append]
  rw[←eL]at hI1
  rw[show Melt.cnt l[i]=2+l[i].ingots.length from rfl]at hkb hkN
  replace hI1:=hI1.frame (fr':=[(0, .sf 0 3),(1, .int .i64 (kk)),(5, .int .i64 i),(35, .own 0)]) fun t=>by
    by_cases e:t=9
    ·subst e; exact .inl rfl
    ·exact .inr (by show _=(bif 9==t then _ else _); rw[show (9==t)=false by simpa using fun h=>e h.symm]; rfl)
  refine wp_seq (wp_block ?_)
  refine wp_seq ?_
  refine qaf hm (S1:=⟨[(0, .sf 0 3),(1, .int .i64 (kk)),(5, .int .i64 i),(35, .own 0)],[some (.arr 3 (X.set i [.str (markT (kk)), .raw u, .int .i64 l[i].mass]))]⟩) (by kernel_rfl) hI1 ?_ fun a2 w2 A2 m2 hI2 =>?_
  ·simp
   refine CallZ.use0 (qcp _ (by omega)) rfl rfl ?_
   simp[hXl,hXg,hi',Melt.rw]
   exact Wk.weak (ρ:=[0]) (φ:=[]) (by simp)
  refine wp_seq ?_
  refine qaf hm (S1:=⟨[(0, .sf 0 3),(1, .int .i64 (kk+1)),(5, .int .i64 i),(35, .own 0)],[some (.arr 3 (X.set i [.str (markT (kk)), .raw u, .int .i64 l[i].mass]))]⟩) (by kernel_rfl) hI2 ?_ fun a3 w3 A3 m3 hI3 =>?_
  ·simp
   refine Wk.weak (ρ:=[0]) (φ:=[]) ?_
   simp
   exact w64 (by omega) (by omega)
  refine wp_seq ?_
  refine markP (t:=24) (t':=25) (d:=26) (pv := .raw u) (k:=kk+1) (k':=kk+1+l[i].ingots.length) (R:=fun L'=>L'=[⟨1,qae (qbf (kk+1) l[i].ingots.length),u,ob⟩]) (S1:=⟨[(24, .raw u),(25, .int .i64 (kk+1)),(0, .sf 0 3),(1, .int .i64 (kk+1)),(5, .int .i64 i),(35, .own 0)],[some (.arr 3 (X.set i [.str (markT (kk)), .raw u, .int .i64 l[i].mass]))]⟩) (S2:=⟨[(0, .sf 0 3),(1, .int .i64 (kk+1+l[i].ingots.length)),(5, .int .i64 i),(35, .own 0)],[some (.arr 3 (X.set i [.str (markT (kk)), .raw u, .int .i64 l[i].mass]))]⟩) 6 (by kernel_rfl) hI3 rfl rfl rfl rfl (by decide) (by decide) (by decide) (fun v hv =>?_) (fun hr=>qbm rfl hr) rfl rfl ?_ ?_ fun L' a4 w4 A4 m4 hL' hI4 =>?_
  ·obtain rfl:v=u:=by
    have:=hv noB default
    cases this
    rfl
   exact NMark.flat (qjF l[i].ingots (kk+1) (by omega) (by omega)) (by simp[qae,qbf,Melt.inn]) (qa6 (qd7 _))
  ·simp[hXl,hi']
   exact Wk.weak (ρ:=[0]) (φ:=[]) (by simp)
  ·simp
   exact Wk.weak (ρ:=[0]) (φ:=[]) (by simp)
  subst hL'
  refine wp_seq ?_
  refine qaf hm (S1:=⟨[(0, .sf 0 3),(1, .int .i64 (kk+1+l[i].ingots.length)),(5, .int .i64 i),(35, .own 0)],[some (.arr 3 (X.set i [.str (markT (kk)), .raw u, .int .i64 (kk+1+l[i].ingots.length)]))]⟩) (by kernel_rfl) hI4 ?_ fun a5 w5 A5 m5 hI5 =>?_
  ·simp[hXl,hi']
   exact Wk.weak (ρ:=[0]) (φ:=[]) (by simp)
  refine wp_mono (qaE hm _ _ (thenQ (fun S'=>Weak S' ⟨[(0, .sf 0 3),(1, .int .i64 (kk+1+l[i].ingots.length+1)),(5, .int .i64 i),(35, .own 0)],[some (.arr 3 (X.set i [.str (markT (kk)), .raw u, .int .i64 (kk+1+l[i].ingots.length)]))]⟩) fun _ _=>False) (by kernel_rfl) ?_ _ _ _ _ _ hI5.inv.rebase) fun e a6 w6 ⟨S6,A6,m6,hq6,hJ6⟩ =>?_
  ·simp
   refine Wk.weak (ρ:=[0]) (φ:=[]) ?_
   simp
   exact w64 (by omega) (by omega)
  obtain⟨e0,hI6⟩:e = .normal∧∃A' m',InvP x 35 ⟨[(0, .sf 0 3),(1, .int .i64 (kk+1+l[i].ingots.length+1)),(5, .int .i64 i),(35, .own 0)],[some (.arr 3 (X.set i [.str (markT (kk)), .raw u, .int .i64 (kk+1+l[i].ingots.length)]))]⟩ a6 w6 A' m' (Li.take i++([(⟨1,qae (qbf (kk+1) l[i].ingots.length),u,ob⟩:Pind)]++Li.drop (i+1))):=by
   cases e with
   | normal =>
    obtain⟨A',m',hI'⟩:=hq6 _ _ _ _ _ _ hJ6
    exact⟨rfl,A',m',hI5.step hI'⟩
   | _=>exact hq6.elim
  subst e0
  obtain⟨A6,m6,hI6⟩:=hI6
  simp only[Exit.inBlock]
  show Code.wp _ _ _ _ _
  refine wp_mono (qaE hm _ _ (thenQ (fun S'=>Weak S' ⟨[(0, .sf 0 3),(1, .int .i64 (kk+1+l[i].ingots.length+1)),(5, .int .i64 (i+1)),(35, .own 0)],[some (.arr 3 (X.set i [.str (markT (kk)), .raw u, .int .i64 (kk+1+l[i].ingots.length)]))]⟩) fun _ _=>False) (by kernel_rfl) ?_ _ _ _ _ _ hI6.inv.rebase) fun e a7 w7 ⟨S7,A7,m7,hq7,hJ7⟩ =>?_
  ·simp
   refine Wk.weak (ρ:=[0]) (φ:=[]) ?_
   simp
   exact w64 (by omega) (by omega)
  cases e with
  | normal =>
   obtain⟨A',m',hI'⟩:=hq7 _ _ _ _ _ _ hJ7
   have hF:=hI6.step hI'
   have eR:Melt.rw (Melt.markN kk l[i]) u=[.str (markT (kk)), .raw u, .int .i64 (kk+1+l[i].ingots.length)]:=rfl
   have eI:Melt.inn (Melt.markN kk l[i])=qae (qbf (kk+1) l[i].ingots.length):=rfl
   rw[eR]at hset
   rw[←hset.2,←eI,eS,show kk+1+l[i].ingots.length+1=k+((sumT Melt.cnt l (i+1):Nat):Int) by omega]at hF
   refine qk5 l k hk hb hex kf (i+1) _ _ _ _ _ (by omega) (by omega) hset.1 (fun b hbb=>hLO b ?_) hF
   rw[←eS]at hbb
   rw[←eL]
   refine qau.2 ((qau.1 hbb).imp id fun h=>qau.2 ((qau.1 h).imp (fun h =>?_) id))
   obtain⟨q,hq,e⟩:=h
   simp only[List.mem_singleton]at hq
   subst hq
   exact⟨_,List.mem_singleton_self _,e⟩
  | _=>exact hq7.elim
set_option maxHeartbeats 1000000 in
theorem qrR (l:List Melt) (k:Int) (hk:0≤k) (hb:k+((l.map Melt.cnt).sum:Nat)≤1000000000) {v:Value} {L:List Pind} (hN:Nest 3 1 Melt.rw Melt.inn l v L):NMark Tryz.prog 92 v k (k+((l.map Melt.cnt).sum:Nat)) L fun L'=>Nest 3 1 Melt.rw Melt.inn (qav Melt.markN Melt.cnt k l) v L':=fun A w hA hL hd=>by
 obtain⟨ob,Li,rfl,hNI⟩:=hN
 have hlen:l.length≤1000000000:=by
  have h1:=qdq Melt.cnt l fun x=>by unfold Melt.cnt; omega
  omega
 refine (qcz (args:=[.raw v, .int .i64 k]) (M:=pindB (⟨3,rowsN Melt.rw l Li,v,ob⟩::Li)) (gh:=fun _=>ownV ob (capV v)) (R:=fun r w'=>r = .int .i64 (k+((l.map Melt.cnt).sum:Nat))∧∃L',Moved (pindB (⟨3,rowsN Melt.rw l Li,v,ob⟩::Li)) w w'∧Pinds w' L'∧(∀b,pindB L' b→pindB (⟨3,rowsN Melt.rw l Li,v,ob⟩::Li) b∨w.heap.size≤b)∧Nest 3 1 Melt.rw Melt.inn (qav Melt.markN Melt.cnt k l) v L') Tryz.func92 (by kernel_rfl) rfl (by kernel_rfl) (by kernel_rfl) hA rfl (fun i p hi =>?_) fun a hI =>?_).mono fun e w' ⟨r,he,hr,h1⟩=>⟨by rw[he,hr],h1⟩
 ·match i with
  | 0=>cases hi; exact .raw _
  | 1=>cases hi; exact .int _ _
  | i+2=>simp at hi
 have hP:InvP ⟨w,A,pindB (⟨3,rowsN Melt.rw l Li,v,ob⟩::Li),fun _=>ownV ob (capV v)⟩ 35 ⟨[(0, .raw v),(1, .int .i64 k)],[]⟩ a w A noM (⟨3,rowsN Melt.rw l Li,v,ob⟩::Li):=⟨hI,hL,fun b hb=>⟨hd b hb,fun ⟨k,o,C,hk,_⟩=>by simp[getO]at hk, .inl hb⟩⟩
 obtain⟨ho,hop⟩:=hL.at_ _ (List.mem_cons_self ..)
 have h0:=qf2 hP.inv (t:=0) rfl
 obtain⟨m1,hP1,hr1,hr2⟩:=hP.adopt
 have hP2:=(hP1.know (d:=0) (p := .sf 0 3) (by rw[h0]; exact hr1)).know (d:=35) (p := .own 0) (by rw[show Go.Ab.look ⟨w,A,pindB (⟨3,rowsN Melt.rw l Li,v,ob⟩::Li),fun _=>ownV ob (capV v)⟩ 35 a 35=ownV ob (capV v) from rfl]; exact hr2)
 refine wp_seq ?_
 refine qaf hm (S1:=⟨[(0, .sf 0 3),(1, .int .i64 k),(35, .own 0)],[some (.arr 3 (rowsN Melt.rw l Li))]⟩) (by kernel_rfl) hP2 ?_ fun a3 w3 A3 m3 hI3 =>?_
 ·simp
  exact Wk.weak (ρ:=[0]) (φ:=[]) (by simp)
 refine wp_seq (wp_seq ?_)
 refine qaf hm (S1:=⟨[(0, .sf 0 3),(1, .int .i64 k),(5, .int .i64 0),(35, .own 0)],[some (.arr 3 (rowsN Melt.rw l Li))]⟩) (by kernel_rfl) hI3 ?_ fun a4 w4 A4 m4 hI4 =>?_
 ·simp
  exact Wk.weak (ρ:=[0]) (φ:=[]) (by simp)
 refine wp_block (wp_loop_rounds (l.length+1) (qk5 l k hk hb (LO:=Li) (fun a5 w5 A5 m5 Li5 hN5 hs5 hI5 =>?_) _ 0 _ _ _ _ Li (by omega) (by omega) (by rw[qdQ]; exact hNI) (fun b hb=>hb) (by simpa[qaR,qdQ]using hI4)))
 simp only[Exit.inBlock,if_true]
 show Code.wp _ _ _ _ _
 refine wp_seq ?_
 refine qaf hm (S1:=⟨[(4, .int .i64 (k+((l.map Melt.cnt).sum:Nat))),(35, .own 0)],[some (.arr 3 (rowsN Melt.rw (qav Melt.markN Melt.cnt k l) Li5))]⟩) (by kernel_rfl) hI5 ?_ fun a6 w6 A6 m6 hI6 =>?_
 ·simp
  exact Wk.weak (ρ:=[0]) (φ:=[]) (by simp)
 refine wp_ret ⟨.inr rfl,_,_,_,hI6.inv,⟨trivial,trivial⟩,fun r hr =>?_⟩
 have hr':r = .int .i64 (k+((l.map Melt.cnt).sum:Nat)):=by
  change RepO _ _ _ _ (.int .i64 (k+((l.map Melt.cnt).sum:Nat))) r at hr
  cases hr with
  | imm hi=>cases hi; rfl
 have hpin:=hI6.home (t:=35) (k:=0) (v:=v) (ob:=ob) (rows:=rowsN Melt.rw l Li) rfl rfl rfl ho (by rw[qbz hN5.len,qdr,qbz hNI.len]) (qdO Melt.rw_pure _ _)
 exact⟨hr',_,hI6.inv.moved,hpin,fun b hb => .inl (qaH.2 ((qaH.1 hb).imp id (hs5 b))),ob,Li5,rfl,hN5⟩
def Bell.markN (k:Int) (x:Bell):Bell:=⟨markT (k),k+1,k+1+1,k+1+1+1,Share.marks (k+1+1+1+1) x.shares.length⟩
def Bell.cnt (x:Bell):Nat:=4+2*x.shares.length
noncomputable def qrS:Code:=match Tryz.f93.body with
 | some (.seq _ (.seq (.seq _ (.block _ (.loop c))) _))=>c
 | _ => .skip
set_option maxHeartbeats 4000000 in
theorem qk6 (l:List Bell) (k:Int) (hk:0≤k) (hb:k+((l.map Bell.cnt).sum:Nat)≤1000000000) {x:Ctx} {LO:List Pind} {Q:Exit→Act→World→Prop}
  (hex:∀a w A m Li,NestI 2 Bell.inn (qav Bell.markN Bell.cnt k l) Li→(∀b,pindB Li b→pindB LO b)→InvP x 49 ⟨[(0, .sf 0 5),(1, .int .i64 (k+(((l.map Bell.cnt).sum:Nat):Int))),(5, .int .i64 l.length),(49, .own 0)],[some (.arr 5 (rowsN Bell.rw (qav Bell.markN Bell.cnt k l) Li))]⟩ a w A m Li→Q (.exit 0) a w) :
  ∀(kf i:Nat) (a:Act) (w:World) (A:Nat→Prop) (m:OMap) (Li:List Pind),l.length<kf+i→i≤l.length→NestI 2 Bell.inn (qaY Bell.markN Bell.cnt k l i) Li→(∀b,pindB Li b→pindB LO b)→InvP x 49 ⟨[(0, .sf 0 5),(1, .int .i64 (k+((sumT Bell.cnt l i:Nat):Int))),(5, .int .i64 i),(49, .own 0)],[some (.arr 5 (rowsN Bell.rw (qaY Bell.markN Bell.cnt k l i) Li))]⟩ a w A m Li→Code.rounds Tryz.prog qrS Q kf a w
 | 0,i,a,w,A,m,Li,hkf,hi,_,_,_=>absurd hkf (by omega)
 | kf+1,i,a,w,A,m,Li,hkf,hi,hN,hLO,hI=>by
  have hlen:l.length≤1000000000:=by
   have h1:=qdq Bell.cnt l fun x=>by unfold Bell.cnt; omega
   omega
  rw[rounds_succ]
  obtain⟨X,hX,hXl⟩:∃X,rowsN Bell.rw (qaY Bell.markN Bell.cnt k l i) Li=X∧X.length=l.length:=⟨_,rfl,by rw[qbz hN.len,qdR]⟩
  rw[hX]at hI
  refine wp_seq (wp_seq ?_)
  refine qaf hm (S1:=⟨[(9, .bool (decide (i<l.length))),(0, .sf 0 5),(1, .int .i64 (k+((sumT Bell.cnt l i:Nat):Int))),(5, .int .i64 i),(49, .own 0)],[some (.arr 5 X)]⟩) (by kernel_rfl) hI ?_ fun a1 w1 A1 m1 hI1 =>?_
  ·simp[hXl]
   exact Wk.weak (ρ:=[0]) (φ:=[]) (by simp)
  refine wp_cond_split (t:=decide (i<l.length)) (qdj hI1.inv rfl (by decide)) (fun ht=>wp_skip ?_) fun ht=>wp_exit ?_
  rotate_left
  ·have hil:i=l.length:=by have:=of_decide_eq_false ht; omega
   subst hil
   rw[qgq]at hN hX
   rw[←hX,qbE]at hI1
   exact hex a1 w1 A1 m1 Li hN hLO (hI1.frame fun t=>by
    by_cases e:t=9
    ·subst e; exact .inl rfl
    ·exact .inr (by show _=(bif 9==t then _ else _); rw[show (9==t)=false by simpa using fun h=>e h.symm]; rfl))
  have hi':i<l.length:=of_decide_eq_true ht
  have hk2:k+((sumT Bell.cnt l (i+1):Nat):Int)≤1000000000:=by
   have:=qbG Bell.cnt l (i+1)
   omega
  have hk1:=qbF Bell.cnt hi'
  have hnx:=qgr (f:=Bell.markN) (cnt:=Bell.cnt) (k:=k) hi'
  obtain⟨kk,hkk⟩:∃kk:Int,kk=k+((sumT Bell.cnt l i:Nat):Int):=⟨_,rfl⟩
  have hkN:kk+((Bell.cnt l[i]:Nat):Int)=k+((sumT Bell.cnt l (i+1):Nat):Int):=by omega
  rw[←hkk]at hI1 hnx
  have hk0:0≤kk:=by omega
  have hkb:kk+((Bell.cnt l[i]:Nat):Int)≤1000000000:=by omega
  obtain⟨p,hpi⟩:∃p,Li[i]?=some p:=⟨_,List.getElem?_eq_getElem (by rw[hN.len,qdR]; exact hi')⟩
  obtain⟨hpz,hpr⟩:=hN.at_ i _ p (qdS hi') hpi
  obtain⟨pz,pr,u,ob⟩:=p
  simp only at hpz hpr
  subst hpz
  subst hpr
  have hset:=hN.set (rw:=Bell.rw) (i:=i) (x:=Bell.markN kk l[i]) (p:=⟨2,Bell.inn (Bell.markN kk l[i]),u,ob⟩) rfl rfl
  rw[hX,hnx]at hset
  have hXg:∀h,X[i]'h=Bell.rw l[i] u:=fun h=>by
   have h1:X[i]?=some (Bell.rw l[i] u):=by rw[←hX,rowsN,List.getElem?_zipWith,qdS hi',hpi]
   rw[List.getElem?_eq_getElem h]at h1
   exact Option.some.inj h1
  have eL:Li.take i++([⟨2,Bell.inn l[i],u,ob⟩]++Li.drop (i+1))=Li:=by
   have h1:=(List.getElem?_eq_some_iff.1 hpi)
   obtain⟨h1,h2⟩:=h1
   rw[←h2,List.singleton_append,←List.drop_eq_getElem_cons h1,List.take_append_drop]
  have eS:Li.take i++([⟨2,Bell.inn (Bell.markN kk l[i]),u,ob⟩]++Li.drop (i+1))=Li.set i ⟨2,Bell.inn (Bell.markN kk l[i]),u,ob⟩:=by
   rw[List.set_eq_take_append_cons_drop,if_pos (List.getElem?_eq_some_iff.1 hpi).1,List.singleton_append]
  rw[←eL]at hI1
  rw[show Bell.cnt l[i]=4+2*l[i].shares.length from rfl]at hkb hkN
  replace hI1:=hI1.frame (fr':=[(0, .sf 0 5),(1, .int .i64 (kk)),(5, .int .i64 i),(49, .own 0)]) fun t=>by
    by_cases e:t=9
    ·subst e; exact .inl rfl
    ·exact .inr (by show _=(bif 9==t then _ else _); rw[show (9==t)=false by simpa using fun h=>e h.symm]; rfl)
  refine wp_seq (wp_block ?_)
  refine wp_seq ?_
  refine qaf hm (S1:=⟨[(0, .sf 0 5),(1, .int .i64 (kk)),(5, .int .i64 i),(49, .own 0)],[some (.arr 5 (X.set i [.str (markT (kk)), .int .i64 l[i].note, .int .i64 l[i].mass, .int .i64 l[i].feed, .raw u]))]⟩) (by kernel_rfl) hI1 ?_ fun a2 w2 A2 m2 hI2 =>?_
  ·simp
   refine CallZ.use0 (qcp _ (by omega)) rfl rfl ?_
   simp[hXl,hXg,hi',Bell.rw]
   exact Wk.weak (ρ:=[0]) (φ:=[]) (by simp)
  refine wp_seq ?_
  refine qaf hm (S1:=⟨[(0, .sf 0 5),(1, .int .i64 (kk+1)),(5, .int .i64 i),(49, .own 0)],[some (.arr 5 (X.set i [.str (markT (kk)), .int .i64 l[i].note, .int .i64 l[i].mass, .int .i64 l[i].feed, .raw u]))]⟩) (by kernel_rfl) hI2 ?_ fun a3 w3 A3 m3 hI3 =>?_
  ·simp
   refine Wk.weak (ρ:=[0]) (φ:=[]) ?_
   simp
   exact w64 (by omega) (by omega)
  refine wp_seq ?_
  refine qaf hm (S1:=⟨[(0, .sf 0 5),(1, .int .i64 (kk+1)),(5, .int .i64 i),(49, .own 0)],[some (.arr 5 (X.set i [.str (markT (kk)), .int .i64 (kk+1), .int .i64 l[i].mass, .int .i64 l[i].feed, .raw u]))]⟩) (by kernel_rfl) hI3 ?_ fun a4 w4 A4 m4 hI4 =>?_
  ·simp[hXl,hi']
   exact Wk.weak (ρ:=[0]) (φ:=[]) (by simp)
  refine wp_seq ?_
  refine qaf hm (S1:=⟨[(0, .sf 0 5),(1, .int .i64 (kk+1+1)),(5, .int .i64 i),(49, .own 0)],[some (.arr 5 (X.set i [.str (markT (kk)), .int .i64 (kk+1), .int .i64 l[i].mass, .int .i64 l[i].feed, .raw u]))]⟩) (by kernel_rfl) hI4 ?_ fun a5 w5 A5 m5 hI5 =>?_
  ·simp
   refine Wk.weak (ρ:=[0]) (φ:=[]) ?_
   simp
   exact w64 (by omega) (by omega)
  refine wp_seq ?_
  refine qaf hm (S1:=⟨[(0, .sf 0 5),(1, .int .i64 (kk+1+1)),(5, .int .i64 i),(49, .own 0)],[some (.arr 5 (X.set i [.str (markT (kk)), .int .i64 (kk+1), .int .i64 (kk+1+1), .int .i64 l[i].feed, .raw u]))]⟩) (by kernel_rfl) hI5 ?_ fun a6 w6 A6 m6 hI6 =>?_
  ·simp[hXl,hi']
   exact Wk.weak (ρ:=[0]) (φ:=[]) (by simp)
  refine wp_seq ?_
  refine qaf hm (S1:=⟨[(0, .sf 0 5),(1, .int .i64 (kk+1+1+1)),(5, .int .i64 i),(49, .own 0)],[some (.arr 5 (X.set i [.str (markT (kk)), .int .i64 (kk+1), .int .i64 (kk+1+1), .int .i64 l[i].feed, .raw u]))]⟩) (by kernel_rfl) hI6 ?_ fun a7 w7 A7 m7 hI7 =>?_
  ·simp
   refine Wk.weak (ρ:=[0]) (φ:=[]) ?_
   simp
   exact w64 (by omega) (by omega)
  refine wp_seq ?_
  refine qaf hm (S1:=⟨[(0, .sf 0 5),(1, .int .i64 (kk+1+1+1)),(5, .int .i64 i),(49, .own 0)],[some (.arr 5 (X.set i [.str (markT (kk)), .int .i64 (kk+1), .int .i64 (kk+1+1), .int .i64 (kk+1+1+1), .raw u]))]⟩) (by kernel_rfl) hI7 ?_ fun a8 w8 A8 m8 hI8 =>?_
  ·simp[hXl,hi']
   exact Wk.weak (ρ:=[0]) (φ:=[]) (by simp)
  refine wp_seq ?_
  refine qaf hm (S1:=⟨[(0, .sf 0 5),(1, .int .i64 (kk+1+1+1+1)),(5, .int .i64 i),(49, .own 0)],[some (.arr 5 (X.set i [.str (markT (kk)), .int .i64 (kk+1), .int .i64 (kk+1+1), .int .i64 (kk+1+1+1), .raw u]))]⟩) (by kernel_rfl) hI8 ?_ fun a9 w9 A9 m9 hI9 =>?_
  ·simp
   refine Wk.weak (ρ:=[0]) (φ:=[]) ?_
   simp
   exact w64 (by omega) (by omega)
  refine markP (t:=45) (t':=46) (d:=47) (pv := .raw u) (k:=kk+1+1+1+1) (k':=kk+1+1+1+1+2*l[i].shares.length) (R:=fun L'=>L'=[⟨2,Share.rows (Share.marks (kk+1+1+1+1) l[i].shares.length),u,ob⟩]) (S1:=⟨[(45, .raw u),(46, .int .i64 (kk+1+1+1+1)),(0, .sf 0 5),(1, .int .i64 (kk+1+1+1+1)),(5, .int .i64 i),(49, .own 0)],[some (.arr 5 (X.set i [.str (markT (kk)), .int .i64 (kk+1), .int .i64 (kk+1+1), .int .i64 (kk+1+1+1), .raw u]))]⟩) (S2:=⟨[(0, .sf 0 5),(1, .int .i64 (kk+1+1+1+1+2*l[i].shares.length)),(5, .int .i64 i),(49, .own 0)],[some (.arr 5 (X.set i [.str (markT (kk)), .int .i64 (kk+1), .int .i64 (kk+1+1), .int .i64 (kk+1+1+1), .raw u]))]⟩) 6 (by kernel_rfl) hI9 rfl rfl rfl rfl (by decide) (by decide) (by decide) (fun v hv =>?_) (fun hr=>qbm rfl hr) rfl rfl ?_ ?_ fun L' a10 w10 A10 m10 hL' hI10 =>?_
  ·obtain rfl:v=u:=by
    have:=hv noB default
    cases this
    rfl
   exact NMark.flat (qom l[i].shares (kk+1+1+1+1) (by omega) (by omega)) (by simp[Share.rows,Share.marks,Bell.inn]) (qa6 (Share.flat _))
  ·simp[hXl,hi']
   exact Wk.weak (ρ:=[0]) (φ:=[]) (by simp)
  ·simp
   exact Wk.weak (ρ:=[0]) (φ:=[]) (by simp)
  subst hL'
  simp only[Exit.inBlock]
  show Code.wp _ _ _ _ _
  refine wp_mono (qaE hm _ _ (thenQ (fun S'=>Weak S' ⟨[(0, .sf 0 5),(1, .int .i64 (kk+1+1+1+1+2*l[i].shares.length)),(5, .int .i64 (i+1)),(49, .own 0)],[some (.arr 5 (X.set i [.str (markT (kk)), .int .i64 (kk+1), .int .i64 (kk+1+1), .int .i64 (kk+1+1+1), .raw u]))]⟩) fun _ _=>False) (by kernel_rfl) ?_ _ _ _ _ _ hI10.inv.rebase) fun e a11 w11 ⟨S11,A11,m11,hq11,hJ11⟩ =>?_
  ·simp
   refine Wk.weak (ρ:=[0]) (φ:=[]) ?_
   simp
   exact w64 (by omega) (by omega)
  cases e with
  | normal =>
   obtain⟨A',m',hI'⟩:=hq11 _ _ _ _ _ _ hJ11
   have hF:=hI10.step hI'
   have eR:Bell.rw (Bell.markN kk l[i]) u=[.str (markT (kk)), .int .i64 (kk+1), .int .i64 (kk+1+1), .int .i64 (kk+1+1+1), .raw u]:=rfl
   have eI:Bell.inn (Bell.markN kk l[i])=Share.rows (Share.marks (kk+1+1+1+1) l[i].shares.length):=rfl
   rw[eR]at hset
   rw[←hset.2,←eI,eS,show kk+1+1+1+1+2*l[i].shares.length=k+((sumT Bell.cnt l (i+1):Nat):Int) by omega]at hF
   refine qk6 l k hk hb hex kf (i+1) _ _ _ _ _ (by omega) (by omega) hset.1 (fun b hbb=>hLO b ?_) hF
   rw[←eS]at hbb
   rw[←eL]
   refine qau.2 ((qau.1 hbb).imp id fun h=>qau.2 ((qau.1 h).imp (fun h =>?_) id))
   obtain⟨q,hq,e⟩:=h
   simp only[List.mem_singleton]at hq
   subst hq
   exact⟨_,List.mem_singleton_self _,e⟩
  | _=>exact hq11.elim
set_option maxHeartbeats 1000000 in
theorem qrT (l:List Bell) (k:Int) (hk:0≤k) (hb:k+((l.map Bell.cnt).sum:Nat)≤1000000000) {v:Value} {L:List Pind} (hN:Nest 5 2 Bell.rw Bell.inn l v L):NMark Tryz.prog 93 v k (k+((l.map Bell.cnt).sum:Nat)) L fun L'=>Nest 5 2 Bell.rw Bell.inn (qav Bell.markN Bell.cnt k l) v L':=fun A w hA hL hd=>by
 obtain⟨ob,Li,rfl,hNI⟩:=hN
 have hlen:l.length≤1000000000:=by
  have h1:=qdq Bell.cnt l fun x=>by unfold Bell.cnt; omega
  omega
 refine (qcz (args:=[.raw v, .int .i64 k]) (M:=pindB (⟨5,rowsN Bell.rw l Li,v,ob⟩::Li)) (gh:=fun _=>ownV ob (capV v)) (R:=fun r w'=>r = .int .i64 (k+((l.map Bell.cnt).sum:Nat))∧∃L',Moved (pindB (⟨5,rowsN Bell.rw l Li,v,ob⟩::Li)) w w'∧Pinds w' L'∧(∀b,pindB L' b→pindB (⟨5,rowsN Bell.rw l Li,v,ob⟩::Li) b∨w.heap.size≤b)∧Nest 5 2 Bell.rw Bell.inn (qav Bell.markN Bell.cnt k l) v L') Tryz.func93 (by kernel_rfl) rfl (by kernel_rfl) (by kernel_rfl) hA rfl (fun i p hi =>?_) fun a hI =>?_).mono fun e w' ⟨r,he,hr,h1⟩=>⟨by rw[he,hr],h1⟩
 ·match i with
  | 0=>cases hi; exact .raw _
  | 1=>cases hi; exact .int _ _
  | i+2=>simp at hi
 have hP:InvP ⟨w,A,pindB (⟨5,rowsN Bell.rw l Li,v,ob⟩::Li),fun _=>ownV ob (capV v)⟩ 49 ⟨[(0, .raw v),(1, .int .i64 k)],[]⟩ a w A noM (⟨5,rowsN Bell.rw l Li,v,ob⟩::Li):=⟨hI,hL,fun b hb=>⟨hd b hb,fun ⟨k,o,C,hk,_⟩=>by simp[getO]at hk, .inl hb⟩⟩
 obtain⟨ho,hop⟩:=hL.at_ _ (List.mem_cons_self ..)
 have h0:=qf2 hP.inv (t:=0) rfl
 obtain⟨m1,hP1,hr1,hr2⟩:=hP.adopt
 have hP2:=(hP1.know (d:=0) (p := .sf 0 5) (by rw[h0]; exact hr1)).know (d:=49) (p := .own 0) (by rw[show Go.Ab.look ⟨w,A,pindB (⟨5,rowsN Bell.rw l Li,v,ob⟩::Li),fun _=>ownV ob (capV v)⟩ 49 a 49=ownV ob (capV v) from rfl]; exact hr2)
 refine wp_seq ?_
 refine qaf hm (S1:=⟨[(0, .sf 0 5),(1, .int .i64 k),(49, .own 0)],[some (.arr 5 (rowsN Bell.rw l Li))]⟩) (by kernel_rfl) hP2 ?_ fun a3 w3 A3 m3 hI3 =>?_
 ·simp
  exact Wk.weak (ρ:=[0]) (φ:=[]) (by simp)
 refine wp_seq (wp_seq ?_)
 refine qaf hm (S1:=⟨[(0, .sf 0 5),(1, .int .i64 k),(5, .int .i64 0),(49, .own 0)],[some (.arr 5 (rowsN Bell.rw l Li))]⟩) (by kernel_rfl) hI3 ?_ fun a4 w4 A4 m4 hI4 =>?_
 ·simp
  exact Wk.weak (ρ:=[0]) (φ:=[]) (by simp)
 refine wp_block (wp_loop_rounds (l.length+1) (qk6 l k hk hb (LO:=Li) (fun a5 w5 A5 m5 Li5 hN5 hs5 hI5 =>?_) _ 0 _ _ _ _ Li (by omega) (by omega) (by rw[qdQ]; exact hNI) (fun b hb=>hb) (by simpa[qaR,qdQ]using hI4)))
 simp only[Exit.inBlock,if_true]
 show Code.wp _ _ _ _ _
 refine wp_seq ?_
 refine qaf hm (S1:=⟨[(4, .int .i64 (k+((l.map Bell.cnt).sum:Nat))),(49, .own 0)],[some (.arr 5 (rowsN Bell.rw (qav Bell.markN Bell.cnt k l) Li5))]⟩) (by kernel_rfl) hI5 ?_ fun a6 w6 A6 m6 hI6 =>?_
 ·simp
  exact Wk.weak (ρ:=[0]) (φ:=[]) (by simp)
 refine wp_ret ⟨.inr rfl,_,_,_,hI6.inv,⟨trivial,trivial⟩,fun r hr =>?_⟩
 have hr':r = .int .i64 (k+((l.map Bell.cnt).sum:Nat)):=by
  change RepO _ _ _ _ (.int .i64 (k+((l.map Bell.cnt).sum:Nat))) r at hr
  cases hr with
  | imm hi=>cases hi; rfl
 have hpin:=hI6.home (t:=49) (k:=0) (v:=v) (ob:=ob) (rows:=rowsN Bell.rw l Li) rfl rfl rfl ho (by rw[qbz hN5.len,qdr,qbz hNI.len]) (qdO Bell.rw_pure _ _)
 exact⟨hr',_,hI6.inv.moved,hpin,fun b hb => .inl (qaH.2 ((qaH.1 hb).imp id (hs5 b))),ob,Li5,rfl,hN5⟩
def Beam.markN (k:Int) (x:Beam):Beam:=⟨markT (k),k+1,k+1+1,k+1+1+1,k+1+1+1+1,Load.marks (k+1+1+1+1+1) x.loads.length⟩
def Beam.cnt (x:Beam):Nat:=5+2*x.loads.length
noncomputable def qrU:Code:=match Tryz.f96.body with
 | some (.seq _ (.seq (.seq _ (.block _ (.loop c))) _))=>c
 | _ => .skip
set_option maxHeartbeats 4000000 in
theorem qk7 (l:List Beam) (k:Int) (hk:0≤k) (hb:k+((l.map Beam.cnt).sum:Nat)≤1000000000) {x:Ctx} {LO:List Pind} {Q:Exit→Act→World→Prop}
  (hex:∀a w A m Li,NestI 2 Beam.inn (qav Beam.markN Beam.cnt k l) Li→(∀b,pindB Li b→pindB LO b)→InvP x 56 ⟨[(0, .sf 0 6),(1, .int .i64 (k+(((l.map Beam.cnt).sum:Nat):Int))),(5, .int .i64 l.length),(56, .own 0)],[some (.arr 6 (rowsN Beam.rw (qav Beam.markN Beam.cnt k l) Li))]⟩ a w A m Li→Q (.exit 0) a w) :
  ∀(kf i:Nat) (a:Act) (w:World) (A:Nat→Prop) (m:OMap) (Li:List Pind),l.length<kf+i→i≤l.length→NestI 2 Beam.inn (qaY Beam.markN Beam.cnt k l i) Li→(∀b,pindB Li b→pindB LO b)→InvP x 56 ⟨[(0, .sf 0 6),(1, .int .i64 (k+((sumT Beam.cnt l i:Nat):Int))),(5, .int .i64 i),(56, .own 0)],[some (.arr 6 (rowsN Beam.rw (qaY Beam.markN Beam.cnt k l i) Li))]⟩ a w A m Li→Code.rounds Tryz.prog qrU Q kf a w
 | 0,i,a,w,A,m,Li,hkf,hi,_,_,_=>absurd hkf (by omega)
 | kf+1,i,a,w,A,m,Li,hkf,hi,hN,hLO,hI=>by
  have hlen:l.length≤1000000000:=by
   have h1:=qdq Beam.cnt l fun x=>by unfold Beam.cnt; omega
   omega
  rw[rounds_succ]
  obtain⟨X,hX,hXl⟩:∃X,rowsN Beam.rw (qaY Beam.markN Beam.cnt k l i) Li=X∧X.length=l.length:=⟨_,rfl,by rw[qbz hN.len,qdR]⟩
  rw[hX]at hI
  refine wp_seq (wp_seq ?_)
  refine qaf hm (S1:=⟨[(9, .bool (decide (i<l.length))),(0, .sf 0 6),(1, .int .i64 (k+((sumT Beam.cnt l i:Nat):Int))),(5, .int .i64 i),(56, .own 0)],[some (.arr 6 X)]⟩) (by kernel_rfl) hI ?_ fun a1 w1 A1 m1 hI1 =>?_
  ·simp[hXl]
   exact Wk.weak (ρ:=[0]) (φ:=[]) (by simp)
  refine wp_cond_split (t:=decide (i<l.length)) (qdj hI1.inv rfl (by decide)) (fun ht=>wp_skip ?_) fun ht=>wp_exit ?_
  rotate_left
  ·have hil:i=l.length:=by have:=of_decide_eq_false ht; omega
   subst hil
   rw[qgq]at hN hX
   rw[←hX,qbE]at hI1
   exact hex a1 w1 A1 m1 Li hN hLO (hI1.frame fun t=>by
    by_cases e:t=9
    ·subst e; exact .inl rfl
    ·exact .inr (by show _=(bif 9==t then _ else _); rw[show (9==t)=false by simpa using fun h=>e h.symm]; rfl))
  have hi':i<l.length:=of_decide_eq_true ht
  have hk2:k+((sumT Beam.cnt l (i+1):Nat):Int)≤1000000000:=by
   have:=qbG Beam.cnt l (i+1)
   omega
  have hk1:=qbF Beam.cnt hi'
  have hnx:=qgr (f:=Beam.markN) (cnt:=Beam.cnt) (k:=k) hi'
  obtain⟨kk,hkk⟩:∃kk:Int,kk=k+((sumT Beam.cnt l i:Nat):Int):=⟨_,rfl⟩
  have hkN:kk+((Beam.cnt l[i]:Nat):Int)=k+((sumT Beam.cnt l (i+1):Nat):Int):=by omega
  rw[←hkk]at hI1 hnx
  have hk0:0≤kk:=by omega
  have hkb:kk+((Beam.cnt l[i]:Nat):Int)≤1000000000:=by omega
  obtain⟨p,hpi⟩:∃p,Li[i]?=some p:=⟨_,List.getElem?_eq_getElem (by rw[hN.len,qdR]; exact hi')⟩
  obtain⟨hpz,hpr⟩:=hN.at_ i _ p (qdS hi') hpi
  obtain⟨pz,pr,u,ob⟩:=p
  simp only at hpz hpr
  subst hpz
  subst hpr
  have hset:=hN.set (rw:=Beam.rw) (i:=i) (x:=Beam.markN kk l[i]) (p:=⟨2,Beam.inn (Beam.markN kk l[i]),u,ob⟩) rfl rfl
  rw[hX,hnx]at hset
  have hXg:∀h,X[i]'h=Beam.rw l[i] u:=fun h=>by
   have h1:X[i]?=some (Beam.rw l[i] u):=by rw[←hX,rowsN,List.getElem?_zipWith,qdS hi',hpi]
   rw[List.getElem?_eq_getElem h]at h1
   exact Option.some.inj h1
  have eL:Li.take i++([⟨2,Beam.inn l[i],u,ob⟩]++Li.drop (i+1))=Li:=by
   have h1:=(List.getElem?_eq_some_iff.1 hpi)
   obtain⟨h1,h2⟩:=h1
   rw[←h2,List.singleton_append,←List.drop_eq_getElem_cons h1,List.take_append_drop]
  have eS:Li.take i++([⟨2,Beam.inn (Beam.markN kk l[i]),u,ob⟩]++Li.drop (i+1))=Li.set i ⟨2,Beam.inn (Beam.markN kk l[i]),u,ob⟩:=by
   rw[List.set_eq_take_append_cons_drop,if_pos (List.getElem?_eq_some_iff.1 hpi).1,List.singleton_append]
  rw[←eL]at hI1
  rw[show Beam.cnt l[i]=5+2*l[i].loads.length from rfl]at hkb hkN
  replace hI1:=hI1.frame (fr':=[(0, .sf 0 6),(1, .int .i64 (kk)),(5, .int .i64 i),(56, .own 0)]) fun t=>by
    by_cases e:t=9
    ·subst e; exact .inl rfl
    ·exact .inr (by show _=(bif 9==t then _ else _); rw[show (9==t)=false by simpa using fun h=>e h.symm]; rfl)
  refine wp_seq (wp_block ?_)
  refine wp_seq ?_
  refine qaf hm (S1:=⟨[(0, .sf 0 6),(1, .int .i64 (kk)),(5, .int .i64 i),(56, .own 0)],[some (.arr 6 (X.set i [.str (markT (kk)), .int .i64 l[i].span, .int .i64 l[i].width, .int .i64 l[i].depth, .int .i64 l[i].wood, .raw u]))]⟩) (by kernel_rfl) hI1 ?_ fun a2 w2 A2 m2 hI2 =>?_
  ·simp
   refine CallZ.use0 (qcp _ (by omega)) rfl rfl ?_
   simp[hXl,hXg,hi',Beam.rw]
   exact Wk.weak (ρ:=[0]) (φ:=[]) (by simp)
  refine wp_seq ?_
  refine qaf hm (S1:=⟨[(0, .sf 0 6),(1, .int .i64 (kk+1)),(5, .int .i64 i),(56, .own 0)],[some (.arr 6 (X.set i [.str (markT (kk)), .int .i64 l[i].span, .int .i64 l[i].width, .int .i64 l[i].depth, .int .i64 l[i].wood, .raw u]))]⟩) (by kernel_rfl) hI2 ?_ fun a3 w3 A3 m3 hI3 =>?_
  ·simp
   refine Wk.weak (ρ:=[0]) (φ:=[]) ?_
   simp
   exact w64 (by omega) (by omega)
  refine wp_seq ?_
  refine qaf hm (S1:=⟨[(0, .sf 0 6),(1, .int .i64 (kk+1)),(5, .int .i64 i),(56, .own 0)],[some (.arr 6 (X.set i [.str (markT (kk)), .int .i64 (kk+1), .int .i64 l[i].width, .int .i64 l[i].depth, .int .i64 l[i].wood, .raw u]))]⟩) (by kernel_rfl) hI3 ?_ fun a4 w4 A4 m4 hI4 =>?_
  ·simp[hXl,hi']
   exact Wk.weak (ρ:=[0]) (φ:=[]) (by simp)
  refine wp_seq ?_
  refine qaf hm (S1:=⟨[(0, .sf 0 6),(1, .int .i64 (kk+1+1)),(5, .int .i64 i),(56, .own 0)],[some (.arr 6 (X.set i [.str (markT (kk)), .int .i64 (kk+1), .int .i64 l[i].width, .int .i64 l[i].depth, .int .i64 l[i].wood, .raw u]))]⟩) (by kernel_rfl) hI4 ?_ fun a5 w5 A5 m5 hI5 =>?_
  ·simp
   refine Wk.weak (ρ:=[0]) (φ:=[]) ?_
   simp
   exact w64 (by omega) (by omega)
  refine wp_seq ?_
  refine qaf hm (S1:=⟨[(0, .sf 0 6),(1, .int .i64 (kk+1+1)),(5, .int .i64 i),(56, .own 0)],[some (.arr 6 (X.set i [.str (markT (kk)), .int .i64 (kk+1), .int .i64 (kk+1+1), .int .i64 l[i].depth, .int .i64 l[i].wood, .raw u]))]⟩) (by kernel_rfl) hI5 ?_ fun a6 w6 A6 m6 hI6 =>?_
  ·simp[hXl,hi']
   exact Wk.weak (ρ:=[0]) (φ:=[]) (by simp)
  refine wp_seq ?_
  refine qaf hm (S1:=⟨[(0, .sf 0 6),(1, .int .i64 (kk+1+1+1)),(5, .int .i64 i),(56, .own 0)],[some (.arr 6 (X.set i [.str (markT (kk)), .int .i64 (kk+1), .int .i64 (kk+1+1), .int .i64 l[i].depth, .int .i64 l[i].wood, .raw u]))]⟩) (by kernel_rfl) hI6 ?_ fun a7 w7 A7 m7 hI7 =>?_
  ·simp
   refine Wk.weak (ρ:=[0]) (φ:=[]) ?_
   simp
   exact w64 (by omega) (by omega)
  refine wp_seq ?_
  refine qaf hm (S1:=⟨[(0, .sf 0 6),(1, .int .i64 (kk+1+1+1)),(5, .int .i64 i),(56, .own 0)],[some (.arr 6 (X.set i [.str (markT (kk)), .int .i64 (kk+1), .int .i64 (kk+1+1), .int .i64 (kk+1+1+1), .int .i64 l[i].wood, .raw u]))]⟩) (by kernel_rfl) hI7 ?_ fun a8 w8 A8 m8 hI8 =>?_
  ·simp[hXl,hi']
   exact Wk.weak (ρ:=[0]) (φ:=[]) (by simp)
  refine wp_seq ?_
  refine qaf hm (S1:=⟨[(0, .sf 0 6),(1, .int .i64 (kk+1+1+1+1)),(5, .int .i64 i),(56, .own 0)],[some (.arr 6 (X.set i [.str (markT (kk)), .int .i64 (kk+1), .int .i64 (kk+1+1), .int .i64 (kk+1+1+1), .int .i64 l[i].wood, .raw u]))]⟩) (by kernel_rfl) hI8 ?_ fun a9 w9 A9 m9 hI9 =>?_
  ·simp
   refine Wk.weak (ρ:=[0]) (φ:=[]) ?_
   simp
   exact w64 (by omega) (by omega)
  refine wp_seq ?_
  refine qaf hm (S1:=⟨[(0, .sf 0 6),(1, .int .i64 (kk+1+1+1+1)),(5, .int .i64 i),(56, .own 0)],[some (.arr 6 (X.set i [.str (markT (kk)), .int .i64 (kk+1), .int .i64 (kk+1+1), .int .i64 (kk+1+1+1), .int .i64 (kk+1+1+1+1), .raw u]))]⟩) (by kernel_rfl) hI9 ?_ fun a10 w10 A10 m10 hI10 =>?_
  ·simp[hXl,hi']
   exact Wk.weak (ρ:=[0]) (φ:=[]) (by simp)
  refine wp_seq ?_
  refine qaf hm (S1:=⟨[(0, .sf 0 6),(1, .int .i64 (kk+1+1+1+1+1)),(5, .int .i64 i),(56, .own 0)],[some (.arr 6 (X.set i [.str (markT (kk)), .int .i64 (kk+1), .int .i64 (kk+1+1), .int .i64 (kk+1+1+1), .int .i64 (kk+1+1+1+1), .raw u]))]⟩) (by kernel_rfl) hI10 ?_ fun a11 w11 A11 m11 hI11 =>?_
  ·simp
   refine Wk.weak (ρ:=[0]) (φ:=[]) ?_
   simp
   exact w64 (by omega) (by omega)
  refine markP (t:=52) (t':=53) (d:=54) (pv := .raw u) (k:=kk+1+1+1+1+1) (k':=kk+1+1+1+1+1+2*l[i].loads.length) (R:=fun L'=>L'=[⟨2,Load.rows (Load.marks (kk+1+1+1+1+1) l[i].loads.length),u,ob⟩]) (S1:=⟨[(52, .raw u),(53, .int .i64 (kk+1+1+1+1+1)),(0, .sf 0 6),(1, .int .i64 (kk+1+1+1+1+1)),(5, .int .i64 i),(56, .own 0)],[some (.arr 6 (X.set i [.str (markT (kk)), .int .i64 (kk+1), .int .i64 (kk+1+1), .int .i64 (kk+1+1+1), .int .i64 (kk+1+1+1+1), .raw u]))]⟩) (S2:=⟨[(0, .sf 0 6),(1, .int .i64 (kk+1+1+1+1+1+2*l[i].loads.length)),(5, .int .i64 i),(56, .own 0)],[some (.arr 6 (X.set i [.str (markT (kk)), .int .i64 (kk+1), .int .i64 (kk+1+1), .int .i64 (kk+1+1+1), .int .i64 (kk+1+1+1+1), .raw u]))]⟩) 6 (by kernel_rfl) hI11 rfl rfl rfl rfl (by decide) (by decide) (by decide) (fun v hv =>?_) (fun hr=>qbm rfl hr) rfl rfl ?_ ?_ fun L' a12 w12 A12 m12 hL' hI12 =>?_
  ·obtain rfl:v=u:=by
    have:=hv noB default
    cases this
    rfl
   exact NMark.flat (qos l[i].loads (kk+1+1+1+1+1) (by omega) (by omega)) (by simp[Load.rows,Load.marks,Beam.inn]) (qa6 (Load.flat _))
  ·simp[hXl,hi']
   exact Wk.weak (ρ:=[0]) (φ:=[]) (by simp)
  ·simp
   exact Wk.weak (ρ:=[0]) (φ:=[]) (by simp)
  subst hL'
  simp only[Exit.inBlock]
  show Code.wp _ _ _ _ _
  refine wp_mono (qaE hm _ _ (thenQ (fun S'=>Weak S' ⟨[(0, .sf 0 6),(1, .int .i64 (kk+1+1+1+1+1+2*l[i].loads.length)),(5, .int .i64 (i+1)),(56, .own 0)],[some (.arr 6 (X.set i [.str (markT (kk)), .int .i64 (kk+1), .int .i64 (kk+1+1), .int .i64 (kk+1+1+1), .int .i64 (kk+1+1+1+1), .raw u]))]⟩) fun _ _=>False) (by kernel_rfl) ?_ _ _ _ _ _ hI12.inv.rebase) fun e a13 w13 ⟨S13,A13,m13,hq13,hJ13⟩ =>?_
  ·simp
   refine Wk.weak (ρ:=[0]) (φ:=[]) ?_
   simp
   exact w64 (by omega) (by omega)
  cases e with
  | normal =>
   obtain⟨A',m',hI'⟩:=hq13 _ _ _ _ _ _ hJ13
   have hF:=hI12.step hI'
   have eR:Beam.rw (Beam.markN kk l[i]) u=[.str (markT (kk)), .int .i64 (kk+1), .int .i64 (kk+1+1), .int .i64 (kk+1+1+1), .int .i64 (kk+1+1+1+1), .raw u]:=rfl
   have eI:Beam.inn (Beam.markN kk l[i])=Load.rows (Load.marks (kk+1+1+1+1+1) l[i].loads.length):=rfl
   rw[eR]at hset
   rw[←hset.2,←eI,eS,show kk+1+1+1+1+1+2*l[i].loads.length=k+((sumT Beam.cnt l (i+1):Nat):Int) by omega]at hF
   refine qk7 l k hk hb hex kf (i+1) _ _ _ _ _ (by omega) (by omega) hset.1 (fun b hbb=>hLO b ?_) hF
   rw[←eS]at hbb
   rw[←eL]
   refine qau.2 ((qau.1 hbb).imp id fun h=>qau.2 ((qau.1 h).imp (fun h =>?_) id))
   obtain⟨q,hq,e⟩:=h
   simp only[List.mem_singleton]at hq
   subst hq
   exact⟨_,List.mem_singleton_self _,e⟩
  | _=>exact hq13.elim
set_option maxHeartbeats 1000000 in
theorem qrV (l:List Beam) (k:Int) (hk:0≤k) (hb:k+((l.map Beam.cnt).sum:Nat)≤1000000000) {v:Value} {L:List Pind} (hN:Nest 6 2 Beam.rw Beam.inn l v L):NMark Tryz.prog 96 v k (k+((l.map Beam.cnt).sum:Nat)) L fun L'=>Nest 6 2 Beam.rw Beam.inn (qav Beam.markN Beam.cnt k l) v L':=fun A w hA hL hd=>by
 obtain⟨ob,Li,rfl,hNI⟩:=hN
 have hlen:l.length≤1000000000:=by
  have h1:=qdq Beam.cnt l fun x=>by unfold Beam.cnt; omega
  omega
 refine (qcz (args:=[.raw v, .int .i64 k]) (M:=pindB (⟨6,rowsN Beam.rw l Li,v,ob⟩::Li)) (gh:=fun _=>ownV ob (capV v)) (R:=fun r w'=>r = .int .i64 (k+((l.map Beam.cnt).sum:Nat))∧∃L',Moved (pindB (⟨6,rowsN Beam.rw l Li,v,ob⟩::Li)) w w'∧Pinds w' L'∧(∀b,pindB L' b→pindB (⟨6,rowsN Beam.rw l Li,v,ob⟩::Li) b∨w.heap.size≤b)∧Nest 6 2 Beam.rw Beam.inn (qav Beam.markN Beam.cnt k l) v L') Tryz.func96 (by kernel_rfl) rfl (by kernel_rfl) (by kernel_rfl) hA rfl (fun i p hi =>?_) fun a hI =>?_).mono fun e w' ⟨r,he,hr,h1⟩=>⟨by rw[he,hr],h1⟩
 ·match i with
  | 0=>cases hi; exact .raw _
  | 1=>cases hi; exact .int _ _
  | i+2=>simp at hi
 have hP:InvP ⟨w,A,pindB (⟨6,rowsN Beam.rw l Li,v,ob⟩::Li),fun _=>ownV ob (capV v)⟩ 56 ⟨[(0, .raw v),(1, .int .i64 k)],[]⟩ a w A noM (⟨6,rowsN Beam.rw l Li,v,ob⟩::Li):=⟨hI,hL,fun b hb=>⟨hd b hb,fun ⟨k,o,C,hk,_⟩=>by simp[getO]at hk, .inl hb⟩⟩
 obtain⟨ho,hop⟩:=hL.at_ _ (List.mem_cons_self ..)
 have h0:=qf2 hP.inv (t:=0) rfl
 obtain⟨m1,hP1,hr1,hr2⟩:=hP.adopt
 have hP2:=(hP1.know (d:=0) (p := .sf 0 6) (by rw[h0]; exact hr1)).know (d:=56) (p := .own 0) (by rw[show Go.Ab.look ⟨w,A,pindB (⟨6,rowsN Beam.rw l Li,v,ob⟩::Li),fun _=>ownV ob (capV v)⟩ 56 a 56=ownV ob (capV v) from rfl]; exact hr2)
 refine wp_seq ?_
 refine qaf hm (S1:=⟨[(0, .sf 0 6),(1, .int .i64 k),(56, .own 0)],[some (.arr 6 (rowsN Beam.rw l Li))]⟩) (by kernel_rfl) hP2 ?_ fun a3 w3 A3 m3 hI3 =>?_
 ·simp
  exact Wk.weak (ρ:=[0]) (φ:=[]) (by simp)
 refine wp_seq (wp_seq ?_)
 refine qaf hm (S1:=⟨[(0, .sf 0 6),(1, .int .i64 k),(5, .int .i64 0),(56, .own 0)],[some (.arr 6 (rowsN Beam.rw l Li))]⟩) (by kernel_rfl) hI3 ?_ fun a4 w4 A4 m4 hI4 =>?_
 ·simp
  exact Wk.weak (ρ:=[0]) (φ:=[]) (by simp)
 refine wp_block (wp_loop_rounds (l.length+1) (qk7 l k hk hb (LO:=Li) (fun a5 w5 A5 m5 Li5 hN5 hs5 hI5 =>?_) _ 0 _ _ _ _ Li (by omega) (by omega) (by rw[qdQ]; exact hNI) (fun b hb=>hb) (by simpa[qaR,qdQ]using hI4)))
 simp only[Exit.inBlock,if_true]
 show Code.wp _ _ _ _ _
 refine wp_seq ?_
 refine qaf hm (S1:=⟨[(4, .int .i64 (k+((l.map Beam.cnt).sum:Nat))),(56, .own 0)],[some (.arr 6 (rowsN Beam.rw (qav Beam.markN Beam.cnt k l) Li5))]⟩) (by kernel_rfl) hI5 ?_ fun a6 w6 A6 m6 hI6 =>?_
 ·simp
  exact Wk.weak (ρ:=[0]) (φ:=[]) (by simp)
 refine wp_ret ⟨.inr rfl,_,_,_,hI6.inv,⟨trivial,trivial⟩,fun r hr =>?_⟩
 have hr':r = .int .i64 (k+((l.map Beam.cnt).sum:Nat)):=by
  change RepO _ _ _ _ (.int .i64 (k+((l.map Beam.cnt).sum:Nat))) r at hr
  cases hr with
  | imm hi=>cases hi; rfl
 have hpin:=hI6.home (t:=56) (k:=0) (v:=v) (ob:=ob) (rows:=rowsN Beam.rw l Li) rfl rfl rfl ho (by rw[qbz hN5.len,qdr,qbz hNI.len]) (qdO Beam.rw_pure _ _)
 exact⟨hr',_,hI6.inv.moved,hpin,fun b hb => .inl (qaH.2 ((qaH.1 hb).imp id (hs5 b))),ob,Li5,rfl,hN5⟩
def Action.markN (k:Int) (x:Action):Action:=⟨k,Lever.marks (k+1) x.levers.length,k+1+2*x.levers.length,k+1+2*x.levers.length+1⟩
def Action.cnt (x:Action):Nat:=3+2*x.levers.length
noncomputable def qrW:Code:=match Tryz.f97.body with
 | some (.seq _ (.seq (.seq _ (.block _ (.loop c))) _))=>c
 | _ => .skip
set_option maxHeartbeats 4000000 in
theorem qk8 (l:List Action) (k:Int) (hk:0≤k) (hb:k+((l.map Action.cnt).sum:Nat)≤1000000000) {x:Ctx} {LO:List Pind} {Q:Exit→Act→World→Prop}
  (hex:∀a w A m Li,NestI 2 Action.inn (qav Action.markN Action.cnt k l) Li→(∀b,pindB Li b→pindB LO b)→InvP x 41 ⟨[(0, .sf 0 4),(1, .int .i64 (k+(((l.map Action.cnt).sum:Nat):Int))),(5, .int .i64 l.length),(41, .own 0)],[some (.arr 4 (rowsN Action.rw (qav Action.markN Action.cnt k l) Li))]⟩ a w A m Li→Q (.exit 0) a w) :
  ∀(kf i:Nat) (a:Act) (w:World) (A:Nat→Prop) (m:OMap) (Li:List Pind),l.length<kf+i→i≤l.length→NestI 2 Action.inn (qaY Action.markN Action.cnt k l i) Li→(∀b,pindB Li b→pindB LO b)→InvP x 41 ⟨[(0, .sf 0 4),(1, .int .i64 (k+((sumT Action.cnt l i:Nat):Int))),(5, .int .i64 i),(41, .own 0)],[some (.arr 4 (rowsN Action.rw (qaY Action.markN Action.cnt k l i) Li))]⟩ a w A m Li→Code.rounds Tryz.prog qrW Q kf a w
 | 0,i,a,w,A,m,Li,hkf,hi,_,_,_=>absurd hkf (by omega)
 | kf+1,i,a,w,A,m,Li,hkf,hi,hN,hLO,hI=>by
  have hlen:l.length≤1000000000:=by
   have h1:=qdq Action.cnt l fun x=>by unfold Action.cnt; omega
   omega
  rw[rounds_succ]
  obtain⟨X,hX,hXl⟩:∃X,rowsN Action.rw (qaY Action.markN Action.cnt k l i) Li=X∧X.length=l.length:=⟨_,rfl,by rw[qbz hN.len,qdR]⟩
  rw[hX]at hI
  refine wp_seq (wp_seq ?_)
  refine qaf hm (S1:=⟨[(9, .bool (decide (i<l.length))),(0, .sf 0 4),(1, .int .i64 (k+((sumT Action.cnt l i:Nat):Int))),(5, .int .i64 i),(41, .own 0)],[some (.arr 4 X)]⟩) (by kernel_rfl) hI ?_ fun a1 w1 A1 m1 hI1 =>?_
  ·simp[hXl]
   exact Wk.weak (ρ:=[0]) (φ:=[]) (by simp)
  refine wp_cond_split (t:=decide (i<l.length)) (qdj hI1.inv rfl (by decide)) (fun ht=>wp_skip ?_) fun ht=>wp_exit ?_
  rotate_left
  ·have hil:i=l.length:=by have:=of_decide_eq_false ht; omega
   subst hil
   rw[qgq]at hN hX
   rw[←hX,qbE]at hI1
   exact hex a1 w1 A1 m1 Li hN hLO (hI1.frame fun t=>by
    by_cases e:t=9
    ·subst e; exact .inl rfl
    ·exact .inr (by show _=(bif 9==t then _ else _); rw[show (9==t)=false by simpa using fun h=>e h.symm]; rfl))
  have hi':i<l.length:=of_decide_eq_true ht
  have hk2:k+((sumT Action.cnt l (i+1):Nat):Int)≤1000000000:=by
   have:=qbG Action.cnt l (i+1)
   omega
  have hk1:=qbF Action.cnt hi'
  have hnx:=qgr (f:=Action.markN) (cnt:=Action.cnt) (k:=k) hi'
  obtain⟨kk,hkk⟩:∃kk:Int,kk=k+((sumT Action.cnt l i:Nat):Int):=⟨_,rfl⟩
  have hkN:kk+((Action.cnt l[i]:Nat):Int)=k+((sumT Action.cnt l (i+1):Nat):Int):=by omega
  rw[←hkk]at hI1 hnx
  have hk0:0≤kk:=by omega
  have hkb:kk+((Action.cnt l[i]:Nat):Int)≤1000000000:=by omega
  obtain⟨p,hpi⟩:∃p,Li[i]?=some p:=⟨_,List.getElem?_eq_getElem (by rw[hN.len,qdR]; exact hi')⟩
  obtain⟨hpz,hpr⟩:=hN.at_ i _ p (qdS hi') hpi
  obtain⟨pz,pr,u,ob⟩:=p
  simp only at hpz hpr
  subst hpz
  subst hpr
  have hset:=hN.set (rw:=Action.rw) (i:=i) (x:=Action.markN kk l[i]) (p:=⟨2,Action.inn (Action.markN kk l[i]),u,ob⟩) rfl rfl
  rw[hX,hnx]at hset
  have hXg:∀h,X[i]'h=Action.rw l[i] u:=fun h=>by
   have h1:X[i]?=some (Action.rw l[i] u):=by rw[←hX,rowsN,List.getElem?_zipWith,qdS hi',hpi]
   rw[List.getElem?_eq_getElem h]at h1
   exact Option.some.inj h1
  have eL:Li.take i++([⟨2,Action.inn l[i],u,ob⟩]++Li.drop (i+1))=Li:=by
   have h1:=(List.getElem?_eq_some_iff.1 hpi)
   obtain⟨h1,h2⟩:=h1
   rw[←h2,List.singleton_append,←List.drop_eq_getElem_cons h1,List.take_append_drop]
  have eS:Li.take i++([⟨2,Action.inn (Action.markN kk l[i]),u,ob⟩]++Li.drop (i+1))=Li.set i ⟨2,Action.inn (Action.markN kk l[i]),u,ob⟩:=by
   rw[List.set_eq_take_append_cons_drop,if_pos (List.getElem?_eq_some_iff.1 hpi).1,List.singleton_append]
  rw[←eL]at hI1
  rw[show Action.cnt l[i]=3+2*l[i].levers.length from rfl]at hkb hkN
  replace hI1:=hI1.frame (fr':=[(0, .sf 0 4),(1, .int .i64 (kk)),(5, .int .i64 i),(41, .own 0)]) fun t=>by
    by_cases e:t=9
    ·subst e; exact .inl rfl
    ·exact .inr (by show _=(bif 9==t then _ else _); rw[show (9==t)=false by simpa using fun h=>e h.symm]; rfl)
  refine wp_seq (wp_block ?_)
  refine wp_seq ?_
  refine qaf hm (S1:=⟨[(0, .sf 0 4),(1, .int .i64 (kk)),(5, .int .i64 i),(41, .own 0)],[some (.arr 4 (X.set i [.int .i64 (kk), .raw u, .int .i64 l[i].slack, .int .i64 l[i].weight]))]⟩) (by kernel_rfl) hI1 ?_ fun a2 w2 A2 m2 hI2 =>?_
  ·simp[hXl,hXg,hi',Action.rw]
   exact Wk.weak (ρ:=[0]) (φ:=[]) (by simp)
  refine wp_seq ?_
  refine qaf hm (S1:=⟨[(0, .sf 0 4),(1, .int .i64 (kk+1)),(5, .int .i64 i),(41, .own 0)],[some (.arr 4 (X.set i [.int .i64 (kk), .raw u, .int .i64 l[i].slack, .int .i64 l[i].weight]))]⟩) (by kernel_rfl) hI2 ?_ fun a3 w3 A3 m3 hI3 =>?_
  ·simp
   refine Wk.weak (ρ:=[0]) (φ:=[]) ?_
   simp
   exact w64 (by omega) (by omega)
  refine wp_seq ?_
  refine markP (t:=23) (t':=24) (d:=25) (pv := .raw u) (k:=kk+1) (k':=kk+1+2*l[i].levers.length) (R:=fun L'=>L'=[⟨2,Lever.rows (Lever.marks (kk+1) l[i].levers.length),u,ob⟩]) (S1:=⟨[(23, .raw u),(24, .int .i64 (kk+1)),(0, .sf 0 4),(1, .int .i64 (kk+1)),(5, .int .i64 i),(41, .own 0)],[some (.arr 4 (X.set i [.int .i64 (kk), .raw u, .int .i64 l[i].slack, .int .i64 l[i].weight]))]⟩) (S2:=⟨[(0, .sf 0 4),(1, .int .i64 (kk+1+2*l[i].levers.length)),(5, .int .i64 i),(41, .own 0)],[some (.arr 4 (X.set i [.int .i64 (kk), .raw u, .int .i64 l[i].slack, .int .i64 l[i].weight]))]⟩) 6 (by kernel_rfl) hI3 rfl rfl rfl rfl (by decide) (by decide) (by decide) (fun v hv =>?_) (fun hr=>qbm rfl hr) rfl rfl ?_ ?_ fun L' a4 w4 A4 m4 hL' hI4 =>?_
  ·obtain rfl:v=u:=by
    have:=hv noB default
    cases this
    rfl
   exact NMark.flat (qoy l[i].levers (kk+1) (by omega) (by omega)) (by simp[Lever.rows,Lever.marks,Action.inn]) (qa6 (Lever.flat _))
  ·simp[hXl,hi']
   exact Wk.weak (ρ:=[0]) (φ:=[]) (by simp)
  ·simp
   exact Wk.weak (ρ:=[0]) (φ:=[]) (by simp)
  subst hL'
  refine wp_seq ?_
  refine qaf hm (S1:=⟨[(0, .sf 0 4),(1, .int .i64 (kk+1+2*l[i].levers.length)),(5, .int .i64 i),(41, .own 0)],[some (.arr 4 (X.set i [.int .i64 (kk), .raw u, .int .i64 (kk+1+2*l[i].levers.length), .int .i64 l[i].weight]))]⟩) (by kernel_rfl) hI4 ?_ fun a5 w5 A5 m5 hI5 =>?_
  ·simp[hXl,hi']
   exact Wk.weak (ρ:=[0]) (φ:=[]) (by simp)
  refine wp_seq ?_
  refine qaf hm (S1:=⟨[(0, .sf 0 4),(1, .int .i64 (kk+1+2*l[i].levers.length+1)),(5, .int .i64 i),(41, .own 0)],[some (.arr 4 (X.set i [.int .i64 (kk), .raw u, .int .i64 (kk+1+2*l[i].levers.length), .int .i64 l[i].weight]))]⟩) (by kernel_rfl) hI5 ?_ fun a6 w6 A6 m6 hI6 =>?_
  ·simp
   refine Wk.weak (ρ:=[0]) (φ:=[]) ?_
   simp
   exact w64 (by omega) (by omega)
  refine wp_seq ?_
  refine qaf hm (S1:=⟨[(0, .sf 0 4),(1, .int .i64 (kk+1+2*l[i].levers.length+1)),(5, .int .i64 i),(41, .own 0)],[some (.arr 4 (X.set i [.int .i64 (kk), .raw u, .int .i64 (kk+1+2*l[i].levers.length), .int .i64 (kk+1+2*l[i].levers.length+1)]))]⟩) (by kernel_rfl) hI6 ?_ fun a7 w7 A7 m7 hI7 =>?_
  ·simp[hXl,hi']
   exact Wk.weak (ρ:=[0]) (φ:=[]) (by simp)
  refine wp_mono (qaE hm _ _ (thenQ (fun S'=>Weak S' ⟨[(0, .sf 0 4),(1, .int .i64 (kk+1+2*l[i].levers.length+1+1)),(5, .int .i64 i),(41, .own 0)],[some (.arr 4 (X.set i [.int .i64 (kk), .raw u, .int .i64 (kk+1+2*l[i].levers.length), .int .i64 (kk+1+2*l[i].levers.length+1)]))]⟩) fun _ _=>False) (by kernel_rfl) ?_ _ _ _ _ _ hI7.inv.rebase) fun e a8 w8 ⟨S8,A8,m8,hq8,hJ8⟩ =>?_
  ·simp
   refine Wk.weak (ρ:=[0]) (φ:=[]) ?_
   simp
   exact w64 (by omega) (by omega)
  obtain⟨e0,hI8⟩:e = .normal∧∃A' m',InvP x 41 ⟨[(0, .sf 0 4),(1, .int .i64 (kk+1+2*l[i].levers.length+1+1)),(5, .int .i64 i),(41, .own 0)],[some (.arr 4 (X.set i [.int .i64 (kk), .raw u, .int .i64 (kk+1+2*l[i].levers.length), .int .i64 (kk+1+2*l[i].levers.length+1)]))]⟩ a8 w8 A' m' (Li.take i++([(⟨2,Lever.rows (Lever.marks (kk+1) l[i].levers.length),u,ob⟩:Pind)]++Li.drop (i+1))):=by
   cases e with
   | normal =>
    obtain⟨A',m',hI'⟩:=hq8 _ _ _ _ _ _ hJ8
    exact⟨rfl,A',m',hI7.step hI'⟩
   | _=>exact hq8.elim
  subst e0
  obtain⟨A8,m8,hI8⟩:=hI8
  simp only[Exit.inBlock]
  show Code.wp _ _ _ _ _
  refine wp_mono (qaE hm _ _ (thenQ (fun S'=>Weak S' ⟨[(0, .sf 0 4),(1, .int .i64 (kk+1+2*l[i].levers.length+1+1)),(5, .int .i64 (i+1)),(41, .own 0)],[some (.arr 4 (X.set i [.int .i64 (kk), .raw u, .int .i64 (kk+1+2*l[i].levers.length), .int .i64 (kk+1+2*l[i].levers.length+1)]))]⟩) fun _ _=>False) (by kernel_rfl) ?_ _ _ _ _ _ hI8.inv.rebase) fun e a9 w9 ⟨S9,A9,m9,hq9,hJ9⟩ =>?_
  ·simp
   refine Wk.weak (ρ:=[0]) (φ:=[]) ?_
   simp
   exact w64 (by omega) (by omega)
  cases e with
  | normal =>
   obtain⟨A',m',hI'⟩:=hq9 _ _ _ _ _ _ hJ9
   have hF:=hI8.step hI'
   have eR:Action.rw (Action.markN kk l[i]) u=[.int .i64 (kk), .raw u, .int .i64 (kk+1+2*l[i].levers.length), .int .i64 (kk+1+2*l[i].levers.length+1)]:=rfl
   have eI:Action.inn (Action.markN kk l[i])=Lever.rows (Lever.marks (kk+1) l[i].levers.length):=rfl
   rw[eR]at hset
   rw[←hset.2,←eI,eS,show kk+1+2*l[i].levers.length+1+1=k+((sumT Action.cnt l (i+1):Nat):Int) by omega]at hF
   refine qk8 l k hk hb hex kf (i+1) _ _ _ _ _ (by omega) (by omega) hset.1 (fun b hbb=>hLO b ?_) hF
   rw[←eS]at hbb
   rw[←eL]
   refine qau.2 ((qau.1 hbb).imp id fun h=>qau.2 ((qau.1 h).imp (fun h =>?_) id))
   obtain⟨q,hq,e⟩:=h
   simp only[List.mem_singleton]at hq
   subst hq
   exact⟨_,List.mem_singleton_self _,e⟩
  | _=>exact hq9.elim
set_option maxHeartbeats 1000000 in
theorem qrX (l:List Action) (k:Int) (hk:0≤k) (hb:k+((l.map Action.cnt).sum:Nat)≤1000000000) {v:Value} {L:List Pind} (hN:Nest 4 2 Action.rw Action.inn l v L):NMark Tryz.prog 97 v k (k+((l.map Action.cnt).sum:Nat)) L fun L'=>Nest 4 2 Action.rw Action.inn (qav Action.markN Action.cnt k l) v L':=fun A w hA hL hd=>by
 obtain⟨ob,Li,rfl,hNI⟩:=hN
 have hlen:l.length≤1000000000:=by
  have h1:=qdq Action.cnt l fun x=>by unfold Action.cnt; omega
  omega
 refine (qcz (args:=[.raw v, .int .i64 k]) (M:=pindB (⟨4,rowsN Action.rw l Li,v,ob⟩::Li)) (gh:=fun _=>ownV ob (capV v)) (R:=fun r w'=>r = .int .i64 (k+((l.map Action.cnt).sum:Nat))∧∃L',Moved (pindB (⟨4,rowsN Action.rw l Li,v,ob⟩::Li)) w w'∧Pinds w' L'∧(∀b,pindB L' b→pindB (⟨4,rowsN Action.rw l Li,v,ob⟩::Li) b∨w.heap.size≤b)∧Nest 4 2 Action.rw Action.inn (qav Action.markN Action.cnt k l) v L') Tryz.func97 (by kernel_rfl) rfl (by kernel_rfl) (by kernel_rfl) hA rfl (fun i p hi =>?_) fun a hI =>?_).mono fun e w' ⟨r,he,hr,h1⟩=>⟨by rw[he,hr],h1⟩
 ·match i with
  | 0=>cases hi; exact .raw _
  | 1=>cases hi; exact .int _ _
  | i+2=>simp at hi
 have hP:InvP ⟨w,A,pindB (⟨4,rowsN Action.rw l Li,v,ob⟩::Li),fun _=>ownV ob (capV v)⟩ 41 ⟨[(0, .raw v),(1, .int .i64 k)],[]⟩ a w A noM (⟨4,rowsN Action.rw l Li,v,ob⟩::Li):=⟨hI,hL,fun b hb=>⟨hd b hb,fun ⟨k,o,C,hk,_⟩=>by simp[getO]at hk, .inl hb⟩⟩
 obtain⟨ho,hop⟩:=hL.at_ _ (List.mem_cons_self ..)
 have h0:=qf2 hP.inv (t:=0) rfl
 obtain⟨m1,hP1,hr1,hr2⟩:=hP.adopt
 have hP2:=(hP1.know (d:=0) (p := .sf 0 4) (by rw[h0]; exact hr1)).know (d:=41) (p := .own 0) (by rw[show Go.Ab.look ⟨w,A,pindB (⟨4,rowsN Action.rw l Li,v,ob⟩::Li),fun _=>ownV ob (capV v)⟩ 41 a 41=ownV ob (capV v) from rfl]; exact hr2)
 refine wp_seq ?_
 refine qaf hm (S1:=⟨[(0, .sf 0 4),(1, .int .i64 k),(41, .own 0)],[some (.arr 4 (rowsN Action.rw l Li))]⟩) (by kernel_rfl) hP2 ?_ fun a3 w3 A3 m3 hI3 =>?_
 ·simp
  exact Wk.weak (ρ:=[0]) (φ:=[]) (by simp)
 refine wp_seq (wp_seq ?_)
 refine qaf hm (S1:=⟨[(0, .sf 0 4),(1, .int .i64 k),(5, .int .i64 0),(41, .own 0)],[some (.arr 4 (rowsN Action.rw l Li))]⟩) (by kernel_rfl) hI3 ?_ fun a4 w4 A4 m4 hI4 =>?_
 ·simp
  exact Wk.weak (ρ:=[0]) (φ:=[]) (by simp)
 refine wp_block (wp_loop_rounds (l.length+1) (qk8 l k hk hb (LO:=Li) (fun a5 w5 A5 m5 Li5 hN5 hs5 hI5 =>?_) _ 0 _ _ _ _ Li (by omega) (by omega) (by rw[qdQ]; exact hNI) (fun b hb=>hb) (by simpa[qaR,qdQ]using hI4)))
 simp only[Exit.inBlock,if_true]
 show Code.wp _ _ _ _ _
 refine wp_seq ?_
 refine qaf hm (S1:=⟨[(4, .int .i64 (k+((l.map Action.cnt).sum:Nat))),(41, .own 0)],[some (.arr 4 (rowsN Action.rw (qav Action.markN Action.cnt k l) Li5))]⟩) (by kernel_rfl) hI5 ?_ fun a6 w6 A6 m6 hI6 =>?_
 ·simp
  exact Wk.weak (ρ:=[0]) (φ:=[]) (by simp)
 refine wp_ret ⟨.inr rfl,_,_,_,hI6.inv,⟨trivial,trivial⟩,fun r hr =>?_⟩
 have hr':r = .int .i64 (k+((l.map Action.cnt).sum:Nat)):=by
  change RepO _ _ _ _ (.int .i64 (k+((l.map Action.cnt).sum:Nat))) r at hr
  cases hr with
  | imm hi=>cases hi; rfl
 have hpin:=hI6.home (t:=41) (k:=0) (v:=v) (ob:=ob) (rows:=rowsN Action.rw l Li) rfl rfl rfl ho (by rw[qbz hN5.len,qdr,qbz hNI.len]) (qdO Action.rw_pure _ _)
 exact⟨hr',_,hI6.inv.moved,hpin,fun b hb => .inl (qaH.2 ((qaH.1 hb).imp id (hs5 b))),ob,Li5,rfl,hN5⟩
end Go.Proofs.YteckngloamnfdaaGreatDoor
namespace Go.Ab
theorem InvP.as {x:Ctx} {n:Nat} {S:St} {a:Act} {w:World} {A:Nat→Prop} {m:OMap} {L L':List Pind} (h:InvP x n S a w A m L) (e:L=L'):InvP x n S a w A m L':=e ▸ h
end Go.Ab
namespace Go.Proofs.YteckngloamnfdaaGreatDoor
open Go Go.Ab
set_option maxRecDepth 100000
theorem qrY (t:Tune) (u:Value) (ob:Option Nat) (k:Int) (hk:0≤k) (hb:3*t.tones.length+k≤1000000000) (v:Value) (hv:∀A w,RepI A w (.agg [.str t.name, .raw u]) v) :
  NMark Tryz.prog 98 v k (k+3*t.tones.length) [⟨3,Tone.rows t.tones,u,ob⟩] fun L'=>L'=[⟨3,Tone.rows (Tone.marks k t.tones.length),u,ob⟩]:=by
 refine qhI Tryz.func98 (by kernel_rfl) rfl (by kernel_rfl) (by kernel_rfl) hv fun A w a hL hI =>?_
 have ho:=(hL.at_ _ (List.mem_singleton_self _)).1.one
 refine wp_seq ?_
 refine qaf hm (S1:=⟨[(1, .int .i64 k),(2, .pb 0 0)],[some (.box [.str t.name, .raw u])]⟩) (by kernel_rfl) hI ?_ fun a1 w1 A1 m1 hI1 =>?_
 ·simp[ho]
  exact Wk.weak (ρ:=[0]) (φ:=[]) (by simp)
 refine wp_seq ?_
 refine markP (L1:=[]) (L2:=[]) (t:=6) (t':=7) (d:=8) (pv := .raw u) (k:=k) (k':=k+3*t.tones.length) (R:=fun L'=>L'=[⟨3,Tone.rows (Tone.marks k t.tones.length),u,ob⟩]) (S1:=⟨[(6, .raw u),(7, .int .i64 k),(1, .int .i64 k),(2, .pb 0 0)],[some (.box [.str t.name, .raw u])]⟩) (S2:=⟨[(1, .int .i64 (k+3*t.tones.length))],[]⟩) 3 (by kernel_rfl) (by simpa using hI1) rfl rfl rfl rfl (by decide) (by decide) (by decide) (fun v hv =>?_) (fun hr=>qbm rfl hr) rfl rfl ?_ ?_ fun L' a2 w2 A2 m2 hL' hI2 =>?_
 ·obtain rfl:v=u:=by
   have:=hv noB default
   cases this
   rfl
  exact NMark.flat (qoE t.tones k hk (by omega)) (by simp[Tone.rows,Tone.marks]) (qa6 (Tone.flat _))
 ·simp
  exact Wk.weak (ρ:=[0]) (φ:=[]) (by simp)
 ·simp
  exact Wk.weak (ρ:=[]) (φ:=[]) (by simp)
 subst hL'
 show Code.wp _ _ _ _ _
 refine wp_seq ?_
 refine qaf hm (S1:=⟨[(4, .int .i64 (k+3*t.tones.length))],[]⟩) (by kernel_rfl) hI2 ?_ fun a3 w3 A3 m3 hI3 =>?_
 ·simp
  exact Wk.weak (ρ:=[]) (φ:=[]) (by simp)
 refine wp_ret ⟨.inr rfl,_,_,_,_,hI3,⟨trivial,trivial⟩,rfl,rfl⟩
def Carillon.o1 (c:Carillon):Nat:=5*c.ingots.length
def Carillon.o2 (c:Carillon):Nat:=c.o1+(c.melts.map Melt.cnt).sum
def Carillon.o3 (c:Carillon):Nat:=c.o2+(c.bells.map Bell.cnt).sum
def Carillon.o4 (c:Carillon):Nat:=c.o3+5*c.hung.length
def Carillon.o5 (c:Carillon):Nat:=c.o4+5*c.places.length
def Carillon.o6 (c:Carillon):Nat:=c.o5+(c.frame.map Beam.cnt).sum
def Carillon.o7 (c:Carillon):Nat:=c.o6+(c.clavier.map Action.cnt).sum
def Carillon.o8 (c:Carillon):Nat:=c.o7+3*c.tune.tones.length
def Carillon.mk' (k:Int) (c:Carillon):Carillon:={ c with
 ingots:=Ingot.marks k c.ingots.length
 melts:=qav Melt.markN Melt.cnt (k+(c.o1:Int)) c.melts
 bells:=qav Bell.markN Bell.cnt (k+(c.o2:Int)) c.bells
 hung:=Hung.marks (k+(c.o3:Int)) c.hung.length
 places:=Place.marks (k+(c.o4:Int)) c.places.length
 frame:=qav Beam.markN Beam.cnt (k+(c.o5:Int)) c.frame
 clavier:=qav Action.markN Action.cnt (k+(c.o6:Int)) c.clavier
 tune:=⟨c.tune.name,Tone.marks (k+(c.o7:Int)) c.tune.tones.length⟩ }
theorem qgs {α:Type} {f g:α→Nat} (h:∀x,f x≤5*(1+g x)) (l:List α):(l.map f).sum≤5*(l.length+(l.map g).sum):=by
 induction l with
 | nil=>simp
 | cons x r ih =>
  have:=h x
  simp only[List.map_cons,List.sum_cons,List.length_cons]
  omega
theorem Carillon.o8_le (c:Carillon):c.o8≤5*c.sz:=by
 have h1:=qgs (f:=Melt.cnt) (g:=Melt.sz) (fun x=>by unfold Melt.cnt Melt.sz qc4; omega) c.melts
 have h2:=qgs (f:=Bell.cnt) (g:=Bell.sz) (fun x=>by unfold Bell.cnt Bell.sz Share.szS; omega) c.bells
 have h3:=qgs (f:=Beam.cnt) (g:=Beam.sz) (fun x=>by unfold Beam.cnt Beam.sz Load.szS; omega) c.frame
 have h4:=qgs (f:=Action.cnt) (g:=Action.sz) (fun x=>by unfold Action.cnt Action.sz Lever.szS; omega) c.clavier
 unfold Carillon.o8 Carillon.o7 Carillon.o6 Carillon.o5 Carillon.o4 Carillon.o3 Carillon.o2 Carillon.o1 Carillon.sz Ingot.szS Melt.szS Bell.szS Hung.szS Place.szS Beam.szS Action.szS Tune.sz Tone.szS
 omega
set_option maxHeartbeats 4000000 in
theorem qrZ (c:Carillon) (u:CarV) (Ls:CarL) (hP:CarP c u Ls) (k:Int) (hk:0≤k) (hb:k+(c.o8:Int)≤1000000000) (v:Value) (hv:∀A w,RepI A w (.agg (u.cells c)) v) :
  NMark Tryz.prog 39 v k (k+(c.o8:Int)) Ls.all fun L'=>∃Ls',L'=CarL.all Ls'∧CarP (c.mk' k) u Ls':=by
 have e8:k+(c.o8:Int)=k+(c.o7:Int)+3*(c.tune.tones.length:Int):=by unfold Carillon.o8; omega
 have e7:k+(c.o7:Int)=k+(c.o6:Int)+(((c.clavier.map Action.cnt).sum:Nat):Int):=by unfold Carillon.o7; omega
 have e6:k+(c.o6:Int)=k+(c.o5:Int)+(((c.frame.map Beam.cnt).sum:Nat):Int):=by unfold Carillon.o6; omega
 have e5:k+(c.o5:Int)=k+(c.o4:Int)+5*(c.places.length:Int):=by unfold Carillon.o5; omega
 have e4:k+(c.o4:Int)=k+(c.o3:Int)+5*(c.hung.length:Int):=by unfold Carillon.o4; omega
 have e3:k+(c.o3:Int)=k+(c.o2:Int)+(((c.bells.map Bell.cnt).sum:Nat):Int):=by unfold Carillon.o3; omega
 have e2:k+(c.o2:Int)=k+(c.o1:Int)+(((c.melts.map Melt.cnt).sum:Nat):Int):=by unfold Carillon.o2; omega
 have e1:k+(c.o1:Int)=k+5*(c.ingots.length:Int):=by unfold Carillon.o1; omega
 refine qhI Tryz.func39 (by kernel_rfl) rfl (by kernel_rfl) (by kernel_rfl) hv fun A w a hL hI =>?_
 obtain⟨p0,p1,p2,p3,p4,p5,p6,p7⟩:=hP.ones hL
 refine wp_seq ?_
 refine qaf hm (S1:=⟨[(1, .int .i64 k),(2, .pb 0 0)],[some (.box (u.cells c))]⟩) (by kernel_rfl) hI ?_ fun a0 w0 A0 m0 hI0 =>?_
 ·simp[CarV.cells,p0,p1,p2,p3,p4,p5,p6,p7]
  exact Wk.weak (ρ:=[0]) (φ:=[]) (by simp)
 obtain⟨⟨ob0,h0⟩,h1,h2,⟨ob3,h3⟩,⟨ob4,h4⟩,h5,h6,⟨ob7,h7⟩⟩:=hP
 obtain⟨l0,l1,l2,l3,l4,l5,l6,l7⟩:=Ls
 simp only at h0 h1 h2 h3 h4 h5 h6 h7
 subst h0 h3 h4 h7
 unfold CarL.all at hI0 ⊢
 simp only at hI0 ⊢
 have hJ0:=hI0.as (L':=[]++([⟨5,Ingot.rows c.ingots,u.u0,ob0⟩]++(l1++(l2++([⟨5,Hung.rows c.hung,u.u3,ob3⟩]++([⟨5,Place.rows c.places,u.u4,ob4⟩]++(l5++(l6++([⟨3,Tone.rows c.tune.tones,u.u7,ob7⟩]))))))))) (by simp only[List.nil_append,List.cons_append])
 refine wp_seq ?_
 refine markP (L1:=[]) (L0:=[⟨5,Ingot.rows c.ingots,u.u0,ob0⟩]) (L2:=l1++(l2++([⟨5,Hung.rows c.hung,u.u3,ob3⟩]++([⟨5,Place.rows c.places,u.u4,ob4⟩]++(l5++(l6++([⟨3,Tone.rows c.tune.tones,u.u7,ob7⟩]))))))) (t:=6) (t':=7) (d:=8) (pv := .raw u.u0) (k:=k) (k':=(k+(c.o1:Int))) (R:=fun L'=>L'=[⟨5,Ingot.rows (Ingot.marks k c.ingots.length),u.u0,ob0⟩]) (S1:=⟨(6, .raw u.u0)::(7, .int .i64 k)::[(1, .int .i64 k),(2, .pb 0 0)],[some (.box (u.cells c))]⟩) (S2:=⟨[(1, .int .i64 (k+(c.o1:Int))),(2, .pb 0 0)],[some (.box (u.cells c))]⟩) 3 (by kernel_rfl) hJ0 rfl rfl rfl rfl (by decide) (by decide) (by decide) (fun v hv =>?_) ?_ rfl rfl ?_ ?_ fun g0 a1 w1 A1 m1 r0 hI1 =>?_
 ·obtain rfl:v=u.u0:=by
   have:=hv noB default
   cases this
   rfl
  exact (by rw[e1]; exact NMark.flat (qnY c.ingots k (by omega) (by omega)) (by simp[Ingot.rows,Ingot.marks]) (qa6 (Ingot.flat _)))
 ·exact fun hr=>qbm rfl hr
 ·simp[CarV.cells]
  exact Wk.weak (ρ:=[0]) (φ:=[]) (by simp)
 ·simp
  exact Wk.weak (ρ:=[0]) (φ:=[]) (by simp[CarV.cells])
 subst r0
 show Code.wp _ _ _ _ _
 have hJ1:=hI1.as (L':=[⟨5,Ingot.rows (Ingot.marks k c.ingots.length),u.u0,ob0⟩]++(l1++(l2++([⟨5,Hung.rows c.hung,u.u3,ob3⟩]++([⟨5,Place.rows c.places,u.u4,ob4⟩]++(l5++(l6++([⟨3,Tone.rows c.tune.tones,u.u7,ob7⟩])))))))) (by simp only[List.nil_append,List.cons_append])
 refine wp_seq ?_
 refine markP (L1:=[⟨5,Ingot.rows (Ingot.marks k c.ingots.length),u.u0,ob0⟩]) (L0:=l1) (L2:=l2++([⟨5,Hung.rows c.hung,u.u3,ob3⟩]++([⟨5,Place.rows c.places,u.u4,ob4⟩]++(l5++(l6++([⟨3,Tone.rows c.tune.tones,u.u7,ob7⟩])))))) (t:=10) (t':=11) (d:=12) (pv := .raw u.u1) (k:=(k+(c.o1:Int))) (k':=(k+(c.o2:Int))) (R:=fun L'=>Nest 3 1 Melt.rw Melt.inn (qav Melt.markN Melt.cnt (k+(c.o1:Int)) c.melts) u.u1 L') (S1:=⟨(10, .raw u.u1)::(11, .int .i64 (k+(c.o1:Int)))::[(1, .int .i64 (k+(c.o1:Int))),(2, .pb 0 0)],[some (.box (u.cells c))]⟩) (S2:=⟨[(1, .int .i64 (k+(c.o2:Int))),(2, .pb 0 0)],[some (.box (u.cells c))]⟩) 3 (by kernel_rfl) hJ1 rfl rfl rfl rfl (by decide) (by decide) (by decide) (fun v hv =>?_) ?_ rfl rfl ?_ ?_ fun g1 a2 w2 A2 m2 r1 hI2 =>?_
 ·obtain rfl:v=u.u1:=by
   have:=hv noB default
   cases this
   rfl
  exact (by rw[e2]; exact qrR c.melts (k+(c.o1:Int)) (by omega) (by omega) h1)
 ·exact fun hr=>qbm rfl hr
 ·simp[CarV.cells]
  exact Wk.weak (ρ:=[0]) (φ:=[]) (by simp)
 ·simp
  exact Wk.weak (ρ:=[0]) (φ:=[]) (by simp[CarV.cells])
 show Code.wp _ _ _ _ _
 have hJ2:=hI2.as (L':=([⟨5,Ingot.rows (Ingot.marks k c.ingots.length),u.u0,ob0⟩]++g1)++(l2++([⟨5,Hung.rows c.hung,u.u3,ob3⟩]++([⟨5,Place.rows c.places,u.u4,ob4⟩]++(l5++(l6++([⟨3,Tone.rows c.tune.tones,u.u7,ob7⟩]))))))) (by simp only[List.nil_append,List.cons_append])
 refine wp_seq ?_
 refine markP (L1:=([⟨5,Ingot.rows (Ingot.marks k c.ingots.length),u.u0,ob0⟩]++g1)) (L0:=l2) (L2:=[⟨5,Hung.rows c.hung,u.u3,ob3⟩]++([⟨5,Place.rows c.places,u.u4,ob4⟩]++(l5++(l6++([⟨3,Tone.rows c.tune.tones,u.u7,ob7⟩]))))) (t:=14) (t':=15) (d:=16) (pv := .raw u.u2) (k:=(k+(c.o2:Int))) (k':=(k+(c.o3:Int))) (R:=fun L'=>Nest 5 2 Bell.rw Bell.inn (qav Bell.markN Bell.cnt (k+(c.o2:Int)) c.bells) u.u2 L') (S1:=⟨(14, .raw u.u2)::(15, .int .i64 (k+(c.o2:Int)))::[(1, .int .i64 (k+(c.o2:Int))),(2, .pb 0 0)],[some (.box (u.cells c))]⟩) (S2:=⟨[(1, .int .i64 (k+(c.o3:Int))),(2, .pb 0 0)],[some (.box (u.cells c))]⟩) 3 (by kernel_rfl) hJ2 rfl rfl rfl rfl (by decide) (by decide) (by decide) (fun v hv =>?_) ?_ rfl rfl ?_ ?_ fun g2 a3 w3 A3 m3 r2 hI3 =>?_
 ·obtain rfl:v=u.u2:=by
   have:=hv noB default
   cases this
   rfl
  exact (by rw[e3]; exact qrT c.bells (k+(c.o2:Int)) (by omega) (by omega) h2)
 ·exact fun hr=>qbm rfl hr
 ·simp[CarV.cells]
  exact Wk.weak (ρ:=[0]) (φ:=[]) (by simp)
 ·simp
  exact Wk.weak (ρ:=[0]) (φ:=[]) (by simp[CarV.cells])
 show Code.wp _ _ _ _ _
 have hJ3:=hI3.as (L':=(([⟨5,Ingot.rows (Ingot.marks k c.ingots.length),u.u0,ob0⟩]++g1)++g2)++([⟨5,Hung.rows c.hung,u.u3,ob3⟩]++([⟨5,Place.rows c.places,u.u4,ob4⟩]++(l5++(l6++([⟨3,Tone.rows c.tune.tones,u.u7,ob7⟩])))))) (by simp only[List.append_assoc,List.nil_append,List.cons_append])
 refine wp_seq ?_
 refine markP (L1:=(([⟨5,Ingot.rows (Ingot.marks k c.ingots.length),u.u0,ob0⟩]++g1)++g2)) (L0:=[⟨5,Hung.rows c.hung,u.u3,ob3⟩]) (L2:=[⟨5,Place.rows c.places,u.u4,ob4⟩]++(l5++(l6++([⟨3,Tone.rows c.tune.tones,u.u7,ob7⟩])))) (t:=18) (t':=19) (d:=20) (pv := .raw u.u3) (k:=(k+(c.o3:Int))) (k':=(k+(c.o4:Int))) (R:=fun L'=>L'=[⟨5,Hung.rows (Hung.marks (k+(c.o3:Int)) c.hung.length),u.u3,ob3⟩]) (S1:=⟨(18, .raw u.u3)::(19, .int .i64 (k+(c.o3:Int)))::[(1, .int .i64 (k+(c.o3:Int))),(2, .pb 0 0)],[some (.box (u.cells c))]⟩) (S2:=⟨[(1, .int .i64 (k+(c.o4:Int))),(2, .pb 0 0)],[some (.box (u.cells c))]⟩) 3 (by kernel_rfl) hJ3 rfl rfl rfl rfl (by decide) (by decide) (by decide) (fun v hv =>?_) ?_ rfl rfl ?_ ?_ fun g3 a4 w4 A4 m4 r3 hI4 =>?_
 ·obtain rfl:v=u.u3:=by
   have:=hv noB default
   cases this
   rfl
  exact (by rw[e4]; exact NMark.flat (qn5 c.hung (k+(c.o3:Int)) (by omega) (by omega)) (by simp[Hung.rows,Hung.marks]) (qa6 (Hung.flat _)))
 ·exact fun hr=>qbm rfl hr
 ·simp[CarV.cells]
  exact Wk.weak (ρ:=[0]) (φ:=[]) (by simp)
 ·simp
  exact Wk.weak (ρ:=[0]) (φ:=[]) (by simp[CarV.cells])
 subst r3
 show Code.wp _ _ _ _ _
 have hJ4:=hI4.as (L':=((([⟨5,Ingot.rows (Ingot.marks k c.ingots.length),u.u0,ob0⟩]++g1)++g2)++[⟨5,Hung.rows (Hung.marks (k+(c.o3:Int)) c.hung.length),u.u3,ob3⟩])++([⟨5,Place.rows c.places,u.u4,ob4⟩]++(l5++(l6++([⟨3,Tone.rows c.tune.tones,u.u7,ob7⟩]))))) (by simp only[List.append_assoc,List.nil_append,List.cons_append])
 refine wp_seq ?_
 refine markP (L1:=((([⟨5,Ingot.rows (Ingot.marks k c.ingots.length),u.u0,ob0⟩]++g1)++g2)++[⟨5,Hung.rows (Hung.marks (k+(c.o3:Int)) c.hung.length),u.u3,ob3⟩])) (L0:=[⟨5,Place.rows c.places,u.u4,ob4⟩]) (L2:=l5++(l6++([⟨3,Tone.rows c.tune.tones,u.u7,ob7⟩]))) (t:=22) (t':=23) (d:=24) (pv := .raw u.u4) (k:=(k+(c.o4:Int))) (k':=(k+(c.o5:Int))) (R:=fun L'=>L'=[⟨5,Place.rows (Place.marks (k+(c.o4:Int)) c.places.length),u.u4,ob4⟩]) (S1:=⟨(22, .raw u.u4)::(23, .int .i64 (k+(c.o4:Int)))::[(1, .int .i64 (k+(c.o4:Int))),(2, .pb 0 0)],[some (.box (u.cells c))]⟩) (S2:=⟨[(1, .int .i64 (k+(c.o5:Int))),(2, .pb 0 0)],[some (.box (u.cells c))]⟩) 3 (by kernel_rfl) hJ4 rfl rfl rfl rfl (by decide) (by decide) (by decide) (fun v hv =>?_) ?_ rfl rfl ?_ ?_ fun g4 a5 w5 A5 m5 r4 hI5 =>?_
 ·obtain rfl:v=u.u4:=by
   have:=hv noB default
   cases this
   rfl
  exact (by rw[e5]; exact NMark.flat (qod c.places (k+(c.o4:Int)) (by omega) (by omega)) (by simp[Place.rows,Place.marks]) (qa6 (Place.flat _)))
 ·exact fun hr=>qbm rfl hr
 ·simp[CarV.cells]
  exact Wk.weak (ρ:=[0]) (φ:=[]) (by simp)
 ·simp
  exact Wk.weak (ρ:=[0]) (φ:=[]) (by simp[CarV.cells])
 subst r4
 show Code.wp _ _ _ _ _
 have hJ5:=hI5.as (L':=(((([⟨5,Ingot.rows (Ingot.marks k c.ingots.length),u.u0,ob0⟩]++g1)++g2)++[⟨5,Hung.rows (Hung.marks (k+(c.o3:Int)) c.hung.length),u.u3,ob3⟩])++[⟨5,Place.rows (Place.marks (k+(c.o4:Int)) c.places.length),u.u4,ob4⟩])++(l5++(l6++([⟨3,Tone.rows c.tune.tones,u.u7,ob7⟩])))) (by simp only[List.append_assoc,List.nil_append,List.cons_append])
 refine wp_seq ?_
 refine markP (L1:=(((([⟨5,Ingot.rows (Ingot.marks k c.ingots.length),u.u0,ob0⟩]++g1)++g2)++[⟨5,Hung.rows (Hung.marks (k+(c.o3:Int)) c.hung.length),u.u3,ob3⟩])++[⟨5,Place.rows (Place.marks (k+(c.o4:Int)) c.places.length),u.u4,ob4⟩])) (L0:=l5) (L2:=l6++([⟨3,Tone.rows c.tune.tones,u.u7,ob7⟩])) (t:=26) (t':=27) (d:=28) (pv := .raw u.u5) (k:=(k+(c.o5:Int))) (k':=(k+(c.o6:Int))) (R:=fun L'=>Nest 6 2 Beam.rw Beam.inn (qav Beam.markN Beam.cnt (k+(c.o5:Int)) c.frame) u.u5 L') (S1:=⟨(26, .raw u.u5)::(27, .int .i64 (k+(c.o5:Int)))::[(1, .int .i64 (k+(c.o5:Int))),(2, .pb 0 0)],[some (.box (u.cells c))]⟩) (S2:=⟨[(1, .int .i64 (k+(c.o6:Int))),(2, .pb 0 0)],[some (.box (u.cells c))]⟩) 3 (by kernel_rfl) hJ5 rfl rfl rfl rfl (by decide) (by decide) (by decide) (fun v hv =>?_) ?_ rfl rfl ?_ ?_ fun g5 a6 w6 A6 m6 r5 hI6 =>?_
 ·obtain rfl:v=u.u5:=by
   have:=hv noB default
   cases this
   rfl
  exact (by rw[e6]; exact qrV c.frame (k+(c.o5:Int)) (by omega) (by omega) h5)
 ·exact fun hr=>qbm rfl hr
 ·simp[CarV.cells]
  exact Wk.weak (ρ:=[0]) (φ:=[]) (by simp)
 ·simp
  exact Wk.weak (ρ:=[0]) (φ:=[]) (by simp[CarV.cells])
 show Code.wp _ _ _ _ _
 have hJ6:=hI6.as (L':=((((([⟨5,Ingot.rows (Ingot.marks k c.ingots.length),u.u0,ob0⟩]++g1)++g2)++[⟨5,Hung.rows (Hung.marks (k+(c.o3:Int)) c.hung.length),u.u3,ob3⟩])++[⟨5,Place.rows (Place.marks (k+(c.o4:Int)) c.places.length),u.u4,ob4⟩])++g5)++(l6++([⟨3,Tone.rows c.tune.tones,u.u7,ob7⟩]))) (by simp only[List.append_assoc,List.nil_append,List.cons_append])
 refine wp_seq ?_
 refine markP (L1:=((((([⟨5,Ingot.rows (Ingot.marks k c.ingots.length),u.u0,ob0⟩]++g1)++g2)++[⟨5,Hung.rows (Hung.marks (k+(c.o3:Int)) c.hung.length),u.u3,ob3⟩])++[⟨5,Place.rows (Place.marks (k+(c.o4:Int)) c.places.length),u.u4,ob4⟩])++g5)) (L0:=l6) (L2:=[⟨3,Tone.rows c.tune.tones,u.u7,ob7⟩]) (t:=30) (t':=31) (d:=32) (pv := .raw u.u6) (k:=(k+(c.o6:Int))) (k':=(k+(c.o7:Int))) (R:=fun L'=>Nest 4 2 Action.rw Action.inn (qav Action.markN Action.cnt (k+(c.o6:Int)) c.clavier) u.u6 L') (S1:=⟨(30, .raw u.u6)::(31, .int .i64 (k+(c.o6:Int)))::[(1, .int .i64 (k+(c.o6:Int))),(2, .pb 0 0)],[some (.box (u.cells c))]⟩) (S2:=⟨[(1, .int .i64 (k+(c.o7:Int))),(2, .pb 0 0)],[some (.box (u.cells c))]⟩) 3 (by kernel_rfl) hJ6 rfl rfl rfl rfl (by decide) (by decide) (by decide) (fun v hv =>?_) ?_ rfl rfl ?_ ?_ fun g6 a7 w7 A7 m7 r6 hI7 =>?_
 ·obtain rfl:v=u.u6:=by
   have:=hv noB default
   cases this
   rfl
  exact (by rw[e7]; exact qrX c.clavier (k+(c.o6:Int)) (by omega) (by omega) h6)
 ·exact fun hr=>qbm rfl hr
 ·simp[CarV.cells]
  exact Wk.weak (ρ:=[0]) (φ:=[]) (by simp)
 ·simp
  exact Wk.weak (ρ:=[0]) (φ:=[]) (by simp[CarV.cells])
 show Code.wp _ _ _ _ _
 have hJ7:=hI7.as (L':=(((((([⟨5,Ingot.rows (Ingot.marks k c.ingots.length),u.u0,ob0⟩]++g1)++g2)++[⟨5,Hung.rows (Hung.marks (k+(c.o3:Int)) c.hung.length),u.u3,ob3⟩])++[⟨5,Place.rows (Place.marks (k+(c.o4:Int)) c.places.length),u.u4,ob4⟩])++g5)++g6)++([⟨3,Tone.rows c.tune.tones,u.u7,ob7⟩]++([]))) (by simp only[List.append_assoc,List.nil_append,List.append_nil,List.cons_append])
 refine wp_seq ?_
 refine markP (L1:=(((((([⟨5,Ingot.rows (Ingot.marks k c.ingots.length),u.u0,ob0⟩]++g1)++g2)++[⟨5,Hung.rows (Hung.marks (k+(c.o3:Int)) c.hung.length),u.u3,ob3⟩])++[⟨5,Place.rows (Place.marks (k+(c.o4:Int)) c.places.length),u.u4,ob4⟩])++g5)++g6)) (L0:=[⟨3,Tone.rows c.tune.tones,u.u7,ob7⟩]) (L2:=[]) (t:=34) (t':=35) (d:=36) (pv := .agg [.str c.tune.name, .raw u.u7]) (k:=(k+(c.o7:Int))) (k':=(k+(c.o8:Int))) (R:=fun L'=>L'=[⟨3,Tone.rows (Tone.marks (k+(c.o7:Int)) c.tune.tones.length),u.u7,ob7⟩]) (S1:=⟨(34, .agg [.str c.tune.name, .raw u.u7])::(35, .int .i64 (k+(c.o7:Int)))::[(1, .int .i64 (k+(c.o7:Int))),(2, .pb 0 0)],[some (.box (u.cells c))]⟩) (S2:=⟨[(1, .int .i64 (k+(c.o8:Int))),(2, .pb 0 0)],[some (.box (u.cells c))]⟩) 3 (by kernel_rfl) hJ7 rfl rfl rfl rfl (by decide) (by decide) (by decide) (fun v hv =>?_) ?_ rfl rfl ?_ ?_ fun g7 a8 w8 A8 m8 r7 hI8 =>?_
 ·exact (by rw[e8]; exact qrY c.tune u.u7 ob7 (k+(c.o7:Int)) (by omega) (by omega) v hv)
 ·refine fun hr=>qdP hr fun c hc =>?_
  simp at hc
  rcases hc with rfl | rfl<;>rfl
 ·simp[CarV.cells]
  exact Wk.weak (ρ:=[0]) (φ:=[]) (by simp)
 ·simp
  exact Wk.weak (ρ:=[0]) (φ:=[]) (by simp[CarV.cells])
 subst r7
 show Code.wp _ _ _ _ _
 refine wp_seq ?_
 refine qaf hm (S1:=⟨[(4, .int .i64 (k+(c.o8:Int)))],[]⟩) (by kernel_rfl) hI8 ?_ fun a9 w9 A9 m9 hI9 =>?_
 ·simp
  exact Wk.weak (ρ:=[]) (φ:=[]) (by simp)
 refine wp_ret ⟨.inr rfl,_,_,_,_,hI9,⟨trivial,trivial⟩,rfl,⟨[⟨5,Ingot.rows (Ingot.marks k c.ingots.length),u.u0,ob0⟩],g1,g2,[⟨5,Hung.rows (Hung.marks (k+(c.o3:Int)) c.hung.length),u.u3,ob3⟩],[⟨5,Place.rows (Place.marks (k+(c.o4:Int)) c.places.length),u.u4,ob4⟩],g5,g6,[⟨3,Tone.rows (Tone.marks (k+(c.o7:Int)) c.tune.tones.length),u.u7,ob7⟩]⟩,?_,⟨⟨ob0,rfl⟩,r1,r2,⟨ob3,rfl⟩,⟨ob4,rfl⟩,r5,r6,⟨ob7,rfl⟩⟩⟩
 simp only[List.append_assoc,List.nil_append,List.append_nil,List.cons_append]
end Go.Proofs.YteckngloamnfdaaGreatDoor
