/- The copies of a carillon and of a desk in fresh pinned memory. No condition. -/
import Derived.Test.YtcjpfjklhhclmaaGreatDoorBw
import Derived.Test.YtcjpfjklhhclmaaGreatDoorTNest
namespace Go.Proofs.YtcjpfjklhhclmaaGreatDoor
open Go Go.Ab
set_option maxRecDepth 100000
def TuneR (t : Tune) (v : Value) (L : List Pind) : Prop := (∃ ob, L = [⟨3, Tone.rows t.tones, partV 1 v, ob⟩]) ∧ ∀ A w, RepI A w (.agg [.str t.name, .raw (partV 1 v)]) v
theorem qok (t : Tune) (h : t.sz ≤ 1048576) : NCopy Tryz.prog 75 [.agg t.cells] (TuneR t) :=
 NCopy.part (j := 1) (qn4 t h) rfl (qba (Tone.flat _)) fun u c hc => by
   simp at hc
   rcases hc with rfl | rfl <;> rfl
structure CarV where
 u0 : Value
 u1 : Value
 u2 : Value
 u3 : Value
 u4 : Value
 u5 : Value
 u6 : Value
 u7 : Value
structure CarL where
 l0 : List Pind
 l1 : List Pind
 l2 : List Pind
 l3 : List Pind
 l4 : List Pind
 l5 : List Pind
 l6 : List Pind
 l7 : List Pind
def CarL.all (L : CarL) : List Pind := L.l0 ++ (L.l1 ++ (L.l2 ++ (L.l3 ++ (L.l4 ++ (L.l5 ++ (L.l6 ++ L.l7))))))
structure CarP (c : Carillon) (u : CarV) (L : CarL) : Prop where
 h0 : ∃ ob, L.l0 = [⟨5, Ingot.rows c.ingots, u.u0, ob⟩]
 h1 : Nest 3 1 Melt.rw Melt.inn c.melts u.u1 L.l1
 h2 : Nest 5 2 Bell.rw Bell.inn c.bells u.u2 L.l2
 h3 : ∃ ob, L.l3 = [⟨5, Hung.rows c.hung, u.u3, ob⟩]
 h4 : ∃ ob, L.l4 = [⟨5, Place.rows c.places, u.u4, ob⟩]
 h5 : Nest 6 2 Beam.rw Beam.inn c.frame u.u5 L.l5
 h6 : Nest 4 2 Action.rw Action.inn c.clavier u.u6 L.l6
 h7 : ∃ ob, L.l7 = [⟨3, Tone.rows c.tune.tones, u.u7, ob⟩]
theorem CarP.read {c : Carillon} {u : CarV} {L : CarL} {w : World} {F : Nat → Prop} (h : CarP c u L) (hp : Pinds w L.all) (hF : ∀ b, pindB L.all b → F b) :
   RepI F w (.sl 5 (Ingot.rows c.ingots)) u.u0 ∧ RepI F w (.sl 3 (Melt.rows c.melts)) u.u1 ∧ RepI F w (.sl 5 (Bell.rows c.bells)) u.u2 ∧ RepI F w (.sl 5 (Hung.rows c.hung)) u.u3 ∧ RepI F w (.sl 5 (Place.rows c.places)) u.u4 ∧
   RepI F w (.sl 6 (Beam.rows c.frame)) u.u5 ∧ RepI F w (.sl 4 (Action.rows c.clavier)) u.u6 ∧ RepI F w (.sl 3 (Tone.rows c.tune.tones)) u.u7 := by
 have flat : ∀ {z : Nat} {rows : List (List PV)} {v : Value} {l : List Pind}, (∃ ob, l = [⟨z, rows, v, ob⟩]) → (∀ p ∈ l, p ∈ L.all) → RepI F w (.sl z rows) v := fun {z rows v l} ⟨ob, hl⟩ hm => by
   subst hl
   obtain ⟨ho, hpr⟩ := hp.at_ _ (hm _ (List.mem_singleton_self _))
   exact ho.plain (fun b e => hF b ⟨_, hm _ (List.mem_singleton_self _), e⟩) hpr
 unfold CarL.all at *
 have s0 := hp.sub
 have s1 := s0.2.1.sub
 have s2 := s1.2.1.sub
 have s3 := s2.2.1.sub
 have s4 := s3.2.1.sub
 have s5 := s4.2.1.sub
 have s6 := s5.2.1.sub
 refine ⟨flat h.h0 (fun p hp => by simp [hp]), ?_, ?_, flat h.h3 (fun p hp => by simp [hp]), flat h.h4 (fun p hp => by simp [hp]), ?_, ?_, flat h.h7 (fun p hp => by simp [hp])⟩
 · exact h.h1.read s1.1 (fun b hb => hF b (by simp [qao, hb])) fun x u hu => x.rw_read u hu
 · exact h.h2.read s2.1 (fun b hb => hF b (by simp [qao, hb])) fun x u hu => x.rw_read u hu
 · exact h.h5.read s5.1 (fun b hb => hF b (by simp [qao, hb])) fun x u hu => x.rw_read u hu
 · exact h.h6.read s6.1 (fun b hb => hF b (by simp [qao, hb])) fun x u hu => x.rw_read u hu
theorem CarP.ones {c : Carillon} {u : CarV} {L : CarL} {w : World} (h : CarP c u L) (hp : Pinds w L.all) : u.u0.oneCell' = true ∧ u.u1.oneCell' = true ∧ u.u2.oneCell' = true ∧ u.u3.oneCell' = true ∧ u.u4.oneCell' = true ∧ u.u5.oneCell' = true ∧ u.u6.oneCell' = true ∧ u.u7.oneCell' = true := by
 unfold CarL.all at *
 have s0 := hp.sub
 have s1 := s0.2.1.sub
 have s2 := s1.2.1.sub
 have s3 := s2.2.1.sub
 have s4 := s3.2.1.sub
 have s5 := s4.2.1.sub
 have s6 := s5.2.1.sub
 exact ⟨qdk h.h0 s0.1, h.h1.one s1.1, h.h2.one s2.1, qdk h.h3 s3.1, qdk h.h4 s4.1, h.h5.one s5.1, h.h6.one s6.1, qdk h.h7 s6.2.1⟩
def carV (v : Value) : CarV := ⟨partV 0 v, partV 1 v, partV 2 v, partV 3 v, partV 7 v, partV 14 v, partV 17 v, partV 19 v⟩
def CarV.cells (c : Carillon) (u : CarV) : List PV := [.raw u.u0, .raw u.u1, .raw u.u2, .raw u.u3, .int .i64 c.chamber.width, .int .i64 c.chamber.length, .int .i64 c.chamber.height, .raw u.u4, .int .i64 c.gap, .str c.tower.name, .int .i64 c.tower.sway, .int .i64 c.tower.damping, .int .i64 c.tower.stiffness, .int .i64 c.tower.limit, .raw u.u5, .int .i64 c.stress, .int .i64 c.bending, .raw u.u6, .str c.tune.name, .raw u.u7]
def CarR (c : Carillon) (v : Value) (L : List Pind) : Prop := (∃ Ls, L = CarL.all Ls ∧ CarP c (carV v) Ls) ∧ ∀ A w, RepI A w (.agg ((carV v).cells c)) v
def zc : List PV := [.nils, .nils, .nils, .nils, .int .i64 0, .int .i64 0, .int .i64 0, .nils, .int .i64 0, .str [], .int .i64 0, .int .i64 0, .int .i64 0, .int .i64 0, .nils, .int .i64 0, .int .i64 0, .nils, .str [], .nils]
theorem qol {c : Carillon} {u : CarV} {v : Value} {A : Nat → Prop} {w : World} (h : RepI A w (.agg (u.cells c)) v) : carV v = u := by
 cases h with
 | agg _ us hl hh =>
   have key : ∀ (i : Nat) (x : Value), (u.cells c)[i]? = some (.raw x) → us.getD i undef = x := fun i x hi => by
     have := hh i _ hi
     generalize us.getD i undef = y at this
     cases this
     rfl
   cases u
   simp only [carV, partV]
   rw [key 0 _ rfl, key 1 _ rfl, key 2 _ rfl, key 3 _ rfl, key 7 _ rfl, key 14 _ rfl, key 17 _ rfl, key 19 _ rfl]
theorem CarP.agg {c : Carillon} {u : CarV} {L : CarL} {w : World} {F : Nat → Prop} {v : Value} (h : CarP c u L) (hp : Pinds w L.all) (hF : ∀ b, pindB L.all b → F b) (hv : RepI F w (.agg (u.cells c)) v) : RepI F w (.agg c.cells) v := by
 obtain ⟨h0, h1, h2, h3, h4, h5, h6, h7⟩ := h.read hp hF
 cases hv with
 | agg _ us hl hh =>
   have key : ∀ (i : Nat) (x : Value), (u.cells c)[i]? = some (.raw x) → us.getD i undef = x := fun i x hi => by
     have := hh i _ hi
     generalize us.getD i undef = y at this
     cases this
     rfl
   refine .agg _ us (by rw [hl]; rfl) fun i p hi => ?_
   match i with
   | 0 => cases hi; rw [key 0 _ rfl]; exact h0
   | 1 => cases hi; rw [key 1 _ rfl]; exact h1
   | 2 => cases hi; rw [key 2 _ rfl]; exact h2
   | 3 => cases hi; rw [key 3 _ rfl]; exact h3
   | 4 => cases hi; exact hh 4 _ rfl
   | 5 => cases hi; exact hh 5 _ rfl
   | 6 => cases hi; exact hh 6 _ rfl
   | 7 => cases hi; rw [key 7 _ rfl]; exact h4
   | 8 => cases hi; exact hh 8 _ rfl
   | 9 => cases hi; exact hh 9 _ rfl
   | 10 => cases hi; exact hh 10 _ rfl
   | 11 => cases hi; exact hh 11 _ rfl
   | 12 => cases hi; exact hh 12 _ rfl
   | 13 => cases hi; exact hh 13 _ rfl
   | 14 => cases hi; rw [key 14 _ rfl]; exact h5
   | 15 => cases hi; exact hh 15 _ rfl
   | 16 => cases hi; exact hh 16 _ rfl
   | 17 => cases hi; rw [key 17 _ rfl]; exact h6
   | 18 => cases hi; exact hh 18 _ rfl
   | 19 => cases hi; rw [key 19 _ rfl]; exact h7
   | i + 20 => simp [Carillon.cells] at hi
theorem CarV.cells_pure (c : Carillon) (u : CarV) : ∀ x ∈ u.cells c, pureP x = true := by
 intro x hx
 simp [CarV.cells] at hx
 rcases hx with rfl | rfl | rfl | rfl | rfl | rfl | rfl | rfl | rfl | rfl | rfl | rfl | rfl | rfl | rfl | rfl | rfl | rfl | rfl | rfl <;> rfl
set_option maxHeartbeats 4000000 in
theorem qom (c : Carillon) (h : c.sz ≤ 1048576) : NCopy Tryz.prog 25 [.agg c.cells] (CarR c) := fun A w vs hA hvs hargs => by
 have ⟨h0, h1, h2, h3, h5, h8, h11, h12⟩ : Ingot.szS c.ingots ≤ 1048576 ∧ Melt.szS c.melts ≤ 1048576 ∧ Bell.szS c.bells ≤ 1048576 ∧ Hung.szS c.hung ≤ 1048576 ∧ Place.szS c.places ≤ 1048576 ∧ Beam.szS c.frame ≤ 1048576 ∧ Action.szS c.clavier ≤ 1048576 ∧ Tune.sz c.tune ≤ 1048576 := by
   unfold Carillon.sz at h
   refine ⟨?_, ?_, ?_, ?_, ?_, ?_, ?_, ?_⟩ <;> omega
 refine (qcn (M := noB) (gh := fun _ => undef) (R := fun v w' => ∃ L, Moved noB w w' ∧ Pinds w' L ∧ (∀ b, pindB L b → w.heap.size ≤ b) ∧ CarR c v L) Tryz.func25 (by kernel_rfl) rfl (by kernel_rfl) (by kernel_rfl) hA hvs hargs fun a hI => ?_).mono fun e w' ⟨v, he, L, h1⟩ => ⟨v, L, he, h1⟩
 refine wp_seq ?_
 refine qae hm (S1 := ⟨[(1, .pb 0 0), (2, .pb 1 0)], [some (.box c.cells), some (.box zc)]⟩) (by kernel_rfl) (InvP.nil hI) ?_ fun a1 w1 A1 m1 hI1 => ?_
 · simp [Carillon.cells, zc]
   exact Wk.weak (ρ := [0, 1]) (φ := []) (by simp)
 refine wp_seq ?_
 refine qae hm (S1 := ⟨[(1, .pb 0 0), (2, .pb 1 0), (3, .pb 2 0)], [some (.box c.cells), some (.box zc), some (.box zc)]⟩) (by kernel_rfl) hI1 ?_ fun a2 w2 A2 m2 hI2 => ?_
 · simp [Carillon.cells, zc]
   exact Wk.weak (ρ := [0, 1, 2]) (φ := []) (by simp)
 refine wp_seq ?_
 refine copyP (t := 5) (d := 6) (pv := fun v => .raw v) (R := fun v L => ∃ ob, L = [⟨5, Ingot.rows c.ingots, v, ob⟩]) (S1 := ⟨(5, .sl 5 (Ingot.rows c.ingots)) :: [(1, .pb 0 0), (2, .pb 1 0), (3, .pb 2 0)], [some (.box c.cells), some (.box zc), some (.box [.nils, .nils, .nils, .nils, .int .i64 0, .int .i64 0, .int .i64 0, .nils, .int .i64 0, .str [], .int .i64 0, .int .i64 0, .int .i64 0, .int .i64 0, .nils, .int .i64 0, .int .i64 0, .nils, .str [], .nils])]⟩) (S2 := fun u0 => ⟨[(1, .pb 0 0), (2, .pb 1 0), (3, .pb 2 0)], [some (.box c.cells), some (.box zc), some (.box [.raw u0, .nils, .nils, .nils, .int .i64 0, .int .i64 0, .int .i64 0, .nils, .int .i64 0, .str [], .int .i64 0, .int .i64 0, .int .i64 0, .int .i64 0, .nils, .int .i64 0, .int .i64 0, .nils, .str [], .nils])]⟩) 2 (by kernel_rfl) hI2 rfl rfl rfl rfl (by decide) (by decide) (NCopy.flat (qiP c.ingots (by unfold Ingot.szS at h0; omega)) (qba (Ingot.flat _))) rfl rfl (fun _ _ _ _ _ => .raw _) (C := fun v => v.oneCell' = true) (fun _ _ _ hr hp => qdk hr hp) ?_ (fun u0 ho => ?_) fun u0 L0 a3 w3 A3 m3 o0 r0 hI3 => ?_
 · simp [Carillon.cells, zc]
   exact Wk.weak (ρ := [0, 1, 2]) (φ := []) (by simp)
 · simp [Carillon.cells, ho, zc]
   exact Wk.weak (ρ := [0, 1, 2]) (φ := []) (by simp)
 refine wp_seq ?_
 refine copyP (t := 9) (d := 10) (pv := fun v => .raw v) (R := fun v L => Nest 3 1 Melt.rw Melt.inn c.melts v L) (S1 := ⟨(9, .sl 3 (Melt.rows c.melts)) :: [(1, .pb 0 0), (2, .pb 1 0), (3, .pb 2 0)], [some (.box c.cells), some (.box zc), some (.box [.raw u0, .nils, .nils, .nils, .int .i64 0, .int .i64 0, .int .i64 0, .nils, .int .i64 0, .str [], .int .i64 0, .int .i64 0, .int .i64 0, .int .i64 0, .nils, .int .i64 0, .int .i64 0, .nils, .str [], .nils])]⟩) (S2 := fun u1 => ⟨[(1, .pb 0 0), (2, .pb 1 0), (3, .pb 2 0)], [some (.box c.cells), some (.box zc), some (.box [.raw u0, .raw u1, .nils, .nils, .int .i64 0, .int .i64 0, .int .i64 0, .nils, .int .i64 0, .str [], .int .i64 0, .int .i64 0, .int .i64 0, .int .i64 0, .nils, .int .i64 0, .int .i64 0, .nils, .str [], .nils])]⟩) 2 (by kernel_rfl) hI3 rfl rfl rfl rfl (by decide) (by decide) (qod c.melts (by omega)) rfl rfl (fun _ _ _ _ _ => .raw _) (C := fun v => v.oneCell' = true) (fun _ _ _ hr hp => hr.one hp) ?_ (fun u1 ho => ?_) fun u1 L1 a4 w4 A4 m4 o1 r1 hI4 => ?_
 · simp [Carillon.cells, zc]
   exact Wk.weak (ρ := [0, 1, 2]) (φ := []) (by simp)
 · simp [Carillon.cells, ho, zc]
   exact Wk.weak (ρ := [0, 1, 2]) (φ := []) (by simp)
 refine wp_seq ?_
 refine copyP (t := 13) (d := 14) (pv := fun v => .raw v) (R := fun v L => Nest 5 2 Bell.rw Bell.inn c.bells v L) (S1 := ⟨(13, .sl 5 (Bell.rows c.bells)) :: [(1, .pb 0 0), (2, .pb 1 0), (3, .pb 2 0)], [some (.box c.cells), some (.box zc), some (.box [.raw u0, .raw u1, .nils, .nils, .int .i64 0, .int .i64 0, .int .i64 0, .nils, .int .i64 0, .str [], .int .i64 0, .int .i64 0, .int .i64 0, .int .i64 0, .nils, .int .i64 0, .int .i64 0, .nils, .str [], .nils])]⟩) (S2 := fun u2 => ⟨[(1, .pb 0 0), (2, .pb 1 0), (3, .pb 2 0)], [some (.box c.cells), some (.box zc), some (.box [.raw u0, .raw u1, .raw u2, .nils, .int .i64 0, .int .i64 0, .int .i64 0, .nils, .int .i64 0, .str [], .int .i64 0, .int .i64 0, .int .i64 0, .int .i64 0, .nils, .int .i64 0, .int .i64 0, .nils, .str [], .nils])]⟩) 2 (by kernel_rfl) hI4 rfl rfl rfl rfl (by decide) (by decide) (qof c.bells (by omega)) rfl rfl (fun _ _ _ _ _ => .raw _) (C := fun v => v.oneCell' = true) (fun _ _ _ hr hp => hr.one hp) ?_ (fun u2 ho => ?_) fun u2 L2 a5 w5 A5 m5 o2 r2 hI5 => ?_
 · simp [Carillon.cells, zc]
   exact Wk.weak (ρ := [0, 1, 2]) (φ := []) (by simp)
 · simp [Carillon.cells, ho, zc]
   exact Wk.weak (ρ := [0, 1, 2]) (φ := []) (by simp)
 refine wp_seq ?_
 refine copyP (t := 17) (d := 18) (pv := fun v => .raw v) (R := fun v L => ∃ ob, L = [⟨5, Hung.rows c.hung, v, ob⟩]) (S1 := ⟨(17, .sl 5 (Hung.rows c.hung)) :: [(1, .pb 0 0), (2, .pb 1 0), (3, .pb 2 0)], [some (.box c.cells), some (.box zc), some (.box [.raw u0, .raw u1, .raw u2, .nils, .int .i64 0, .int .i64 0, .int .i64 0, .nils, .int .i64 0, .str [], .int .i64 0, .int .i64 0, .int .i64 0, .int .i64 0, .nils, .int .i64 0, .int .i64 0, .nils, .str [], .nils])]⟩) (S2 := fun u3 => ⟨[(1, .pb 0 0), (2, .pb 1 0), (3, .pb 2 0)], [some (.box c.cells), some (.box zc), some (.box [.raw u0, .raw u1, .raw u2, .raw u3, .int .i64 0, .int .i64 0, .int .i64 0, .nils, .int .i64 0, .str [], .int .i64 0, .int .i64 0, .int .i64 0, .int .i64 0, .nils, .int .i64 0, .int .i64 0, .nils, .str [], .nils])]⟩) 2 (by kernel_rfl) hI5 rfl rfl rfl rfl (by decide) (by decide) (NCopy.flat (qiQ c.hung (by unfold Hung.szS at h3; omega)) (qba (Hung.flat _))) rfl rfl (fun _ _ _ _ _ => .raw _) (C := fun v => v.oneCell' = true) (fun _ _ _ hr hp => qdk hr hp) ?_ (fun u3 ho => ?_) fun u3 L3 a6 w6 A6 m6 o3 r3 hI6 => ?_
 · simp [Carillon.cells, zc]
   exact Wk.weak (ρ := [0, 1, 2]) (φ := []) (by simp)
 · simp [Carillon.cells, ho, zc]
   exact Wk.weak (ρ := [0, 1, 2]) (φ := []) (by simp)
 refine wp_seq ?_
 refine qae hm (S1 := ⟨[(1, .pb 0 0), (2, .pb 1 0), (3, .pb 2 0)], [some (.box c.cells), some (.box zc), some (.box [.raw u0, .raw u1, .raw u2, .raw u3, .int .i64 c.chamber.width, .int .i64 c.chamber.length, .int .i64 c.chamber.height, .nils, .int .i64 0, .str [], .int .i64 0, .int .i64 0, .int .i64 0, .int .i64 0, .nils, .int .i64 0, .int .i64 0, .nils, .str [], .nils])]⟩) (by kernel_rfl) hI6 ?_ fun a7 w7 A7 m7 hI7 => ?_
 · simp [Carillon.cells, zc]
   refine CallZ.use0 (qiR c.chamber) rfl rfl ?_
   simp [Chamber.cells]
   exact Wk.weak (ρ := [0, 1, 2]) (φ := []) (by simp)
 refine wp_seq ?_
 refine copyP (t := 25) (d := 26) (pv := fun v => .raw v) (R := fun v L => ∃ ob, L = [⟨5, Place.rows c.places, v, ob⟩]) (S1 := ⟨(25, .sl 5 (Place.rows c.places)) :: [(1, .pb 0 0), (2, .pb 1 0), (3, .pb 2 0)], [some (.box c.cells), some (.box zc), some (.box [.raw u0, .raw u1, .raw u2, .raw u3, .int .i64 c.chamber.width, .int .i64 c.chamber.length, .int .i64 c.chamber.height, .nils, .int .i64 0, .str [], .int .i64 0, .int .i64 0, .int .i64 0, .int .i64 0, .nils, .int .i64 0, .int .i64 0, .nils, .str [], .nils])]⟩) (S2 := fun u4 => ⟨[(1, .pb 0 0), (2, .pb 1 0), (3, .pb 2 0)], [some (.box c.cells), some (.box zc), some (.box [.raw u0, .raw u1, .raw u2, .raw u3, .int .i64 c.chamber.width, .int .i64 c.chamber.length, .int .i64 c.chamber.height, .raw u4, .int .i64 0, .str [], .int .i64 0, .int .i64 0, .int .i64 0, .int .i64 0, .nils, .int .i64 0, .int .i64 0, .nils, .str [], .nils])]⟩) 2 (by kernel_rfl) hI7 rfl rfl rfl rfl (by decide) (by decide) (NCopy.flat (qiS c.places (by unfold Place.szS at h5; omega)) (qba (Place.flat _))) rfl rfl (fun _ _ _ _ _ => .raw _) (C := fun v => v.oneCell' = true) (fun _ _ _ hr hp => qdk hr hp) ?_ (fun u4 ho => ?_) fun u4 L4 a8 w8 A8 m8 o4 r4 hI8 => ?_
 · simp [Carillon.cells, zc]
   exact Wk.weak (ρ := [0, 1, 2]) (φ := []) (by simp)
 · simp [Carillon.cells, ho, zc]
   exact Wk.weak (ρ := [0, 1, 2]) (φ := []) (by simp)
 refine wp_seq ?_
 refine qae hm (S1 := ⟨[(1, .pb 0 0), (2, .pb 1 0), (3, .pb 2 0)], [some (.box c.cells), some (.box zc), some (.box [.raw u0, .raw u1, .raw u2, .raw u3, .int .i64 c.chamber.width, .int .i64 c.chamber.length, .int .i64 c.chamber.height, .raw u4, .int .i64 c.gap, .str [], .int .i64 0, .int .i64 0, .int .i64 0, .int .i64 0, .nils, .int .i64 0, .int .i64 0, .nils, .str [], .nils])]⟩) (by kernel_rfl) hI8 ?_ fun a9 w9 A9 m9 hI9 => ?_
 · simp [Carillon.cells, zc]
   exact Wk.weak (ρ := [0, 1, 2]) (φ := []) (by simp)
 refine wp_seq ?_
 refine qae hm (S1 := ⟨[(1, .pb 0 0), (2, .pb 1 0), (3, .pb 2 0)], [some (.box c.cells), some (.box zc), some (.box [.raw u0, .raw u1, .raw u2, .raw u3, .int .i64 c.chamber.width, .int .i64 c.chamber.length, .int .i64 c.chamber.height, .raw u4, .int .i64 c.gap, .str c.tower.name, .int .i64 c.tower.sway, .int .i64 c.tower.damping, .int .i64 c.tower.stiffness, .int .i64 c.tower.limit, .nils, .int .i64 0, .int .i64 0, .nils, .str [], .nils])]⟩) (by kernel_rfl) hI9 ?_ fun a10 w10 A10 m10 hI10 => ?_
 · simp [Carillon.cells, zc]
   refine CallZ.use0 (qiT c.tower) rfl rfl ?_
   simp [Tower.cells]
   exact Wk.weak (ρ := [0, 1, 2]) (φ := []) (by simp)
 refine wp_seq ?_
 refine copyP (t := 36) (d := 37) (pv := fun v => .raw v) (R := fun v L => Nest 6 2 Beam.rw Beam.inn c.frame v L) (S1 := ⟨(36, .sl 6 (Beam.rows c.frame)) :: [(1, .pb 0 0), (2, .pb 1 0), (3, .pb 2 0)], [some (.box c.cells), some (.box zc), some (.box [.raw u0, .raw u1, .raw u2, .raw u3, .int .i64 c.chamber.width, .int .i64 c.chamber.length, .int .i64 c.chamber.height, .raw u4, .int .i64 c.gap, .str c.tower.name, .int .i64 c.tower.sway, .int .i64 c.tower.damping, .int .i64 c.tower.stiffness, .int .i64 c.tower.limit, .nils, .int .i64 0, .int .i64 0, .nils, .str [], .nils])]⟩) (S2 := fun u5 => ⟨[(1, .pb 0 0), (2, .pb 1 0), (3, .pb 2 0)], [some (.box c.cells), some (.box zc), some (.box [.raw u0, .raw u1, .raw u2, .raw u3, .int .i64 c.chamber.width, .int .i64 c.chamber.length, .int .i64 c.chamber.height, .raw u4, .int .i64 c.gap, .str c.tower.name, .int .i64 c.tower.sway, .int .i64 c.tower.damping, .int .i64 c.tower.stiffness, .int .i64 c.tower.limit, .raw u5, .int .i64 0, .int .i64 0, .nils, .str [], .nils])]⟩) 2 (by kernel_rfl) hI10 rfl rfl rfl rfl (by decide) (by decide) (qoh c.frame (by omega)) rfl rfl (fun _ _ _ _ _ => .raw _) (C := fun v => v.oneCell' = true) (fun _ _ _ hr hp => hr.one hp) ?_ (fun u5 ho => ?_) fun u5 L5 a11 w11 A11 m11 o5 r5 hI11 => ?_
 · simp [Carillon.cells, zc]
   exact Wk.weak (ρ := [0, 1, 2]) (φ := []) (by simp)
 · simp [Carillon.cells, ho, zc]
   exact Wk.weak (ρ := [0, 1, 2]) (φ := []) (by simp)
 refine wp_seq ?_
 refine qae hm (S1 := ⟨[(1, .pb 0 0), (2, .pb 1 0), (3, .pb 2 0)], [some (.box c.cells), some (.box zc), some (.box [.raw u0, .raw u1, .raw u2, .raw u3, .int .i64 c.chamber.width, .int .i64 c.chamber.length, .int .i64 c.chamber.height, .raw u4, .int .i64 c.gap, .str c.tower.name, .int .i64 c.tower.sway, .int .i64 c.tower.damping, .int .i64 c.tower.stiffness, .int .i64 c.tower.limit, .raw u5, .int .i64 c.stress, .int .i64 0, .nils, .str [], .nils])]⟩) (by kernel_rfl) hI11 ?_ fun a12 w12 A12 m12 hI12 => ?_
 · simp [Carillon.cells, zc]
   exact Wk.weak (ρ := [0, 1, 2]) (φ := []) (by simp)
 refine wp_seq ?_
 refine qae hm (S1 := ⟨[(1, .pb 0 0), (2, .pb 1 0), (3, .pb 2 0)], [some (.box c.cells), some (.box zc), some (.box [.raw u0, .raw u1, .raw u2, .raw u3, .int .i64 c.chamber.width, .int .i64 c.chamber.length, .int .i64 c.chamber.height, .raw u4, .int .i64 c.gap, .str c.tower.name, .int .i64 c.tower.sway, .int .i64 c.tower.damping, .int .i64 c.tower.stiffness, .int .i64 c.tower.limit, .raw u5, .int .i64 c.stress, .int .i64 c.bending, .nils, .str [], .nils])]⟩) (by kernel_rfl) hI12 ?_ fun a13 w13 A13 m13 hI13 => ?_
 · simp [Carillon.cells, zc]
   exact Wk.weak (ρ := [0, 1, 2]) (φ := []) (by simp)
 refine wp_seq ?_
 refine copyP (t := 46) (d := 47) (pv := fun v => .raw v) (R := fun v L => Nest 4 2 Action.rw Action.inn c.clavier v L) (S1 := ⟨(46, .sl 4 (Action.rows c.clavier)) :: [(1, .pb 0 0), (2, .pb 1 0), (3, .pb 2 0)], [some (.box c.cells), some (.box zc), some (.box [.raw u0, .raw u1, .raw u2, .raw u3, .int .i64 c.chamber.width, .int .i64 c.chamber.length, .int .i64 c.chamber.height, .raw u4, .int .i64 c.gap, .str c.tower.name, .int .i64 c.tower.sway, .int .i64 c.tower.damping, .int .i64 c.tower.stiffness, .int .i64 c.tower.limit, .raw u5, .int .i64 c.stress, .int .i64 c.bending, .nils, .str [], .nils])]⟩) (S2 := fun u6 => ⟨[(1, .pb 0 0), (2, .pb 1 0), (3, .pb 2 0)], [some (.box c.cells), some (.box zc), some (.box [.raw u0, .raw u1, .raw u2, .raw u3, .int .i64 c.chamber.width, .int .i64 c.chamber.length, .int .i64 c.chamber.height, .raw u4, .int .i64 c.gap, .str c.tower.name, .int .i64 c.tower.sway, .int .i64 c.tower.damping, .int .i64 c.tower.stiffness, .int .i64 c.tower.limit, .raw u5, .int .i64 c.stress, .int .i64 c.bending, .raw u6, .str [], .nils])]⟩) 2 (by kernel_rfl) hI13 rfl rfl rfl rfl (by decide) (by decide) (qoj c.clavier (by omega)) rfl rfl (fun _ _ _ _ _ => .raw _) (C := fun v => v.oneCell' = true) (fun _ _ _ hr hp => hr.one hp) ?_ (fun u6 ho => ?_) fun u6 L6 a14 w14 A14 m14 o6 r6 hI14 => ?_
 · simp [Carillon.cells, zc]
   exact Wk.weak (ρ := [0, 1, 2]) (φ := []) (by simp)
 · simp [Carillon.cells, ho, zc]
   exact Wk.weak (ρ := [0, 1, 2]) (φ := []) (by simp)
 refine wp_seq ?_
 refine copyP (t := 50) (d := 51) (pv := fun v => .agg [.str c.tune.name, .raw (partV 1 v)]) (R := TuneR c.tune) (S1 := ⟨(50, .agg [.str c.tune.name, .sl 3 (Tone.rows c.tune.tones)]) :: [(1, .pb 0 0), (2, .pb 1 0), (3, .pb 2 0)], [some (.box c.cells), some (.box zc), some (.box [.raw u0, .raw u1, .raw u2, .raw u3, .int .i64 c.chamber.width, .int .i64 c.chamber.length, .int .i64 c.chamber.height, .raw u4, .int .i64 c.gap, .str c.tower.name, .int .i64 c.tower.sway, .int .i64 c.tower.damping, .int .i64 c.tower.stiffness, .int .i64 c.tower.limit, .raw u5, .int .i64 c.stress, .int .i64 c.bending, .raw u6, .str [], .nils])]⟩) (S2 := fun u7 => ⟨[(1, .pb 0 0), (2, .pb 1 0), (3, .pb 2 0)], [some (.box c.cells), some (.box zc), some (.box [.raw u0, .raw u1, .raw u2, .raw u3, .int .i64 c.chamber.width, .int .i64 c.chamber.length, .int .i64 c.chamber.height, .raw u4, .int .i64 c.gap, .str c.tower.name, .int .i64 c.tower.sway, .int .i64 c.tower.damping, .int .i64 c.tower.stiffness, .int .i64 c.tower.limit, .raw u5, .int .i64 c.stress, .int .i64 c.bending, .raw u6, .str c.tune.name, .raw (partV 1 u7)])]⟩) 2 (by kernel_rfl) hI14 rfl rfl rfl rfl (by decide) (by decide) (qok c.tune (by omega)) rfl rfl (fun _ _ hr => hr.2) (C := fun v => (partV 1 v).oneCell' = true) (fun _ _ _ hr hp => qdk hr.1 hp) ?_ (fun u7 ho => ?_) fun u7 L7 a15 w15 A15 m15 o7 r7 hI15 => ?_
 · simp [Carillon.cells, zc]
   exact Wk.weak (ρ := [0, 1, 2]) (φ := []) (by simp)
 · simp [Carillon.cells, ho, zc]
   exact Wk.weak (ρ := [0, 1, 2]) (φ := []) (by simp)
 refine wp_seq ?_
 refine qae hm (S1 := ⟨[(2, .pb 0 0)], [some (.box [.raw u0, .raw u1, .raw u2, .raw u3, .int .i64 c.chamber.width, .int .i64 c.chamber.length, .int .i64 c.chamber.height, .raw u4, .int .i64 c.gap, .str c.tower.name, .int .i64 c.tower.sway, .int .i64 c.tower.damping, .int .i64 c.tower.stiffness, .int .i64 c.tower.limit, .raw u5, .int .i64 c.stress, .int .i64 c.bending, .raw u6, .str c.tune.name, .raw (partV 1 u7)])]⟩) (by kernel_rfl) hI15 ?_ fun a19 w19 A19 m19 hI19 => ?_
 · simp [zc, o0, o1, o2, o3, o4, o5, o6, o7]
   exact Wk.weak (ρ := [1]) (φ := []) (by simp)
 refine wp_ret ⟨.inr rfl, _, _, _, hI19.inv, ?_, fun v hv => ?_⟩
 · refine ⟨?_, trivial⟩
   simp [qfl]
 simp [retV, retV1] at hv
 have hI20 := hI19.perm (L' := L0 ++ (L1 ++ (L2 ++ (L3 ++ (L4 ++ (L5 ++ (L6 ++ L7))))))) (by
   classical
   refine List.perm_iff_count.2 fun q => ?_
   simp only [List.count_append, List.count_nil]
   omega)
 have hr : ∀ A w, RepI A w (.agg (CarV.cells c ⟨u0, u1, u2, u3, u4, u5, u6, partV 1 u7⟩)) v := fun A w => qeg hv (CarV.cells_pure c ⟨u0, u1, u2, u3, u4, u5, u6, partV 1 u7⟩)
 have hu : carV v = ⟨u0, u1, u2, u3, u4, u5, u6, partV 1 u7⟩ := qol (hr noB default)
 refine ⟨_, hI20.inv.moved, hI20.pin, fun b hb => ((hI20.off b hb).2.2).resolve_left fun h => h, ⟨⟨L0, L1, L2, L3, L4, L5, L6, L7⟩, rfl, ?_⟩, fun A w => ?_⟩
 · rw [hu]
   exact ⟨r0, r1, r2, r3, r4, r5, r6, r7.1⟩
 · rw [hu]
   exact hr A w
end Go.Proofs.YtcjpfjklhhclmaaGreatDoor
