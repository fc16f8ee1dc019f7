/- Marks on a carillon in pinned memory. No condition. -/
import Derived.Test.YtcjpfjklhhclmaaGreatDoorBx
import Derived.Test.YtcjpfjklhhclmaaGreatDoorBy
namespace Go.Ab
theorem InvP.as {x : Ctx} {n : Nat} {S : St} {a : Act} {w : World} {A : Nat → Prop} {m : OMap} {L L' : List Pind} (h : InvP x n S a w A m L) (e : L = L') : InvP x n S a w A m L' := e ▸ h
end Go.Ab
namespace Go.Proofs.YtcjpfjklhhclmaaGreatDoor
open Go Go.Ab
set_option maxRecDepth 100000
theorem qov (t : Tune) (u : Value) (ob : Option Nat) (k : Int) (hk : 0 ≤ k) (hb : 3 * t.tones.length + k ≤ 1000000000) (v : Value) (hv : ∀ A w, RepI A w (.agg [.str t.name, .raw u]) v) :
   NMark Tryz.prog 94 v k (k + 3 * t.tones.length) [⟨3, Tone.rows t.tones, u, ob⟩] fun L' => L' = [⟨3, Tone.rows (Tone.marks k t.tones.length), u, ob⟩] := by
 refine qi5 Tryz.func94 (by kernel_rfl) rfl (by kernel_rfl) (by kernel_rfl) hv fun A w a hL hI => ?_
 have ho := (hL.at_ _ (List.mem_singleton_self _)).1.one
 refine wp_seq ?_
 refine qae hm (S1 := ⟨[(1, .int .i64 k), (2, .pb 0 0)], [some (.box [.str t.name, .raw u])]⟩) (by kernel_rfl) hI ?_ fun a1 w1 A1 m1 hI1 => ?_
 · simp [ho]
   exact Wk.weak (ρ := [0]) (φ := []) (by simp)
 refine wp_seq ?_
 refine markP (L1 := []) (L2 := []) (t := 6) (t' := 7) (d := 8) (pv := .raw u) (k := k) (k' := k + 3 * t.tones.length) (R := fun L' => L' = [⟨3, Tone.rows (Tone.marks k t.tones.length), u, ob⟩]) (S1 := ⟨[(6, .raw u), (7, .int .i64 k), (1, .int .i64 k), (2, .pb 0 0)], [some (.box [.str t.name, .raw u])]⟩) (S2 := ⟨[(1, .int .i64 (k + 3 * t.tones.length))], []⟩) 3 (by kernel_rfl) (by simpa using hI1) rfl rfl rfl rfl (by decide) (by decide) (by decide) (fun v hv => ?_) (fun hr => qbr rfl hr) rfl rfl ?_ ?_ fun L' a2 w2 A2 m2 hL' hI2 => ?_
 · obtain rfl : v = u := by
     have := hv noB default
     cases this
     rfl
   exact NMark.flat (qnv t.tones k hk (by omega)) (by simp [Tone.rows, Tone.marks]) (qba (Tone.flat _))
 · simp
   exact Wk.weak (ρ := [0]) (φ := []) (by simp)
 · simp
   exact Wk.weak (ρ := []) (φ := []) (by simp)
 subst hL'
 show Code.wp _ _ _ _ _
 refine wp_seq ?_
 refine qae hm (S1 := ⟨[(4, .int .i64 (k + 3 * t.tones.length))], []⟩) (by kernel_rfl) hI2 ?_ fun a3 w3 A3 m3 hI3 => ?_
 · simp
   exact Wk.weak (ρ := []) (φ := []) (by simp)
 refine wp_ret ⟨.inr rfl, _, _, _, _, hI3, ⟨trivial, trivial⟩, rfl, rfl⟩
def Carillon.o1 (c : Carillon) : Nat := 5 * c.ingots.length
def Carillon.o2 (c : Carillon) : Nat := c.o1 + (c.melts.map Melt.cnt).sum
def Carillon.o3 (c : Carillon) : Nat := c.o2 + (c.bells.map Bell.cnt).sum
def Carillon.o4 (c : Carillon) : Nat := c.o3 + 5 * c.hung.length
def Carillon.o5 (c : Carillon) : Nat := c.o4 + 5 * c.places.length
def Carillon.o6 (c : Carillon) : Nat := c.o5 + (c.frame.map Beam.cnt).sum
def Carillon.o7 (c : Carillon) : Nat := c.o6 + (c.clavier.map Action.cnt).sum
def Carillon.o8 (c : Carillon) : Nat := c.o7 + 3 * c.tune.tones.length
def Carillon.mk' (k : Int) (c : Carillon) : Carillon := { c with
 ingots := Ingot.marks k c.ingots.length
 melts := qap Melt.markN Melt.cnt (k + (c.o1 : Int)) c.melts
 bells := qap Bell.markN Bell.cnt (k + (c.o2 : Int)) c.bells
 hung := Hung.marks (k + (c.o3 : Int)) c.hung.length
 places := Place.marks (k + (c.o4 : Int)) c.places.length
 frame := qap Beam.markN Beam.cnt (k + (c.o5 : Int)) c.frame
 clavier := qap Action.markN Action.cnt (k + (c.o6 : Int)) c.clavier
 tune := ⟨c.tune.name, Tone.marks (k + (c.o7 : Int)) c.tune.tones.length⟩ }
theorem qfE {α : Type} {f g : α → Nat} (h : ∀ x, f x ≤ 5 * (1 + g x)) (l : List α) : (l.map f).sum ≤ 5 * (l.length + (l.map g).sum) := by
 induction l with
 | nil => simp
 | cons x r ih =>
   have := h x
   simp only [List.map_cons, List.sum_cons, List.length_cons]
   omega
theorem Carillon.o8_le (c : Carillon) : c.o8 ≤ 5 * c.sz := by
 have h1 := qfE (f := Melt.cnt) (g := Melt.sz) (fun x => by unfold Melt.cnt Melt.sz qcG; omega) c.melts
 have h2 := qfE (f := Bell.cnt) (g := Bell.sz) (fun x => by unfold Bell.cnt Bell.sz Share.szS; omega) c.bells
 have h3 := qfE (f := Beam.cnt) (g := Beam.sz) (fun x => by unfold Beam.cnt Beam.sz Load.szS; omega) c.frame
 have h4 := qfE (f := Action.cnt) (g := Action.sz) (fun x => by unfold Action.cnt Action.sz Lever.szS; omega) c.clavier
 unfold Carillon.o8 Carillon.o7 Carillon.o6 Carillon.o5 Carillon.o4 Carillon.o3 Carillon.o2 Carillon.o1 Carillon.sz Ingot.szS Melt.szS Bell.szS Hung.szS Place.szS Beam.szS Action.szS Tune.sz Tone.szS
 omega
set_option maxHeartbeats 4000000 in
theorem qow (c : Carillon) (u : CarV) (Ls : CarL) (hP : CarP c u Ls) (k : Int) (hk : 0 ≤ k) (hb : k + (c.o8 : Int) ≤ 1000000000) (v : Value) (hv : ∀ A w, RepI A w (.agg (u.cells c)) v) :
   NMark Tryz.prog 28 v k (k + (c.o8 : Int)) Ls.all fun L' => ∃ Ls', L' = CarL.all Ls' ∧ CarP (c.mk' k) u Ls' := by
 have e8 : k + (c.o8 : Int) = k + (c.o7 : Int) + 3 * (c.tune.tones.length : Int) := by unfold Carillon.o8; omega
 have e7 : k + (c.o7 : Int) = k + (c.o6 : Int) + (((c.clavier.map Action.cnt).sum : Nat) : Int) := by unfold Carillon.o7; omega
 have e6 : k + (c.o6 : Int) = k + (c.o5 : Int) + (((c.frame.map Beam.cnt).sum : Nat) : Int) := by unfold Carillon.o6; omega
 have e5 : k + (c.o5 : Int) = k + (c.o4 : Int) + 5 * (c.places.length : Int) := by unfold Carillon.o5; omega
 have e4 : k + (c.o4 : Int) = k + (c.o3 : Int) + 5 * (c.hung.length : Int) := by unfold Carillon.o4; omega
 have e3 : k + (c.o3 : Int) = k + (c.o2 : Int) + (((c.bells.map Bell.cnt).sum : Nat) : Int) := by unfold Carillon.o3; omega
 have e2 : k + (c.o2 : Int) = k + (c.o1 : Int) + (((c.melts.map Melt.cnt).sum : Nat) : Int) := by unfold Carillon.o2; omega
 have e1 : k + (c.o1 : Int) = k + 5 * (c.ingots.length : Int) := by unfold Carillon.o1; omega
 refine qi5 Tryz.func28 (by kernel_rfl) rfl (by kernel_rfl) (by kernel_rfl) hv fun A w a hL hI => ?_
 obtain ⟨p0, p1, p2, p3, p4, p5, p6, p7⟩ := hP.ones hL
 refine wp_seq ?_
 refine qae hm (S1 := ⟨[(1, .int .i64 k), (2, .pb 0 0)], [some (.box (u.cells c))]⟩) (by kernel_rfl) hI ?_ fun a0 w0 A0 m0 hI0 => ?_
 · simp [CarV.cells, p0, p1, p2, p3, p4, p5, p6, p7]
   exact Wk.weak (ρ := [0]) (φ := []) (by simp)
 obtain ⟨⟨ob0, h0⟩, h1, h2, ⟨ob3, h3⟩, ⟨ob4, h4⟩, h5, h6, ⟨ob7, h7⟩⟩ := hP
 obtain ⟨l0, l1, l2, l3, l4, l5, l6, l7⟩ := Ls
 simp only at h0 h1 h2 h3 h4 h5 h6 h7
 subst h0 h3 h4 h7
 unfold CarL.all at hI0 ⊢
 simp only at hI0 ⊢
 have hJ0 := hI0.as (L' := [] ++ ([⟨5, Ingot.rows c.ingots, u.u0, ob0⟩] ++ (l1 ++ (l2 ++ ([⟨5, Hung.rows c.hung, u.u3, ob3⟩] ++ ([⟨5, Place.rows c.places, u.u4, ob4⟩] ++ (l5 ++ (l6 ++ ([⟨3, Tone.rows c.tune.tones, u.u7, ob7⟩]))))))))) (by simp only [List.nil_append, List.cons_append])
 refine wp_seq ?_
 refine markP (L1 := []) (L0 := [⟨5, Ingot.rows c.ingots, u.u0, ob0⟩]) (L2 := l1 ++ (l2 ++ ([⟨5, Hung.rows c.hung, u.u3, ob3⟩] ++ ([⟨5, Place.rows c.places, u.u4, ob4⟩] ++ (l5 ++ (l6 ++ ([⟨3, Tone.rows c.tune.tones, u.u7, ob7⟩]))))))) (t := 6) (t' := 7) (d := 8) (pv := .raw u.u0) (k := k) (k' := (k + (c.o1 : Int))) (R := fun L' => L' = [⟨5, Ingot.rows (Ingot.marks k c.ingots.length), u.u0, ob0⟩]) (S1 := ⟨(6, .raw u.u0) :: (7, .int .i64 k) :: [(1, .int .i64 k), (2, .pb 0 0)], [some (.box (u.cells c))]⟩) (S2 := ⟨[(1, .int .i64 (k + (c.o1 : Int))), (2, .pb 0 0)], [some (.box (u.cells c))]⟩) 3 (by kernel_rfl) hJ0 rfl rfl rfl rfl (by decide) (by decide) (by decide) (fun v hv => ?_) ?_ rfl rfl ?_ ?_ fun g0 a1 w1 A1 m1 r0 hI1 => ?_
 · obtain rfl : v = u.u0 := by
     have := hv noB default
     cases this
     rfl
   exact (by rw [e1]; exact NMark.flat (qmN c.ingots k (by omega) (by omega)) (by simp [Ingot.rows, Ingot.marks]) (qba (Ingot.flat _)))
 · exact fun hr => qbr rfl hr
 · simp [CarV.cells]
   exact Wk.weak (ρ := [0]) (φ := []) (by simp)
 · simp
   exact Wk.weak (ρ := [0]) (φ := []) (by simp [CarV.cells])
 subst r0
 show Code.wp _ _ _ _ _
 have hJ1 := hI1.as (L' := [⟨5, Ingot.rows (Ingot.marks k c.ingots.length), u.u0, ob0⟩] ++ (l1 ++ (l2 ++ ([⟨5, Hung.rows c.hung, u.u3, ob3⟩] ++ ([⟨5, Place.rows c.places, u.u4, ob4⟩] ++ (l5 ++ (l6 ++ ([⟨3, Tone.rows c.tune.tones, u.u7, ob7⟩])))))))) (by simp only [List.nil_append, List.cons_append])
 refine wp_seq ?_
 refine markP (L1 := [⟨5, Ingot.rows (Ingot.marks k c.ingots.length), u.u0, ob0⟩]) (L0 := l1) (L2 := l2 ++ ([⟨5, Hung.rows c.hung, u.u3, ob3⟩] ++ ([⟨5, Place.rows c.places, u.u4, ob4⟩] ++ (l5 ++ (l6 ++ ([⟨3, Tone.rows c.tune.tones, u.u7, ob7⟩])))))) (t := 10) (t' := 11) (d := 12) (pv := .raw u.u1) (k := (k + (c.o1 : Int))) (k' := (k + (c.o2 : Int))) (R := fun L' => Nest 3 1 Melt.rw Melt.inn (qap Melt.markN Melt.cnt (k + (c.o1 : Int)) c.melts) u.u1 L') (S1 := ⟨(10, .raw u.u1) :: (11, .int .i64 (k + (c.o1 : Int))) :: [(1, .int .i64 (k + (c.o1 : Int))), (2, .pb 0 0)], [some (.box (u.cells c))]⟩) (S2 := ⟨[(1, .int .i64 (k + (c.o2 : Int))), (2, .pb 0 0)], [some (.box (u.cells c))]⟩) 3 (by kernel_rfl) hJ1 rfl rfl rfl rfl (by decide) (by decide) (by decide) (fun v hv => ?_) ?_ rfl rfl ?_ ?_ fun g1 a2 w2 A2 m2 r1 hI2 => ?_
 · obtain rfl : v = u.u1 := by
     have := hv noB default
     cases this
     rfl
   exact (by rw [e2]; exact qoo c.melts (k + (c.o1 : Int)) (by omega) (by omega) h1)
 · exact fun hr => qbr rfl hr
 · simp [CarV.cells]
   exact Wk.weak (ρ := [0]) (φ := []) (by simp)
 · simp
   exact Wk.weak (ρ := [0]) (φ := []) (by simp [CarV.cells])
 show Code.wp _ _ _ _ _
 have hJ2 := hI2.as (L' := ([⟨5, Ingot.rows (Ingot.marks k c.ingots.length), u.u0, ob0⟩] ++ g1) ++ (l2 ++ ([⟨5, Hung.rows c.hung, u.u3, ob3⟩] ++ ([⟨5, Place.rows c.places, u.u4, ob4⟩] ++ (l5 ++ (l6 ++ ([⟨3, Tone.rows c.tune.tones, u.u7, ob7⟩]))))))) (by simp only [List.nil_append, List.cons_append])
 refine wp_seq ?_
 refine markP (L1 := ([⟨5, Ingot.rows (Ingot.marks k c.ingots.length), u.u0, ob0⟩] ++ g1)) (L0 := l2) (L2 := [⟨5, Hung.rows c.hung, u.u3, ob3⟩] ++ ([⟨5, Place.rows c.places, u.u4, ob4⟩] ++ (l5 ++ (l6 ++ ([⟨3, Tone.rows c.tune.tones, u.u7, ob7⟩]))))) (t := 14) (t' := 15) (d := 16) (pv := .raw u.u2) (k := (k + (c.o2 : Int))) (k' := (k + (c.o3 : Int))) (R := fun L' => Nest 5 2 Bell.rw Bell.inn (qap Bell.markN Bell.cnt (k + (c.o2 : Int)) c.bells) u.u2 L') (S1 := ⟨(14, .raw u.u2) :: (15, .int .i64 (k + (c.o2 : Int))) :: [(1, .int .i64 (k + (c.o2 : Int))), (2, .pb 0 0)], [some (.box (u.cells c))]⟩) (S2 := ⟨[(1, .int .i64 (k + (c.o3 : Int))), (2, .pb 0 0)], [some (.box (u.cells c))]⟩) 3 (by kernel_rfl) hJ2 rfl rfl rfl rfl (by decide) (by decide) (by decide) (fun v hv => ?_) ?_ rfl rfl ?_ ?_ fun g2 a3 w3 A3 m3 r2 hI3 => ?_
 · obtain rfl : v = u.u2 := by
     have := hv noB default
     cases this
     rfl
   exact (by rw [e3]; exact qoq c.bells (k + (c.o2 : Int)) (by omega) (by omega) h2)
 · exact fun hr => qbr rfl hr
 · simp [CarV.cells]
   exact Wk.weak (ρ := [0]) (φ := []) (by simp)
 · simp
   exact Wk.weak (ρ := [0]) (φ := []) (by simp [CarV.cells])
 show Code.wp _ _ _ _ _
 have hJ3 := hI3.as (L' := (([⟨5, Ingot.rows (Ingot.marks k c.ingots.length), u.u0, ob0⟩] ++ g1) ++ g2) ++ ([⟨5, Hung.rows c.hung, u.u3, ob3⟩] ++ ([⟨5, Place.rows c.places, u.u4, ob4⟩] ++ (l5 ++ (l6 ++ ([⟨3, Tone.rows c.tune.tones, u.u7, ob7⟩])))))) (by simp only [List.append_assoc, List.nil_append, List.cons_append])
 refine wp_seq ?_
 refine markP (L1 := (([⟨5, Ingot.rows (Ingot.marks k c.ingots.length), u.u0, ob0⟩] ++ g1) ++ g2)) (L0 := [⟨5, Hung.rows c.hung, u.u3, ob3⟩]) (L2 := [⟨5, Place.rows c.places, u.u4, ob4⟩] ++ (l5 ++ (l6 ++ ([⟨3, Tone.rows c.tune.tones, u.u7, ob7⟩])))) (t := 18) (t' := 19) (d := 20) (pv := .raw u.u3) (k := (k + (c.o3 : Int))) (k' := (k + (c.o4 : Int))) (R := fun L' => L' = [⟨5, Hung.rows (Hung.marks (k + (c.o3 : Int)) c.hung.length), u.u3, ob3⟩]) (S1 := ⟨(18, .raw u.u3) :: (19, .int .i64 (k + (c.o3 : Int))) :: [(1, .int .i64 (k + (c.o3 : Int))), (2, .pb 0 0)], [some (.box (u.cells c))]⟩) (S2 := ⟨[(1, .int .i64 (k + (c.o4 : Int))), (2, .pb 0 0)], [some (.box (u.cells c))]⟩) 3 (by kernel_rfl) hJ3 rfl rfl rfl rfl (by decide) (by decide) (by decide) (fun v hv => ?_) ?_ rfl rfl ?_ ?_ fun g3 a4 w4 A4 m4 r3 hI4 => ?_
 · obtain rfl : v = u.u3 := by
     have := hv noB default
     cases this
     rfl
   exact (by rw [e4]; exact NMark.flat (qmU c.hung (k + (c.o3 : Int)) (by omega) (by omega)) (by simp [Hung.rows, Hung.marks]) (qba (Hung.flat _)))
 · exact fun hr => qbr rfl hr
 · simp [CarV.cells]
   exact Wk.weak (ρ := [0]) (φ := []) (by simp)
 · simp
   exact Wk.weak (ρ := [0]) (φ := []) (by simp [CarV.cells])
 subst r3
 show Code.wp _ _ _ _ _
 have hJ4 := hI4.as (L' := ((([⟨5, Ingot.rows (Ingot.marks k c.ingots.length), u.u0, ob0⟩] ++ g1) ++ g2) ++ [⟨5, Hung.rows (Hung.marks (k + (c.o3 : Int)) c.hung.length), u.u3, ob3⟩]) ++ ([⟨5, Place.rows c.places, u.u4, ob4⟩] ++ (l5 ++ (l6 ++ ([⟨3, Tone.rows c.tune.tones, u.u7, ob7⟩]))))) (by simp only [List.append_assoc, List.nil_append, List.cons_append])
 refine wp_seq ?_
 refine markP (L1 := ((([⟨5, Ingot.rows (Ingot.marks k c.ingots.length), u.u0, ob0⟩] ++ g1) ++ g2) ++ [⟨5, Hung.rows (Hung.marks (k + (c.o3 : Int)) c.hung.length), u.u3, ob3⟩])) (L0 := [⟨5, Place.rows c.places, u.u4, ob4⟩]) (L2 := l5 ++ (l6 ++ ([⟨3, Tone.rows c.tune.tones, u.u7, ob7⟩]))) (t := 22) (t' := 23) (d := 24) (pv := .raw u.u4) (k := (k + (c.o4 : Int))) (k' := (k + (c.o5 : Int))) (R := fun L' => L' = [⟨5, Place.rows (Place.marks (k + (c.o4 : Int)) c.places.length), u.u4, ob4⟩]) (S1 := ⟨(22, .raw u.u4) :: (23, .int .i64 (k + (c.o4 : Int))) :: [(1, .int .i64 (k + (c.o4 : Int))), (2, .pb 0 0)], [some (.box (u.cells c))]⟩) (S2 := ⟨[(1, .int .i64 (k + (c.o5 : Int))), (2, .pb 0 0)], [some (.box (u.cells c))]⟩) 3 (by kernel_rfl) hJ4 rfl rfl rfl rfl (by decide) (by decide) (by decide) (fun v hv => ?_) ?_ rfl rfl ?_ ?_ fun g4 a5 w5 A5 m5 r4 hI5 => ?_
 · obtain rfl : v = u.u4 := by
     have := hv noB default
     cases this
     rfl
   exact (by rw [e5]; exact NMark.flat (qm2 c.places (k + (c.o4 : Int)) (by omega) (by omega)) (by simp [Place.rows, Place.marks]) (qba (Place.flat _)))
 · exact fun hr => qbr rfl hr
 · simp [CarV.cells]
   exact Wk.weak (ρ := [0]) (φ := []) (by simp)
 · simp
   exact Wk.weak (ρ := [0]) (φ := []) (by simp [CarV.cells])
 subst r4
 show Code.wp _ _ _ _ _
 have hJ5 := hI5.as (L' := (((([⟨5, Ingot.rows (Ingot.marks k c.ingots.length), u.u0, ob0⟩] ++ g1) ++ g2) ++ [⟨5, Hung.rows (Hung.marks (k + (c.o3 : Int)) c.hung.length), u.u3, ob3⟩]) ++ [⟨5, Place.rows (Place.marks (k + (c.o4 : Int)) c.places.length), u.u4, ob4⟩]) ++ (l5 ++ (l6 ++ ([⟨3, Tone.rows c.tune.tones, u.u7, ob7⟩])))) (by simp only [List.append_assoc, List.nil_append, List.cons_append])
 refine wp_seq ?_
 refine markP (L1 := (((([⟨5, Ingot.rows (Ingot.marks k c.ingots.length), u.u0, ob0⟩] ++ g1) ++ g2) ++ [⟨5, Hung.rows (Hung.marks (k + (c.o3 : Int)) c.hung.length), u.u3, ob3⟩]) ++ [⟨5, Place.rows (Place.marks (k + (c.o4 : Int)) c.places.length), u.u4, ob4⟩])) (L0 := l5) (L2 := l6 ++ ([⟨3, Tone.rows c.tune.tones, u.u7, ob7⟩])) (t := 26) (t' := 27) (d := 28) (pv := .raw u.u5) (k := (k + (c.o5 : Int))) (k' := (k + (c.o6 : Int))) (R := fun L' => Nest 6 2 Beam.rw Beam.inn (qap Beam.markN Beam.cnt (k + (c.o5 : Int)) c.frame) u.u5 L') (S1 := ⟨(26, .raw u.u5) :: (27, .int .i64 (k + (c.o5 : Int))) :: [(1, .int .i64 (k + (c.o5 : Int))), (2, .pb 0 0)], [some (.box (u.cells c))]⟩) (S2 := ⟨[(1, .int .i64 (k + (c.o6 : Int))), (2, .pb 0 0)], [some (.box (u.cells c))]⟩) 3 (by kernel_rfl) hJ5 rfl rfl rfl rfl (by decide) (by decide) (by decide) (fun v hv => ?_) ?_ rfl rfl ?_ ?_ fun g5 a6 w6 A6 m6 r5 hI6 => ?_
 · obtain rfl : v = u.u5 := by
     have := hv noB default
     cases this
     rfl
   exact (by rw [e6]; exact qos c.frame (k + (c.o5 : Int)) (by omega) (by omega) h5)
 · exact fun hr => qbr rfl hr
 · simp [CarV.cells]
   exact Wk.weak (ρ := [0]) (φ := []) (by simp)
 · simp
   exact Wk.weak (ρ := [0]) (φ := []) (by simp [CarV.cells])
 show Code.wp _ _ _ _ _
 have hJ6 := hI6.as (L' := ((((([⟨5, Ingot.rows (Ingot.marks k c.ingots.length), u.u0, ob0⟩] ++ g1) ++ g2) ++ [⟨5, Hung.rows (Hung.marks (k + (c.o3 : Int)) c.hung.length), u.u3, ob3⟩]) ++ [⟨5, Place.rows (Place.marks (k + (c.o4 : Int)) c.places.length), u.u4, ob4⟩]) ++ g5) ++ (l6 ++ ([⟨3, Tone.rows c.tune.tones, u.u7, ob7⟩]))) (by simp only [List.append_assoc, List.nil_append, List.cons_append])
 refine wp_seq ?_
 refine markP (L1 := ((((([⟨5, Ingot.rows (Ingot.marks k c.ingots.length), u.u0, ob0⟩] ++ g1) ++ g2) ++ [⟨5, Hung.rows (Hung.marks (k + (c.o3 : Int)) c.hung.length), u.u3, ob3⟩]) ++ [⟨5, Place.rows (Place.marks (k + (c.o4 : Int)) c.places.length), u.u4, ob4⟩]) ++ g5)) (L0 := l6) (L2 := [⟨3, Tone.rows c.tune.tones, u.u7, ob7⟩]) (t := 30) (t' := 31) (d := 32) (pv := .raw u.u6) (k := (k + (c.o6 : Int))) (k' := (k + (c.o7 : Int))) (R := fun L' => Nest 4 2 Action.rw Action.inn (qap Action.markN Action.cnt (k + (c.o6 : Int)) c.clavier) u.u6 L') (S1 := ⟨(30, .raw u.u6) :: (31, .int .i64 (k + (c.o6 : Int))) :: [(1, .int .i64 (k + (c.o6 : Int))), (2, .pb 0 0)], [some (.box (u.cells c))]⟩) (S2 := ⟨[(1, .int .i64 (k + (c.o7 : Int))), (2, .pb 0 0)], [some (.box (u.cells c))]⟩) 3 (by kernel_rfl) hJ6 rfl rfl rfl rfl (by decide) (by decide) (by decide) (fun v hv => ?_) ?_ rfl rfl ?_ ?_ fun g6 a7 w7 A7 m7 r6 hI7 => ?_
 · obtain rfl : v = u.u6 := by
     have := hv noB default
     cases this
     rfl
   exact (by rw [e7]; exact qou c.clavier (k + (c.o6 : Int)) (by omega) (by omega) h6)
 · exact fun hr => qbr rfl hr
 · simp [CarV.cells]
   exact Wk.weak (ρ := [0]) (φ := []) (by simp)
 · simp
   exact Wk.weak (ρ := [0]) (φ := []) (by simp [CarV.cells])
 show Code.wp _ _ _ _ _
 have hJ7 := hI7.as (L' := (((((([⟨5, Ingot.rows (Ingot.marks k c.ingots.length), u.u0, ob0⟩] ++ g1) ++ g2) ++ [⟨5, Hung.rows (Hung.marks (k + (c.o3 : Int)) c.hung.length), u.u3, ob3⟩]) ++ [⟨5, Place.rows (Place.marks (k + (c.o4 : Int)) c.places.length), u.u4, ob4⟩]) ++ g5) ++ g6) ++ ([⟨3, Tone.rows c.tune.tones, u.u7, ob7⟩] ++ ([]))) (by simp only [List.append_assoc, List.nil_append, List.append_nil, List.cons_append])
 refine wp_seq ?_
 refine markP (L1 := (((((([⟨5, Ingot.rows (Ingot.marks k c.ingots.length), u.u0, ob0⟩] ++ g1) ++ g2) ++ [⟨5, Hung.rows (Hung.marks (k + (c.o3 : Int)) c.hung.length), u.u3, ob3⟩]) ++ [⟨5, Place.rows (Place.marks (k + (c.o4 : Int)) c.places.length), u.u4, ob4⟩]) ++ g5) ++ g6)) (L0 := [⟨3, Tone.rows c.tune.tones, u.u7, ob7⟩]) (L2 := []) (t := 34) (t' := 35) (d := 36) (pv := .agg [.str c.tune.name, .raw u.u7]) (k := (k + (c.o7 : Int))) (k' := (k + (c.o8 : Int))) (R := fun L' => L' = [⟨3, Tone.rows (Tone.marks (k + (c.o7 : Int)) c.tune.tones.length), u.u7, ob7⟩]) (S1 := ⟨(34, .agg [.str c.tune.name, .raw u.u7]) :: (35, .int .i64 (k + (c.o7 : Int))) :: [(1, .int .i64 (k + (c.o7 : Int))), (2, .pb 0 0)], [some (.box (u.cells c))]⟩) (S2 := ⟨[(1, .int .i64 (k + (c.o8 : Int))), (2, .pb 0 0)], [some (.box (u.cells c))]⟩) 3 (by kernel_rfl) hJ7 rfl rfl rfl rfl (by decide) (by decide) (by decide) (fun v hv => ?_) ?_ rfl rfl ?_ ?_ fun g7 a8 w8 A8 m8 r7 hI8 => ?_
 · exact (by rw [e8]; exact qov c.tune u.u7 ob7 (k + (c.o7 : Int)) (by omega) (by omega) v hv)
 · refine fun hr => qeg hr fun c hc => ?_
   simp at hc
   rcases hc with rfl | rfl <;> rfl
 · simp [CarV.cells]
   exact Wk.weak (ρ := [0]) (φ := []) (by simp)
 · simp
   exact Wk.weak (ρ := [0]) (φ := []) (by simp [CarV.cells])
 subst r7
 show Code.wp _ _ _ _ _
 refine wp_seq ?_
 refine qae hm (S1 := ⟨[(4, .int .i64 (k + (c.o8 : Int)))], []⟩) (by kernel_rfl) hI8 ?_ fun a9 w9 A9 m9 hI9 => ?_
 · simp
   exact Wk.weak (ρ := []) (φ := []) (by simp)
 refine wp_ret ⟨.inr rfl, _, _, _, _, hI9, ⟨trivial, trivial⟩, rfl, ⟨[⟨5, Ingot.rows (Ingot.marks k c.ingots.length), u.u0, ob0⟩], g1, g2, [⟨5, Hung.rows (Hung.marks (k + (c.o3 : Int)) c.hung.length), u.u3, ob3⟩], [⟨5, Place.rows (Place.marks (k + (c.o4 : Int)) c.places.length), u.u4, ob4⟩], g5, g6, [⟨3, Tone.rows (Tone.marks (k + (c.o7 : Int)) c.tune.tones.length), u.u7, ob7⟩]⟩, ?_, ⟨⟨ob0, rfl⟩, r1, r2, ⟨ob3, rfl⟩, ⟨ob4, rfl⟩, r5, r6, ⟨ob7, rfl⟩⟩⟩
 simp only [List.append_assoc, List.nil_append, List.append_nil, List.cons_append]
end Go.Proofs.YtcjpfjklhhclmaaGreatDoor
