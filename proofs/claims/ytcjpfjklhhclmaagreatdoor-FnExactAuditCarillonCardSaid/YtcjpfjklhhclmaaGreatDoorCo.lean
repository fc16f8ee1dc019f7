/- The laws of the audit's troubles: a carillon in pinned memory is marked beside the engine. No condition. -/
import Derived.Test.YtcjpfjklhhclmaaGreatDoorBz
import Derived.Test.YtcjpfjklhhclmaaGreatDoorBn
namespace Go.Proofs.YtcjpfjklhhclmaaGreatDoor
open Go Go.Ab
set_option maxRecDepth 100000
set_option maxHeartbeats 1000000 in
theorem qrR (c : Carillon) (hs : c.small) : HFn Tryz.prog 24 [.agg c.cells] [] (.tup [.sf 0 3, .int .i64 (auC c)]) [trO (auR c (allL c))] := by
 have kO := qpE c [] 0 [c.cells] 0 (by simp) hs
 simp only [Nat.zero_add] at kO
 cases hv : carOk c
 · rw [hv] at kO
   simp only [Carillon.cells] at kO
   refine qaa hm Tryz.func24 (by kernel_rfl) rfl (by kernel_rfl) rfl (fun _ _ h => h) ?_
   simp [Carillon.cells]
   refine CallZ.use0 kO rfl rfl ?_
   simp
   refine (qdi (t := 0) 0 3 rfl rfl).trans (Wk.weak (ρ := [1]) (φ := []) ?_)
   simp [auC, auR, hv, Trouble.rows, trO]
 · have kA := qrQ c [] 0 [c.cells] 0 (by simp) (qfS hs hv)
   rw [hv] at kO
   simp only [Nat.zero_add] at kA
   simp only [Carillon.cells] at kO kA
   refine qaa hm Tryz.func24 (by kernel_rfl) rfl (by kernel_rfl) rfl (fun _ _ h => h) ?_
   simp [Carillon.cells]
   refine CallZ.use0 kO rfl rfl ?_
   simp
   refine CallZ.use kA rfl (.inr ⟨Trouble.flat _, trivial⟩) rfl rfl ?_
   simp
   refine Wk.weak (ρ := [1]) (φ := []) ?_
   simp [auC, auR, hv]
theorem qrS {c : Carillon} {L : List Trouble} (hs : c.small) (h : CarOk c → L.length ≤ 8000) : (auR c L).length ≤ 8000 := by
 unfold auR
 split
 · rename_i hv
   exact h (qfS hs hv)
 · simp
theorem qrT (c : Carillon) : auC c = 0 ∨ auC c = 1 := by
 unfold auC
 split
 · exact .inl rfl
 · exact .inr rfl
set_option maxHeartbeats 4000000 in
theorem qrU (a : Carillon) (ha : a.wf) : HFn Tryz.prog 5 [.agg a.cells] [] (.bool true) [] := qn8 (by simp [Carillon.cells]) fun A w vs hA hvs hargs => by
 have kZ := qnX a 1048576 (by omega) ha
 have kEa := qiZ a ha
 refine (qcn (M := noB) (gh := fun _ => undef) (R := fun v w' => Moved noB w w' ∧ ∀ A', RepI A' w' (.bool true) v) Tryz.func5 (by kernel_rfl) rfl (by kernel_rfl) (by kernel_rfl) hA hvs hargs fun a0 hI => ?_).mono fun e w' ⟨v, he, hm, hr⟩ => ⟨v, he, hm, hr _⟩
 refine wp_seq ?_
 refine qae hm (S1 := ⟨[(1, .pb 0 0)], [some (.box a.cells)]⟩) (by kernel_rfl) (InvP.nil hI) ?_ fun a1 w1 A1 m1 hI1 => ?_
 · simp [Carillon.cells]
   exact Wk.weak (ρ := [0]) (φ := []) (by simp)
 refine wp_seq ?_
 refine qae hm (S1 := ⟨[(1, .pb 0 0), (3, .int .i64 1048576)], [some (.box a.cells)]⟩) (by kernel_rfl) hI1 ?_ fun a2 w2 A2 m2 hI2 => ?_
 · simp [Carillon.cells]
   exact Wk.weak (ρ := [0]) (φ := []) (by simp)
 refine wp_seq ?_
 simp only [Carillon.cells] at kZ kEa
 refine qae hm (S1 := ⟨[(1, .pb 0 0), (3, .int .i64 (szR a.sz 1048576))], [some (.box a.cells)]⟩) (by kernel_rfl) hI2 ?_ fun a3 w3 A3 m3 hI3 => ?_
 · simp [Carillon.cells]
   refine CallZ.use0 kZ rfl rfl ?_
   simp
   exact Wk.weak (ρ := [0]) (φ := []) (by simp)
 refine wp_seq (wp_seq ?_)
 refine qae hm (S1 := ⟨[(18, .bool (decide (szR a.sz 1048576 < 0))), (1, .pb 0 0)], [some (.box a.cells)]⟩) (by kernel_rfl) hI3 ?_ fun a4 w4 A4 m4 hI4 => ?_
 · simp
   exact Wk.weak (ρ := [0]) (φ := []) (by simp [Carillon.cells])
 refine wp_cond_split (t := decide (szR a.sz 1048576 < 0)) (qcY hI4.inv rfl (by decide)) (fun ht => ?_) fun ht => wp_skip ?_
 · refine wp_seq ?_
   refine qae hm (S1 := ⟨[(2, .bool true)], []⟩) (by kernel_rfl) hI4 ?_ fun a5 w5 A5 m5 hI5 => ?_
   · simp
     exact Wk.weak (ρ := []) (φ := []) (by simp [Carillon.cells])
   exact wp_ret ⟨.inr rfl, _, _, _, hI5.inv, ⟨trivial, trivial⟩, fun v hv => ⟨hI5.inv.moved, fun A' => qbr (p := .bool true) rfl hv⟩⟩
 have h1' := qaQ (show 0 ≤ szR a.sz 1048576 by have := of_decide_eq_false ht; omega)
 have hsz : a.sz ≤ 1048576 := by omega
 have hsm := Carillon.small_of_sz hsz
 have kT := qnY a hsz
 have kS := qrR a hsm
 have kI := qrP a hsm
 have hle : (auR a (allL a)).length ≤ 8000 := qrS hsm fun hc => by have := (qk5 hc).2.2; omega
 have hcd := qrT a
 obtain ⟨W, hW⟩ : ∃ W, W = auR a (allL a) := ⟨_, rfl⟩
 obtain ⟨cd, hcd'⟩ : ∃ cd, cd = auC a := ⟨_, rfl⟩
 rw [← hW] at kS kI hle
 rw [← hcd'] at kS kI hcd
 show Code.wp _ _ _ _ _
 refine wp_seq ?_
 simp only [Carillon.cells] at kT kS
 refine qae hm (S1 := ⟨[(1, .pb 0 0), (4, .sf 1 3), (5, .int .i64 cd)], [some (.box a.cells), trO W]⟩) (by kernel_rfl) hI4 ?_ fun a5 w5 A5 m5 hI5 => ?_
 · simp [Carillon.cells]
   refine CallZ.use0 kT rfl rfl ?_
   simp
   refine CallZ.use kS rfl (.inr ⟨Trouble.flat _, trivial⟩) rfl rfl ?_
   simp
   exact Wk.weak (ρ := [0, 1]) (φ := []) (by simp)
 refine wp_seq ?_
 refine copyP (t := 25) (d := 26) (p := .agg a.cells) (pv := fun v => .agg ((carV v).cells a)) (R := CarR a) (S1 := ⟨[(25, .agg a.cells), (1, .pb 0 0), (4, .sf 1 3), (5, .int .i64 cd)], [some (.box a.cells), trO W]⟩) (S2 := fun v => ⟨[(1, .pb 0 0), (4, .sf 1 3), (5, .int .i64 cd), (6, .pb 2 0)], [some (.box a.cells), trO W, some (.box ((carV v).cells a))]⟩)
   (C := fun v => (carV v).u0.oneCell' = true ∧ (carV v).u1.oneCell' = true ∧ (carV v).u2.oneCell' = true ∧ (carV v).u3.oneCell' = true ∧ (carV v).u4.oneCell' = true ∧ (carV v).u5.oneCell' = true ∧ (carV v).u6.oneCell' = true ∧ (carV v).u7.oneCell' = true)
   1 (by kernel_rfl) hI5 rfl rfl rfl rfl (by decide) (by decide) (qom a hsz) (by simp [Carillon.cells]) rfl (fun _ _ hr => hr.2) (fun v L' w hr hp => ?_) ?_ (fun v ho => ?_) fun v L6 a6 w6 A6 m6 ho hr hI6 => ?_
 · obtain ⟨⟨Ls, rfl, hP⟩, _⟩ := hr
   exact hP.ones hp
 · simp [Carillon.cells]
   exact Wk.weak (ρ := [0, 1]) (φ := []) (by simp)
 · obtain ⟨o0, o1, o2, o3, o4, o5, o6, o7⟩ := ho
   simp [CarV.cells, o0, o1, o2, o3, o4, o5, o6, o7]
   exact Wk.weak (ρ := [0, 1, 2]) (φ := []) (by simp [Carillon.cells])
 obtain ⟨⟨Ls, rfl, hP⟩, hrv⟩ := hr
 rw [List.append_nil] at hI6
 generalize carV v = u at *
 have hread : ∀ {S : St} {aa : Act} {ww : World} {AA : Nat → Prop} {mm : OMap} {t : Nat}, InvP ⟨w, A, noB, fun _ => undef⟩ 96 S aa ww AA mm Ls.all → slot S.fr t = .agg (u.cells a) → t < 96 → RepI (fun b => AA b ∨ pindB Ls.all b) ww (.agg a.cells) (aa.tmps.getD t undef) := fun {S aa ww AA mm t} h hs ht => by
   have := h.inv.fr t
   rw [hs, qbL ht] at this
   exact hP.agg h.pin (fun b hb => .inr hb) (qeg this (u.cells_pure a))
 show Code.wp _ _ _ _ _
 refine wp_seq ?_
 refine readP (t := 28) (d := 29) (z := 3) (code := cd) (S1 := ⟨[(28, .agg (u.cells a)), (1, .pb 0 0), (4, .sf 1 3), (5, .int .i64 cd), (6, .pb 2 0)], [some (.box a.cells), trO W, some (.box (u.cells a))]⟩) (S2 := ⟨[(1, .pb 0 0), (4, .sf 1 3), (5, .int .i64 cd), (6, .pb 2 0), (7, .sf 3 3), (8, .int .i64 cd)], [some (.box a.cells), trO W, some (.box (u.cells a)), trO W]⟩) 1 (by kernel_rfl) hI6 rfl rfl rfl rfl (by decide) kI (qba (Trouble.flat _)) ?_ (fun a1 w1 A1 m1 h => hread h rfl (by decide)) ?_ fun a7 w7 A7 m7 hI7 => ?_
 · simp [CarV.cells]
   exact Wk.weak (ρ := [0, 1, 2]) (φ := []) (by simp [Carillon.cells])
 · simp [Carillon.cells, CarV.cells]
   exact Wk.weak (ρ := [0, 1, 2, 3]) (φ := []) (by simp)
 show Code.wp _ _ _ _ _
 refine wp_seq ?_
 refine qae hm (S1 := ⟨[(1, .pb 0 0), (4, .sf 1 3), (5, .int .i64 cd), (6, .pb 2 0), (7, .sf 3 3), (8, .int .i64 cd)], [some (.box a.cells), trO W, some (.box (u.cells a)), trO W]⟩) (by kernel_rfl) hI7 ?_ fun a8 w8 A8 m8 hI8 => ?_
 · simp [Carillon.cells, CarV.cells]
   refine CallZ.use0 (qfv W W (by omega)) rfl rfl ?_
   simp
   exact Wk.weak (ρ := [0, 1, 2, 3]) (φ := []) (by simp)
 refine wp_seq (wp_seq ?_)
 refine qoa (t := 41) (t' := 43) (d := 44) (p := .agg a.cells) (p' := .agg a.cells) (c := true) (S1 := ⟨[(41, .agg (u.cells a)), (43, .agg a.cells), (1, .pb 0 0), (4, .sf 1 3), (5, .int .i64 cd), (6, .pb 2 0), (7, .sf 3 3), (8, .int .i64 cd)], [some (.box a.cells), trO W, some (.box (u.cells a)), trO W]⟩) (S2 := ⟨[(45, .bool false), (1, .pb 0 0), (4, .sf 1 3), (5, .int .i64 cd), (6, .pb 2 0), (7, .sf 3 3), (8, .int .i64 cd)], [some (.box a.cells), trO W, some (.box (u.cells a)), trO W]⟩) 3 hm (by kernel_rfl) (fun f => rfl) hI8 rfl rfl rfl rfl (by decide) (qiZ a ha) ?_ (fun a1 w1 A1 m1 h => ⟨hread h rfl (by decide), (h.arg (t := 43) rfl (by simp [Carillon.cells]) (by decide)).mono (fun _ h => .inl h) fun _ _ => rfl⟩) ?_ fun a9 w9 A9 m9 hI9 => ?_
 · simp [Carillon.cells, CarV.cells]
   refine CallZ.use0 kT rfl rfl ?_
   simp
   exact Wk.weak (ρ := [0, 1, 2, 3]) (φ := []) (by simp)
 · simp [Carillon.cells, CarV.cells]
   exact Wk.weak (ρ := [0, 1, 2, 3]) (φ := []) (by simp)
 show Code.wp _ _ _ _ _
 refine qae hm (S1 := ⟨[(1, .pb 0 0), (4, .sf 1 3), (5, .int .i64 cd), (6, .pb 2 0), (7, .sf 3 3), (8, .int .i64 cd)], [some (.box a.cells), trO W, some (.box (u.cells a)), trO W]⟩) (by kernel_rfl) hI9 ?_ fun a10 w10 A10 m10 hI10 => ?_
 · simp [Carillon.cells, CarV.cells]
   exact Wk.weak (ρ := [0, 1, 2, 3]) (φ := []) (by simp)
 refine wp_seq ?_
 refine qae hm (S1 := ⟨[(1, .pb 0 0), (4, .sf 1 3), (5, .int .i64 cd), (6, .pb 2 0), (7, .sf 3 3), (8, .int .i64 cd), (9, .int .i64 1)], [some (.box a.cells), trO W, some (.box (u.cells a)), trO W]⟩) (by kernel_rfl) hI10 ?_ fun a11 w11 A11 m11 hI11 => ?_
 · simp [Carillon.cells, CarV.cells]
   exact Wk.weak (ρ := [0, 1, 2, 3]) (φ := []) (by simp)
 have ho8 := a.o8_le
 refine wp_seq ?_
 refine markP (L1 := []) (L0 := Ls.all) (L2 := []) (t := 46) (t' := 47) (d := 48) (pv := .agg (u.cells a)) (k := 1) (k' := 1 + (a.o8 : Int)) (R := fun L' => ∃ Ls', L' = CarL.all Ls' ∧ CarP (a.mk' 1) u Ls') (S1 := ⟨[(46, .agg (u.cells a)), (47, .int .i64 1), (1, .pb 0 0), (4, .sf 1 3), (5, .int .i64 cd), (7, .sf 2 3), (8, .int .i64 cd)], [some (.box a.cells), trO W, trO W]⟩) (S2 := ⟨[(1, .pb 0 0), (4, .sf 1 3), (5, .int .i64 cd), (7, .sf 2 3), (8, .int .i64 cd), (9, .int .i64 (1 + (a.o8 : Int)))], [some (.box a.cells), trO W, trO W]⟩) 2 (by kernel_rfl) (by simpa using hI11) rfl rfl rfl rfl (by decide) (by decide) (by decide) (fun v hv => qow a u Ls hP 1 (by omega) (by omega) v hv) (fun hr => qeg hr (u.cells_pure a)) rfl rfl ?_ ?_ fun L' a12 w12 A12 m12 hL' hI12 => ?_
 · simp [Carillon.cells, CarV.cells]
   exact Wk.weak (ρ := [0, 1, 3]) (φ := []) (by simp)
 · simp [Carillon.cells]
   exact Wk.weak (ρ := [0, 1, 2]) (φ := []) (by simp)
 show Code.wp _ _ _ _ _
 refine wp_mono (qaB hm _ _ (ret0 Tryz.prog Tryz.f5.results.toList (.bool true)) (by kernel_rfl) ?_ _ _ _ _ _ hI12.inv) fun e a13 w13 ⟨S13, A13, m13, hq, hI13⟩ => ?_
 · clear hI hI1 hI2 hI3 hI4 hI5 hI6 hI7 hI8 hI9 hI10 hI11 hI12
   simp only [Carillon.cells] at kI
   simp
   have qq1 : ¬ (1 + (a.o8 : Int) < 0) := by omega
   simp [qq1]
   first | refine CallY.use (fun _ => ⟨rfl, qfv W W (by omega)⟩) rfl rfl ?_ | refine ⟨by intros; simp [*], CallY.use (fun _ => ⟨rfl, qfv W W (by omega)⟩) rfl rfl ?_⟩
   simp
   refine CallZ.useK 2 (qnp W (1) (by omega) (by omega)) rfl (by simp) rfl (by simp) rfl rfl ?_
   simp
   refine CallZ.use0 (qiX (Trouble.marks (1) W.length) (1) (by omega) (by simp [Trouble.marks_len]; omega) (by simp [Trouble.marks_len])) rfl rfl ?_
   simp [Trouble.marks_len]
   have qq2 : ¬ (1 + 3 * (W.length : Int) < 0) := by omega
   have qp2 : 0 ≤ 1 + 3 * (W.length : Int) := by omega
   try simp [qq2, qp2]
   simp [Carillon.cells]
   refine CallZ.use0 kT rfl rfl ?_
   simp
   refine CallZ.use kI rfl (.inr ⟨Trouble.flat _, trivial⟩) rfl rfl ?_
   simp
   refine CallZ.use0 (qfv W W (by omega)) rfl rfl ?_
   simp
   refine CallZ.use0 (qiX (Trouble.marks (1) W.length) (1) (by omega) (by simp [Trouble.marks_len]; omega) (by simp [Trouble.marks_len])) rfl rfl ?_
   simp [Trouble.marks_len]
   try simp [qp2]
 · obtain ⟨h1, h2, h3⟩ := qn9 hq hI13 rfl
   exact ⟨h1, _, _, _, hI13, h2, fun v hv => ⟨hI13.moved, fun A' => h3 v hv A' _⟩⟩
theorem qrV (pargs : List PV) (h : qdJ [.agg [.slc [.str, .int .i64, .int .i64, .int .i64, .int .i64], .slc [.str, .slc [.str], .int .i64], .slc [.str, .int .i64, .int .i64, .int .i64, .slc [.str, .int .i64]], .slc [.str, .int .i64, .int .i64, .int .i64, .int .i64], .int .i64, .int .i64, .int .i64, .slc [.str, .int .i64, .int .i64, .int .i64, .int .i64], .int .i64, .str, .int .i64, .int .i64, .int .i64, .int .i64, .slc [.str, .int .i64, .int .i64, .int .i64, .int .i64, .slc [.int .i64, .int .i64]], .int .i64, .int .i64, .slc [.int .i64, .slc [.int .i64, .int .i64], .int .i64, .int .i64], .str, .slc [.int .i64, .int .i64, .int .i64]]] pargs) : HFn Tryz.prog 5 pargs [] (.bool true) [] := by
 obtain ⟨p, q, rfl, ⟨cs, rfl, h0⟩, hz⟩ := qmv h
 obtain rfl := qmw hz
 obtain ⟨x, rfl, hx⟩ := Carillon.fits h0
 exact qrU x hx
end Go.Proofs.YtcjpfjklhhclmaaGreatDoor
