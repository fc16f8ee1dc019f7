/- Marks on pinned lists of structs that hold lists. No condition. -/
import Derived.Test.YtcjpfjklhhclmaaGreatDoorBw
namespace Go.Proofs.YtcjpfjklhhclmaaGreatDoor
open Go Go.Ab
set_option maxRecDepth 100000
def Melt.markN (k : Int) (x : Melt) : Melt := ⟨markT (k), qcl (k + 1) x.ingots.length, k + 1 + x.ingots.length⟩
def Melt.cnt (x : Melt) : Nat := 2 + x.ingots.length
noncomputable def qon : Code := match Tryz.f88.body with
 | some (.seq _ (.seq (.seq _ (.block _ (.loop c))) _)) => c
 | _ => .skip
set_option maxHeartbeats 4000000 in
theorem qja (l : List Melt) (k : Int) (hk : 0 ≤ k) (hb : k + ((l.map Melt.cnt).sum : Nat) ≤ 1000000000) {x : Ctx} {LO : List Pind} {Q : Exit → Act → World → Prop}
   (hex : ∀ a w A m Li, NestI 1 Melt.inn (qap Melt.markN Melt.cnt k l) Li → (∀ b, pindB Li b → pindB LO b) → InvP x 35 ⟨[(0, .sf 0 3), (1, .int .i64 (k + (((l.map Melt.cnt).sum : Nat) : Int))), (5, .int .i64 l.length), (35, .own 0)], [some (.arr 3 (rowsN Melt.rw (qap Melt.markN Melt.cnt k l) Li))]⟩ a w A m Li → Q (.exit 0) a w) :
   ∀ (kf i : Nat) (a : Act) (w : World) (A : Nat → Prop) (m : OMap) (Li : List Pind), l.length < kf + i → i ≤ l.length → NestI 1 Melt.inn (qaR Melt.markN Melt.cnt k l i) Li → (∀ b, pindB Li b → pindB LO b) → InvP x 35 ⟨[(0, .sf 0 3), (1, .int .i64 (k + ((sumT Melt.cnt l i : Nat) : Int))), (5, .int .i64 i), (35, .own 0)], [some (.arr 3 (rowsN Melt.rw (qaR Melt.markN Melt.cnt k l i) Li))]⟩ a w A m Li → Code.rounds Tryz.prog qon Q kf a w
 | 0, i, a, w, A, m, Li, hkf, hi, _, _, _ => absurd hkf (by omega)
 | kf + 1, i, a, w, A, m, Li, hkf, hi, hN, hLO, hI => by
   have hlen : l.length ≤ 1000000000 := by
     have h1 := qcZ Melt.cnt l fun x => by unfold Melt.cnt; omega
     omega
   rw [rounds_succ]
   obtain ⟨X, hX, hXl⟩ : ∃ X, rowsN Melt.rw (qaR Melt.markN Melt.cnt k l i) Li = X ∧ X.length = l.length := ⟨_, rfl, by rw [qbi hN.len, qdn]⟩
   rw [hX] at hI
   refine wp_seq (wp_seq ?_)
   refine qae hm (S1 := ⟨[(9, .bool (decide (i < l.length))), (0, .sf 0 3), (1, .int .i64 (k + ((sumT Melt.cnt l i : Nat) : Int))), (5, .int .i64 i), (35, .own 0)], [some (.arr 3 X)]⟩) (by kernel_rfl) hI ?_ fun a1 w1 A1 m1 hI1 => ?_
   · simp [hXl]
     exact Wk.weak (ρ := [0]) (φ := []) (by simp)
   refine wp_cond_split (t := decide (i < l.length)) (qcY hI1.inv rfl (by decide)) (fun ht => wp_skip ?_) fun ht => wp_exit ?_
   rotate_left
   · have hil : i = l.length := by have := of_decide_eq_false ht; omega
     subst hil
     rw [qfC] at hN hX
     rw [← hX, qbS] at hI1
     exact hex a1 w1 A1 m1 Li hN hLO (hI1.frame fun t => by
       by_cases e : t = 9
       · subst e; exact .inl rfl
       · exact .inr (by show _ = (bif 9 == t then _ else _); rw [show (9 == t) = false by simpa using fun h => e h.symm]; rfl))
   have hi' : i < l.length := of_decide_eq_true ht
   have hk2 : k + ((sumT Melt.cnt l (i + 1) : Nat) : Int) ≤ 1000000000 := by
     have := qbU Melt.cnt l (i + 1)
     omega
   have hk1 := qbT Melt.cnt hi'
   have hnx := qfD (f := Melt.markN) (cnt := Melt.cnt) (k := k) hi'
   obtain ⟨kk, hkk⟩ : ∃ kk : Int, kk = k + ((sumT Melt.cnt l i : Nat) : Int) := ⟨_, rfl⟩
   have hkN : kk + ((Melt.cnt l[i] : Nat) : Int) = k + ((sumT Melt.cnt l (i + 1) : Nat) : Int) := by omega
   rw [← hkk] at hI1 hnx
   have hk0 : 0 ≤ kk := by omega
   have hkb : kk + ((Melt.cnt l[i] : Nat) : Int) ≤ 1000000000 := by omega
   obtain ⟨p, hpi⟩ : ∃ p, Li[i]? = some p := ⟨_, List.getElem?_eq_getElem (by rw [hN.len, qdn]; exact hi')⟩
   obtain ⟨hpz, hpr⟩ := hN.at_ i _ p (qdo hi') hpi
   obtain ⟨pz, pr, u, ob⟩ := p
   simp only at hpz hpr
   subst hpz
   subst hpr
   have hset := hN.set (rw := Melt.rw) (i := i) (x := Melt.markN kk l[i]) (p := ⟨1, Melt.inn (Melt.markN kk l[i]), u, ob⟩) rfl rfl
   rw [hX, hnx] at hset
   have hXg : ∀ h, X[i]'h = Melt.rw l[i] u := fun h => by
     have h1 : X[i]? = some (Melt.rw l[i] u) := by rw [← hX, rowsN, List.getElem?_zipWith, qdo hi', hpi]
     rw [List.getElem?_eq_getElem h] at h1
     exact Option.some.inj h1
   have eL : Li.take i ++ ([⟨1, Melt.inn l[i], u, ob⟩] ++ Li.drop (i + 1)) = Li := by
     have h1 := (List.getElem?_eq_some_iff.1 hpi)
     obtain ⟨h1, h2⟩ := h1
     rw [← h2, List.singleton_append, ← List.drop_eq_getElem_cons h1, List.take_append_drop]
   have eS : Li.take i ++ ([⟨1, Melt.inn (Melt.markN kk l[i]), u, ob⟩] ++ Li.drop (i + 1)) = Li.set i ⟨1, Melt.inn (Melt.markN kk l[i]), u, ob⟩ := by
     rw [List.set_eq_take_append_cons_drop, if_pos (List.getElem?_eq_some_iff.1 hpi).1, List.singleton_append]
   rw [← eL] at hI1
   rw [show Melt.cnt l[i] = 2 + l[i].ingots.length from rfl] at hkb hkN
   replace hI1 := hI1.frame (fr' := [(0, .sf 0 3), (1, .int .i64 (kk)), (5, .int .i64 i), (35, .own 0)]) fun t => by
       by_cases e : t = 9
       · subst e; exact .inl rfl
       · exact .inr (by show _ = (bif 9 == t then _ else _); rw [show (9 == t) = false by simpa using fun h => e h.symm]; rfl)
   refine wp_seq (wp_block ?_)
   refine wp_seq ?_
   refine qae hm (S1 := ⟨[(0, .sf 0 3), (1, .int .i64 (kk)), (5, .int .i64 i), (35, .own 0)], [some (.arr 3 (X.set i [.str (markT (kk)), .raw u, .int .i64 l[i].mass]))]⟩) (by kernel_rfl) hI1 ?_ fun a2 w2 A2 m2 hI2 => ?_
   · simp
     refine CallZ.use0 (qb7 _ (by omega)) rfl rfl ?_
     simp [hXl, hXg, hi', Melt.rw]
     exact Wk.weak (ρ := [0]) (φ := []) (by simp)
   refine wp_seq ?_
   refine qae hm (S1 := ⟨[(0, .sf 0 3), (1, .int .i64 (kk + 1)), (5, .int .i64 i), (35, .own 0)], [some (.arr 3 (X.set i [.str (markT (kk)), .raw u, .int .i64 l[i].mass]))]⟩) (by kernel_rfl) hI2 ?_ fun a3 w3 A3 m3 hI3 => ?_
   · simp
     refine Wk.weak (ρ := [0]) (φ := []) ?_
     simp
     exact w64 (by omega) (by omega)
   refine wp_seq ?_
   refine markP (t := 24) (t' := 25) (d := 26) (pv := .raw u) (k := kk + 1) (k' := kk + 1 + l[i].ingots.length) (R := fun L' => L' = [⟨1, qag (qcl (kk + 1) l[i].ingots.length), u, ob⟩]) (S1 := ⟨[(24, .raw u), (25, .int .i64 (kk + 1)), (0, .sf 0 3), (1, .int .i64 (kk + 1)), (5, .int .i64 i), (35, .own 0)], [some (.arr 3 (X.set i [.str (markT (kk)), .raw u, .int .i64 l[i].mass]))]⟩) (S2 := ⟨[(0, .sf 0 3), (1, .int .i64 (kk + 1 + l[i].ingots.length)), (5, .int .i64 i), (35, .own 0)], [some (.arr 3 (X.set i [.str (markT (kk)), .raw u, .int .i64 l[i].mass]))]⟩) 6 (by kernel_rfl) hI3 rfl rfl rfl rfl (by decide) (by decide) (by decide) (fun v hv => ?_) (fun hr => qbr rfl hr) rfl rfl ?_ ?_ fun L' a4 w4 A4 m4 hL' hI4 => ?_
   · obtain rfl : v = u := by
       have := hv noB default
       cases this
       rfl
     exact NMark.flat (qmz l[i].ingots (kk + 1) (by omega) (by omega)) (by simp [qag, qcl, Melt.inn]) (qba (qfu _))
   · simp [hXl, hi']
     exact Wk.weak (ρ := [0]) (φ := []) (by simp)
   · simp
     exact Wk.weak (ρ := [0]) (φ := []) (by simp)
   subst hL'
   refine wp_seq ?_
   refine qae hm (S1 := ⟨[(0, .sf 0 3), (1, .int .i64 (kk + 1 + l[i].ingots.length)), (5, .int .i64 i), (35, .own 0)], [some (.arr 3 (X.set i [.str (markT (kk)), .raw u, .int .i64 (kk + 1 + l[i].ingots.length)]))]⟩) (by kernel_rfl) hI4 ?_ fun a5 w5 A5 m5 hI5 => ?_
   · simp [hXl, hi']
     exact Wk.weak (ρ := [0]) (φ := []) (by simp)
   refine wp_mono (qaB hm _ _ (thenQ (fun S' => Weak S' ⟨[(0, .sf 0 3), (1, .int .i64 (kk + 1 + l[i].ingots.length + 1)), (5, .int .i64 i), (35, .own 0)], [some (.arr 3 (X.set i [.str (markT (kk)), .raw u, .int .i64 (kk + 1 + l[i].ingots.length)]))]⟩) fun _ _ => False) (by kernel_rfl) ?_ _ _ _ _ _ hI5.inv.rebase) fun e a6 w6 ⟨S6, A6, m6, hq6, hJ6⟩ => ?_
   · simp
     refine Wk.weak (ρ := [0]) (φ := []) ?_
     simp
     exact w64 (by omega) (by omega)
   obtain ⟨e0, hI6⟩ : e = .normal ∧ ∃ A' m', InvP x 35 ⟨[(0, .sf 0 3), (1, .int .i64 (kk + 1 + l[i].ingots.length + 1)), (5, .int .i64 i), (35, .own 0)], [some (.arr 3 (X.set i [.str (markT (kk)), .raw u, .int .i64 (kk + 1 + l[i].ingots.length)]))]⟩ a6 w6 A' m' (Li.take i ++ ([(⟨1, qag (qcl (kk + 1) l[i].ingots.length), u, ob⟩ : Pind)] ++ Li.drop (i + 1))) := by
     cases e with
     | normal =>
       obtain ⟨A', m', hI'⟩ := hq6 _ _ _ _ _ _ hJ6
       exact ⟨rfl, A', m', hI5.step hI'⟩
     | _ => exact hq6.elim
   subst e0
   obtain ⟨A6, m6, hI6⟩ := hI6
   simp only [Exit.inBlock]
   show Code.wp _ _ _ _ _
   refine wp_mono (qaB hm _ _ (thenQ (fun S' => Weak S' ⟨[(0, .sf 0 3), (1, .int .i64 (kk + 1 + l[i].ingots.length + 1)), (5, .int .i64 (i + 1)), (35, .own 0)], [some (.arr 3 (X.set i [.str (markT (kk)), .raw u, .int .i64 (kk + 1 + l[i].ingots.length)]))]⟩) fun _ _ => False) (by kernel_rfl) ?_ _ _ _ _ _ hI6.inv.rebase) fun e a7 w7 ⟨S7, A7, m7, hq7, hJ7⟩ => ?_
   · simp
     refine Wk.weak (ρ := [0]) (φ := []) ?_
     simp
     exact w64 (by omega) (by omega)
   cases e with
   | normal =>
     obtain ⟨A', m', hI'⟩ := hq7 _ _ _ _ _ _ hJ7
     have hF := hI6.step hI'
     have eR : Melt.rw (Melt.markN kk l[i]) u = [.str (markT (kk)), .raw u, .int .i64 (kk + 1 + l[i].ingots.length)] := rfl
     have eI : Melt.inn (Melt.markN kk l[i]) = qag (qcl (kk + 1) l[i].ingots.length) := rfl
     rw [eR] at hset
     rw [← hset.2, ← eI, eS, show kk + 1 + l[i].ingots.length + 1 = k + ((sumT Melt.cnt l (i + 1) : Nat) : Int) by omega] at hF
     refine qja l k hk hb hex kf (i + 1) _ _ _ _ _ (by omega) (by omega) hset.1 (fun b hbb => hLO b ?_) hF
     rw [← eS] at hbb
     rw [← eL]
     refine qao.2 ((qao.1 hbb).imp id fun h => qao.2 ((qao.1 h).imp (fun h => ?_) id))
     obtain ⟨q, hq, e⟩ := h
     simp only [List.mem_singleton] at hq
     subst hq
     exact ⟨_, List.mem_singleton_self _, e⟩
   | _ => exact hq7.elim
set_option maxHeartbeats 1000000 in
theorem qoo (l : List Melt) (k : Int) (hk : 0 ≤ k) (hb : k + ((l.map Melt.cnt).sum : Nat) ≤ 1000000000) {v : Value} {L : List Pind} (hN : Nest 3 1 Melt.rw Melt.inn l v L) : NMark Tryz.prog 88 v k (k + ((l.map Melt.cnt).sum : Nat)) L fun L' => Nest 3 1 Melt.rw Melt.inn (qap Melt.markN Melt.cnt k l) v L' := fun A w hA hL hd => by
 obtain ⟨ob, Li, rfl, hNI⟩ := hN
 have hlen : l.length ≤ 1000000000 := by
   have h1 := qcZ Melt.cnt l fun x => by unfold Melt.cnt; omega
   omega
 refine (qcn (args := [.raw v, .int .i64 k]) (M := pindB (⟨3, rowsN Melt.rw l Li, v, ob⟩ :: Li)) (gh := fun _ => ownV ob (capV v)) (R := fun r w' => r = .int .i64 (k + ((l.map Melt.cnt).sum : Nat)) ∧ ∃ L', Moved (pindB (⟨3, rowsN Melt.rw l Li, v, ob⟩ :: Li)) w w' ∧ Pinds w' L' ∧ (∀ b, pindB L' b → pindB (⟨3, rowsN Melt.rw l Li, v, ob⟩ :: Li) b ∨ w.heap.size ≤ b) ∧ Nest 3 1 Melt.rw Melt.inn (qap Melt.markN Melt.cnt k l) v L') Tryz.func88 (by kernel_rfl) rfl (by kernel_rfl) (by kernel_rfl) hA rfl (fun i p hi => ?_) fun a hI => ?_).mono fun e w' ⟨r, he, hr, h1⟩ => ⟨by rw [he, hr], h1⟩
 · match i with
   | 0 => cases hi; exact .raw _
   | 1 => cases hi; exact .int _ _
   | i + 2 => simp at hi
 have hP : InvP ⟨w, A, pindB (⟨3, rowsN Melt.rw l Li, v, ob⟩ :: Li), fun _ => ownV ob (capV v)⟩ 35 ⟨[(0, .raw v), (1, .int .i64 k)], []⟩ a w A noM (⟨3, rowsN Melt.rw l Li, v, ob⟩ :: Li) := ⟨hI, hL, fun b hb => ⟨hd b hb, fun ⟨k, o, C, hk, _⟩ => by simp [getO] at hk, .inl hb⟩⟩
 obtain ⟨ho, hop⟩ := hL.at_ _ (List.mem_cons_self ..)
 have h0 := qfw hP.inv (t := 0) rfl
 obtain ⟨m1, hP1, hr1, hr2⟩ := hP.adopt
 have hP2 := (hP1.know (d := 0) (p := .sf 0 3) (by rw [h0]; exact hr1)).know (d := 35) (p := .own 0) (by rw [show Go.Ab.look ⟨w, A, pindB (⟨3, rowsN Melt.rw l Li, v, ob⟩ :: Li), fun _ => ownV ob (capV v)⟩ 35 a 35 = ownV ob (capV v) from rfl]; exact hr2)
 refine wp_seq ?_
 refine qae hm (S1 := ⟨[(0, .sf 0 3), (1, .int .i64 k), (35, .own 0)], [some (.arr 3 (rowsN Melt.rw l Li))]⟩) (by kernel_rfl) hP2 ?_ fun a3 w3 A3 m3 hI3 => ?_
 · simp
   exact Wk.weak (ρ := [0]) (φ := []) (by simp)
 refine wp_seq (wp_seq ?_)
 refine qae hm (S1 := ⟨[(0, .sf 0 3), (1, .int .i64 k), (5, .int .i64 0), (35, .own 0)], [some (.arr 3 (rowsN Melt.rw l Li))]⟩) (by kernel_rfl) hI3 ?_ fun a4 w4 A4 m4 hI4 => ?_
 · simp
   exact Wk.weak (ρ := [0]) (φ := []) (by simp)
 refine wp_block (wp_loop_rounds (l.length + 1) (qja l k hk hb (LO := Li) (fun a5 w5 A5 m5 Li5 hN5 hs5 hI5 => ?_) _ 0 _ _ _ _ Li (by omega) (by omega) (by rw [qdm]; exact hNI) (fun b hb => hb) (by simpa [qaV, qdm] using hI4)))
 simp only [Exit.inBlock, if_true]
 show Code.wp _ _ _ _ _
 refine wp_seq ?_
 refine qae hm (S1 := ⟨[(4, .int .i64 (k + ((l.map Melt.cnt).sum : Nat))), (35, .own 0)], [some (.arr 3 (rowsN Melt.rw (qap Melt.markN Melt.cnt k l) Li5))]⟩) (by kernel_rfl) hI5 ?_ fun a6 w6 A6 m6 hI6 => ?_
 · simp
   exact Wk.weak (ρ := [0]) (φ := []) (by simp)
 refine wp_ret ⟨.inr rfl, _, _, _, hI6.inv, ⟨trivial, trivial⟩, fun r hr => ?_⟩
 have hr' : r = .int .i64 (k + ((l.map Melt.cnt).sum : Nat)) := by
   change RepO _ _ _ _ (.int .i64 (k + ((l.map Melt.cnt).sum : Nat))) r at hr
   cases hr with
   | imm hi => cases hi; rfl
 have hpin := hI6.home (t := 35) (k := 0) (v := v) (ob := ob) (rows := rowsN Melt.rw l Li) rfl rfl rfl ho (by rw [qbi hN5.len, qc0, qbi hNI.len]) (qdl Melt.rw_pure _ _)
 exact ⟨hr', _, hI6.inv.moved, hpin, fun b hb => .inl (qaA.2 ((qaA.1 hb).imp id (hs5 b))), ob, Li5, rfl, hN5⟩
def Bell.markN (k : Int) (x : Bell) : Bell := ⟨markT (k), k + 1, k + 1 + 1, k + 1 + 1 + 1, Share.marks (k + 1 + 1 + 1 + 1) x.shares.length⟩
def Bell.cnt (x : Bell) : Nat := 4 + 2 * x.shares.length
noncomputable def qop : Code := match Tryz.f89.body with
 | some (.seq _ (.seq (.seq _ (.block _ (.loop c))) _)) => c
 | _ => .skip
set_option maxHeartbeats 4000000 in
theorem qjb (l : List Bell) (k : Int) (hk : 0 ≤ k) (hb : k + ((l.map Bell.cnt).sum : Nat) ≤ 1000000000) {x : Ctx} {LO : List Pind} {Q : Exit → Act → World → Prop}
   (hex : ∀ a w A m Li, NestI 2 Bell.inn (qap Bell.markN Bell.cnt k l) Li → (∀ b, pindB Li b → pindB LO b) → InvP x 49 ⟨[(0, .sf 0 5), (1, .int .i64 (k + (((l.map Bell.cnt).sum : Nat) : Int))), (5, .int .i64 l.length), (49, .own 0)], [some (.arr 5 (rowsN Bell.rw (qap Bell.markN Bell.cnt k l) Li))]⟩ a w A m Li → Q (.exit 0) a w) :
   ∀ (kf i : Nat) (a : Act) (w : World) (A : Nat → Prop) (m : OMap) (Li : List Pind), l.length < kf + i → i ≤ l.length → NestI 2 Bell.inn (qaR Bell.markN Bell.cnt k l i) Li → (∀ b, pindB Li b → pindB LO b) → InvP x 49 ⟨[(0, .sf 0 5), (1, .int .i64 (k + ((sumT Bell.cnt l i : Nat) : Int))), (5, .int .i64 i), (49, .own 0)], [some (.arr 5 (rowsN Bell.rw (qaR Bell.markN Bell.cnt k l i) Li))]⟩ a w A m Li → Code.rounds Tryz.prog qop Q kf a w
 | 0, i, a, w, A, m, Li, hkf, hi, _, _, _ => absurd hkf (by omega)
 | kf + 1, i, a, w, A, m, Li, hkf, hi, hN, hLO, hI => by
   have hlen : l.length ≤ 1000000000 := by
     have h1 := qcZ Bell.cnt l fun x => by unfold Bell.cnt; omega
     omega
   rw [rounds_succ]
   obtain ⟨X, hX, hXl⟩ : ∃ X, rowsN Bell.rw (qaR Bell.markN Bell.cnt k l i) Li = X ∧ X.length = l.length := ⟨_, rfl, by rw [qbi hN.len, qdn]⟩
   rw [hX] at hI
   refine wp_seq (wp_seq ?_)
   refine qae hm (S1 := ⟨[(9, .bool (decide (i < l.length))), (0, .sf 0 5), (1, .int .i64 (k + ((sumT Bell.cnt l i : Nat) : Int))), (5, .int .i64 i), (49, .own 0)], [some (.arr 5 X)]⟩) (by kernel_rfl) hI ?_ fun a1 w1 A1 m1 hI1 => ?_
   · simp [hXl]
     exact Wk.weak (ρ := [0]) (φ := []) (by simp)
   refine wp_cond_split (t := decide (i < l.length)) (qcY hI1.inv rfl (by decide)) (fun ht => wp_skip ?_) fun ht => wp_exit ?_
   rotate_left
   · have hil : i = l.length := by have := of_decide_eq_false ht; omega
     subst hil
     rw [qfC] at hN hX
     rw [← hX, qbS] at hI1
     exact hex a1 w1 A1 m1 Li hN hLO (hI1.frame fun t => by
       by_cases e : t = 9
       · subst e; exact .inl rfl
       · exact .inr (by show _ = (bif 9 == t then _ else _); rw [show (9 == t) = false by simpa using fun h => e h.symm]; rfl))
   have hi' : i < l.length := of_decide_eq_true ht
   have hk2 : k + ((sumT Bell.cnt l (i + 1) : Nat) : Int) ≤ 1000000000 := by
     have := qbU Bell.cnt l (i + 1)
     omega
   have hk1 := qbT Bell.cnt hi'
   have hnx := qfD (f := Bell.markN) (cnt := Bell.cnt) (k := k) hi'
   obtain ⟨kk, hkk⟩ : ∃ kk : Int, kk = k + ((sumT Bell.cnt l i : Nat) : Int) := ⟨_, rfl⟩
   have hkN : kk + ((Bell.cnt l[i] : Nat) : Int) = k + ((sumT Bell.cnt l (i + 1) : Nat) : Int) := by omega
   rw [← hkk] at hI1 hnx
   have hk0 : 0 ≤ kk := by omega
   have hkb : kk + ((Bell.cnt l[i] : Nat) : Int) ≤ 1000000000 := by omega
   obtain ⟨p, hpi⟩ : ∃ p, Li[i]? = some p := ⟨_, List.getElem?_eq_getElem (by rw [hN.len, qdn]; exact hi')⟩
   obtain ⟨hpz, hpr⟩ := hN.at_ i _ p (qdo hi') hpi
   obtain ⟨pz, pr, u, ob⟩ := p
   simp only at hpz hpr
   subst hpz
   subst hpr
   have hset := hN.set (rw := Bell.rw) (i := i) (x := Bell.markN kk l[i]) (p := ⟨2, Bell.inn (Bell.markN kk l[i]), u, ob⟩) rfl rfl
   rw [hX, hnx] at hset
   have hXg : ∀ h, X[i]'h = Bell.rw l[i] u := fun h => by
     have h1 : X[i]? = some (Bell.rw l[i] u) := by rw [← hX, rowsN, List.getElem?_zipWith, qdo hi', hpi]
     rw [List.getElem?_eq_getElem h] at h1
     exact Option.some.inj h1
   have eL : Li.take i ++ ([⟨2, Bell.inn l[i], u, ob⟩] ++ Li.drop (i + 1)) = Li := by
     have h1 := (List.getElem?_eq_some_iff.1 hpi)
     obtain ⟨h1, h2⟩ := h1
     rw [← h2, List.singleton_append, ← List.drop_eq_getElem_cons h1, List.take_append_drop]
   have eS : Li.take i ++ ([⟨2, Bell.inn (Bell.markN kk l[i]), u, ob⟩] ++ Li.drop (i + 1)) = Li.set i ⟨2, Bell.inn (Bell.markN kk l[i]), u, ob⟩ := by
     rw [List.set_eq_take_append_cons_drop, if_pos (List.getElem?_eq_some_iff.1 hpi).1, List.singleton_append]
   rw [← eL] at hI1
   rw [show Bell.cnt l[i] = 4 + 2 * l[i].shares.length from rfl] at hkb hkN
   replace hI1 := hI1.frame (fr' := [(0, .sf 0 5), (1, .int .i64 (kk)), (5, .int .i64 i), (49, .own 0)]) fun t => by
       by_cases e : t = 9
       · subst e; exact .inl rfl
       · exact .inr (by show _ = (bif 9 == t then _ else _); rw [show (9 == t) = false by simpa using fun h => e h.symm]; rfl)
   refine wp_seq (wp_block ?_)
   refine wp_seq ?_
   refine qae hm (S1 := ⟨[(0, .sf 0 5), (1, .int .i64 (kk)), (5, .int .i64 i), (49, .own 0)], [some (.arr 5 (X.set i [.str (markT (kk)), .int .i64 l[i].note, .int .i64 l[i].mass, .int .i64 l[i].feed, .raw u]))]⟩) (by kernel_rfl) hI1 ?_ fun a2 w2 A2 m2 hI2 => ?_
   · simp
     refine CallZ.use0 (qb7 _ (by omega)) rfl rfl ?_
     simp [hXl, hXg, hi', Bell.rw]
     exact Wk.weak (ρ := [0]) (φ := []) (by simp)
   refine wp_seq ?_
   refine qae hm (S1 := ⟨[(0, .sf 0 5), (1, .int .i64 (kk + 1)), (5, .int .i64 i), (49, .own 0)], [some (.arr 5 (X.set i [.str (markT (kk)), .int .i64 l[i].note, .int .i64 l[i].mass, .int .i64 l[i].feed, .raw u]))]⟩) (by kernel_rfl) hI2 ?_ fun a3 w3 A3 m3 hI3 => ?_
   · simp
     refine Wk.weak (ρ := [0]) (φ := []) ?_
     simp
     exact w64 (by omega) (by omega)
   refine wp_seq ?_
   refine qae hm (S1 := ⟨[(0, .sf 0 5), (1, .int .i64 (kk + 1)), (5, .int .i64 i), (49, .own 0)], [some (.arr 5 (X.set i [.str (markT (kk)), .int .i64 (kk + 1), .int .i64 l[i].mass, .int .i64 l[i].feed, .raw u]))]⟩) (by kernel_rfl) hI3 ?_ fun a4 w4 A4 m4 hI4 => ?_
   · simp [hXl, hi']
     exact Wk.weak (ρ := [0]) (φ := []) (by simp)
   refine wp_seq ?_
   refine qae hm (S1 := ⟨[(0, .sf 0 5), (1, .int .i64 (kk + 1 + 1)), (5, .int .i64 i), (49, .own 0)], [some (.arr 5 (X.set i [.str (markT (kk)), .int .i64 (kk + 1), .int .i64 l[i].mass, .int .i64 l[i].feed, .raw u]))]⟩) (by kernel_rfl) hI4 ?_ fun a5 w5 A5 m5 hI5 => ?_
   · simp
     refine Wk.weak (ρ := [0]) (φ := []) ?_
     simp
     exact w64 (by omega) (by omega)
   refine wp_seq ?_
   refine qae hm (S1 := ⟨[(0, .sf 0 5), (1, .int .i64 (kk + 1 + 1)), (5, .int .i64 i), (49, .own 0)], [some (.arr 5 (X.set i [.str (markT (kk)), .int .i64 (kk + 1), .int .i64 (kk + 1 + 1), .int .i64 l[i].feed, .raw u]))]⟩) (by kernel_rfl) hI5 ?_ fun a6 w6 A6 m6 hI6 => ?_
   · simp [hXl, hi']
     exact Wk.weak (ρ := [0]) (φ := []) (by simp)
   refine wp_seq ?_
   refine qae hm (S1 := ⟨[(0, .sf 0 5), (1, .int .i64 (kk + 1 + 1 + 1)), (5, .int .i64 i), (49, .own 0)], [some (.arr 5 (X.set i [.str (markT (kk)), .int .i64 (kk + 1), .int .i64 (kk + 1 + 1), .int .i64 l[i].feed, .raw u]))]⟩) (by kernel_rfl) hI6 ?_ fun a7 w7 A7 m7 hI7 => ?_
   · simp
     refine Wk.weak (ρ := [0]) (φ := []) ?_
     simp
     exact w64 (by omega) (by omega)
   refine wp_seq ?_
   refine qae hm (S1 := ⟨[(0, .sf 0 5), (1, .int .i64 (kk + 1 + 1 + 1)), (5, .int .i64 i), (49, .own 0)], [some (.arr 5 (X.set i [.str (markT (kk)), .int .i64 (kk + 1), .int .i64 (kk + 1 + 1), .int .i64 (kk + 1 + 1 + 1), .raw u]))]⟩) (by kernel_rfl) hI7 ?_ fun a8 w8 A8 m8 hI8 => ?_
   · simp [hXl, hi']
     exact Wk.weak (ρ := [0]) (φ := []) (by simp)
   refine wp_seq ?_
   refine qae hm (S1 := ⟨[(0, .sf 0 5), (1, .int .i64 (kk + 1 + 1 + 1 + 1)), (5, .int .i64 i), (49, .own 0)], [some (.arr 5 (X.set i [.str (markT (kk)), .int .i64 (kk + 1), .int .i64 (kk + 1 + 1), .int .i64 (kk + 1 + 1 + 1), .raw u]))]⟩) (by kernel_rfl) hI8 ?_ fun a9 w9 A9 m9 hI9 => ?_
   · simp
     refine Wk.weak (ρ := [0]) (φ := []) ?_
     simp
     exact w64 (by omega) (by omega)
   refine markP (t := 45) (t' := 46) (d := 47) (pv := .raw u) (k := kk + 1 + 1 + 1 + 1) (k' := kk + 1 + 1 + 1 + 1 + 2 * l[i].shares.length) (R := fun L' => L' = [⟨2, Share.rows (Share.marks (kk + 1 + 1 + 1 + 1) l[i].shares.length), u, ob⟩]) (S1 := ⟨[(45, .raw u), (46, .int .i64 (kk + 1 + 1 + 1 + 1)), (0, .sf 0 5), (1, .int .i64 (kk + 1 + 1 + 1 + 1)), (5, .int .i64 i), (49, .own 0)], [some (.arr 5 (X.set i [.str (markT (kk)), .int .i64 (kk + 1), .int .i64 (kk + 1 + 1), .int .i64 (kk + 1 + 1 + 1), .raw u]))]⟩) (S2 := ⟨[(0, .sf 0 5), (1, .int .i64 (kk + 1 + 1 + 1 + 1 + 2 * l[i].shares.length)), (5, .int .i64 i), (49, .own 0)], [some (.arr 5 (X.set i [.str (markT (kk)), .int .i64 (kk + 1), .int .i64 (kk + 1 + 1), .int .i64 (kk + 1 + 1 + 1), .raw u]))]⟩) 6 (by kernel_rfl) hI9 rfl rfl rfl rfl (by decide) (by decide) (by decide) (fun v hv => ?_) (fun hr => qbr rfl hr) rfl rfl ?_ ?_ fun L' a10 w10 A10 m10 hL' hI10 => ?_
   · obtain rfl : v = u := by
       have := hv noB default
       cases this
       rfl
     exact NMark.flat (qnb l[i].shares (kk + 1 + 1 + 1 + 1) (by omega) (by omega)) (by simp [Share.rows, Share.marks, Bell.inn]) (qba (Share.flat _))
   · simp [hXl, hi']
     exact Wk.weak (ρ := [0]) (φ := []) (by simp)
   · simp
     exact Wk.weak (ρ := [0]) (φ := []) (by simp)
   subst hL'
   simp only [Exit.inBlock]
   show Code.wp _ _ _ _ _
   refine wp_mono (qaB hm _ _ (thenQ (fun S' => Weak S' ⟨[(0, .sf 0 5), (1, .int .i64 (kk + 1 + 1 + 1 + 1 + 2 * l[i].shares.length)), (5, .int .i64 (i + 1)), (49, .own 0)], [some (.arr 5 (X.set i [.str (markT (kk)), .int .i64 (kk + 1), .int .i64 (kk + 1 + 1), .int .i64 (kk + 1 + 1 + 1), .raw u]))]⟩) fun _ _ => False) (by kernel_rfl) ?_ _ _ _ _ _ hI10.inv.rebase) fun e a11 w11 ⟨S11, A11, m11, hq11, hJ11⟩ => ?_
   · simp
     refine Wk.weak (ρ := [0]) (φ := []) ?_
     simp
     exact w64 (by omega) (by omega)
   cases e with
   | normal =>
     obtain ⟨A', m', hI'⟩ := hq11 _ _ _ _ _ _ hJ11
     have hF := hI10.step hI'
     have eR : Bell.rw (Bell.markN kk l[i]) u = [.str (markT (kk)), .int .i64 (kk + 1), .int .i64 (kk + 1 + 1), .int .i64 (kk + 1 + 1 + 1), .raw u] := rfl
     have eI : Bell.inn (Bell.markN kk l[i]) = Share.rows (Share.marks (kk + 1 + 1 + 1 + 1) l[i].shares.length) := rfl
     rw [eR] at hset
     rw [← hset.2, ← eI, eS, show kk + 1 + 1 + 1 + 1 + 2 * l[i].shares.length = k + ((sumT Bell.cnt l (i + 1) : Nat) : Int) by omega] at hF
     refine qjb l k hk hb hex kf (i + 1) _ _ _ _ _ (by omega) (by omega) hset.1 (fun b hbb => hLO b ?_) hF
     rw [← eS] at hbb
     rw [← eL]
     refine qao.2 ((qao.1 hbb).imp id fun h => qao.2 ((qao.1 h).imp (fun h => ?_) id))
     obtain ⟨q, hq, e⟩ := h
     simp only [List.mem_singleton] at hq
     subst hq
     exact ⟨_, List.mem_singleton_self _, e⟩
   | _ => exact hq11.elim
set_option maxHeartbeats 1000000 in
theorem qoq (l : List Bell) (k : Int) (hk : 0 ≤ k) (hb : k + ((l.map Bell.cnt).sum : Nat) ≤ 1000000000) {v : Value} {L : List Pind} (hN : Nest 5 2 Bell.rw Bell.inn l v L) : NMark Tryz.prog 89 v k (k + ((l.map Bell.cnt).sum : Nat)) L fun L' => Nest 5 2 Bell.rw Bell.inn (qap Bell.markN Bell.cnt k l) v L' := fun A w hA hL hd => by
 obtain ⟨ob, Li, rfl, hNI⟩ := hN
 have hlen : l.length ≤ 1000000000 := by
   have h1 := qcZ Bell.cnt l fun x => by unfold Bell.cnt; omega
   omega
 refine (qcn (args := [.raw v, .int .i64 k]) (M := pindB (⟨5, rowsN Bell.rw l Li, v, ob⟩ :: Li)) (gh := fun _ => ownV ob (capV v)) (R := fun r w' => r = .int .i64 (k + ((l.map Bell.cnt).sum : Nat)) ∧ ∃ L', Moved (pindB (⟨5, rowsN Bell.rw l Li, v, ob⟩ :: Li)) w w' ∧ Pinds w' L' ∧ (∀ b, pindB L' b → pindB (⟨5, rowsN Bell.rw l Li, v, ob⟩ :: Li) b ∨ w.heap.size ≤ b) ∧ Nest 5 2 Bell.rw Bell.inn (qap Bell.markN Bell.cnt k l) v L') Tryz.func89 (by kernel_rfl) rfl (by kernel_rfl) (by kernel_rfl) hA rfl (fun i p hi => ?_) fun a hI => ?_).mono fun e w' ⟨r, he, hr, h1⟩ => ⟨by rw [he, hr], h1⟩
 · match i with
   | 0 => cases hi; exact .raw _
   | 1 => cases hi; exact .int _ _
   | i + 2 => simp at hi
 have hP : InvP ⟨w, A, pindB (⟨5, rowsN Bell.rw l Li, v, ob⟩ :: Li), fun _ => ownV ob (capV v)⟩ 49 ⟨[(0, .raw v), (1, .int .i64 k)], []⟩ a w A noM (⟨5, rowsN Bell.rw l Li, v, ob⟩ :: Li) := ⟨hI, hL, fun b hb => ⟨hd b hb, fun ⟨k, o, C, hk, _⟩ => by simp [getO] at hk, .inl hb⟩⟩
 obtain ⟨ho, hop⟩ := hL.at_ _ (List.mem_cons_self ..)
 have h0 := qfw hP.inv (t := 0) rfl
 obtain ⟨m1, hP1, hr1, hr2⟩ := hP.adopt
 have hP2 := (hP1.know (d := 0) (p := .sf 0 5) (by rw [h0]; exact hr1)).know (d := 49) (p := .own 0) (by rw [show Go.Ab.look ⟨w, A, pindB (⟨5, rowsN Bell.rw l Li, v, ob⟩ :: Li), fun _ => ownV ob (capV v)⟩ 49 a 49 = ownV ob (capV v) from rfl]; exact hr2)
 refine wp_seq ?_
 refine qae hm (S1 := ⟨[(0, .sf 0 5), (1, .int .i64 k), (49, .own 0)], [some (.arr 5 (rowsN Bell.rw l Li))]⟩) (by kernel_rfl) hP2 ?_ fun a3 w3 A3 m3 hI3 => ?_
 · simp
   exact Wk.weak (ρ := [0]) (φ := []) (by simp)
 refine wp_seq (wp_seq ?_)
 refine qae hm (S1 := ⟨[(0, .sf 0 5), (1, .int .i64 k), (5, .int .i64 0), (49, .own 0)], [some (.arr 5 (rowsN Bell.rw l Li))]⟩) (by kernel_rfl) hI3 ?_ fun a4 w4 A4 m4 hI4 => ?_
 · simp
   exact Wk.weak (ρ := [0]) (φ := []) (by simp)
 refine wp_block (wp_loop_rounds (l.length + 1) (qjb l k hk hb (LO := Li) (fun a5 w5 A5 m5 Li5 hN5 hs5 hI5 => ?_) _ 0 _ _ _ _ Li (by omega) (by omega) (by rw [qdm]; exact hNI) (fun b hb => hb) (by simpa [qaV, qdm] using hI4)))
 simp only [Exit.inBlock, if_true]
 show Code.wp _ _ _ _ _
 refine wp_seq ?_
 refine qae hm (S1 := ⟨[(4, .int .i64 (k + ((l.map Bell.cnt).sum : Nat))), (49, .own 0)], [some (.arr 5 (rowsN Bell.rw (qap Bell.markN Bell.cnt k l) Li5))]⟩) (by kernel_rfl) hI5 ?_ fun a6 w6 A6 m6 hI6 => ?_
 · simp
   exact Wk.weak (ρ := [0]) (φ := []) (by simp)
 refine wp_ret ⟨.inr rfl, _, _, _, hI6.inv, ⟨trivial, trivial⟩, fun r hr => ?_⟩
 have hr' : r = .int .i64 (k + ((l.map Bell.cnt).sum : Nat)) := by
   change RepO _ _ _ _ (.int .i64 (k + ((l.map Bell.cnt).sum : Nat))) r at hr
   cases hr with
   | imm hi => cases hi; rfl
 have hpin := hI6.home (t := 49) (k := 0) (v := v) (ob := ob) (rows := rowsN Bell.rw l Li) rfl rfl rfl ho (by rw [qbi hN5.len, qc0, qbi hNI.len]) (qdl Bell.rw_pure _ _)
 exact ⟨hr', _, hI6.inv.moved, hpin, fun b hb => .inl (qaA.2 ((qaA.1 hb).imp id (hs5 b))), ob, Li5, rfl, hN5⟩
def Beam.markN (k : Int) (x : Beam) : Beam := ⟨markT (k), k + 1, k + 1 + 1, k + 1 + 1 + 1, k + 1 + 1 + 1 + 1, Load.marks (k + 1 + 1 + 1 + 1 + 1) x.loads.length⟩
def Beam.cnt (x : Beam) : Nat := 5 + 2 * x.loads.length
noncomputable def qor : Code := match Tryz.f92.body with
 | some (.seq _ (.seq (.seq _ (.block _ (.loop c))) _)) => c
 | _ => .skip
set_option maxHeartbeats 4000000 in
theorem qjc (l : List Beam) (k : Int) (hk : 0 ≤ k) (hb : k + ((l.map Beam.cnt).sum : Nat) ≤ 1000000000) {x : Ctx} {LO : List Pind} {Q : Exit → Act → World → Prop}
   (hex : ∀ a w A m Li, NestI 2 Beam.inn (qap Beam.markN Beam.cnt k l) Li → (∀ b, pindB Li b → pindB LO b) → InvP x 56 ⟨[(0, .sf 0 6), (1, .int .i64 (k + (((l.map Beam.cnt).sum : Nat) : Int))), (5, .int .i64 l.length), (56, .own 0)], [some (.arr 6 (rowsN Beam.rw (qap Beam.markN Beam.cnt k l) Li))]⟩ a w A m Li → Q (.exit 0) a w) :
   ∀ (kf i : Nat) (a : Act) (w : World) (A : Nat → Prop) (m : OMap) (Li : List Pind), l.length < kf + i → i ≤ l.length → NestI 2 Beam.inn (qaR Beam.markN Beam.cnt k l i) Li → (∀ b, pindB Li b → pindB LO b) → InvP x 56 ⟨[(0, .sf 0 6), (1, .int .i64 (k + ((sumT Beam.cnt l i : Nat) : Int))), (5, .int .i64 i), (56, .own 0)], [some (.arr 6 (rowsN Beam.rw (qaR Beam.markN Beam.cnt k l i) Li))]⟩ a w A m Li → Code.rounds Tryz.prog qor Q kf a w
 | 0, i, a, w, A, m, Li, hkf, hi, _, _, _ => absurd hkf (by omega)
 | kf + 1, i, a, w, A, m, Li, hkf, hi, hN, hLO, hI => by
   have hlen : l.length ≤ 1000000000 := by
     have h1 := qcZ Beam.cnt l fun x => by unfold Beam.cnt; omega
     omega
   rw [rounds_succ]
   obtain ⟨X, hX, hXl⟩ : ∃ X, rowsN Beam.rw (qaR Beam.markN Beam.cnt k l i) Li = X ∧ X.length = l.length := ⟨_, rfl, by rw [qbi hN.len, qdn]⟩
   rw [hX] at hI
   refine wp_seq (wp_seq ?_)
   refine qae hm (S1 := ⟨[(9, .bool (decide (i < l.length))), (0, .sf 0 6), (1, .int .i64 (k + ((sumT Beam.cnt l i : Nat) : Int))), (5, .int .i64 i), (56, .own 0)], [some (.arr 6 X)]⟩) (by kernel_rfl) hI ?_ fun a1 w1 A1 m1 hI1 => ?_
   · simp [hXl]
     exact Wk.weak (ρ := [0]) (φ := []) (by simp)
   refine wp_cond_split (t := decide (i < l.length)) (qcY hI1.inv rfl (by decide)) (fun ht => wp_skip ?_) fun ht => wp_exit ?_
   rotate_left
   · have hil : i = l.length := by have := of_decide_eq_false ht; omega
     subst hil
     rw [qfC] at hN hX
     rw [← hX, qbS] at hI1
     exact hex a1 w1 A1 m1 Li hN hLO (hI1.frame fun t => by
       by_cases e : t = 9
       · subst e; exact .inl rfl
       · exact .inr (by show _ = (bif 9 == t then _ else _); rw [show (9 == t) = false by simpa using fun h => e h.symm]; rfl))
   have hi' : i < l.length := of_decide_eq_true ht
   have hk2 : k + ((sumT Beam.cnt l (i + 1) : Nat) : Int) ≤ 1000000000 := by
     have := qbU Beam.cnt l (i + 1)
     omega
   have hk1 := qbT Beam.cnt hi'
   have hnx := qfD (f := Beam.markN) (cnt := Beam.cnt) (k := k) hi'
   obtain ⟨kk, hkk⟩ : ∃ kk : Int, kk = k + ((sumT Beam.cnt l i : Nat) : Int) := ⟨_, rfl⟩
   have hkN : kk + ((Beam.cnt l[i] : Nat) : Int) = k + ((sumT Beam.cnt l (i + 1) : Nat) : Int) := by omega
   rw [← hkk] at hI1 hnx
   have hk0 : 0 ≤ kk := by omega
   have hkb : kk + ((Beam.cnt l[i] : Nat) : Int) ≤ 1000000000 := by omega
   obtain ⟨p, hpi⟩ : ∃ p, Li[i]? = some p := ⟨_, List.getElem?_eq_getElem (by rw [hN.len, qdn]; exact hi')⟩
   obtain ⟨hpz, hpr⟩ := hN.at_ i _ p (qdo hi') hpi
   obtain ⟨pz, pr, u, ob⟩ := p
   simp only at hpz hpr
   subst hpz
   subst hpr
   have hset := hN.set (rw := Beam.rw) (i := i) (x := Beam.markN kk l[i]) (p := ⟨2, Beam.inn (Beam.markN kk l[i]), u, ob⟩) rfl rfl
   rw [hX, hnx] at hset
   have hXg : ∀ h, X[i]'h = Beam.rw l[i] u := fun h => by
     have h1 : X[i]? = some (Beam.rw l[i] u) := by rw [← hX, rowsN, List.getElem?_zipWith, qdo hi', hpi]
     rw [List.getElem?_eq_getElem h] at h1
     exact Option.some.inj h1
   have eL : Li.take i ++ ([⟨2, Beam.inn l[i], u, ob⟩] ++ Li.drop (i + 1)) = Li := by
     have h1 := (List.getElem?_eq_some_iff.1 hpi)
     obtain ⟨h1, h2⟩ := h1
     rw [← h2, List.singleton_append, ← List.drop_eq_getElem_cons h1, List.take_append_drop]
   have eS : Li.take i ++ ([⟨2, Beam.inn (Beam.markN kk l[i]), u, ob⟩] ++ Li.drop (i + 1)) = Li.set i ⟨2, Beam.inn (Beam.markN kk l[i]), u, ob⟩ := by
     rw [List.set_eq_take_append_cons_drop, if_pos (List.getElem?_eq_some_iff.1 hpi).1, List.singleton_append]
   rw [← eL] at hI1
   rw [show Beam.cnt l[i] = 5 + 2 * l[i].loads.length from rfl] at hkb hkN
   replace hI1 := hI1.frame (fr' := [(0, .sf 0 6), (1, .int .i64 (kk)), (5, .int .i64 i), (56, .own 0)]) fun t => by
       by_cases e : t = 9
       · subst e; exact .inl rfl
       · exact .inr (by show _ = (bif 9 == t then _ else _); rw [show (9 == t) = false by simpa using fun h => e h.symm]; rfl)
   refine wp_seq (wp_block ?_)
   refine wp_seq ?_
   refine qae hm (S1 := ⟨[(0, .sf 0 6), (1, .int .i64 (kk)), (5, .int .i64 i), (56, .own 0)], [some (.arr 6 (X.set i [.str (markT (kk)), .int .i64 l[i].span, .int .i64 l[i].width, .int .i64 l[i].depth, .int .i64 l[i].wood, .raw u]))]⟩) (by kernel_rfl) hI1 ?_ fun a2 w2 A2 m2 hI2 => ?_
   · simp
     refine CallZ.use0 (qb7 _ (by omega)) rfl rfl ?_
     simp [hXl, hXg, hi', Beam.rw]
     exact Wk.weak (ρ := [0]) (φ := []) (by simp)
   refine wp_seq ?_
   refine qae hm (S1 := ⟨[(0, .sf 0 6), (1, .int .i64 (kk + 1)), (5, .int .i64 i), (56, .own 0)], [some (.arr 6 (X.set i [.str (markT (kk)), .int .i64 l[i].span, .int .i64 l[i].width, .int .i64 l[i].depth, .int .i64 l[i].wood, .raw u]))]⟩) (by kernel_rfl) hI2 ?_ fun a3 w3 A3 m3 hI3 => ?_
   · simp
     refine Wk.weak (ρ := [0]) (φ := []) ?_
     simp
     exact w64 (by omega) (by omega)
   refine wp_seq ?_
   refine qae hm (S1 := ⟨[(0, .sf 0 6), (1, .int .i64 (kk + 1)), (5, .int .i64 i), (56, .own 0)], [some (.arr 6 (X.set i [.str (markT (kk)), .int .i64 (kk + 1), .int .i64 l[i].width, .int .i64 l[i].depth, .int .i64 l[i].wood, .raw u]))]⟩) (by kernel_rfl) hI3 ?_ fun a4 w4 A4 m4 hI4 => ?_
   · simp [hXl, hi']
     exact Wk.weak (ρ := [0]) (φ := []) (by simp)
   refine wp_seq ?_
   refine qae hm (S1 := ⟨[(0, .sf 0 6), (1, .int .i64 (kk + 1 + 1)), (5, .int .i64 i), (56, .own 0)], [some (.arr 6 (X.set i [.str (markT (kk)), .int .i64 (kk + 1), .int .i64 l[i].width, .int .i64 l[i].depth, .int .i64 l[i].wood, .raw u]))]⟩) (by kernel_rfl) hI4 ?_ fun a5 w5 A5 m5 hI5 => ?_
   · simp
     refine Wk.weak (ρ := [0]) (φ := []) ?_
     simp
     exact w64 (by omega) (by omega)
   refine wp_seq ?_
   refine qae hm (S1 := ⟨[(0, .sf 0 6), (1, .int .i64 (kk + 1 + 1)), (5, .int .i64 i), (56, .own 0)], [some (.arr 6 (X.set i [.str (markT (kk)), .int .i64 (kk + 1), .int .i64 (kk + 1 + 1), .int .i64 l[i].depth, .int .i64 l[i].wood, .raw u]))]⟩) (by kernel_rfl) hI5 ?_ fun a6 w6 A6 m6 hI6 => ?_
   · simp [hXl, hi']
     exact Wk.weak (ρ := [0]) (φ := []) (by simp)
   refine wp_seq ?_
   refine qae hm (S1 := ⟨[(0, .sf 0 6), (1, .int .i64 (kk + 1 + 1 + 1)), (5, .int .i64 i), (56, .own 0)], [some (.arr 6 (X.set i [.str (markT (kk)), .int .i64 (kk + 1), .int .i64 (kk + 1 + 1), .int .i64 l[i].depth, .int .i64 l[i].wood, .raw u]))]⟩) (by kernel_rfl) hI6 ?_ fun a7 w7 A7 m7 hI7 => ?_
   · simp
     refine Wk.weak (ρ := [0]) (φ := []) ?_
     simp
     exact w64 (by omega) (by omega)
   refine wp_seq ?_
   refine qae hm (S1 := ⟨[(0, .sf 0 6), (1, .int .i64 (kk + 1 + 1 + 1)), (5, .int .i64 i), (56, .own 0)], [some (.arr 6 (X.set i [.str (markT (kk)), .int .i64 (kk + 1), .int .i64 (kk + 1 + 1), .int .i64 (kk + 1 + 1 + 1), .int .i64 l[i].wood, .raw u]))]⟩) (by kernel_rfl) hI7 ?_ fun a8 w8 A8 m8 hI8 => ?_
   · simp [hXl, hi']
     exact Wk.weak (ρ := [0]) (φ := []) (by simp)
   refine wp_seq ?_
   refine qae hm (S1 := ⟨[(0, .sf 0 6), (1, .int .i64 (kk + 1 + 1 + 1 + 1)), (5, .int .i64 i), (56, .own 0)], [some (.arr 6 (X.set i [.str (markT (kk)), .int .i64 (kk + 1), .int .i64 (kk + 1 + 1), .int .i64 (kk + 1 + 1 + 1), .int .i64 l[i].wood, .raw u]))]⟩) (by kernel_rfl) hI8 ?_ fun a9 w9 A9 m9 hI9 => ?_
   · simp
     refine Wk.weak (ρ := [0]) (φ := []) ?_
     simp
     exact w64 (by omega) (by omega)
   refine wp_seq ?_
   refine qae hm (S1 := ⟨[(0, .sf 0 6), (1, .int .i64 (kk + 1 + 1 + 1 + 1)), (5, .int .i64 i), (56, .own 0)], [some (.arr 6 (X.set i [.str (markT (kk)), .int .i64 (kk + 1), .int .i64 (kk + 1 + 1), .int .i64 (kk + 1 + 1 + 1), .int .i64 (kk + 1 + 1 + 1 + 1), .raw u]))]⟩) (by kernel_rfl) hI9 ?_ fun a10 w10 A10 m10 hI10 => ?_
   · simp [hXl, hi']
     exact Wk.weak (ρ := [0]) (φ := []) (by simp)
   refine wp_seq ?_
   refine qae hm (S1 := ⟨[(0, .sf 0 6), (1, .int .i64 (kk + 1 + 1 + 1 + 1 + 1)), (5, .int .i64 i), (56, .own 0)], [some (.arr 6 (X.set i [.str (markT (kk)), .int .i64 (kk + 1), .int .i64 (kk + 1 + 1), .int .i64 (kk + 1 + 1 + 1), .int .i64 (kk + 1 + 1 + 1 + 1), .raw u]))]⟩) (by kernel_rfl) hI10 ?_ fun a11 w11 A11 m11 hI11 => ?_
   · simp
     refine Wk.weak (ρ := [0]) (φ := []) ?_
     simp
     exact w64 (by omega) (by omega)
   refine markP (t := 52) (t' := 53) (d := 54) (pv := .raw u) (k := kk + 1 + 1 + 1 + 1 + 1) (k' := kk + 1 + 1 + 1 + 1 + 1 + 2 * l[i].loads.length) (R := fun L' => L' = [⟨2, Load.rows (Load.marks (kk + 1 + 1 + 1 + 1 + 1) l[i].loads.length), u, ob⟩]) (S1 := ⟨[(52, .raw u), (53, .int .i64 (kk + 1 + 1 + 1 + 1 + 1)), (0, .sf 0 6), (1, .int .i64 (kk + 1 + 1 + 1 + 1 + 1)), (5, .int .i64 i), (56, .own 0)], [some (.arr 6 (X.set i [.str (markT (kk)), .int .i64 (kk + 1), .int .i64 (kk + 1 + 1), .int .i64 (kk + 1 + 1 + 1), .int .i64 (kk + 1 + 1 + 1 + 1), .raw u]))]⟩) (S2 := ⟨[(0, .sf 0 6), (1, .int .i64 (kk + 1 + 1 + 1 + 1 + 1 + 2 * l[i].loads.length)), (5, .int .i64 i), (56, .own 0)], [some (.arr 6 (X.set i [.str (markT (kk)), .int .i64 (kk + 1), .int .i64 (kk + 1 + 1), .int .i64 (kk + 1 + 1 + 1), .int .i64 (kk + 1 + 1 + 1 + 1), .raw u]))]⟩) 6 (by kernel_rfl) hI11 rfl rfl rfl rfl (by decide) (by decide) (by decide) (fun v hv => ?_) (fun hr => qbr rfl hr) rfl rfl ?_ ?_ fun L' a12 w12 A12 m12 hL' hI12 => ?_
   · obtain rfl : v = u := by
       have := hv noB default
       cases this
       rfl
     exact NMark.flat (qnh l[i].loads (kk + 1 + 1 + 1 + 1 + 1) (by omega) (by omega)) (by simp [Load.rows, Load.marks, Beam.inn]) (qba (Load.flat _))
   · simp [hXl, hi']
     exact Wk.weak (ρ := [0]) (φ := []) (by simp)
   · simp
     exact Wk.weak (ρ := [0]) (φ := []) (by simp)
   subst hL'
   simp only [Exit.inBlock]
   show Code.wp _ _ _ _ _
   refine wp_mono (qaB hm _ _ (thenQ (fun S' => Weak S' ⟨[(0, .sf 0 6), (1, .int .i64 (kk + 1 + 1 + 1 + 1 + 1 + 2 * l[i].loads.length)), (5, .int .i64 (i + 1)), (56, .own 0)], [some (.arr 6 (X.set i [.str (markT (kk)), .int .i64 (kk + 1), .int .i64 (kk + 1 + 1), .int .i64 (kk + 1 + 1 + 1), .int .i64 (kk + 1 + 1 + 1 + 1), .raw u]))]⟩) fun _ _ => False) (by kernel_rfl) ?_ _ _ _ _ _ hI12.inv.rebase) fun e a13 w13 ⟨S13, A13, m13, hq13, hJ13⟩ => ?_
   · simp
     refine Wk.weak (ρ := [0]) (φ := []) ?_
     simp
     exact w64 (by omega) (by omega)
   cases e with
   | normal =>
     obtain ⟨A', m', hI'⟩ := hq13 _ _ _ _ _ _ hJ13
     have hF := hI12.step hI'
     have eR : Beam.rw (Beam.markN kk l[i]) u = [.str (markT (kk)), .int .i64 (kk + 1), .int .i64 (kk + 1 + 1), .int .i64 (kk + 1 + 1 + 1), .int .i64 (kk + 1 + 1 + 1 + 1), .raw u] := rfl
     have eI : Beam.inn (Beam.markN kk l[i]) = Load.rows (Load.marks (kk + 1 + 1 + 1 + 1 + 1) l[i].loads.length) := rfl
     rw [eR] at hset
     rw [← hset.2, ← eI, eS, show kk + 1 + 1 + 1 + 1 + 1 + 2 * l[i].loads.length = k + ((sumT Beam.cnt l (i + 1) : Nat) : Int) by omega] at hF
     refine qjc l k hk hb hex kf (i + 1) _ _ _ _ _ (by omega) (by omega) hset.1 (fun b hbb => hLO b ?_) hF
     rw [← eS] at hbb
     rw [← eL]
     refine qao.2 ((qao.1 hbb).imp id fun h => qao.2 ((qao.1 h).imp (fun h => ?_) id))
     obtain ⟨q, hq, e⟩ := h
     simp only [List.mem_singleton] at hq
     subst hq
     exact ⟨_, List.mem_singleton_self _, e⟩
   | _ => exact hq13.elim
set_option maxHeartbeats 1000000 in
theorem qos (l : List Beam) (k : Int) (hk : 0 ≤ k) (hb : k + ((l.map Beam.cnt).sum : Nat) ≤ 1000000000) {v : Value} {L : List Pind} (hN : Nest 6 2 Beam.rw Beam.inn l v L) : NMark Tryz.prog 92 v k (k + ((l.map Beam.cnt).sum : Nat)) L fun L' => Nest 6 2 Beam.rw Beam.inn (qap Beam.markN Beam.cnt k l) v L' := fun A w hA hL hd => by
 obtain ⟨ob, Li, rfl, hNI⟩ := hN
 have hlen : l.length ≤ 1000000000 := by
   have h1 := qcZ Beam.cnt l fun x => by unfold Beam.cnt; omega
   omega
 refine (qcn (args := [.raw v, .int .i64 k]) (M := pindB (⟨6, rowsN Beam.rw l Li, v, ob⟩ :: Li)) (gh := fun _ => ownV ob (capV v)) (R := fun r w' => r = .int .i64 (k + ((l.map Beam.cnt).sum : Nat)) ∧ ∃ L', Moved (pindB (⟨6, rowsN Beam.rw l Li, v, ob⟩ :: Li)) w w' ∧ Pinds w' L' ∧ (∀ b, pindB L' b → pindB (⟨6, rowsN Beam.rw l Li, v, ob⟩ :: Li) b ∨ w.heap.size ≤ b) ∧ Nest 6 2 Beam.rw Beam.inn (qap Beam.markN Beam.cnt k l) v L') Tryz.func92 (by kernel_rfl) rfl (by kernel_rfl) (by kernel_rfl) hA rfl (fun i p hi => ?_) fun a hI => ?_).mono fun e w' ⟨r, he, hr, h1⟩ => ⟨by rw [he, hr], h1⟩
 · match i with
   | 0 => cases hi; exact .raw _
   | 1 => cases hi; exact .int _ _
   | i + 2 => simp at hi
 have hP : InvP ⟨w, A, pindB (⟨6, rowsN Beam.rw l Li, v, ob⟩ :: Li), fun _ => ownV ob (capV v)⟩ 56 ⟨[(0, .raw v), (1, .int .i64 k)], []⟩ a w A noM (⟨6, rowsN Beam.rw l Li, v, ob⟩ :: Li) := ⟨hI, hL, fun b hb => ⟨hd b hb, fun ⟨k, o, C, hk, _⟩ => by simp [getO] at hk, .inl hb⟩⟩
 obtain ⟨ho, hop⟩ := hL.at_ _ (List.mem_cons_self ..)
 have h0 := qfw hP.inv (t := 0) rfl
 obtain ⟨m1, hP1, hr1, hr2⟩ := hP.adopt
 have hP2 := (hP1.know (d := 0) (p := .sf 0 6) (by rw [h0]; exact hr1)).know (d := 56) (p := .own 0) (by rw [show Go.Ab.look ⟨w, A, pindB (⟨6, rowsN Beam.rw l Li, v, ob⟩ :: Li), fun _ => ownV ob (capV v)⟩ 56 a 56 = ownV ob (capV v) from rfl]; exact hr2)
 refine wp_seq ?_
 refine qae hm (S1 := ⟨[(0, .sf 0 6), (1, .int .i64 k), (56, .own 0)], [some (.arr 6 (rowsN Beam.rw l Li))]⟩) (by kernel_rfl) hP2 ?_ fun a3 w3 A3 m3 hI3 => ?_
 · simp
   exact Wk.weak (ρ := [0]) (φ := []) (by simp)
 refine wp_seq (wp_seq ?_)
 refine qae hm (S1 := ⟨[(0, .sf 0 6), (1, .int .i64 k), (5, .int .i64 0), (56, .own 0)], [some (.arr 6 (rowsN Beam.rw l Li))]⟩) (by kernel_rfl) hI3 ?_ fun a4 w4 A4 m4 hI4 => ?_
 · simp
   exact Wk.weak (ρ := [0]) (φ := []) (by simp)
 refine wp_block (wp_loop_rounds (l.length + 1) (qjc l k hk hb (LO := Li) (fun a5 w5 A5 m5 Li5 hN5 hs5 hI5 => ?_) _ 0 _ _ _ _ Li (by omega) (by omega) (by rw [qdm]; exact hNI) (fun b hb => hb) (by simpa [qaV, qdm] using hI4)))
 simp only [Exit.inBlock, if_true]
 show Code.wp _ _ _ _ _
 refine wp_seq ?_
 refine qae hm (S1 := ⟨[(4, .int .i64 (k + ((l.map Beam.cnt).sum : Nat))), (56, .own 0)], [some (.arr 6 (rowsN Beam.rw (qap Beam.markN Beam.cnt k l) Li5))]⟩) (by kernel_rfl) hI5 ?_ fun a6 w6 A6 m6 hI6 => ?_
 · simp
   exact Wk.weak (ρ := [0]) (φ := []) (by simp)
 refine wp_ret ⟨.inr rfl, _, _, _, hI6.inv, ⟨trivial, trivial⟩, fun r hr => ?_⟩
 have hr' : r = .int .i64 (k + ((l.map Beam.cnt).sum : Nat)) := by
   change RepO _ _ _ _ (.int .i64 (k + ((l.map Beam.cnt).sum : Nat))) r at hr
   cases hr with
   | imm hi => cases hi; rfl
 have hpin := hI6.home (t := 56) (k := 0) (v := v) (ob := ob) (rows := rowsN Beam.rw l Li) rfl rfl rfl ho (by rw [qbi hN5.len, qc0, qbi hNI.len]) (qdl Beam.rw_pure _ _)
 exact ⟨hr', _, hI6.inv.moved, hpin, fun b hb => .inl (qaA.2 ((qaA.1 hb).imp id (hs5 b))), ob, Li5, rfl, hN5⟩
def Action.markN (k : Int) (x : Action) : Action := ⟨k, Lever.marks (k + 1) x.levers.length, k + 1 + 2 * x.levers.length, k + 1 + 2 * x.levers.length + 1⟩
def Action.cnt (x : Action) : Nat := 3 + 2 * x.levers.length
noncomputable def qot : Code := match Tryz.f93.body with
 | some (.seq _ (.seq (.seq _ (.block _ (.loop c))) _)) => c
 | _ => .skip
set_option maxHeartbeats 4000000 in
theorem qjd (l : List Action) (k : Int) (hk : 0 ≤ k) (hb : k + ((l.map Action.cnt).sum : Nat) ≤ 1000000000) {x : Ctx} {LO : List Pind} {Q : Exit → Act → World → Prop}
   (hex : ∀ a w A m Li, NestI 2 Action.inn (qap Action.markN Action.cnt k l) Li → (∀ b, pindB Li b → pindB LO b) → InvP x 41 ⟨[(0, .sf 0 4), (1, .int .i64 (k + (((l.map Action.cnt).sum : Nat) : Int))), (5, .int .i64 l.length), (41, .own 0)], [some (.arr 4 (rowsN Action.rw (qap Action.markN Action.cnt k l) Li))]⟩ a w A m Li → Q (.exit 0) a w) :
   ∀ (kf i : Nat) (a : Act) (w : World) (A : Nat → Prop) (m : OMap) (Li : List Pind), l.length < kf + i → i ≤ l.length → NestI 2 Action.inn (qaR Action.markN Action.cnt k l i) Li → (∀ b, pindB Li b → pindB LO b) → InvP x 41 ⟨[(0, .sf 0 4), (1, .int .i64 (k + ((sumT Action.cnt l i : Nat) : Int))), (5, .int .i64 i), (41, .own 0)], [some (.arr 4 (rowsN Action.rw (qaR Action.markN Action.cnt k l i) Li))]⟩ a w A m Li → Code.rounds Tryz.prog qot Q kf a w
 | 0, i, a, w, A, m, Li, hkf, hi, _, _, _ => absurd hkf (by omega)
 | kf + 1, i, a, w, A, m, Li, hkf, hi, hN, hLO, hI => by
   have hlen : l.length ≤ 1000000000 := by
     have h1 := qcZ Action.cnt l fun x => by unfold Action.cnt; omega
     omega
   rw [rounds_succ]
   obtain ⟨X, hX, hXl⟩ : ∃ X, rowsN Action.rw (qaR Action.markN Action.cnt k l i) Li = X ∧ X.length = l.length := ⟨_, rfl, by rw [qbi hN.len, qdn]⟩
   rw [hX] at hI
   refine wp_seq (wp_seq ?_)
   refine qae hm (S1 := ⟨[(9, .bool (decide (i < l.length))), (0, .sf 0 4), (1, .int .i64 (k + ((sumT Action.cnt l i : Nat) : Int))), (5, .int .i64 i), (41, .own 0)], [some (.arr 4 X)]⟩) (by kernel_rfl) hI ?_ fun a1 w1 A1 m1 hI1 => ?_
   · simp [hXl]
     exact Wk.weak (ρ := [0]) (φ := []) (by simp)
   refine wp_cond_split (t := decide (i < l.length)) (qcY hI1.inv rfl (by decide)) (fun ht => wp_skip ?_) fun ht => wp_exit ?_
   rotate_left
   · have hil : i = l.length := by have := of_decide_eq_false ht; omega
     subst hil
     rw [qfC] at hN hX
     rw [← hX, qbS] at hI1
     exact hex a1 w1 A1 m1 Li hN hLO (hI1.frame fun t => by
       by_cases e : t = 9
       · subst e; exact .inl rfl
       · exact .inr (by show _ = (bif 9 == t then _ else _); rw [show (9 == t) = false by simpa using fun h => e h.symm]; rfl))
   have hi' : i < l.length := of_decide_eq_true ht
   have hk2 : k + ((sumT Action.cnt l (i + 1) : Nat) : Int) ≤ 1000000000 := by
     have := qbU Action.cnt l (i + 1)
     omega
   have hk1 := qbT Action.cnt hi'
   have hnx := qfD (f := Action.markN) (cnt := Action.cnt) (k := k) hi'
   obtain ⟨kk, hkk⟩ : ∃ kk : Int, kk = k + ((sumT Action.cnt l i : Nat) : Int) := ⟨_, rfl⟩
   have hkN : kk + ((Action.cnt l[i] : Nat) : Int) = k + ((sumT Action.cnt l (i + 1) : Nat) : Int) := by omega
   rw [← hkk] at hI1 hnx
   have hk0 : 0 ≤ kk := by omega
   have hkb : kk + ((Action.cnt l[i] : Nat) : Int) ≤ 1000000000 := by omega
   obtain ⟨p, hpi⟩ : ∃ p, Li[i]? = some p := ⟨_, List.getElem?_eq_getElem (by rw [hN.len, qdn]; exact hi')⟩
   obtain ⟨hpz, hpr⟩ := hN.at_ i _ p (qdo hi') hpi
   obtain ⟨pz, pr, u, ob⟩ := p
   simp only at hpz hpr
   subst hpz
   subst hpr
   have hset := hN.set (rw := Action.rw) (i := i) (x := Action.markN kk l[i]) (p := ⟨2, Action.inn (Action.markN kk l[i]), u, ob⟩) rfl rfl
   rw [hX, hnx] at hset
   have hXg : ∀ h, X[i]'h = Action.rw l[i] u := fun h => by
     have h1 : X[i]? = some (Action.rw l[i] u) := by rw [← hX, rowsN, List.getElem?_zipWith, qdo hi', hpi]
     rw [List.getElem?_eq_getElem h] at h1
     exact Option.some.inj h1
   have eL : Li.take i ++ ([⟨2, Action.inn l[i], u, ob⟩] ++ Li.drop (i + 1)) = Li := by
     have h1 := (List.getElem?_eq_some_iff.1 hpi)
     obtain ⟨h1, h2⟩ := h1
     rw [← h2, List.singleton_append, ← List.drop_eq_getElem_cons h1, List.take_append_drop]
   have eS : Li.take i ++ ([⟨2, Action.inn (Action.markN kk l[i]), u, ob⟩] ++ Li.drop (i + 1)) = Li.set i ⟨2, Action.inn (Action.markN kk l[i]), u, ob⟩ := by
     rw [List.set_eq_take_append_cons_drop, if_pos (List.getElem?_eq_some_iff.1 hpi).1, List.singleton_append]
   rw [← eL] at hI1
   rw [show Action.cnt l[i] = 3 + 2 * l[i].levers.length from rfl] at hkb hkN
   replace hI1 := hI1.frame (fr' := [(0, .sf 0 4), (1, .int .i64 (kk)), (5, .int .i64 i), (41, .own 0)]) fun t => by
       by_cases e : t = 9
       · subst e; exact .inl rfl
       · exact .inr (by show _ = (bif 9 == t then _ else _); rw [show (9 == t) = false by simpa using fun h => e h.symm]; rfl)
   refine wp_seq (wp_block ?_)
   refine wp_seq ?_
   refine qae hm (S1 := ⟨[(0, .sf 0 4), (1, .int .i64 (kk)), (5, .int .i64 i), (41, .own 0)], [some (.arr 4 (X.set i [.int .i64 (kk), .raw u, .int .i64 l[i].slack, .int .i64 l[i].weight]))]⟩) (by kernel_rfl) hI1 ?_ fun a2 w2 A2 m2 hI2 => ?_
   · simp [hXl, hXg, hi', Action.rw]
     exact Wk.weak (ρ := [0]) (φ := []) (by simp)
   refine wp_seq ?_
   refine qae hm (S1 := ⟨[(0, .sf 0 4), (1, .int .i64 (kk + 1)), (5, .int .i64 i), (41, .own 0)], [some (.arr 4 (X.set i [.int .i64 (kk), .raw u, .int .i64 l[i].slack, .int .i64 l[i].weight]))]⟩) (by kernel_rfl) hI2 ?_ fun a3 w3 A3 m3 hI3 => ?_
   · simp
     refine Wk.weak (ρ := [0]) (φ := []) ?_
     simp
     exact w64 (by omega) (by omega)
   refine wp_seq ?_
   refine markP (t := 23) (t' := 24) (d := 25) (pv := .raw u) (k := kk + 1) (k' := kk + 1 + 2 * l[i].levers.length) (R := fun L' => L' = [⟨2, Lever.rows (Lever.marks (kk + 1) l[i].levers.length), u, ob⟩]) (S1 := ⟨[(23, .raw u), (24, .int .i64 (kk + 1)), (0, .sf 0 4), (1, .int .i64 (kk + 1)), (5, .int .i64 i), (41, .own 0)], [some (.arr 4 (X.set i [.int .i64 (kk), .raw u, .int .i64 l[i].slack, .int .i64 l[i].weight]))]⟩) (S2 := ⟨[(0, .sf 0 4), (1, .int .i64 (kk + 1 + 2 * l[i].levers.length)), (5, .int .i64 i), (41, .own 0)], [some (.arr 4 (X.set i [.int .i64 (kk), .raw u, .int .i64 l[i].slack, .int .i64 l[i].weight]))]⟩) 6 (by kernel_rfl) hI3 rfl rfl rfl rfl (by decide) (by decide) (by decide) (fun v hv => ?_) (fun hr => qbr rfl hr) rfl rfl ?_ ?_ fun L' a4 w4 A4 m4 hL' hI4 => ?_
   · obtain rfl : v = u := by
       have := hv noB default
       cases this
       rfl
     exact NMark.flat (qnn l[i].levers (kk + 1) (by omega) (by omega)) (by simp [Lever.rows, Lever.marks, Action.inn]) (qba (Lever.flat _))
   · simp [hXl, hi']
     exact Wk.weak (ρ := [0]) (φ := []) (by simp)
   · simp
     exact Wk.weak (ρ := [0]) (φ := []) (by simp)
   subst hL'
   refine wp_seq ?_
   refine qae hm (S1 := ⟨[(0, .sf 0 4), (1, .int .i64 (kk + 1 + 2 * l[i].levers.length)), (5, .int .i64 i), (41, .own 0)], [some (.arr 4 (X.set i [.int .i64 (kk), .raw u, .int .i64 (kk + 1 + 2 * l[i].levers.length), .int .i64 l[i].weight]))]⟩) (by kernel_rfl) hI4 ?_ fun a5 w5 A5 m5 hI5 => ?_
   · simp [hXl, hi']
     exact Wk.weak (ρ := [0]) (φ := []) (by simp)
   refine wp_seq ?_
   refine qae hm (S1 := ⟨[(0, .sf 0 4), (1, .int .i64 (kk + 1 + 2 * l[i].levers.length + 1)), (5, .int .i64 i), (41, .own 0)], [some (.arr 4 (X.set i [.int .i64 (kk), .raw u, .int .i64 (kk + 1 + 2 * l[i].levers.length), .int .i64 l[i].weight]))]⟩) (by kernel_rfl) hI5 ?_ fun a6 w6 A6 m6 hI6 => ?_
   · simp
     refine Wk.weak (ρ := [0]) (φ := []) ?_
     simp
     exact w64 (by omega) (by omega)
   refine wp_seq ?_
   refine qae hm (S1 := ⟨[(0, .sf 0 4), (1, .int .i64 (kk + 1 + 2 * l[i].levers.length + 1)), (5, .int .i64 i), (41, .own 0)], [some (.arr 4 (X.set i [.int .i64 (kk), .raw u, .int .i64 (kk + 1 + 2 * l[i].levers.length), .int .i64 (kk + 1 + 2 * l[i].levers.length + 1)]))]⟩) (by kernel_rfl) hI6 ?_ fun a7 w7 A7 m7 hI7 => ?_
   · simp [hXl, hi']
     exact Wk.weak (ρ := [0]) (φ := []) (by simp)
   refine wp_mono (qaB hm _ _ (thenQ (fun S' => Weak S' ⟨[(0, .sf 0 4), (1, .int .i64 (kk + 1 + 2 * l[i].levers.length + 1 + 1)), (5, .int .i64 i), (41, .own 0)], [some (.arr 4 (X.set i [.int .i64 (kk), .raw u, .int .i64 (kk + 1 + 2 * l[i].levers.length), .int .i64 (kk + 1 + 2 * l[i].levers.length + 1)]))]⟩) fun _ _ => False) (by kernel_rfl) ?_ _ _ _ _ _ hI7.inv.rebase) fun e a8 w8 ⟨S8, A8, m8, hq8, hJ8⟩ => ?_
   · simp
     refine Wk.weak (ρ := [0]) (φ := []) ?_
     simp
     exact w64 (by omega) (by omega)
   obtain ⟨e0, hI8⟩ : e = .normal ∧ ∃ A' m', InvP x 41 ⟨[(0, .sf 0 4), (1, .int .i64 (kk + 1 + 2 * l[i].levers.length + 1 + 1)), (5, .int .i64 i), (41, .own 0)], [some (.arr 4 (X.set i [.int .i64 (kk), .raw u, .int .i64 (kk + 1 + 2 * l[i].levers.length), .int .i64 (kk + 1 + 2 * l[i].levers.length + 1)]))]⟩ a8 w8 A' m' (Li.take i ++ ([(⟨2, Lever.rows (Lever.marks (kk + 1) l[i].levers.length), u, ob⟩ : Pind)] ++ Li.drop (i + 1))) := by
     cases e with
     | normal =>
       obtain ⟨A', m', hI'⟩ := hq8 _ _ _ _ _ _ hJ8
       exact ⟨rfl, A', m', hI7.step hI'⟩
     | _ => exact hq8.elim
   subst e0
   obtain ⟨A8, m8, hI8⟩ := hI8
   simp only [Exit.inBlock]
   show Code.wp _ _ _ _ _
   refine wp_mono (qaB hm _ _ (thenQ (fun S' => Weak S' ⟨[(0, .sf 0 4), (1, .int .i64 (kk + 1 + 2 * l[i].levers.length + 1 + 1)), (5, .int .i64 (i + 1)), (41, .own 0)], [some (.arr 4 (X.set i [.int .i64 (kk), .raw u, .int .i64 (kk + 1 + 2 * l[i].levers.length), .int .i64 (kk + 1 + 2 * l[i].levers.length + 1)]))]⟩) fun _ _ => False) (by kernel_rfl) ?_ _ _ _ _ _ hI8.inv.rebase) fun e a9 w9 ⟨S9, A9, m9, hq9, hJ9⟩ => ?_
   · simp
     refine Wk.weak (ρ := [0]) (φ := []) ?_
     simp
     exact w64 (by omega) (by omega)
   cases e with
   | normal =>
     obtain ⟨A', m', hI'⟩ := hq9 _ _ _ _ _ _ hJ9
     have hF := hI8.step hI'
     have eR : Action.rw (Action.markN kk l[i]) u = [.int .i64 (kk), .raw u, .int .i64 (kk + 1 + 2 * l[i].levers.length), .int .i64 (kk + 1 + 2 * l[i].levers.length + 1)] := rfl
     have eI : Action.inn (Action.markN kk l[i]) = Lever.rows (Lever.marks (kk + 1) l[i].levers.length) := rfl
     rw [eR] at hset
     rw [← hset.2, ← eI, eS, show kk + 1 + 2 * l[i].levers.length + 1 + 1 = k + ((sumT Action.cnt l (i + 1) : Nat) : Int) by omega] at hF
     refine qjd l k hk hb hex kf (i + 1) _ _ _ _ _ (by omega) (by omega) hset.1 (fun b hbb => hLO b ?_) hF
     rw [← eS] at hbb
     rw [← eL]
     refine qao.2 ((qao.1 hbb).imp id fun h => qao.2 ((qao.1 h).imp (fun h => ?_) id))
     obtain ⟨q, hq, e⟩ := h
     simp only [List.mem_singleton] at hq
     subst hq
     exact ⟨_, List.mem_singleton_self _, e⟩
   | _ => exact hq9.elim
set_option maxHeartbeats 1000000 in
theorem qou (l : List Action) (k : Int) (hk : 0 ≤ k) (hb : k + ((l.map Action.cnt).sum : Nat) ≤ 1000000000) {v : Value} {L : List Pind} (hN : Nest 4 2 Action.rw Action.inn l v L) : NMark Tryz.prog 93 v k (k + ((l.map Action.cnt).sum : Nat)) L fun L' => Nest 4 2 Action.rw Action.inn (qap Action.markN Action.cnt k l) v L' := fun A w hA hL hd => by
 obtain ⟨ob, Li, rfl, hNI⟩ := hN
 have hlen : l.length ≤ 1000000000 := by
   have h1 := qcZ Action.cnt l fun x => by unfold Action.cnt; omega
   omega
 refine (qcn (args := [.raw v, .int .i64 k]) (M := pindB (⟨4, rowsN Action.rw l Li, v, ob⟩ :: Li)) (gh := fun _ => ownV ob (capV v)) (R := fun r w' => r = .int .i64 (k + ((l.map Action.cnt).sum : Nat)) ∧ ∃ L', Moved (pindB (⟨4, rowsN Action.rw l Li, v, ob⟩ :: Li)) w w' ∧ Pinds w' L' ∧ (∀ b, pindB L' b → pindB (⟨4, rowsN Action.rw l Li, v, ob⟩ :: Li) b ∨ w.heap.size ≤ b) ∧ Nest 4 2 Action.rw Action.inn (qap Action.markN Action.cnt k l) v L') Tryz.func93 (by kernel_rfl) rfl (by kernel_rfl) (by kernel_rfl) hA rfl (fun i p hi => ?_) fun a hI => ?_).mono fun e w' ⟨r, he, hr, h1⟩ => ⟨by rw [he, hr], h1⟩
 · match i with
   | 0 => cases hi; exact .raw _
   | 1 => cases hi; exact .int _ _
   | i + 2 => simp at hi
 have hP : InvP ⟨w, A, pindB (⟨4, rowsN Action.rw l Li, v, ob⟩ :: Li), fun _ => ownV ob (capV v)⟩ 41 ⟨[(0, .raw v), (1, .int .i64 k)], []⟩ a w A noM (⟨4, rowsN Action.rw l Li, v, ob⟩ :: Li) := ⟨hI, hL, fun b hb => ⟨hd b hb, fun ⟨k, o, C, hk, _⟩ => by simp [getO] at hk, .inl hb⟩⟩
 obtain ⟨ho, hop⟩ := hL.at_ _ (List.mem_cons_self ..)
 have h0 := qfw hP.inv (t := 0) rfl
 obtain ⟨m1, hP1, hr1, hr2⟩ := hP.adopt
 have hP2 := (hP1.know (d := 0) (p := .sf 0 4) (by rw [h0]; exact hr1)).know (d := 41) (p := .own 0) (by rw [show Go.Ab.look ⟨w, A, pindB (⟨4, rowsN Action.rw l Li, v, ob⟩ :: Li), fun _ => ownV ob (capV v)⟩ 41 a 41 = ownV ob (capV v) from rfl]; exact hr2)
 refine wp_seq ?_
 refine qae hm (S1 := ⟨[(0, .sf 0 4), (1, .int .i64 k), (41, .own 0)], [some (.arr 4 (rowsN Action.rw l Li))]⟩) (by kernel_rfl) hP2 ?_ fun a3 w3 A3 m3 hI3 => ?_
 · simp
   exact Wk.weak (ρ := [0]) (φ := []) (by simp)
 refine wp_seq (wp_seq ?_)
 refine qae hm (S1 := ⟨[(0, .sf 0 4), (1, .int .i64 k), (5, .int .i64 0), (41, .own 0)], [some (.arr 4 (rowsN Action.rw l Li))]⟩) (by kernel_rfl) hI3 ?_ fun a4 w4 A4 m4 hI4 => ?_
 · simp
   exact Wk.weak (ρ := [0]) (φ := []) (by simp)
 refine wp_block (wp_loop_rounds (l.length + 1) (qjd l k hk hb (LO := Li) (fun a5 w5 A5 m5 Li5 hN5 hs5 hI5 => ?_) _ 0 _ _ _ _ Li (by omega) (by omega) (by rw [qdm]; exact hNI) (fun b hb => hb) (by simpa [qaV, qdm] using hI4)))
 simp only [Exit.inBlock, if_true]
 show Code.wp _ _ _ _ _
 refine wp_seq ?_
 refine qae hm (S1 := ⟨[(4, .int .i64 (k + ((l.map Action.cnt).sum : Nat))), (41, .own 0)], [some (.arr 4 (rowsN Action.rw (qap Action.markN Action.cnt k l) Li5))]⟩) (by kernel_rfl) hI5 ?_ fun a6 w6 A6 m6 hI6 => ?_
 · simp
   exact Wk.weak (ρ := [0]) (φ := []) (by simp)
 refine wp_ret ⟨.inr rfl, _, _, _, hI6.inv, ⟨trivial, trivial⟩, fun r hr => ?_⟩
 have hr' : r = .int .i64 (k + ((l.map Action.cnt).sum : Nat)) := by
   change RepO _ _ _ _ (.int .i64 (k + ((l.map Action.cnt).sum : Nat))) r at hr
   cases hr with
   | imm hi => cases hi; rfl
 have hpin := hI6.home (t := 41) (k := 0) (v := v) (ob := ob) (rows := rowsN Action.rw l Li) rfl rfl rfl ho (by rw [qbi hN5.len, qc0, qbi hNI.len]) (qdl Action.rw_pure _ _)
 exact ⟨hr', _, hI6.inv.moved, hpin, fun b hb => .inl (qaA.2 ((qaA.1 hb).imp id (hs5 b))), ob, Li5, rfl, hN5⟩
end Go.Proofs.YtcjpfjklhhclmaaGreatDoor
