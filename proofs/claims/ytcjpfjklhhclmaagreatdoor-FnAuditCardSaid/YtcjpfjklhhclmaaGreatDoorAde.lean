/- Contracts: the law on what an audit finds. No condition. -/
import Derived.Test.YtcjpfjklhhclmaaGreatDoorAdd
import Derived.Test.YtcjpfjklhhclmaaGreatDoorCp
import Derived.Test.YtcjpfjklhhclmaaGreatDoorCi
namespace Go.Proofs.YtcjpfjklhhclmaaGreatDoor
open Go Go.Ab
set_option maxRecDepth 100000

/-- A trouble of a kind, its texts short. -/
def TrD (t : Trouble) : Prop := 1 ≤ t.kind ∧ t.kind ≤ 8 ∧ t.who.length + t.what.length ≤ 100
theorem name_len {s : List UInt8} (h : isName s = true) : s.length ≤ 10 := by
  simp only [isName, Bool.and_eq_true, decide_eq_true_eq] at h
  exact h.1.2
theorem upTo_mem {α : Type} {f : α → List Trouble} {l : List α} {P : Trouble → Prop} (h : ∀ x ∈ l, ∀ t ∈ f x, P t) (i : Nat) : ∀ t ∈ upTo f l i, P t := fun t ht => by
  obtain ⟨g, hg, hgt⟩ := List.mem_flatten.1 ht
  obtain ⟨x, hx, rfl⟩ := List.mem_map.1 hg
  exact h x (List.mem_of_mem_take hx) t hgt
theorem metal_fine {c : Carillon} (hc : CarOk c) : ∀ t ∈ metalL c, TrD t := fun t ht => by
  rcases List.mem_append.1 ht with h | h
  · unfold metal0 at h
    split at h
    · cases h
    · rw [List.mem_singleton.1 h]; exact ⟨by simp, by simp, by simp [txMetal, txLost]⟩
  · refine upTo_mem (fun x hx t ht => ?_) _ t h
    have hn := (hungs_mem hc.hung).2 x hx
    simp only [hungOk, Bool.and_eq_true] at hn
    have hl := name_len hn.1.1.1.1
    unfold metalAt at ht
    split at ht
    · split at ht
      · split at ht
        · rw [List.mem_singleton.1 ht]; exact ⟨by simp, by simp, by simp [txLight]; omega⟩
        · cases ht
      · cases ht
    · rw [List.mem_singleton.1 ht]; exact ⟨by simp, by simp, by simp [txUnknown]; omega⟩
theorem bellAt_len {ps : List Place} (hp : placesOk ps = true) (k : Nat) : (bellAt ps k).length ≤ 10 := by
  unfold bellAt
  split
  · rename_i p h
    have hi := (List.getElem?_eq_some_iff.1 h).1
    have := place_at hp hi
    rw [(List.getElem?_eq_some_iff.1 h).2] at this
    simp only [placeOk, Bool.and_eq_true] at this
    exact name_len this.1.1.1.1
  · simp
theorem room_fine {c : Carillon} (hc : CarOk c) : ∀ t ∈ roomL c, TrD t := fun t ht => by
  unfold roomL at ht
  rcases List.mem_append.1 ht with h | h
  · rcases List.mem_append.1 h with h | h
    · refine upTo_mem (fun x hx t ht => ?_) _ t h
      have hn := (hungs_mem hc.hung).2 x hx
      simp only [hungOk, Bool.and_eq_true] at hn
      have hl := name_len hn.1.1.1.1
      unfold missAt at ht
      split at ht
      · cases ht
      · rw [List.mem_singleton.1 ht]; exact ⟨by simp, by simp, by simp [txMissing]; omega⟩
    · obtain ⟨k, _, rfl⟩ := List.mem_map.1 h
      have := bellAt_len hc.plac k.toNat
      exact ⟨by simp [outT], by simp [outT], by simp [outT, txOutside]; omega⟩
  · obtain ⟨x, _, rfl⟩ := List.mem_map.1 h
    have h1 := bellAt_len hc.plac x.1
    have h2 := bellAt_len hc.plac x.2
    exact ⟨by simp [clashT], by simp [clashT], by simp [clashT]; omega⟩
theorem tower_fine {c : Carillon} (hc : CarOk c) : ∀ t ∈ towerL c, TrD t := fun t ht => by
  rcases List.mem_append.1 ht with h | h
  · have ht := hc.tow
    simp only [towerOk, Bool.and_eq_true] at ht
    have hl := name_len ht.1.1.1.1
    unfold tow0 at h
    split at h
    · split at h
      · cases h
      · rw [List.mem_singleton.1 h]; exact ⟨by simp, by simp, by simp [txSway]; omega⟩
    · rw [List.mem_singleton.1 h]; exact ⟨by simp, by simp, by simp [txState]; omega⟩
  · refine upTo_mem (fun x hx t ht => ?_) _ t h
    have hn : beamOk x = true := by
      have := hc.fram
      simp only [frameOk, Bool.and_eq_true] at this
      exact upOk_mem this.1 x hx
    simp only [beamOk, Bool.and_eq_true] at hn
    have hl := name_len hn.2.1.1.1.1.1
    unfold beamAt at ht
    split at ht
    · rw [List.mem_singleton.1 ht]; exact ⟨by simp, by simp, by simp [txStress]; omega⟩
    · split at ht
      · rw [List.mem_singleton.1 ht]; exact ⟨by simp, by simp, by simp [txBending]; omega⟩
      · cases ht
theorem music_fine {c : Carillon} (hc : CarOk c) : ∀ t ∈ musicL c, TrD t := fun t ht => by
  refine upTo_mem (fun n hn t ht => ?_) _ t ht
  obtain ⟨h0, h1⟩ := (notesL_in hc.tune).2 n hn
  have hl := noteT_len h0 h1
  unfold musicAt at ht
  split at ht
  · split at ht
    · cases ht
    · rw [List.mem_singleton.1 ht]; exact ⟨by simp, by simp, by simp [txKey]; omega⟩
  · rw [List.mem_singleton.1 ht]; exact ⟨by simp, by simp, by simp [txBell]; omega⟩
theorem all_fine {c : Carillon} (hc : CarOk c) : ∀ t ∈ allL c, TrD t := fun t ht => by
  unfold allL at ht
  simp only [List.mem_append] at ht
  rcases ht with ((h | h) | h) | h
  · exact metal_fine hc t h
  · exact room_fine hc t h
  · exact tower_fine hc t h
  · exact music_fine hc t h
theorem cnt_all {l : List Trouble} (h : ∀ t ∈ l, TrD t) : cntAt l l.length 0 = l.length := by
  unfold cntAt
  rw [List.take_length, List.countP_eq_length]
  intro t ht
  obtain ⟨h1, h2, _⟩ := h t ht
  simp [kindP, isKind, h1, h2]
theorem room_none {c : Carillon} (hp : c.places = []) : (roomL c).length = c.hung.length := by
  have e : ∀ l : List Hung, ((l.map (missAt [])).flatten).length = l.length := fun l => by
    induction l with
    | nil => rfl
    | cons x r ih =>
      rw [List.map_cons, List.flatten_cons, List.length_append, ih]
      simp [missAt, hasId]
      omega
  unfold roomL outsL clashesL upTo
  rw [hp, List.take_length]
  simp [outTo, clashTo, e]
set_option maxHeartbeats 16000000 in
theorem c_law_Audit (code : List Int) (hcd : ∀ c ∈ code, 0 ≤ c ∧ c < 256) (hln : code.length ≤ 9223372036854775807) : HFn Tryz.prog 4 [.sl 1 (byteRows code)] [] (.bool true) [] := by
  refine hfn_introL [19] hm Tryz.func4 (by kernel_rfl) rfl (by kernel_rfl) rfl ret0_ok ?_
  simp [byteRows_len]
  intro _
  refine CallZ.useG [] [] [] (c_R8Carillon code hcd hln) (by simp) rfl (by simp) rfl (fun x _ => ⟨rfl, rfl, rfl, .inl rfl⟩) (fun c hx => ?_)
  obtain ⟨hs, hv⟩ := hx
  have hc := carOk_iff hs hv
  have kA := c_impl_AuditCarillon c hs
  have kM := c_impl_MetalTroubles c hs
  have kR := c_impl_RoomTroubles c hs
  have kT := c_impl_TowerTroubles c hs
  have kU := c_impl_MusicTroubles c hs
  have kP := c_impl_PassesAudit c hs
  obtain ⟨a1, a2, a3⟩ := all_le hc
  have m1 := metalL_le hc
  have m2 := roomL_le hc
  have m3 := towerL_le hc
  have m4 := musicL_le hc
  have hfine := all_fine hc
  have hsum : (allL c).length = (metalL c).length + (roomL c).length + (towerL c).length + (musicL c).length := by simp [allL, Nat.add_assoc]
  have hcn := cnt_all hfine
  have hc2 : CarOk { c with places := [] } := ⟨⟨hs.ingots, hs.melts, hs.meltI, hs.bells, hs.bellS, hs.hung, by simp, hs.frame, hs.beamL, hs.clavier, hs.actL, hs.tones⟩, hc.ing, hc.mel, hc.bel, hc.hung, hc.cham, by simp [placesOk, upOk], hc.gap, hc.tow, hc.fram, hc.stress, hc.bend, hc.clav, hc.tune⟩
  have hv2 : carOk { c with places := [] } = true := by simp [carOk, hc2.ing, hc2.mel, hc2.bel, hc2.hung, hc2.cham, hc2.plac, hc2.gap, hc2.tow, hc2.fram, hc2.stress, hc2.bend, hc2.clav, hc2.tune]
  have kX := c_impl_RoomTroubles { c with places := [] } hc2.small
  have hX := room_none (c := { c with places := [] }) rfl
  have l2 := roomL_le hc2
  have eP : passB c = decide (allL c = []) := by simp [passB, hv]
  simp only [auR, auC, hv, if_true] at kA kM kR kT kU
  simp only [auR, auC, hv2, if_true] at kX
  rw [eP] at kP
  generalize roomL { c with places := [] } = X at kX hX l2
  generalize allL c = L at *
  have kC := c_impl_CountTroubles L (by omega)
  simp only [Carillon.cells] at kA kM kR kT kU kP kX
  simp [Carillon.cells]
  refine CallZ.use kA rfl (.inr ⟨Trouble.flat _, trivial⟩) rfl rfl ?_
  simp
  refine CallZ.use kM rfl (.inr ⟨Trouble.flat _, trivial⟩) rfl rfl ?_
  simp
  refine CallZ.use kR rfl (.inr ⟨Trouble.flat _, trivial⟩) rfl rfl ?_
  simp
  refine CallZ.use kT rfl (.inr ⟨Trouble.flat _, trivial⟩) rfl rfl ?_
  simp
  refine CallZ.use kU rfl (.inr ⟨Trouble.flat _, trivial⟩) rfl rfl ?_
  simp
  refine CallZ.use kC rfl (.inr ⟨flat_intRows _, trivial⟩) rfl rfl ?_
  have e9 : (cnts L L.length).length = 9 := rfl
  have e0 : (intRows (cnts L L.length))[0]'(by rw [intRows_len, e9]; decide) = [.int .i64 L.length] := by simp [intRows, cnts, hcn]
  have w1 : IntKind.i64.wrap ((metalL c).length + (roomL c).length : Int) = (metalL c).length + (roomL c).length := w64 (by omega) (by omega)
  have w2 : IntKind.i64.wrap ((metalL c).length + (roomL c).length + (towerL c).length : Int) = (metalL c).length + (roomL c).length + (towerL c).length := w64 (by omega) (by omega)
  have w3 : IntKind.i64.wrap ((metalL c).length + (roomL c).length + (towerL c).length + (musicL c).length : Int) = L.length := by rw [w64 (by omega) (by omega)]; omega
  simp [Trouble.rows_len, intRows_len, e9, e0, w1, w2, w3]
  refine CallY.use (fun _ => ⟨rfl, kP⟩) rfl rfl ?_
  have eb : decide ((L.length : Int) = 0) = decide (L = []) := decide_eq_decide.2 (by rw [Int.natCast_eq_zero]; exact List.length_eq_zero_iff)
  simp [Trouble.rows_len]
  refine loop_upto hm L.length (fun i => ⟨[(3, .pb 0 0), (4, .sf 1 3), (15, .int .i64 i)], [some (.box c.cells), trO L]⟩) (fun _ => True) (by kernel_rfl) ?_ trivial (fun i hi _ => ?_) (fun _ => ?_)
  · exact Wk.weak (ρ := [0, 1]) (φ := []) (by simp [Carillon.cells])
  · have w4 : IntKind.i64.wrap ((i : Int) + 1) = (i : Int) + 1 := w64 (by omega) (by omega)
    obtain ⟨f1, f2, f3⟩ := hfine _ (List.getElem_mem hi)
    have nN : troubleName L[i].kind ≠ [] := by
      unfold troubleName
      rw [if_pos ⟨f1, f2⟩]
      rcases cases8 f1 f2 with e | e | e | e | e | e | e | e <;> rw [e] <;> simp [troubleNames]
    have nT : troubleText L[i].kind L[i].who L[i].what ≠ [] := by
      unfold troubleText
      rw [if_pos ⟨f1, f2⟩]
      simp
    simp [Trouble.rows, Trouble.cells, hi]
    refine CallZ.use0 (c_impl_TroubleText _ _ _ (by omega)) rfl rfl ?_
    simp [Trouble.rows, Trouble.cells, hi, nT]
    refine CallY.use (fun _ => ⟨rfl, c_impl_TroubleName _⟩) rfl rfl ?_
    simp [nN]
    refine Wk.weak (ρ := [0, 1]) (φ := []) ?_
    simp [w4, Trouble.rows, Carillon.cells]
  · simp [Trouble.rows_len, Carillon.cells]
    refine ends_cut 1 (by kernel_rfl) ?_
    simp
    refine ⟨⟨[(3, .pb 0 0), (131, .agg (Carillon.cells { c with places := [] }))], [some (.box c.cells)]⟩, (weak_nilA (t := 131) 7 5 (by rfl) (by rfl)).trans (Wk.weak (ρ := [0]) (φ := [3]) (by simp [Carillon.cells, Place.rows])), ?_⟩
    simp [Carillon.cells]
    refine CallZ.use kX rfl (.inr ⟨Trouble.flat _, trivial⟩) rfl rfl ?_
    simp [Trouble.rows_len, Hung.rows_len, hX]

theorem l_FnAudit (pargs : List PV) (h : fitsAll [.one (.slc [.int .u8])] pargs) : HFn Tryz.prog 4 pargs [] (.bool true) [] := by
  obtain ⟨p0, r0, rfl, f0, z0⟩ := fitsAll_cons h
  obtain rfl := fitsAll_nil z0
  obtain ⟨rows0, rfl, g0, y0⟩ := fits_slc f0
  obtain ⟨code, rfl, wc⟩ := fits_bytes y0
  exact c_law_Audit code wc (by simpa [byteRows] using g0)
end Go.Proofs.YtcjpfjklhhclmaaGreatDoor
