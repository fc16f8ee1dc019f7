/- Contracts: the audit of a carillon. No condition. -/
import Derived.Test.YtdnflnpihcghcaaGreatDoorBm
import Derived.Test.YtdnflnpihcghcaaGreatDoorBp
namespace Go.Proofs.YtdnflnpihcghcaaGreatDoor
open Go Go.Ab
set_option maxRecDepth 100000

def catTo (g : Nat → List Trouble) (i : Nat) : List Trouble := ((List.range i).map g).flatten
theorem catTo_succ (g : Nat → List Trouble) (i : Nat) : catTo g (i + 1) = catTo g i ++ g i := by
  unfold catTo
  rw [List.range_succ]
  simp
theorem catTo_le {g : Nat → List Trouble} (hg : ∀ k, (g k).length ≤ 2000) (i : Nat) : (catTo g i).length ≤ 2000 * i := by
  induction i with
  | zero => simp [catTo]
  | succ i ih =>
    rw [catTo_succ, List.length_append]
    have := hg i
    omega
def auR (c : Carillon) (L : List Trouble) : List Trouble := if carOk c = true then L else []
def auC (c : Carillon) : Int := if carOk c = true then 0 else 1
set_option maxHeartbeats 4000000 in
theorem c_audited (c : Carillon) (hs : c.small) (fs : List Nat) (g : Nat → List Trouble) (hn : fs.length ≤ 4) (hg : ∀ k, (g k).length ≤ 2000)
    (hf : CarOk c → ∀ k (h : k < fs.length), HFn Tryz.prog fs[k] [.agg c.cells] [] (.sf 0 3) [trO (g k)]) :
    HFn Tryz.prog 73 [.agg c.cells, .sl 1 (fnRows fs)] [] (.tup [.sf 0 3, .int .i64 (auC c)]) [trO (auR c (catTo g fs.length))] := by
  have kV := c_impl_ValidCarillon c hs
  simp only [Carillon.cells] at kV
  refine hfn_intro hm Tryz.func73 (by kernel_rfl) rfl (by kernel_rfl) rfl (fun _ _ h => h) ?_
  simp [Carillon.cells]
  refine CallZ.use0 kV rfl rfl ?_
  cases hv : carOk c
  · simp
    refine (weak_nilT (t := 0) 0 3 rfl rfl).trans (Wk.weak (ρ := [1]) (φ := []) ?_)
    simp [auR, auC, hv, Trouble.rows]
  · have hc := carOk_iff hs hv
    have kF := hf hc
    simp only [Carillon.cells] at kF
    simp [fnRows_len]
    refine loop_upto hm fs.length (fun i => ⟨[(2, .pb 0 0), (6, .sf 1 3), (12, .sl 1 (fnRows fs)), (13, .int .i64 fs.length), (14, .int .i64 i)], [some (.box c.cells), trO (catTo g i)]⟩) (fun _ => True) (by kernel_rfl) ?_ trivial (fun i hi _ => ?_) (fun _ => ?_)
    · exact (weak_nil (t := 6) (z := 3) rfl).trans (Wk.weak (ρ := [0, 1]) (φ := []) (by simp [Carillon.cells, catTo, Trouble.rows]))
    · have w1 : IntKind.i64.wrap ((i : Int) + 1) = (i : Int) + 1 := w64 (by omega) (by omega)
      have hle := catTo_le hg i
      have hgi := hg i
      rw [catTo_succ]
      generalize catTo g i = T at hle ⊢
      simp [Carillon.cells, fnRows, hi]
      refine CallZ.use (kF i hi) rfl (.inr ⟨Trouble.flat _, trivial⟩) rfl rfl ?_
      generalize g i = G at hgi ⊢
      simp [Trouble.rows_len]
      refine ⟨Trouble.one _, by omega, by omega, Wk.weak (ρ := [0, 1]) (φ := []) ?_⟩
      simp [w1, tr_app]
    · simp
      refine Wk.weak (ρ := [1]) (φ := []) ?_
      simp [auR, auC, hv]
theorem metalL_le {c : Carillon} (hc : CarOk c) : (metalL c).length ≤ 2000 := by
  have h1 := metal_le c c.hung.length
  have h2 := hc.hl
  unfold metalL
  omega
theorem roomL_le {c : Carillon} (hc : CarOk c) : (roomL c).length ≤ 2000 := by
  have h1 := upTo_le (missAt_le c.places) c.hung c.hung.length
  have h2 := hc.hl
  have hp := places_len hc.plac
  have hol : (outsL c).length ≤ 24 := Nat.le_trans (outTo_le _ _ _ _) hp
  have hcl : (clashesL c).length ≤ 576 := Nat.le_trans (clashTo_le _ _ _) (Nat.mul_le_mul hp hp)
  unfold roomL
  rw [List.length_append, List.length_append, List.length_map, List.length_map]
  omega
theorem towerL_le {c : Carillon} (hc : CarOk c) : (towerL c).length ≤ 2000 := by
  have h1 := tower_le c c.frame.length
  have h2 := (frame_in hc.fram).1
  unfold towerL
  omega
theorem musicL_le {c : Carillon} (hc : CarOk c) : (musicL c).length ≤ 2000 := by
  have h1 := upTo_le (musicAt_le c) (notesL c.tune) (notesL c.tune).length
  have h2 := (notesL_in hc.tune).1
  unfold musicL
  omega
/-- Part k of the audit. -/
def partL (c : Carillon) (k : Nat) : List Trouble := if carOk c = true then (if k = 0 then metalL c else if k = 1 then roomL c else if k = 2 then towerL c else musicL c) else []
theorem partL_le {c : Carillon} (hs : c.small) (k : Nat) : (partL c k).length ≤ 2000 := by
  unfold partL
  split
  · rename_i hv
    have hc := carOk_iff hs hv
    split
    · exact metalL_le hc
    · split
      · exact roomL_le hc
      · split
        · exact towerL_le hc
        · exact musicL_le hc
  · simp
def allL (c : Carillon) : List Trouble := metalL c ++ roomL c ++ towerL c ++ musicL c
theorem c_impl_AuditCarillon (c : Carillon) (hs : c.small) : HFn Tryz.prog 30 [.agg c.cells] [] (.tup [.sf 0 3, .int .i64 (auC c)]) [trO (auR c (allL c))] := by
  have k := c_audited c hs [74, 75, 76, 77] (partL c) (by decide) (partL_le hs) (fun hc k hk => by
    have hv : carOk c = true := by simp [carOk, hc.ing, hc.mel, hc.bel, hc.hung, hc.cham, hc.plac, hc.gap, hc.tow, hc.fram, hc.stress, hc.bend, hc.clav, hc.tune]
    match k, hk with
    | 0, _ => simpa [partL, hv] using c_metalTroubles c hc
    | 1, _ => simpa [partL, hv] using c_roomTroubles c hc
    | 2, _ => simpa [partL, hv] using c_towerTroubles c hc
    | 3, _ => simpa [partL, hv] using c_musicTroubles c hc)
  have e : auR c (catTo (partL c) 4) = auR c (allL c) := by
    unfold auR catTo allL partL
    cases hv : carOk c <;> simp [List.range_succ]
  simp only [List.length_cons, List.length_nil, Nat.zero_add, Nat.reduceAdd] at k
  rw [e] at k
  simp only [Carillon.cells, fnRows, List.map_cons, List.map_nil] at k
  refine hfn_introL [1] hm Tryz.func30 (by kernel_rfl) rfl (by kernel_rfl) rfl (fun _ _ h => h) ?_
  simp [Carillon.cells]
  refine ends_fns (fs := [74, 75, 76, 77]) 1 (by kernel_rfl) rfl rfl rfl (by simp) (by simp) ?_
  simp [fnRows]
  refine CallZ.use k rfl (.inr ⟨Trouble.flat _, trivial⟩) rfl rfl ?_
  simp
  exact Wk.weak (ρ := [1]) (φ := []) (by simp)
def passB (c : Carillon) : Bool := carOk c && decide (allL c = [])
theorem c_impl_PassesAudit (c : Carillon) (hs : c.small) : HFn Tryz.prog 7 [.agg c.cells] [] (.bool (passB c)) [] := by
  have k := c_impl_AuditCarillon c hs
  simp only [Carillon.cells] at k
  refine hfn_intro hm Tryz.func7 (by kernel_rfl) rfl (by kernel_rfl) rfl ret0_ok ?_
  simp [Carillon.cells]
  refine CallZ.use k rfl (.inr ⟨Trouble.flat _, trivial⟩) rfl rfl ?_
  simp [Trouble.rows_len]
  cases hv : carOk c <;> simp [passB, auR, auC, hv]

/-! ### The reference's side -/
theorem all_le {c : Carillon} (hc : CarOk c) : (metalL c ++ roomL c).length ≤ 4000 ∧ (metalL c ++ roomL c ++ towerL c).length ≤ 6000 ∧ (allL c).length ≤ 8000 := by
  have h1 := metalL_le hc
  have h2 := roomL_le hc
  have h3 := towerL_le hc
  have h4 := musicL_le hc
  unfold allL
  simp only [List.length_append]
  omega
set_option maxHeartbeats 4000000 in
theorem c_l31All (c : Carillon) (tl : List PV) (w : Nat) (rows : List (List PV)) (i0 : Nat) (hr : rows[i0]? = some (c.cells ++ tl)) (hc : CarOk c) : HFn Tryz.prog 19 [.pe (w + 20) rows i0 0] [] (.sf 0 3) [trO (allL c)] := by
  obtain ⟨h1, h2, h3⟩ := all_le hc
  have m1 := metalL_le hc
  have m2 := roomL_le hc
  have m3 := towerL_le hc
  have m4 := musicL_le hc
  have k1 := c_l31Metal c tl w rows i0 hr hc
  have k2 := c_l31Room c tl w rows i0 hr hc
  have k3 := c_l31Tower c tl w rows i0 hr hc
  have k4 := c_l31Music c tl w rows i0 hr hc
  refine hfn_intro hm Tryz.func19 (by kernel_rfl) rfl (by kernel_rfl) rfl (fun _ _ h => h) ?_
  unfold allL at h3 ⊢
  generalize metalL c = A at *
  generalize roomL c = B at *
  generalize towerL c = C at *
  generalize musicL c = D at *
  simp
  refine CallZ.use k1 rfl (.inr ⟨Trouble.flat _, trivial⟩) rfl rfl ?_
  simp [Trouble.rows_len]
  refine ⟨Trouble.one _, by omega, by omega, ?_⟩
  refine CallZ.use k2 rfl (.inr ⟨Trouble.flat _, trivial⟩) rfl rfl ?_
  simp [Trouble.rows_len]
  refine ⟨Trouble.one _, by omega, by omega, ?_⟩
  refine CallZ.use k3 rfl (.inr ⟨Trouble.flat _, trivial⟩) rfl rfl ?_
  simp [Trouble.rows_len]
  refine ⟨Trouble.one _, by omega, by omega, ?_⟩
  refine CallZ.use k4 rfl (.inr ⟨Trouble.flat _, trivial⟩) rfl rfl ?_
  simp [Trouble.rows_len]
  refine ⟨Trouble.one _, by omega, by omega, Wk.weak (ρ := [1]) (φ := []) ?_⟩
  simp [tr_app]
theorem c_spec_PassesAudit (c : Carillon) (hs : c.small) : HFn Tryz.prog 5 [.agg c.cells] [] (.bool (passB c)) [] := by
  have kO := c_l31OkC c [] 0 [c.cells] 0 (by simp) hs
  simp only [Nat.zero_add] at kO
  cases hv : carOk c
  · rw [hv] at kO
    simp only [Carillon.cells] at kO
    refine hfn_intro hm Tryz.func5 (by kernel_rfl) rfl (by kernel_rfl) rfl ret0_ok ?_
    simp [Carillon.cells]
    refine CallZ.use0 kO rfl rfl ?_
    simp [passB, hv]
    try exact CallY.use (res := .nils) (fun h => by cases h) rfl rfl (by simp)
  · have kA := c_l31All c [] 0 [c.cells] 0 (by simp) (carOk_iff hs hv)
    rw [hv] at kO
    simp only [Nat.zero_add] at kA
    simp only [Carillon.cells] at kO kA
    refine hfn_introL [1] hm Tryz.func5 (by kernel_rfl) rfl (by kernel_rfl) rfl ret0_ok ?_
    simp [Carillon.cells]
    refine ends_took 2 (by kernel_rfl) rfl rfl ?_
    simp
    refine CallZ.use0 kO rfl rfl ?_
    simp
    refine CallZ.use kA rfl (.inr ⟨Trouble.flat _, trivial⟩) rfl rfl ?_
    simp [Trouble.rows_len, passB, hv]
theorem c_law_PassesAudit (a : Carillon) (ha : a.wf) : HFn Tryz.prog 3 [.agg a.cells] [] (.bool true) [] := by
  have kA := c_szCarillon a 1048576 (by omega) ha
  have kEa := c_eqCarillon a ha
  refine hfn_intro hm Tryz.func3 (by kernel_rfl) rfl (by kernel_rfl) rfl ret0_ok ?_
  simp only [Carillon.cells] at kA kEa
  simp [Carillon.cells]
  refine CallZ.use0 kA rfl rfl ?_
  simp
  intro h1
  have h1' := szR_ge h1
  have hsm := Carillon.small_of_sz (show a.sz ≤ 1048576 by omega)
  have kTa := c_toCarillon a (by omega)
  have kS := c_spec_PassesAudit a hsm
  have kI := c_impl_PassesAudit a hsm
  simp only [Carillon.cells] at kTa kS kI
  refine CallZ.use0 kTa rfl rfl ?_
  simp
  refine CallZ.use0 kS rfl rfl ?_
  simp
  refine CallZ.use0 kTa rfl rfl ?_
  simp
  refine CallZ.use0 kI rfl rfl ?_
  simp
  refine CallZ.use0 kTa rfl rfl ?_
  simp
  refine CallZ.use0 kEa rfl rfl ?_
  simp

theorem l_FnExactPassesAudit (pargs : List PV) (h : fitsAll [.agg [.slc [.str, .int .i64, .int .i64, .int .i64, .int .i64], .slc [.str, .slc [.str], .int .i64], .slc [.str, .int .i64, .int .i64, .int .i64, .slc [.str, .int .i64]], .slc [.str, .int .i64, .int .i64, .int .i64, .int .i64], .int .i64, .int .i64, .int .i64, .slc [.str, .int .i64, .int .i64, .int .i64, .int .i64], .int .i64, .str, .int .i64, .int .i64, .int .i64, .int .i64, .slc [.str, .int .i64, .int .i64, .int .i64, .int .i64, .slc [.int .i64, .int .i64]], .int .i64, .int .i64, .slc [.int .i64, .slc [.int .i64, .int .i64], .int .i64, .int .i64], .str, .slc [.int .i64, .int .i64, .int .i64]]] pargs) : HFn Tryz.prog 3 pargs [] (.bool true) [] := by
  obtain ⟨p, q, rfl, ⟨cs, rfl, h0⟩, hz⟩ := fitsAll_cons h
  obtain rfl := fitsAll_nil hz
  obtain ⟨x, rfl, hx⟩ := Carillon.fits h0
  exact c_law_PassesAudit x hx
end Go.Proofs.YtdnflnpihcghcaaGreatDoor
