/- Contracts: the audit of a carillon. No condition. -/
import Derived.Test.YtcjpfjklhhclmaaGreatDoorBm
import Derived.Test.YtcjpfjklhhclmaaGreatDoorBp
namespace Go.Proofs.YtcjpfjklhhclmaaGreatDoor
open Go Go.Ab
set_option maxRecDepth 100000

def catTo (g : Nat → List Trouble) (i : Nat) : List Trouble := ((List.range i).map g).flatten
theorem catTo_succ (g : Nat → List Trouble) (i : Nat) : catTo g (i + 1) = catTo g i ++ g i := by
  unfold catTo
  rw [List.range_succ]
  simp
theorem catTo_le {g : Nat → List Trouble} (hg : ∀ k, (g k).length ≤ 2000) (i : Nat) : (catTo g i).length ≤ 2000 * i := by
  induction i with
  | zero => simp [catTo]
  | succ i ih =>
    rw [catTo_succ, List.length_append]
    have := hg i
    omega
def auR (c : Carillon) (L : List Trouble) : List Trouble := if carOk c = true then L else []
def auC (c : Carillon) : Int := if carOk c = true then 0 else 1
set_option maxHeartbeats 4000000 in
theorem c_audited (c : Carillon) (hs : c.small) (fs : List Nat) (g : Nat → List Trouble) (hn : fs.length ≤ 4) (hg : ∀ k, (g k).length ≤ 2000)
    (hf : CarOk c → ∀ k (h : k < fs.length), HFn Tryz.prog fs[k] [.agg c.cells] [] (.sf 0 3) [trO (g k)]) :
    HFn Tryz.prog 34 [.agg c.cells, .sl 1 (fnRows fs)] [] (.tup [.sf 0 3, .int .i64 (auC c)]) [trO (auR c (catTo g fs.length))] := by
  have kV := c_impl_ValidCarillon c hs
  simp only [Carillon.cells] at kV
  refine hfn_intro hm Tryz.func34 (by kernel_rfl) rfl (by kernel_rfl) rfl (fun _ _ h => h) ?_
  simp [Carillon.cells]
  refine CallZ.use0 kV rfl rfl ?_
  cases hv : carOk c
  · simp
    refine (weak_nilT (t := 0) 0 3 rfl rfl).trans (Wk.weak (ρ := [1]) (φ := []) ?_)
    simp [auR, auC, hv, Trouble.rows]
  · have hc := carOk_iff hs hv
    have kF := hf hc
    simp only [Carillon.cells] at kF
    simp [fnRows_len]
    refine loop_upto hm fs.length (fun i => ⟨[(2, .pb 0 0), (6, .sf 1 3), (12, .sl 1 (fnRows fs)), (13, .int .i64 fs.length), (14, .int .i64 i)], [some (.box c.cells), trO (catTo g i)]⟩) (fun _ => True) (by kernel_rfl) ?_ trivial (fun i hi _ => ?_) (fun _ => ?_)
    · exact (weak_nil (t := 6) (z := 3) rfl).trans (Wk.weak (ρ := [0, 1]) (φ := []) (by simp [Carillon.cells, catTo, Trouble.rows]))
    · have w1 : IntKind.i64.wrap ((i : Int) + 1) = (i : Int) + 1 := w64 (by omega) (by omega)
      have hle := catTo_le hg i
      have hgi := hg i
      rw [catTo_succ]
      generalize catTo g i = T at hle ⊢
      simp [Carillon.cells, fnRows, hi]
      refine CallZ.use (kF i hi) rfl (.inr ⟨Trouble.flat _, trivial⟩) rfl rfl ?_
      generalize g i = G at hgi ⊢
      simp [Trouble.rows_len]
      refine ⟨Trouble.one _, by omega, by omega, Wk.weak (ρ := [0, 1]) (φ := []) ?_⟩
      simp [w1, tr_app]
    · simp
      refine Wk.weak (ρ := [1]) (φ := []) ?_
      simp [auR, auC, hv]
theorem metalL_le {c : Carillon} (hc : CarOk c) : (metalL c).length ≤ 2000 := by
  have h1 := metal_le c c.hung.length
  have h2 := hc.hl
  unfold metalL
  omega
theorem roomL_le {c : Carillon} (hc : CarOk c) : (roomL c).length ≤ 2000 := by
  have h1 := upTo_le (missAt_le c.places) c.hung c.hung.length
  have h2 := hc.hl
  have hp := places_len hc.plac
  have hol : (outsL c).length ≤ 24 := Nat.le_trans (outTo_le _ _ _ _) hp
  have hcl : (clashesL c).length ≤ 576 := Nat.le_trans (clashTo_le _ _ _) (Nat.mul_le_mul hp hp)
  unfold roomL
  rw [List.length_append, List.length_append, List.length_map, List.length_map]
  omega
theorem towerL_le {c : Carillon} (hc : CarOk c) : (towerL c).length ≤ 2000 := by
  have h1 := tower_le c c.frame.length
  have h2 := (frame_in hc.fram).1
  unfold towerL
  omega
theorem musicL_le {c : Carillon} (hc : CarOk c) : (musicL c).length ≤ 2000 := by
  have h1 := upTo_le (musicAt_le c) (notesL c.tune) (notesL c.tune).length
  have h2 := (notesL_in hc.tune).1
  unfold musicL
  omega
/-- Part k of the audit. -/
def partL (c : Carillon) (k : Nat) : List Trouble := if carOk c = true then (if k = 0 then metalL c else if k = 1 then roomL c else if k = 2 then towerL c else musicL c) else []
theorem partL_le {c : Carillon} (hs : c.small) (k : Nat) : (partL c k).length ≤ 2000 := by
  unfold partL
  split
  · rename_i hv
    have hc := carOk_iff hs hv
    split
    · exact metalL_le hc
    · split
      · exact roomL_le hc
      · split
        · exact towerL_le hc
        · exact musicL_le hc
  · simp
def allL (c : Carillon) : List Trouble := metalL c ++ roomL c ++ towerL c ++ musicL c
theorem c_impl_MetalTroubles (c : Carillon) (hs : c.small) : HFn Tryz.prog 16 [.agg c.cells] [] (.tup [.sf 0 3, .int .i64 (auC c)]) [trO (auR c (metalL c))] := by
  have k := c_audited c hs [35] (fun _ => if carOk c = true then metalL c else []) (by decide) (fun _ => by
    split
    · rename_i hv; exact metalL_le (carOk_iff hs hv)
    · simp) (fun hc k hk => by
    have hv : carOk c = true := by simp [carOk, hc.ing, hc.mel, hc.bel, hc.hung, hc.cham, hc.plac, hc.gap, hc.tow, hc.fram, hc.stress, hc.bend, hc.clav, hc.tune]
    match k, hk with
    | 0, _ => simpa [hv] using c_metalTroubles c hc)
  have e : auR c (catTo (fun _ => if carOk c = true then metalL c else []) 1) = auR c (metalL c) := by
    unfold auR catTo
    cases hv : carOk c <;> simp
  simp only [List.length_cons, List.length_nil, Nat.zero_add] at k
  rw [e] at k
  simp only [Carillon.cells, fnRows, List.map_cons, List.map_nil] at k
  refine hfn_introL [1] hm Tryz.func16 (by kernel_rfl) rfl (by kernel_rfl) rfl (fun _ _ h => h) ?_
  simp [Carillon.cells]
  refine ends_fns (fs := [35]) 1 (by kernel_rfl) rfl rfl rfl (by simp) (by simp) ?_
  simp [fnRows]
  refine CallZ.use k rfl (.inr ⟨Trouble.flat _, trivial⟩) rfl rfl ?_
  simp
  exact Wk.weak (ρ := [1]) (φ := []) (by simp)
theorem c_impl_RoomTroubles (c : Carillon) (hs : c.small) : HFn Tryz.prog 17 [.agg c.cells] [] (.tup [.sf 0 3, .int .i64 (auC c)]) [trO (auR c (roomL c))] := by
  have k := c_audited c hs [36] (fun _ => if carOk c = true then roomL c else []) (by decide) (fun _ => by
    split
    · rename_i hv; exact roomL_le (carOk_iff hs hv)
    · simp) (fun hc k hk => by
    have hv : carOk c = true := by simp [carOk, hc.ing, hc.mel, hc.bel, hc.hung, hc.cham, hc.plac, hc.gap, hc.tow, hc.fram, hc.stress, hc.bend, hc.clav, hc.tune]
    match k, hk with
    | 0, _ => simpa [hv] using c_roomTroubles c hc)
  have e : auR c (catTo (fun _ => if carOk c = true then roomL c else []) 1) = auR c (roomL c) := by
    unfold auR catTo
    cases hv : carOk c <;> simp
  simp only [List.length_cons, List.length_nil, Nat.zero_add] at k
  rw [e] at k
  simp only [Carillon.cells, fnRows, List.map_cons, List.map_nil] at k
  refine hfn_introL [1] hm Tryz.func17 (by kernel_rfl) rfl (by kernel_rfl) rfl (fun _ _ h => h) ?_
  simp [Carillon.cells]
  refine ends_fns (fs := [36]) 1 (by kernel_rfl) rfl rfl rfl (by simp) (by simp) ?_
  simp [fnRows]
  refine CallZ.use k rfl (.inr ⟨Trouble.flat _, trivial⟩) rfl rfl ?_
  simp
  exact Wk.weak (ρ := [1]) (φ := []) (by simp)
theorem c_impl_TowerTroubles (c : Carillon) (hs : c.small) : HFn Tryz.prog 18 [.agg c.cells] [] (.tup [.sf 0 3, .int .i64 (auC c)]) [trO (auR c (towerL c))] := by
  have k := c_audited c hs [37] (fun _ => if carOk c = true then towerL c else []) (by decide) (fun _ => by
    split
    · rename_i hv; exact towerL_le (carOk_iff hs hv)
    · simp) (fun hc k hk => by
    have hv : carOk c = true := by simp [carOk, hc.ing, hc.mel, hc.bel, hc.hung, hc.cham, hc.plac, hc.gap, hc.tow, hc.fram, hc.stress, hc.bend, hc.clav, hc.tune]
    match k, hk with
    | 0, _ => simpa [hv] using c_towerTroubles c hc)
  have e : auR c (catTo (fun _ => if carOk c = true then towerL c else []) 1) = auR c (towerL c) := by
    unfold auR catTo
    cases hv : carOk c <;> simp
  simp only [List.length_cons, List.length_nil, Nat.zero_add] at k
  rw [e] at k
  simp only [Carillon.cells, fnRows, List.map_cons, List.map_nil] at k
  refine hfn_introL [1] hm Tryz.func18 (by kernel_rfl) rfl (by kernel_rfl) rfl (fun _ _ h => h) ?_
  simp [Carillon.cells]
  refine ends_fns (fs := [37]) 1 (by kernel_rfl) rfl rfl rfl (by simp) (by simp) ?_
  simp [fnRows]
  refine CallZ.use k rfl (.inr ⟨Trouble.flat _, trivial⟩) rfl rfl ?_
  simp
  exact Wk.weak (ρ := [1]) (φ := []) (by simp)
theorem c_impl_MusicTroubles (c : Carillon) (hs : c.small) : HFn Tryz.prog 19 [.agg c.cells] [] (.tup [.sf 0 3, .int .i64 (auC c)]) [trO (auR c (musicL c))] := by
  have k := c_audited c hs [38] (fun _ => if carOk c = true then musicL c else []) (by decide) (fun _ => by
    split
    · rename_i hv; exact musicL_le (carOk_iff hs hv)
    · simp) (fun hc k hk => by
    have hv : carOk c = true := by simp [carOk, hc.ing, hc.mel, hc.bel, hc.hung, hc.cham, hc.plac, hc.gap, hc.tow, hc.fram, hc.stress, hc.bend, hc.clav, hc.tune]
    match k, hk with
    | 0, _ => simpa [hv] using c_musicTroubles c hc)
  have e : auR c (catTo (fun _ => if carOk c = true then musicL c else []) 1) = auR c (musicL c) := by
    unfold auR catTo
    cases hv : carOk c <;> simp
  simp only [List.length_cons, List.length_nil, Nat.zero_add] at k
  rw [e] at k
  simp only [Carillon.cells, fnRows, List.map_cons, List.map_nil] at k
  refine hfn_introL [1] hm Tryz.func19 (by kernel_rfl) rfl (by kernel_rfl) rfl (fun _ _ h => h) ?_
  simp [Carillon.cells]
  refine ends_fns (fs := [38]) 1 (by kernel_rfl) rfl rfl rfl (by simp) (by simp) ?_
  simp [fnRows]
  refine CallZ.use k rfl (.inr ⟨Trouble.flat _, trivial⟩) rfl rfl ?_
  simp
  exact Wk.weak (ρ := [1]) (φ := []) (by simp)
theorem c_impl_AuditCarillon (c : Carillon) (hs : c.small) : HFn Tryz.prog 8 [.agg c.cells] [] (.tup [.sf 0 3, .int .i64 (auC c)]) [trO (auR c (allL c))] := by
  have k := c_audited c hs [35, 36, 37, 38] (partL c) (by decide) (partL_le hs) (fun hc k hk => by
    have hv : carOk c = true := by simp [carOk, hc.ing, hc.mel, hc.bel, hc.hung, hc.cham, hc.plac, hc.gap, hc.tow, hc.fram, hc.stress, hc.bend, hc.clav, hc.tune]
    match k, hk with
    | 0, _ => simpa [partL, hv] using c_metalTroubles c hc
    | 1, _ => simpa [partL, hv] using c_roomTroubles c hc
    | 2, _ => simpa [partL, hv] using c_towerTroubles c hc
    | 3, _ => simpa [partL, hv] using c_musicTroubles c hc)
  have e : auR c (catTo (partL c) 4) = auR c (allL c) := by
    unfold auR catTo allL partL
    cases hv : carOk c <;> simp [List.range_succ]
  simp only [List.length_cons, List.length_nil, Nat.zero_add, Nat.reduceAdd] at k
  rw [e] at k
  simp only [Carillon.cells, fnRows, List.map_cons, List.map_nil] at k
  refine hfn_introL [1] hm Tryz.func8 (by kernel_rfl) rfl (by kernel_rfl) rfl (fun _ _ h => h) ?_
  simp [Carillon.cells]
  refine ends_fns (fs := [35, 36, 37, 38]) 1 (by kernel_rfl) rfl rfl rfl (by simp) (by simp) ?_
  simp [fnRows]
  refine CallZ.use k rfl (.inr ⟨Trouble.flat _, trivial⟩) rfl rfl ?_
  simp
  exact Wk.weak (ρ := [1]) (φ := []) (by simp)
def passB (c : Carillon) : Bool := carOk c && decide (allL c = [])
theorem c_impl_PassesAudit (c : Carillon) (hs : c.small) : HFn Tryz.prog 7 [.agg c.cells] [] (.bool (passB c)) [] := by
  have k := c_impl_AuditCarillon c hs
  simp only [Carillon.cells] at k
  refine hfn_intro hm Tryz.func7 (by kernel_rfl) rfl (by kernel_rfl) rfl ret0_ok ?_
  simp [Carillon.cells]
  refine CallZ.use k rfl (.inr ⟨Trouble.flat _, trivial⟩) rfl rfl ?_
  simp [Trouble.rows_len]
  cases hv : carOk c <;> simp [passB, auR, auC, hv]

/-! ### The reference's side -/
theorem all_le {c : Carillon} (hc : CarOk c) : (metalL c ++ roomL c).length ≤ 4000 ∧ (metalL c ++ roomL c ++ towerL c).length ≤ 6000 ∧ (allL c).length ≤ 8000 := by
  have h1 := metalL_le hc
  have h2 := roomL_le hc
  have h3 := towerL_le hc
  have h4 := musicL_le hc
  unfold allL
  simp only [List.length_append]
  omega
end Go.Proofs.YtcjpfjklhhclmaaGreatDoor
