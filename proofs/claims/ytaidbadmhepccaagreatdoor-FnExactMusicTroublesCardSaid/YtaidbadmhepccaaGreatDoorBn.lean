/- Contracts: the audit of a carillon. No condition. -/
import Derived.Test.YtaidbadmhepccaaGreatDoorBm
import Derived.Test.YtaidbadmhepccaaGreatDoorBp
namespace Go.Proofs.YtaidbadmhepccaaGreatDoor
open Go Go.Ab
set_option maxRecDepth 100000

def catTo (g : Nat → List Trouble) (i : Nat) : List Trouble := ((List.range i).map g).flatten
theorem catTo_succ (g : Nat → List Trouble) (i : Nat) : catTo g (i + 1) = catTo g i ++ g i := by
  unfold catTo
  rw [List.range_succ]
  simp
theorem catTo_le {g : Nat → List Trouble} (hg : ∀ k, (g k).length ≤ 2000) (i : Nat) : (catTo g i).length ≤ 2000 * i := by
  induction i with
  | zero => simp [catTo]
  | succ i ih =>
    rw [catTo_succ, List.length_append]
    have := hg i
    omega
def auR (c : Carillon) (L : List Trouble) : List Trouble := if carOk c = true then L else []
def auC (c : Carillon) : Int := if carOk c = true then 0 else 1
set_option maxHeartbeats 4000000 in
theorem c_audited (c : Carillon) (hs : c.small) (fs : List Nat) (g : Nat → List Trouble) (hn : fs.length ≤ 4) (hg : ∀ k, (g k).length ≤ 2000)
    (hf : CarOk c → ∀ k (h : k < fs.length), HFn Tryz.prog fs[k] [.agg c.cells] [] (.sf 0 3) [trO (g k)]) :
    HFn Tryz.prog 39 [.agg c.cells, .sl 1 (fnRows fs)] [] (.tup [.sf 0 3, .int .i64 (auC c)]) [trO (auR c (catTo g fs.length))] := by
  have kV := c_impl_ValidCarillon c hs
  simp only [Carillon.cells] at kV
  refine hfn_intro hm Tryz.func39 (by kernel_rfl) rfl (by kernel_rfl) rfl (fun _ _ h => h) ?_
  simp [Carillon.cells]
  refine CallZ.use0 kV rfl rfl ?_
  cases hv : carOk c
  · simp
    refine (weak_nilT (t := 0) 0 3 rfl rfl).trans (Wk.weak (ρ := [1]) (φ := []) ?_)
    simp [auR, auC, hv, Trouble.rows]
  · have hc := carOk_iff hs hv
    have kF := hf hc
    simp only [Carillon.cells] at kF
    simp [fnRows_len]
    refine loop_upto hm fs.length (fun i => ⟨[(2, .pb 0 0), (6, .sf 1 3), (12, .sl 1 (fnRows fs)), (13, .int .i64 fs.length), (14, .int .i64 i)], [some (.box c.cells), trO (catTo g i)]⟩) (fun _ => True) (by kernel_rfl) ?_ trivial (fun i hi _ => ?_) (fun _ => ?_)
    · exact (weak_nil (t := 6) (z := 3) rfl).trans (Wk.weak (ρ := [0, 1]) (φ := []) (by simp [Carillon.cells, catTo, Trouble.rows]))
    · have w1 : IntKind.i64.wrap ((i : Int) + 1) = (i : Int) + 1 := w64 (by omega) (by omega)
      have hle := catTo_le hg i
      have hgi := hg i
      rw [catTo_succ]
      generalize catTo g i = T at hle ⊢
      simp [Carillon.cells, fnRows, hi]
      refine CallZ.use (kF i hi) rfl (.inr ⟨Trouble.flat _, trivial⟩) rfl rfl ?_
      generalize g i = G at hgi ⊢
      simp [Trouble.rows_len]
      refine ⟨Trouble.one _, by omega, by omega, Wk.weak (ρ := [0, 1]) (φ := []) ?_⟩
      simp [w1, tr_app]
    · simp
      refine Wk.weak (ρ := [1]) (φ := []) ?_
      simp [auR, auC, hv]
theorem musicL_le {c : Carillon} (hc : CarOk c) : (musicL c).length ≤ 2000 := by
  have h1 := upTo_le (musicAt_le c) (notesL c.tune) (notesL c.tune).length
  have h2 := (notesL_in hc.tune).1
  unfold musicL
  omega
theorem c_impl_MusicTroubles (c : Carillon) (hs : c.small) : HFn Tryz.prog 16 [.agg c.cells] [] (.tup [.sf 0 3, .int .i64 (auC c)]) [trO (auR c (musicL c))] := by
  have k := c_audited c hs [61] (fun _ => if carOk c = true then musicL c else []) (by decide) (fun _ => by
    split
    · rename_i hv; exact musicL_le (carOk_iff hs hv)
    · simp) (fun hc k hk => by
    have hv : carOk c = true := by simp [carOk, hc.ing, hc.mel, hc.bel, hc.hung, hc.cham, hc.plac, hc.gap, hc.tow, hc.fram, hc.stress, hc.bend, hc.clav, hc.tune]
    match k, hk with
    | 0, _ => simpa [hv] using c_musicTroubles c hc)
  have e : auR c (catTo (fun _ => if carOk c = true then musicL c else []) 1) = auR c (musicL c) := by
    unfold auR catTo
    cases hv : carOk c <;> simp
  simp only [List.length_cons, List.length_nil, Nat.zero_add] at k
  rw [e] at k
  simp only [Carillon.cells, fnRows, List.map_cons, List.map_nil] at k
  refine hfn_introL [1] hm Tryz.func16 (by kernel_rfl) rfl (by kernel_rfl) rfl (fun _ _ h => h) ?_
  simp [Carillon.cells]
  refine ends_fns (fs := [61]) 1 (by kernel_rfl) rfl rfl rfl (by simp) (by simp) ?_
  simp [fnRows]
  refine CallZ.use k rfl (.inr ⟨Trouble.flat _, trivial⟩) rfl rfl ?_
  simp
  exact Wk.weak (ρ := [1]) (φ := []) (by simp)
/-! ### The reference's side -/
end Go.Proofs.YtaidbadmhepccaaGreatDoor
