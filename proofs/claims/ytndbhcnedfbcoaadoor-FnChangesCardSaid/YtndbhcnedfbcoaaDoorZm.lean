/- The law FnChanges. No condition. -/
import Derived.Test.YtndbhcnedfbcoaaDoorZi
import Derived.Test.YtndbhcnedfbcoaaDoorZl
namespace Go.Proofs.YtndbhcnedfbcoaaDoor
open Go Go.Ab
set_option maxRecDepth 100000

set_option maxHeartbeats 4000000 in
theorem c_law_FnChanges (code more : List Int) (hc : ∀ c ∈ code, 0 ≤ c ∧ c < 256) (hm' : ∀ c ∈ more, 0 ≤ c ∧ c < 256) (lc : code.length ≤ 9223372036854775807) (lm : more.length ≤ 9223372036854775807) :
    HFn Tryd.prog 3 [.sl 1 (byteRows code), .sl 1 (byteRows more)] [] (.bool true) [] := by
  refine hfn_intro hm Tryd.func3 (by kernel_rfl) rfl (by kernel_rfl) rfl ret0_ok ?_
  simp
  refine CallZ.use0 (c_r8Long code more) rfl rfl ?_
  simp
  refine fun _ _ => ?_
  refine CallZ.useG [] [] [] (c_R8Row code hc lc) (by simp) rfl (by simp) rfl (fun r _ => ⟨rfl, rfl, rfl, .inl rfl⟩) (fun r hr => ?_)
  have hr' := hr
  obtain ⟨h1, h2, h3⟩ := hr'
  simp [intRows_len]
  refine CallZ.useG [] [] [] (c_R8Change more hm' lm r.length ⟨h1, h2⟩) (by simp) rfl (by simp) rfl (fun r _ => ⟨rfl, rfl, rfl, .inl rfl⟩) (fun t ht => ?_)
  obtain ⟨t1, t2⟩ := ht
  simp
  have ht2 : t.length ≤ 1048576 := by omega
  have e1 : (3 : Int) ≤ r.length := by omega
  have e2 : (r.length : Int) ≤ 12 := by omega
  have hcg : chgOk t r.length = true := by simp [chgOk, t1, e1, e2]
  have hl := appL_len (stayL t r.length) _ 0 r (Nat.le_refl _)
  have hN : rowP (appL (stayL t r.length) 0 r) := appL_row hr
  have kA := c_impl_ApplyChange r t hr ht2 t1
  have kB := c_impl_ApplyChange (appL (stayL t r.length) 0 r) t hN ht2 (by rw [hl]; exact t1)
  rw [hl, appL_twice _ _ 0 r (Nat.le_refl _)] at kB
  have kV := c_impl_ValidChange t r.length h2 ht2
  rw [hcg] at kV
  have near := appL_near (stayL t r.length) _ 0 r (Nat.le_refl _)
  have kM := c_MethodRows1 t r.length h2 ht2 t1 (c_impl_SplitMethod t r.length ⟨h1, h2⟩ ht2 t1)
  have kL := c_impl_SplitMethod t r.length ⟨h1, h2⟩ ht2 t1
  have kR := c_impl_RoundsOf r.length ⟨h1, h2⟩
  generalize appL (stayL t r.length) 0 r = N at hl hN kA kB near
  refine CallZ.use kA rfl (.inr ⟨flat_intRows _, trivial⟩) rfl rfl ?_
  simp
  refine CallZ.use kB rfl (.inr ⟨flat_intRows _, trivial⟩) rfl rfl ?_
  simp
  refine CallZ.use0 kV rfl rfl ?_
  simp
  refine CallY.use (fun _ => ⟨rfl, c_r8Same r (by omega)⟩) rfl rfl ?_
  simp
  refine CallY.use (fun _ => ⟨rfl, c_spec_ValidRow N hN⟩) rfl rfl ?_
  simp
  refine loop_upto hm r.length (fun i => ⟨[(5, .sf 0 1), (6, .int .i64 r.length), (7, .str t), (8, .sf 1 1), (12, .int .i64 i)], [some (.arr 1 (intRows r)), some (.arr 1 (intRows N))]⟩) (fun _ => True) (by kernel_rfl) ?_ trivial (fun i hi _ => ?_) (fun _ => ?_)
  · exact Wk.weak (ρ := [0, 1]) (φ := []) (by simp)
  · have w1 : IntKind.i64.wrap ((i : Int) + 1) = (i : Int) + 1 := w64 (by omega) (by omega)
    have w3 : IntKind.i64.wrap ((r.length : Int) - 1) = (r.length : Int) - 1 := w64 (by omega) (by omega)
    have hiN : i < N.length := by omega
    have near := near i hi
    have get : ∀ k, (hk : k < r.length) → (intRows r)[k]? = some [PV.int .i64 r[k]] := fun k hk => by simp [intRows, hk]
    have near : N[i] = r[i] ∨ (0 < i ∧ ∃ hk : i - 1 < r.length, N[i] = r[i - 1]) ∨ (i + 1 < r.length ∧ ∃ hk : i + 1 < r.length, N[i] = r[i + 1]) := by
      rcases near with g | ⟨g0, g⟩ | ⟨g0, g⟩
      · rw [List.getElem?_eq_getElem hiN, List.getElem?_eq_getElem hi] at g
        exact .inl (Option.some.inj g)
      · rw [List.getElem?_eq_getElem hiN, List.getElem?_eq_getElem (by omega)] at g
        exact .inr (.inl ⟨g0, by omega, Option.some.inj g⟩)
      · rw [List.getElem?_eq_getElem hiN, List.getElem?_eq_getElem g0] at g
        exact .inr (.inr ⟨g0, g0, Option.some.inj g⟩)
    have u1 : IntKind.i64.wrap 1 = 1 := rfl
    by_cases ha : N[i] = r[i]
    · simp [hi, hiN, intRows_len, ir_get, w1, w3, ha]
      exact Wk.weak (ρ := [0, 1]) (φ := []) (by simp)
    by_cases i0 : i = 0
    · subst i0
      obtain ⟨g0, _, g⟩ : 0 + 1 < r.length ∧ ∃ hk : 0 + 1 < r.length, N[0] = r[0 + 1] := by
        rcases near with g | ⟨g0, g⟩ | g
        · exact absurd g ha
        · omega
        · exact g
      rw [g] at ha
      have g1 : r[1]? = some r[1] := List.getElem?_eq_getElem g0
      have hz : ¬ (0 : Int) = (r.length : Int) - 1 := by omega
      simp at ha
      simp [hi, hiN, intRows_len, ir_get, w3, ha, get 1 g0, g, u1, hz]
      refine ⟨by omega, by omega, Wk.weak (ρ := [0, 1]) (φ := []) ?_⟩
      simp
    · have w2 : IntKind.i64.wrap ((i : Int) - 1) = (i : Int) - 1 := w64 (by omega) (by omega)
      have q1 : (1 : Int) ≤ i := by omega
      have q2 : (i : Int) - 1 < r.length := by omega
      have q3 : i - 1 < r.length := by omega
      have gk := get (i - 1) q3
      by_cases hb : N[i] = r[i - 1]
      · rw [hb] at ha
        simp [hi, hiN, intRows_len, ir_get, w1, w2, w3, ha, hb, i0, q1, q2, q3]
        refine Wk.weak (ρ := [0, 1]) (φ := []) ?_
        simp
      · obtain ⟨g0, _, g⟩ : i + 1 < r.length ∧ ∃ hk : i + 1 < r.length, N[i] = r[i + 1] := by
          rcases near with g | ⟨g0, _, g⟩ | g
          · exact absurd g ha
          · exact absurd g hb
          · exact g
        have hz : ¬ (i : Int) = (r.length : Int) - 1 := by omega
        have q4 : (i : Int) + 1 < r.length := by omega
        have gj := get (i + 1) g0
        rw [g] at ha hb
        simp [hi, hiN, intRows_len, ir_get, w1, w2, w3, ha, hb, hz, g, i0, q1, q2, q3, q4, g0]
        try refine ⟨by omega, ?_⟩
        refine Wk.weak (ρ := [0, 1]) (φ := []) ?_
        simp
  · simp
    refine CallZ.use kM rfl (.inl rfl) rfl rfl ?_
    simp
    refine CallZ.use kL rfl (.inr ⟨flat_strRows _, trivial⟩) rfl rfl ?_
    simp
    refine CallZ.use0 kR rfl rfl ?_
    simp [strRows]
    refine CallY.use (fun _ => ⟨rfl, c_r8Same (roundsL r.length) (by rw [roundsL_len]; omega)⟩) rfl rfl ?_
    simp
theorem l_FnChanges (pargs : List PV) (h : fitsAll [.one (.slc [.int .u8]), .one (.slc [.int .u8])] pargs) : HFn Tryd.prog 3 pargs [] (.bool true) [] := by
  obtain ⟨p0, r0, rfl, f0, z0⟩ := fitsAll_cons h
  obtain ⟨p1, r1, rfl, f1, z1⟩ := fitsAll_cons z0
  obtain rfl := fitsAll_nil z1
  obtain ⟨rows0, rfl, g0, y0⟩ := fits_slc f0
  obtain ⟨code, rfl, wc⟩ := fits_bytes y0
  obtain ⟨rows1, rfl, g1, y1⟩ := fits_slc f1
  obtain ⟨more, rfl, wm⟩ := fits_bytes y1
  exact c_law_FnChanges code more wc wm (by simpa [byteRows] using g0) (by simpa [byteRows] using g1)
end Go.Proofs.YtndbhcnedfbcoaaDoor
