/- Contracts: methods of one change; changes that are drawn. No condition. -/
import Derived.Test.YtndbhcnedfbcoaaDoorZk
import Derived.Test.YtndbhcnedfbcoaaDoorZs
namespace Go.Proofs.YtndbhcnedfbcoaaDoor
open Go Go.Ab
set_option maxRecDepth 100000

theorem stay_lone {t : List UInt8} {n : Nat} (h : stayB t n = true) : lone t := by
  unfold stayB at h
  split at h
  · cases h
  · rename_i h0
    split at h
    · rename_i h1
      exact .inl h1
    · simp only [Bool.and_eq_true] at h
      have pos : ∀ b ∈ t, 0 < signP b := fun b hb => by
        obtain ⟨i, hi, rfl⟩ := List.getElem_of_mem hb
        have hp := List.all_eq_true.1 h.1 i (List.mem_range.2 hi)
        simp only [placeOk, Bool.and_eq_true, decide_eq_true_eq, sign_get hi] at hp
        have := (lastP_range t i).1
        omega
      refine .inr ⟨h0, fun hc => ?_, fun hc => ?_⟩
      · have := pos _ hc
        have e : signP 120 = 0 := rfl
        omega
      · have := pos _ hc
        have e : signP 46 = 0 := rfl
        omega
theorem stay_x {n : Nat} (h : n % 2 = 0) : stayB [120] n = true := by
  unfold stayB
  rw [if_neg (by simp), if_pos rfl]
  simp [h]
theorem stay_one {n : Nat} (h : n % 2 = 1) : stayB [49] n = true := by
  unfold stayB
  rw [if_neg (by simp), if_neg (by decide)]
  have e : signP 49 = 1 := rfl
  have e1 : lastP [49] 1 = 1 := rfl
  have e0 : lastP [49] 0 = 0 := rfl
  have p : placesOk [49] n = true := by
    refine List.all_eq_true.2 fun i hi => ?_
    have hi := List.mem_range.1 hi
    obtain rfl : i = 0 := by simp at hi; omega
    have : ([49] : List UInt8).getD 0 0 = 49 := rfl
    simp only [placeOk, e0, this, e, Bool.and_eq_true, decide_eq_true_eq]
    omega
  rw [p]
  simp [e1]
  omega

theorem c_R8Change (code : List Int) (hc : ∀ c ∈ code, 0 ≤ c ∧ c < 256) (hl : code.length ≤ 9223372036854775807) (n : Nat) (hn : 3 ≤ n ∧ n ≤ 12) : GFn Tryd.prog 6 [.sl 1 (byteRows code), .int .i64 n] [] [] (fun t => stayB t n = true ∧ t.length ≤ 20) (fun t => .str t) (fun _ => []) := by
  have h0 : (Src.mk code 0 0).ok 0 := ⟨hc, hl, by simp, by simp, by simp⟩
  refine gfn_intro [] hm Tryd.func6 (by kernel_rfl) rfl (by kernel_rfl) rfl (by simp) (by simp) ?_
  simp
  refine CallZ.useM [] [] [] (c_l00From code) (by simp) rfl rfl (by simp) rfl rfl rfl (.inl rfl) ?_
  simp
  refine CallZ.useG [0] [] [] (c_l27DrawChange h0 (by omega) n hn) (by simp) rfl (by simp) rfl (fun x _ => ⟨rfl, rfl, rfl, .inl rfl⟩) (fun x hx => ?_)
  obtain ⟨t, s⟩ := x
  obtain ⟨g1, _⟩ := hx
  simp only at g1
  simp
  have kV := c_spec_ValidChange t n hn.2 (by omega)
  refine CallZ.use0 kV rfl rfl ?_
  have ht : ((n : Int).tmod 2 = 0) = (n % 2 = 0) := by rw [Int.tmod_eq_emod_of_nonneg (by omega)]; exact propext ⟨fun h => by omega, fun h => by omega⟩
  have w1 : IntKind.i64.wrap (n : Int) = (n : Int) := w64 (by omega) (by omega)
  simp [ht]
  refine ⟨fun h => ⟨t, ⟨?_, g1⟩, Wk.weak (ρ := []) (φ := []) (by simp)⟩, fun _ => ⟨fun h => ⟨[120], ⟨stay_x h, by simp⟩, Wk.weak (ρ := []) (φ := []) (by simp)⟩, fun h => ⟨[49], ⟨stay_one (by omega), by simp⟩, Wk.weak (ρ := []) (φ := []) (by simp)⟩⟩⟩
  simp only [chgOk, Bool.and_eq_true] at h
  exact h.1

theorem c_SplitMethod1 (c : List UInt8) (n : Nat) (hn : n ≤ 12) (hs : c.length ≤ 1048576) : HFn Tryd.prog 27 [.str c, .pe 1 [[.int .i64 n]] 0 0] [] (.bool (!chgOk c n)) [] := by
  refine hfn_intro hm Tryd.func27 (by kernel_rfl) rfl (by kernel_rfl) rfl ret0_ok ?_
  simp
  refine CallZ.use0 (c_impl_ValidChange c n hn hs) rfl rfl ?_
  simp
theorem c_IndexFuncS (c : List UInt8) (n : Nat) (hn : n ≤ 12) (hs : c.length ≤ 1048576) (hv : chgOk c n = true) : HFn Tryd.prog 43 [.sl 1 (strRows [c]), .fn 27 [.pe 1 [[.int .i64 n]] 0 0]] [] (.int .i64 (-1)) [] := by
  have k1 := c_SplitMethod1 c n hn hs
  rw [hv] at k1
  refine hfn_intro hm Tryd.func43 (by kernel_rfl) rfl (by kernel_rfl) rfl ret0_ok ?_
  simp [strRows]
  refine loop_upto hm 1 (fun i => ⟨[(0, .sl 1 [[.str c]]), (1, .fn 27 [.pe 1 [[.int .i64 n]] 0 0]), (7, .int .i64 1), (8, .int .i64 i)], []⟩) (fun _ => True) (by kernel_rfl) ?_ trivial (fun i hi _ => ?_) (fun _ => ?_)
  · exact Wk.weak (ρ := []) (φ := []) (by simp)
  · obtain rfl : i = 0 := by omega
    simp
    refine CallZ.use0 k1 rfl rfl ?_
    simp
    exact Wk.weak (ρ := []) (φ := []) (by simp; rfl)
  · simp
theorem c_ContainsFuncS (c : List UInt8) (n : Nat) (hn : n ≤ 12) (hs : c.length ≤ 1048576) (hv : chgOk c n = true) : HFn Tryd.prog 26 [.sl 1 (strRows [c]), .fn 27 [.pe 1 [[.int .i64 n]] 0 0]] [] (.bool false) [] := by
  refine hfn_intro hm Tryd.func26 (by kernel_rfl) rfl (by kernel_rfl) rfl ret0_ok ?_
  simp
  refine CallZ.use0 (c_IndexFuncS c n hn hs hv) rfl rfl ?_
  simp
theorem c_impl_SplitMethod (s : List UInt8) (n : Nat) (hn : 3 ≤ n ∧ n ≤ 12) (hs : s.length ≤ 1048576) (hv : stayB s n = true) : HFn Tryd.prog 12 [.str s, .int .i64 n] [] (.tup [.sf 0 1, .int .i64 0]) [some (.arr 1 (strRows [s]))] := by
  obtain ⟨hn1, hn2⟩ := hn
  have e1 : (3 : Int) ≤ n := by omega
  have e2 : (n : Int) ≤ 12 := by omega
  have hc : chgOk s n = true := by simp [chgOk, hv, e1, e2]
  refine hfn_intro hm Tryd.func12 (by kernel_rfl) rfl (by kernel_rfl) rfl (fun _ _ h => h) ?_
  simp
  refine CallZ.use0 (c_isStage n) rfl rfl ?_
  simp [e1, e2]
  refine CallZ.use (c_splitMethod s hs (stay_lone hv)) rfl (.inr ⟨flat_strRows _, trivial⟩) rfl rfl ?_
  simp [strRows]
  refine CallY.use (fun _ => ⟨rfl, c_ContainsFuncS s n hn2 hs hc⟩) rfl rfl ?_
  simp
  exact Wk.weak (ρ := [1]) (φ := []) (by simp)
end Go.Proofs.YtndbhcnedfbcoaaDoor
