/- Contracts: the law on orders in time. No condition. -/
import Derived.Test.YteomgilojaibeaaNc
namespace Go.Proofs.Yteomgilojaibeaa
open Go Go.Ab
set_option maxRecDepth 100000

theorem fits_bytes {rows : List (List PV)} (h : ∀ r ∈ rows, fitsL [.int .u8] r) : ∃ l : List Int, rows = byteRows l ∧ ∀ x ∈ l, 0 ≤ x ∧ x < 256 := list_of fun r hr => by
  have h := h r hr
  obtain ⟨_, _, rfl, h0, h⟩ := fitsL_cons h
  obtain rfl := fitsL_nil h
  obtain ⟨n, rfl, w⟩ := fits_int h0
  refine ⟨n, rfl, ?_⟩
  have h1 : IntKind.u8.min = 0 := rfl
  have h2 : IntKind.u8.max = 255 := rfl
  simp only [Lit.wf, Bool.and_eq_true, decide_eq_true_eq, h1, h2] at w
  omega

theorem c_r8Long (a b : List Int) : HFn Try.prog 37 [.sl 1 (byteRows a), .sl 1 (byteRows b)] [] (.bool (decide (1048576 < a.length) || decide (1048576 < b.length))) [] := by
  refine hfn_intro hm Try.func37 (by kernel_rfl) rfl (by kernel_rfl) rfl ret0_ok ?_
  simp [byteRows_len]
  have e : ∀ n : Nat, decide ((1048576 : Int) < (n : Int)) = decide (1048576 < n) := fun n => decide_eq_decide.2 (by omega)
  rw [e, e]

/-- A number below n that an input chooses. -/
def r8AtV (code : List Int) (k : Nat) (n : Int) : Int := if n ≤ 1 ∨ code.length ≤ k then 0 else (code.getD k 0).tmod n
theorem r8AtV_le (code : List Int) (hc : ∀ c ∈ code, 0 ≤ c ∧ c < 256) (k : Nat) (n : Int) (hn : 0 < n) : 0 ≤ r8AtV code k n ∧ r8AtV code k n < n := by
  unfold r8AtV
  split
  · omega
  · rename_i h
    have hk : k < code.length := by omega
    have e : code.getD k 0 = code[k] := by simp [hk]
    have := hc _ (List.getElem_mem hk)
    rw [e, Int.tmod_eq_emod_of_nonneg this.1]
    exact ⟨Int.emod_nonneg _ (by omega), Int.emod_lt_of_pos _ hn⟩
theorem c_r8At (code : List Int) (hc : ∀ c ∈ code, 0 ≤ c ∧ c < 256) (k : Nat) (n : Int) : HFn Try.prog 39 [.sl 1 (byteRows code), .int .i64 k, .int .i64 n] [] (.int .i64 (r8AtV code k n)) [] := by
  refine hfn_intro hm Try.func39 (by kernel_rfl) rfl (by kernel_rfl) rfl ret0_ok ?_
  simp [byteRows_len]
  refine ⟨fun h => ?_, fun h1 h2 => ?_⟩
  · have : n ≤ 1 ∨ code.length ≤ k := by omega
    simp [r8AtV, this]
  · have hk : k < code.length := by omega
    have := hc _ (List.getElem_mem hk)
    have w : IntKind.i64.wrap code[k] = code[k] := w64 (by omega) (by omega)
    have hn : ¬ (n ≤ 1 ∨ code.length ≤ k) := by omega
    simp [byteRows, hk, w, r8AtV, hn, show ¬ n = 0 by omega]

theorem c_r8Worth {l : List Order} (hv : validOrders l = true) {c : List Int} (hr : Rises l.length c) {start : Int} (h0 : 0 ≤ start) (h1 : start ≤ 10000) :
    HFn Try.prog 40 [.sl 5 (Order.rows l), .sl 1 (intRows c), .int .i64 start] [] (.tup [.int .i64 (prcV l c), .bool (decide (c = []) || decide (delayOf l (sortL (dueOf l) c) start ≤ 0))]) [] := by
  have hl := validOrders_le hv
  have hcl := rises_le hr
  have hc : InL l c := hr.2
  refine hfn_intro hm Try.func40 (by kernel_rfl) rfl (by kernel_rfl) rfl ret0_ok ?_
  simp
  refine loop_upto hm c.length (fun i => ⟨[(0, .sl 5 (Order.rows l)), (1, .sl 1 (intRows c)), (2, .int .i64 start), (8, .int .i64 (prcV l (c.take i))), (9, .sf 0 5), (10, .int .i64 i)], [some (.arr 5 (Order.rows (selL l (c.take i))))]⟩) (fun _ => True) (by kernel_rfl) ?_ trivial (fun i hi _ => ?_) (fun _ => ?_)
  · refine (weak_nil (t := 9) (z := 5) rfl).trans (Wk.weak (ρ := [0]) (φ := []) ?_)
    simp [prcV, selL, Order.rows]
  · have hk := hc c[i] (List.getElem_mem hi)
    have hk2 : c[i] < (l.length : Int) := hk.2
    have hkl : c[i].toNat < l.length := by omega
    have hp := prcV_le hv c i (by omega)
    have hq := price_le hv c[i]
    have hs := prcV_succ l c hi
    have ha : prcAt l c[i] = priceOf l[c[i].toNat] := by simp [prcAt, hkl]
    have hx := valid_mem hv (List.getElem_mem hkl)
    have hsel : selL l (c.take (i + 1)) = selL l (c.take i) ++ [l[c[i].toNat]] := by
      rw [← List.take_append_getElem hi]
      exact selL_snoc hk
    have hsl : (selL l (c.take i)).length = i := by rw [selL_len fun x hx => hc x (List.mem_of_mem_take hx), List.length_take]; omega
    have w1 : IntKind.i64.wrap ((i : Int) + 1) = (i : Int) + 1 := w64 (by omega) (by omega)
    rw [ha] at hq hs
    have w2 : IntKind.i64.wrap (prcV l (c.take i) + priceOf l[c[i].toNat]) = prcV l (c.take i) + priceOf l[c[i].toNat] := w64 (by omega) (by omega)
    have hget : (intRows c)[i]'(by rw [intRows_len]; exact hi) = [.int .i64 c[i]] := by simp [intRows]
    have hprev : ¬ (0 < i ∧ c[i] ≤ c.getD (i - 1) 0) := fun ⟨g1, g2⟩ => by
      have e : c.getD (i - 1) 0 = c[i - 1] := by simp [show i - 1 < c.length by omega]
      have := List.pairwise_iff_getElem.1 hr.1 (i - 1) i (by omega) hi (by omega)
      omega
    have hpr := c_spec_PriceOf l[c[i].toNat]
    rw [Order.cells] at hpr
    rw [hsel]
    have hn0 : ¬ c[i] < 0 := by omega
    have hn1 : ¬ (l.length : Int) ≤ c[i] := by omega
    have hpv : priceR l[c[i].toNat] = .tup [.int .i64 (priceOf l[c[i].toNat]), .int .i64 0] := by simp [priceR, hx]
    rw [hpv] at hpr
    have hsl' : (Order.rows (selL l (c.take i))).length = i := by rw [Order.rows_len, hsl]
    have hrow : Order.rows l = l.map Order.cells := rfl
    by_cases hi0 : i = 0
    · subst hi0
      simp [hget, intRows_len, hi, hn0, hn1, hk.1, hk2, Order.rows, Order.cells, hkl]
      refine CallZ.use0 hpr rfl rfl ?_
      simp [hget, intRows_len, hi, hk.1, hk2, hkl, Order.cells]
      refine ⟨by simp [rowsOne], by simp [selL], by simp [selL], Wk.weak (ρ := [0]) (φ := []) ?_⟩
      have p0 : prcV l [] = 0 := rfl
      have hs0 : prcV l (List.take 1 c) = priceOf l[c[0].toNat] := by
        rw [show (1 : Nat) = 0 + 1 from rfl, hs]
        simp [prcV]
      have w3 : IntKind.i64.wrap (priceOf l[c[0].toNat]) = priceOf l[c[0].toNat] := w64 (by omega) (by omega)
      simp [w64, selL, p0, hs0, w3]
    · have hg : (intRows c)[i - 1]'(by rw [intRows_len]; omega) = [.int .i64 c[i - 1]] := by simp [intRows]
      have hlt := List.pairwise_iff_getElem.1 hr.1 (i - 1) i (by omega) hi (by omega)
      have w3 : IntKind.i64.wrap ((i : Int) - 1) = ((i - 1 : Nat) : Int) := by rw [w64 (by omega) (by omega)]; omega
      have hn2 : ¬ c[i] ≤ c[i - 1] := by omega
      have hi1 : i - 1 < c.length := by omega
      simp [hget, hg, hi1, w3, hn2, intRows_len, hi, hn0, hn1, hk.1, hk2, Order.rows, Order.cells, hkl, show 0 < i by omega]
      refine CallZ.use0 hpr rfl rfl ?_
      simp [hget, intRows_len, hi, hk.1, hk2, hkl, Order.cells, hsl]
      refine ⟨by simp [rowsOne], by omega, by omega, Wk.weak (ρ := [0]) (φ := []) ?_⟩
      simp [w1, w2, hs]
  · have hD := c_spec_DueFirst (selL l c) (by rw [selL_len hc]; omega)
    have hvs := selL_valid hv hr
    have hsl := selL_len hc
    simp [intRows_len, Order.rows_len, hsl]
    refine ⟨fun g => by subst g; simp [prcV], fun g => ?_⟩
    have hdr : dueR (selL l c) = byDue (selL l c) := by unfold dueR; rw [if_pos hvs]
    rw [hdr, if_pos hvs] at hD
    refine CallZ.use hD rfl (.inr ⟨flat_intRows _, trivial⟩) rfl rfl ?_
    simp
    have hE := c_spec_DelayOf (selL l c) (byDue (selL l c)) start (by rw [byDue_len, hsl]; omega) (by rw [hsl]; omega)
    have hseq := byDue_seq hvs h0 h1
    have hne : ¬ (byDue (selL l c)).length = 0 := by
      rw [byDue_len, hsl]
      exact fun e => g (List.eq_nil_of_length_eq_zero e)
    have hr0 : delayR (selL l c) (byDue (selL l c)) start = .tup [.int .i64 (delayOf l (sortL (dueOf l) c) start), .int .i64 0] := by
      unfold delayR delayCode
      rw [hseq, if_pos rfl, if_neg hne, if_pos rfl, if_neg hne, sel_delay hc]
    rw [hr0] at hE
    refine CallZ.use0 hE rfl rfl ?_
    simp [g]

set_option maxHeartbeats 1000000 in
theorem c_law_InTime (code more : List Int) (hc : ∀ c ∈ code, 0 ≤ c ∧ c < 256) (hm' : ∀ c ∈ more, 0 ≤ c ∧ c < 256) (hl : code.length ≤ 9223372036854775807) :
    HFn Try.prog 8 [.sl 1 (byteRows code), .sl 1 (byteRows more)] [] (.bool true) [] := by
  refine hfn_intro hm Try.func8 (by kernel_rfl) rfl (by kernel_rfl) rfl ret0_ok ?_
  simp
  refine CallZ.use0 (c_r8Long code more) rfl rfl ?_
  simp
  intro _ _
  have h0 : (Src.mk code 0 0).ok 0 := ⟨hc, hl, by simp, by simp, by simp⟩
  obtain ⟨hv, _⟩ := h0.orders (by omega)
  refine CallZ.use (c_R8Orders code hc hl) rfl (.inr ⟨Order.flat _, trivial⟩) rfl rfl ?_
  generalize (Src.mk code 0 0).orders.1 = l at hv ⊢
  have hll := validOrders_le hv
  simp
  have hat := c_r8At more hm' 0 60
  obtain ⟨s0, s1⟩ := r8AtV_le more hm' 0 60 (by omega)
  simp only [Int.natCast_zero] at hat
  refine CallZ.use0 hat rfl rfl ?_
  generalize r8AtV more 0 60 = start at s0 s1 ⊢
  simp
  have hb : beginCode l start = 0 := by unfold beginCode; rw [if_pos hv, if_pos ⟨s0, by omega⟩]
  have kM := c_impl_MostInTime l start (by omega)
  have kD := c_impl_BestInTime l start (by omega)
  have eM : mostR l start = bestL cntV l start := by unfold mostR; rw [if_pos hb]
  have eD : dearR l start = bestL (prcV l) l start := by unfold dearR; rw [if_pos hb]
  have eP : dearP l start = prcV l (bestL (prcV l) l start) := by unfold dearP; rw [if_pos hb]
  rw [eM, hb] at kM
  rw [eD, eP, hb] at kD
  obtain ⟨rM, fM⟩ := bestL_rises cntV l start
  obtain ⟨rD, fD⟩ := bestL_rises (prcV l) l start
  have g1 := bestL_ge cntV l start (bestL_ext (prcV l) l start)
  have g2 := bestL_ge (prcV l) l start (bestL_ext cntV l start)
  have g3 : l ≠ [] → (start ≤ lateN l ↔ (bestL cntV l start).length = l.length) := fun h => most_all hv h s0
  have g4 := rises_le rM
  generalize bestL cntV l start = M at kM rM fM g1 g2 g3 g4
  generalize bestL (prcV l) l start = D at kD rD fD g1 g2
  have g1 : D.length ≤ M.length := by simp only [cntV] at g1; omega
  refine CallZ.use kM rfl (.inr ⟨flat_intRows _, trivial⟩) rfl rfl ?_
  simp
  refine CallZ.use kD rfl (.inr ⟨flat_intRows _, trivial⟩) rfl rfl ?_
  simp [intRows_len, Order.rows_len, g1, g4]
  have dM : (decide (M = []) || decide (delayOf l (sortL (dueOf l) M) start ≤ 0)) = true := by
    rcases fM with e | e
    · simp [e]
    · rw [show decide (delayOf l (sortL (dueOf l) M) start ≤ 0) = true from e, Bool.or_true]
  have dD : (decide (D = []) || decide (delayOf l (sortL (dueOf l) D) start ≤ 0)) = true := by
    rcases fD with e | e
    · simp [e]
    · rw [show decide (delayOf l (sortL (dueOf l) D) start ≤ 0) = true from e, Bool.or_true]
  have kW := c_r8Worth hv rM s0 (by omega : start ≤ 10000)
  have kX := c_r8Worth hv rD s0 (by omega : start ≤ 10000)
  rw [dM] at kW
  rw [dD] at kX
  refine CallZ.use0 kW rfl rfl ?_
  simp
  refine CallZ.use0 kX rfl rfl ?_
  simp [g2]
  refine CallZ.use0 (c_spec_LatestBegin l (by omega)) rfl rfl ?_
  simp [intRows_len, Order.rows_len]
  by_cases hcode : lateCode l = 0
  · have hne : l ≠ [] := fun e => by
      subst e
      simp [lateCode, validOrders] at hcode
    have := g3 hne
    simp only [hcode, not_true, if_true, false_or]
    rw [this]
    omega
  · exact .inl hcode

theorem l_FnInTime (pargs : List PV) (h : fitsAll [.one (.slc [.int .u8]), .one (.slc [.int .u8])] pargs) : HFn Try.prog 8 pargs [] (.bool true) [] := by
  obtain ⟨p0, r0, rfl, f0, z0⟩ := fitsAll_cons h
  obtain ⟨p1, r1, rfl, f1, z1⟩ := fitsAll_cons z0
  obtain rfl := fitsAll_nil z1
  obtain ⟨rows0, rfl, g0, y0⟩ := fits_slc f0
  obtain ⟨code, rfl, wc⟩ := fits_bytes y0
  obtain ⟨rows1, rfl, g1, y1⟩ := fits_slc f1
  obtain ⟨more, rfl, wm⟩ := fits_bytes y1
  exact c_law_InTime code more wc wm (by simpa [byteRows] using g0)
end Go.Proofs.Yteomgilojaibeaa
