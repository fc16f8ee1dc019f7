/- Contracts: the reference's search for orders. No condition. -/
import Derived.Test.YteomgilojaibeaaMb
import Derived.Test.YteomgilojaibeaaAcn
import Derived.Test.YteomgilojaibeaaFe
namespace Go.Proofs.Yteomgilojaibeaa
open Go Go.Ab
set_option maxRecDepth 100000

/-- What the reference adds up for a choice. -/
def worthV (pr : Bool) (l : List Order) (c : List Int) : Int := if pr = true then prcV l c else cntV c
def worthT (pr : Bool) (l : List Order) (c : List Int) (i : Nat) : Int := if pr = true then prcV l (c.take i) else i
@[simp] def visBox (pr : Bool) (l : List Order) (start : Int) (b : List Int) : Option Ab.Obj := some (.box [.sl 5 (Order.rows l), .int .i64 start, .bool pr, .sf 1 1, .sf 2 1, .int .i64 (worthV pr l b)])
theorem worth_le {l : List Order} (hv : validOrders l = true) (pr : Bool) (c : List Int) (hc : c.length ≤ 12) : ∀ i, i ≤ c.length → 0 ≤ worthT pr l c i ∧ worthT pr l c i ≤ 100000000000 := fun i hi => by
  unfold worthT
  split
  · have := prcV_le hv c i hi
    omega
  · omega
theorem worth_succ (pr : Bool) (l : List Order) (c : List Int) {i : Nat} (hi : i < c.length) : worthT pr l c (i + 1) = worthT pr l c i + if pr = true then prcAt l c[i] else 1 := by
  unfold worthT
  split
  · rw [prcV_succ l c hi]
  · omega
theorem worth_all (pr : Bool) (l : List Order) (c : List Int) : worthT pr l c c.length = worthV pr l c := by
  unfold worthT worthV cntV
  rw [List.take_length]
theorem rnds_frm {V : List Int → Int} {ok : List Int → Bool} {n N : Nat} {c b : List Int} {k : Nat} (hc : Frm n c k) (hb : ∃ j, Frm n b j) : ∀ i, i ≤ n - k → ∃ j, Frm n (rnds (seaF V ok n N c) k (pickT V c b) i).2 j
  | 0, _ => by
    show ∃ j, Frm n (pickT V c b).2 j
    unfold pickT
    split
    · exact ⟨k, hc⟩
    · exact hb
  | i + 1, hi => by
    have h := rnds_frm (V := V) (ok := ok) (N := N) hc hb i (by omega)
    simp only [rnds, seaF]
    split
    · exact srT_mem (Q := fun c => ∃ j, Frm n c j) N _ _ _ (hc.next (Nat.le_add_right k i) (Nat.lt_sub_iff_add_lt'.1 hi)) (fun c k h => ⟨k, h⟩) h
    · exact h
/-- The reference's state behind i numbers. -/
def visSt (pr : Bool) (l : List Order) (start : Int) (c : List Int) (k i : Nat) (b : List Int) : St :=
  ⟨[(0, .pb 0 0), (6, .int .i64 ((k : Int) + i)), (112, .own 0)], [visBox pr l start b, some (.arr 1 (intRows c)), some (.arr 1 (intRows b))]⟩

set_option maxHeartbeats 16000000 in
theorem c_visit {pr : Bool} {l : List Order} {start : Int} (hv : validOrders l = true) (h0 : 0 ≤ start) (h1 : start ≤ 10000) (N : Nat) :
    ∀ (c b : List Int) (k : Nat), l.length - k ≤ N → Frm l.length c k → (∃ j, Frm l.length b j) →
      MFn Try.prog 134 [.pb 0 0, .int .i64 k] [visBox pr l start b, some (.arr 1 (intRows c)), some (.arr 1 (intRows b))] [0] (.tup [])
        [visBox pr l start (srT (worthV pr l) (fitsT l start) l.length N c k b).2, some (.arr 1 (intRows c)), some (.arr 1 (intRows (srT (worthV pr l) (fitsT l start) l.length N c k b).2))] := by
  induction N using Nat.strongRecOn with
  | ind N ih =>
  intro c b k hN hc hb
  have hll := valid_len hv
  have hcl := hc.2.1
  have hkn := hc.1
  have hA := fun i hi => rnds_frm (V := worthV pr l) (ok := fitsT l start) (N := N - 1) hc hb i hi
  rw [srT_rnds (worthV pr l) (fitsT l start) l.length N c k b hN]
  have hstep : ∀ i, rnds (seaF (worthV pr l) (fitsT l start) l.length (N - 1) c) k (pickT (worthV pr l) c b) (i + 1) = seaF (worthV pr l) (fitsT l start) l.length (N - 1) c (k + i) (rnds (seaF (worthV pr l) (fitsT l start) l.length (N - 1) c) k (pickT (worthV pr l) c b) i) := fun i => rfl
  have hzero : rnds (seaF (worthV pr l) (fitsT l start) l.length (N - 1) c) k (pickT (worthV pr l) c b) 0 = pickT (worthV pr l) c b := rfl
  generalize hF : rnds (seaF (worthV pr l) (fitsT l start) l.length (N - 1) c) k (pickT (worthV pr l) c b) = RR at hA hstep hzero ⊢
  clear hF
  refine mfn_intro [0] hm Try.func134 (by kernel_rfl) rfl (by kernel_rfl) rfl (fun _ _ h => h) (by simp) ?_
  simp
  have hwl := worth_le hv pr c (by omega)
  refine loop_upto hm c.length (fun i => ⟨[(0, .pb 0 0), (1, .int .i64 k), (4, .int .i64 (worthT pr l c i)), (5, .int .i64 i), (112, .own 0)], [visBox pr l start b, some (.arr 1 (intRows c)), some (.arr 1 (intRows b))]⟩) (fun _ => True) (by kernel_rfl) ?_ trivial (fun i hi _ => ?_) (fun _ => ?_)
  · refine Wk.weak (ρ := [0, 1, 2]) (φ := []) ?_
    simp [worthT, prcV]
  · have w1 : IntKind.i64.wrap ((i : Int) + 1) = (i : Int) + 1 := w64 (by omega) (by omega)
    have hs := worth_succ pr l c hi
    have hw := hwl i (by omega)
    have hk := inL_of hc c[i] (List.getElem_mem hi)
    have hkl : c[i].toNat < l.length := by omega
    have hk2 : c[i] < (l.length : Int) := hk.2
    have hq := price_le hv c[i]
    have ha : prcAt l c[i] = priceOf l[c[i].toNat] := by simp [prcAt, hkl]
    rw [ha] at hq hs
    have hget : (intRows c)[i]'(by rw [intRows_len]; exact hi) = [.int .i64 c[i]] := by simp [intRows]
    cases pr with
    | true =>
      have w2 : IntKind.i64.wrap (worthT true l c i + priceOf l[c[i].toNat]) = worthT true l c i + priceOf l[c[i].toNat] := w64 (by omega) (by omega)
      simp [hi, intRows_len, hget, hk.1, hk2, Order.rows_len]
      refine CallZ.use0 (c_l29Price l[c[i].toNat] (valid_mem hv (List.getElem_mem hkl)) (Order.rows l) c[i].toNat (by simp [Order.rows, hkl])) rfl rfl ?_
      simp
      refine Wk.weak (ρ := [0, 1, 2]) (φ := []) ?_
      simp [w1, w2, hs]
    | false =>
      have w2 : IntKind.i64.wrap (worthT false l c i + 1) = worthT false l c i + 1 := w64 (by omega) (by omega)
      simp [hi, intRows_len]
      refine Wk.weak (ρ := [0, 1, 2]) (φ := []) ?_
      simp [w1, w2, hs]
  · rw [worth_all]
    by_cases hbest : worthV pr l b < worthV pr l c
    all_goals simp [hbest, intRows_len]
    all_goals
      first
      | (refine CallZ.use (c_l00Own (intRows c) (intRowsOne _) (by rw [intRows_len]; omega)) rfl (.inr ⟨flat_intRows _, trivial⟩) rfl rfl ?_
         simp)
      | skip
      refine loop_upto hm (l.length - k) (fun i => visSt pr l start c k i (RR i).2) (fun _ => True) (by kernel_rfl) ?_ trivial (fun i hi _ => ?_) (fun _ => ?_)
      · first
        | (refine Wk.weak (ρ := [0, 1, 3]) (φ := []) ?_
           simp [visSt, hzero, pickT, hbest]
           done)
        | (refine Wk.weak (ρ := [0, 1, 2]) (φ := []) ?_
           simp [visSt, hzero, pickT, hbest])
      · have hb' := hA i (by omega)
        have hst := hstep i
        have e1 : ((k + i : Nat) : Int) = (k : Int) + i := by omega
        generalize RR i = a at hb' hst ⊢
        rw [hst]
        obtain ⟨tg, cur⟩ := a
        simp only at hb' ⊢
        have hx : Frm l.length (c ++ [(k : Int) + i]) (k + i + 1) := by
          have := hc.next (Nat.le_add_right k i) (show k + i < l.length by omega)
          rwa [e1] at this
        have hInL := inL_of hx
        have hsb := c_l29Sorted l (c ++ [(k : Int) + i]) (by omega) hInL (by simp; omega)
        rw [intRows_snoc] at hsb
        have hdl := c_spec_l29Delay l (sortL (dueOf l) (c ++ [(k : Int) + i])) start (by rw [sortL_len]; simp; omega) (by omega) (fits_seq hv h0 h1 hInL) (by rw [sortL_len]; simp)
        have w1 : IntKind.i64.wrap ((k : Int) + i + 1) = (k : Int) + (i + 1) := by rw [w64 (by omega) (by omega)]; omega
        have hlt : (k : Int) + i < l.length := by omega
        have hcl2 : (intRows c).length ≤ 100 := by rw [intRows_len]; omega
        have w3 : IntKind.i64.wrap ((intRows c).length : Int) = ((intRows c).length : Int) := w64 (by omega) (by omega)
        have htk : List.take (intRows c).length (intRows c ++ [[.int .i64 ((k : Int) + i)]]) = intRows c := by rw [List.take_append_of_le_length (Nat.le_refl _), List.take_length]
        generalize hS : sortL (dueOf l) (c ++ [(k : Int) + i]) = SS at hsb hdl
        unfold seaF
        rw [e1]
        by_cases hf : fitsT l start (c ++ [(k : Int) + i]) = true
        · have hd0 : delayOf l SS start ≤ 0 := by
            unfold fitsT at hf
            rw [hS] at hf
            simpa using hf
          have ih' := ih (N - 1) (by omega) (c ++ [(k : Int) + i]) cur (k + i + 1) (by omega) hx hb'
          rw [if_pos hf]
          generalize srT (worthV pr l) (fitsT l start) l.length (N - 1) (c ++ [(k : Int) + i]) (k + i + 1) cur = T at ih' ⊢
          obtain ⟨tr, res⟩ := T
          simp only at ih' ⊢
          rw [intRows_snoc, show ((k + i + 1 : Nat) : Int) = (k : Int) + (i + 1) by omega] at ih'
          simp [visSt, hlt, Order.rows_len]
          refine ⟨by simp [Go.Ab.rowsOne], by omega, by omega, ?_⟩
          refine CallZ.use hsb rfl (.inr ⟨flat_intRows _, trivial⟩) rfl rfl ?_
          simp
          refine CallZ.use0 hdl rfl rfl ?_
          simp [hd0, w1]
          refine CallZ.useM [0, 1, 2] [] [1, 2] ih' (by simp) rfl rfl (by simp) rfl rfl rfl (.inl rfl) ?_
          simp [w3]
          exact (weak_cutB (kb := 0) (j := 3) (k := 1) (z := 1) (len := (intRows c).length) rfl rfl rfl (by simp)).trans (Wk.weak (ρ := [0, 1, 2]) (φ := []) (by simp [w1, htk]))
        · have hd0 : ¬ delayOf l SS start ≤ 0 := by
            unfold fitsT at hf
            rw [hS] at hf
            simpa using hf
          rw [if_neg hf]
          simp [visSt, hlt, Order.rows_len]
          refine ⟨by simp [Go.Ab.rowsOne], by omega, by omega, ?_⟩
          refine CallZ.use hsb rfl (.inr ⟨flat_intRows _, trivial⟩) rfl rfl ?_
          simp
          refine CallZ.use0 hdl rfl rfl ?_
          simp [hd0, w3]
          exact (weak_cutB (kb := 0) (j := 3) (k := 1) (z := 1) (len := (intRows c).length) rfl rfl rfl (by simp)).trans (Wk.weak (ρ := [0, 1, 2]) (φ := []) (by simp [w1, htk]))
      · have hge : ¬ (k : Int) + (l.length - k : Nat) < l.length := by omega
        generalize (RR (l.length - k)) = a
        simp [visSt, hge, Order.rows_len]
        refine ⟨by simp, Wk.weak (ρ := [0, 1, 2]) (φ := []) ?_⟩
        simp
end Go.Proofs.Yteomgilojaibeaa
