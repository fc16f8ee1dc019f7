/- Contracts: the program's search for orders. No condition. -/
import Derived.Test.YteomgilojaibeaaMa
import Derived.Test.YteomgilojaibeaaFc
namespace Go.Proofs.Yteomgilojaibeaa
open Go Go.Ab
set_option maxRecDepth 100000

theorem srT_src {V : List Int → Int} {ok : List Int → Bool} {n : Nat} (N : Nat) (c : List Int) (k : Nat) (b : List Int) : ((srT V ok n N c k b).1 = 0 → (srT V ok n N c k b).2 = b) ∧ ((srT V ok n N c k b).1 = 1 → (srT V ok n N c k b).2 = c) := by
  have pk : ((pickT V c b).1 = 0 → (pickT V c b).2 = b) ∧ ((pickT V c b).1 = 1 → (pickT V c b).2 = c) := by
    unfold pickT
    split <;> simp
  induction N generalizing c k b with
  | zero => exact pk
  | succ N ih =>
    show ((rnds _ k (pickT V c b) (n - k)).1 = 0 → (rnds _ k (pickT V c b) (n - k)).2 = b) ∧ ((rnds _ k (pickT V c b) (n - k)).1 = 1 → (rnds _ k (pickT V c b) (n - k)).2 = c)
    generalize n - k = i
    induction i with
    | zero => exact pk
    | succ i ihi =>
      simp only [rnds]
      generalize rnds _ k (pickT V c b) i = a at ihi ⊢
      obtain ⟨at', al⟩ := a
      simp only at ihi ⊢
      split
      · have h := ih (c ++ [((k + i : Nat) : Int)]) (k + i + 1) al (by unfold pickT; split <;> simp)
        simp only
        split
        · rename_i h0
          rw [h.1 h0]
          exact ihi
        · exact ⟨fun h => by omega, fun h => by omega⟩
      · exact ihi

@[simp] def seaH (fv : Nat) (cv : List PV) (l : List Order) (start : Int) (tag : Nat) (b c d : List Int) : Heap :=
  [some (.box [.fn fv cv]), some (.box [.sf (5 + tag) 1]), some (.box [.sl 5 (Order.rows l)]), some (.box [.int .i64 start]), some (.box [.fn 136 [.pb 0 0, .pb 1 0, .pb 2 0, .pb 3 0, .pb 4 0]]),
    some (.arr 1 (intRows b)), some (.arr 1 (intRows c))] ++ if tag = 2 then [some (.arr 1 (intRows d))] else []

/-- What a closure has captured that is only read. -/
structure CapOk (cv : List PV) : Prop where
  no : cv.all noOwnA = true
  im : ∀ H, cv.map (imm H) = cv
  nos : cv.all noOwn = true
  bx : ∀ H, cv.all (boxOk H) = true
  cp : cv.all capA = true
  rn : ∀ r, cv.map (renC r) = cv
  sc : ∀ k, cv.map (scrubC k) = cv
  wk : ∀ ρ H, wkCs ρ H cv cv
theorem intRows_snoc (c : List Int) (x : Int) : intRows (c ++ [x]) = intRows c ++ [[.int .i64 x]] := by simp [intRows]
/-- One number tried. -/
def seaF (V : List Int → Int) (ok : List Int → Bool) (n N : Nat) (c : List Int) (j : Nat) (a : Nat × List Int) : Nat × List Int :=
  if ok (c ++ [(j : Int)]) = true then (if (srT V ok n N (c ++ [(j : Int)]) (j + 1) a.2).1 = 0 then a.1 else 2, (srT V ok n N (c ++ [(j : Int)]) (j + 1) a.2).2) else a
theorem srT_rnds (V : List Int → Int) (ok : List Int → Bool) (n : Nat) (N : Nat) (c : List Int) (k : Nat) (b : List Int) (h : n - k ≤ N) : srT V ok n N c k b =
    rnds (seaF V ok n (N - 1) c) k (pickT V c b) (n - k) := by
  cases N with
  | zero => rw [show n - k = 0 by omega]; rfl
  | succ N => rfl
/-- The state of the search behind i numbers. -/
def seaSt (fv : Nat) (cv : List PV) (l : List Order) (start : Int) (b c : List Int) (k : Nat) (i : Nat) (a : Nat × List Int) : St :=
  ⟨[(0, .sf 6 1), (1, .pb 0 0), (2, .pb 1 0), (3, .pb 2 0), (4, .pb 3 0), (5, .pb 4 0), (8, .int .i64 ((k : Int) + i)), (50, .own 0), (51, .own 1), (52, .own 2), (53, .own 3), (54, .own 4), (55, .own 5), (56, .own 6)], seaH fv cv l start a.1 b c a.2⟩

set_option maxHeartbeats 16000000 in
theorem c_search {fv : Nat} {cv : List PV} {V : List Int → Int} {l : List Order} {start : Int} (hcv : CapOk cv) (hv : validOrders l = true) (h0 : 0 ≤ start) (h1 : start ≤ 10000)
    (hV : ∀ c k, Frm l.length c k → HFn Try.prog fv (.sl 1 (intRows c) :: cv) [] (.int .i64 (V c)) []) (N : Nat) :
    ∀ (c b : List Int) (k : Nat), l.length - k ≤ N → Frm l.length c k → (∃ j, Frm l.length b j) →
      MFn Try.prog 136 [.sf 6 1, .pb 0 0, .pb 1 0, .pb 2 0, .pb 3 0, .pb 4 0] (seaH fv cv l start 0 b c []) [0, 1, 2, 3, 4, 5, 6] (.tup [])
        (seaH fv cv l start (srT V (fitsT l start) l.length N c k b).1 b c (srT V (fitsT l start) l.length N c k b).2) := by
  induction N using Nat.strongRecOn with
  | ind N ih =>
  intro c b k hN hc hb
  have hbF := hb
  obtain ⟨jb, hb⟩ := hb
  have hll := valid_len hv
  have hcl := hc.2.1
  have hkn := hc.1
  have hVc := hV c k hc
  have hVb := hV b jb hb
  have hnos : ∀ H, cv.all (noOwn ∘ imm H) = true := fun H => by rw [← List.all_map, hcv.im, hcv.nos]
  have hsrc := srT_src (V := V) (ok := fitsT l start) (n := l.length)
  have htag := srT_tag V (fitsT l start) l.length
  have hmem := fun N c k b hc hb => srT_mem (V := V) (ok := fitsT l start) (n := l.length) (Q := fun c => ∃ j, Frm l.length c j) N c k b hc (fun c k h => ⟨k, h⟩) hb
  have hcs := hc.2.2.2
  rw [srT_rnds V (fitsT l start) l.length N c k b hN]
  have hA : ∀ i, i ≤ l.length - k → (rnds (seaF V (fitsT l start) l.length (N - 1) c) k (pickT V c b) i).1 ≤ 2 ∧ (∃ j, Frm l.length (rnds (seaF V (fitsT l start) l.length (N - 1) c) k (pickT V c b) i).2 j) ∧
      ((rnds (seaF V (fitsT l start) l.length (N - 1) c) k (pickT V c b) i).1 = 0 → (rnds (seaF V (fitsT l start) l.length (N - 1) c) k (pickT V c b) i).2 = b) ∧
      ((rnds (seaF V (fitsT l start) l.length (N - 1) c) k (pickT V c b) i).1 = 1 → (rnds (seaF V (fitsT l start) l.length (N - 1) c) k (pickT V c b) i).2 = c) := fun i hi => by
    induction i with
    | zero =>
      show (pickT V c b).1 ≤ 2 ∧ (∃ j, Frm l.length (pickT V c b).2 j) ∧ ((pickT V c b).1 = 0 → (pickT V c b).2 = b) ∧ ((pickT V c b).1 = 1 → (pickT V c b).2 = c)
      unfold pickT
      split
      · exact ⟨by simp, ⟨k, hc⟩, by simp, by simp⟩
      · exact ⟨by simp, ⟨jb, hb⟩, by simp, by simp⟩
    | succ i ihi =>
      have h := ihi (by omega)
      simp only [rnds, seaF]
      generalize rnds _ k (pickT V c b) i = a at h ⊢
      obtain ⟨ta, la⟩ := a
      simp only at h ⊢
      split
      · have s1 := hsrc (N - 1) (c ++ [((k + i : Nat) : Int)]) (k + i + 1) la
        have s2 := hmem (N - 1) (c ++ [((k + i : Nat) : Int)]) (k + i + 1) la (hc.next (Nat.le_add_right k i) (Nat.lt_sub_iff_add_lt'.1 hi)) h.2.1
        refine ⟨by simp only; split; exact h.1; exact Nat.le_refl 2, s2, fun q => ?_, fun q => ?_⟩
        · simp only at q
          split at q
          · rename_i z
            simp only
            rw [s1.1 z]
            exact h.2.2.1 q
          · cases q
        · simp only at q
          split at q
          · rename_i z
            simp only
            rw [s1.1 z]
            exact h.2.2.2 q
          · cases q
      · exact h
  have hstep : ∀ i, rnds (seaF V (fitsT l start) l.length (N - 1) c) k (pickT V c b) (i + 1) =
      (seaF V (fitsT l start) l.length (N - 1) c) (k + i) (rnds (seaF V (fitsT l start) l.length (N - 1) c) k (pickT V c b) i) := fun i => rfl
  have hzero : rnds (seaF V (fitsT l start) l.length (N - 1) c) k (pickT V c b) 0 = pickT V c b := rfl
  generalize hF : rnds (seaF V (fitsT l start) l.length (N - 1) c) k (pickT V c b) = RR at hA hstep hzero ⊢
  clear hF
  refine mfn_intro [0, 1, 2, 3, 4, 5, 6] hm Try.func136 (by kernel_rfl) rfl (by kernel_rfl) rfl (fun _ _ h => h) (by simp) ?_
  simp
  rw [hcv.im, hnos, hcv.bx]
  refine CallZ.use0 hVc rfl rfl ?_
  simp
  rw [hcv.im, hnos, hcv.bx]
  refine CallZ.use0 hVb rfl rfl ?_
  have goal0 : ∀ i, i < l.length - k → ((k + i : Nat) : Int) = (k : Int) + i := fun i _ => by omega
  by_cases hbest : V b < V c
  all_goals rcases hcs with ⟨hc0, hk0⟩ | ⟨R, jj, hk0, hc0⟩
  all_goals
    first
    | (have hcn : (intRows c).length = 0 := by rw [hc0]; rfl
       simp [hbest, hcn])
    | (have hcn : (intRows c).length = R.length + 1 := by rw [hc0]; simp [intRows_len]
       have hcg : (intRows c)[R.length]'(by omega) = [.int .i64 (jj : Int)] := by simp only [hc0]; simp [intRows]
       have hRl : R.length ≤ 100 := by rw [hc0] at hcl; simp at hcl; omega
       have wR : IntKind.i64.wrap (R.length : Int) = (R.length : Int) := w64 (by omega) (by omega)
       have wJ : IntKind.i64.wrap ((jj : Int) + 1) = (jj : Int) + 1 := w64 (by omega) (by omega)
       have hz2 : (R.length : Int) < (R.length : Int) + 1 := by omega
       simp [hbest, hcn, hcg, wR, wJ, hz2])
    refine loop_upto hm (l.length - k) (fun i => seaSt fv cv l start b c k i (RR i)) (fun _ => True) (by kernel_rfl) ?_ trivial (fun i hi _ => ?_) (fun _ => ?_)
    · refine Wk.weak (ρ := [0, 1, 2, 3, 4, 5, 6]) (φ := []) ?_
      simp [seaSt, hzero, pickT, hbest, hk0, hcv.wk]
    · obtain ⟨t1, t2, t3, t4⟩ := hA i (by omega)
      have hst := hstep i
      have e1 := goal0 i hi
      generalize RR i = a at t1 t2 t3 t4 hst ⊢
      rw [hst]
      obtain ⟨tg, cur⟩ := a
      simp only at t1 t2 t3 t4 ⊢
      have hx : Frm l.length (c ++ [(k : Int) + i]) (k + i + 1) := by
        have := hc.next (Nat.le_add_right k i) (show k + i < l.length by omega)
        rwa [e1] at this
      have hInL := inL_of hx
      have hsb := c_sortedByDue l (c ++ [(k : Int) + i]) (by omega) hInL (by simp; omega)
      rw [intRows_snoc] at hsb
      have hdl := c_impl_delay l (sortL (dueOf l) (c ++ [(k : Int) + i])) start (by rw [sortL_len]; simp; omega) (by omega) (fits_seq hv h0 h1 hInL)
      have w1 : IntKind.i64.wrap ((k : Int) + i + 1) = (k : Int) + (i + 1) := by rw [w64 (by omega) (by omega)]; omega
      have hlt : (k : Int) + i < l.length := by omega
      have hcl2 : (intRows c).length ≤ 100 := by rw [intRows_len]; omega
      generalize hS : sortL (dueOf l) (c ++ [(k : Int) + i]) = SS at hsb hdl
      have htc : tg = 0 ∨ tg = 1 ∨ tg = 2 := by omega
      unfold seaF
      rw [e1]
      by_cases hf : fitsT l start (c ++ [(k : Int) + i]) = true
      · have hd0 : delayOf l SS start ≤ 0 := by
          unfold fitsT at hf
          rw [hS] at hf
          simpa using hf
        have ih' := ih (N - 1) (by omega) (c ++ [(k : Int) + i]) cur (k + i + 1) (by omega) hx t2
        have s1 := hsrc (N - 1) (c ++ [(k : Int) + i]) (k + i + 1) cur
        have s2 := htag (N - 1) (c ++ [(k : Int) + i]) (k + i + 1) cur
        rw [if_pos hf]
        generalize srT V (fitsT l start) l.length (N - 1) (c ++ [(k : Int) + i]) (k + i + 1) cur = T at ih' s1 s2 ⊢
        obtain ⟨tr, res⟩ := T
        simp only at ih' s1 s2 ⊢
        have hrc : tr = 0 ∨ tr = 1 ∨ tr = 2 := by omega
        rcases htc with rfl | rfl | rfl
        · have hcb := (t3 rfl).symm
          subst hcb
          simp [seaSt]
          refine CallZ.use0 (c_sizeOrder l) rfl rfl ?_
          simp [hlt]
          refine CallZ.use (c_CloneInt64 (intRows c) (intRowsOne _) (by rw [intRows_len]; omega)) rfl (.inr ⟨flat_intRows _, trivial⟩) rfl rfl ?_
          simp
          refine ⟨by simp [Go.Ab.rowsOne], by omega, by omega, ?_⟩
          simp only [hcv.sc]
          refine CallZ.use hsb rfl (.inr ⟨flat_intRows _, trivial⟩) rfl rfl ?_
          simp
          refine CallZ.use0 hdl rfl rfl ?_
          simp [hd0]
          rcases hrc with rfl | rfl | rfl
          · have hr := s1.1 rfl
            subst hr
            refine CallZ.useM [0, 1, 2, 3, 4, 5, 7] [] [] ih' (by simp [hcv.wk, intRows_snoc]) rfl rfl (by simp) rfl rfl (by simp [hcv.cp]) (.inl rfl) ?_
            simp [hcv.rn]
            refine Wk.weak (ρ := [0, 1, 2, 3, 4, 5, 6]) (φ := []) ?_
            simp [w1, hcv.wk, intRows_snoc]
          · have hr := s1.2 rfl
            subst hr
            refine CallZ.useM [0, 1, 2, 3, 4, 5, 7] [] [] ih' (by simp [hcv.wk, intRows_snoc]) rfl rfl (by simp) rfl rfl (by simp [hcv.cp]) (.inl rfl) ?_
            simp [hcv.rn]
            refine Wk.weak (ρ := [0, 1, 2, 3, 4, 5, 6, 7]) (φ := []) ?_
            simp [w1, hcv.wk, intRows_snoc]
          · skip
            refine CallZ.useM [0, 1, 2, 3, 4, 5, 7] [] [] ih' (by simp [hcv.wk, intRows_snoc]) rfl rfl (by simp) rfl rfl (by simp [hcv.cp]) (.inl rfl) ?_
            simp [hcv.rn]
            refine Wk.weak (ρ := [0, 1, 2, 3, 4, 5, 6, 10]) (φ := []) ?_
            simp [w1, hcv.wk, intRows_snoc]
        · have hcb := (t4 rfl).symm
          subst hcb
          simp [seaSt]
          refine CallZ.use0 (c_sizeOrder l) rfl rfl ?_
          simp [hlt]
          refine CallZ.use (c_CloneInt64 (intRows c) (intRowsOne _) (by rw [intRows_len]; omega)) rfl (.inr ⟨flat_intRows _, trivial⟩) rfl rfl ?_
          simp
          refine ⟨by simp [Go.Ab.rowsOne], by omega, by omega, ?_⟩
          simp only [hcv.sc]
          refine CallZ.use hsb rfl (.inr ⟨flat_intRows _, trivial⟩) rfl rfl ?_
          simp
          refine CallZ.use0 hdl rfl rfl ?_
          simp [hd0]
          rcases hrc with rfl | rfl | rfl
          · have hr := s1.1 rfl
            subst hr
            refine CallZ.useM [0, 1, 2, 3, 4, 6, 7] [] [] ih' (by simp [hcv.wk, intRows_snoc]) rfl rfl (by simp) rfl rfl (by simp [hcv.cp]) (.inl rfl) ?_
            simp [hcv.rn]
            refine Wk.weak (ρ := [0, 1, 2, 3, 4, 5, 6]) (φ := []) ?_
            simp [w1, hcv.wk, intRows_snoc]
          · have hr := s1.2 rfl
            subst hr
            refine CallZ.useM [0, 1, 2, 3, 4, 6, 7] [] [] ih' (by simp [hcv.wk, intRows_snoc]) rfl rfl (by simp) rfl rfl (by simp [hcv.cp]) (.inl rfl) ?_
            simp [hcv.rn]
            refine Wk.weak (ρ := [0, 1, 2, 3, 4, 5, 6, 7]) (φ := []) ?_
            simp [w1, hcv.wk, intRows_snoc]
          · skip
            refine CallZ.useM [0, 1, 2, 3, 4, 6, 7] [] [] ih' (by simp [hcv.wk, intRows_snoc]) rfl rfl (by simp) rfl rfl (by simp [hcv.cp]) (.inl rfl) ?_
            simp [hcv.rn]
            refine Wk.weak (ρ := [0, 1, 2, 3, 4, 5, 6, 10]) (φ := []) ?_
            simp [w1, hcv.wk, intRows_snoc]
        · skip
          simp [seaSt]
          refine CallZ.use0 (c_sizeOrder l) rfl rfl ?_
          simp [hlt]
          refine CallZ.use (c_CloneInt64 (intRows c) (intRowsOne _) (by rw [intRows_len]; omega)) rfl (.inr ⟨flat_intRows _, trivial⟩) rfl rfl ?_
          simp
          refine ⟨by simp [Go.Ab.rowsOne], by omega, by omega, ?_⟩
          simp only [hcv.sc]
          refine CallZ.use hsb rfl (.inr ⟨flat_intRows _, trivial⟩) rfl rfl ?_
          simp
          refine CallZ.use0 hdl rfl rfl ?_
          simp [hd0]
          rcases hrc with rfl | rfl | rfl
          · have hr := s1.1 rfl
            subst hr
            refine CallZ.useM [0, 1, 2, 3, 4, 7, 8] [] [] ih' (by simp [hcv.wk, intRows_snoc]) rfl rfl (by simp) rfl rfl (by simp [hcv.cp]) (.inl rfl) ?_
            simp [hcv.rn]
            refine Wk.weak (ρ := [0, 1, 2, 3, 4, 5, 6, 7]) (φ := []) ?_
            simp [w1, hcv.wk, intRows_snoc]
          · have hr := s1.2 rfl
            subst hr
            refine CallZ.useM [0, 1, 2, 3, 4, 7, 8] [] [] ih' (by simp [hcv.wk, intRows_snoc]) rfl rfl (by simp) rfl rfl (by simp [hcv.cp]) (.inl rfl) ?_
            simp [hcv.rn]
            refine Wk.weak (ρ := [0, 1, 2, 3, 4, 5, 6, 8]) (φ := []) ?_
            simp [w1, hcv.wk, intRows_snoc]
          · skip
            refine CallZ.useM [0, 1, 2, 3, 4, 7, 8] [] [] ih' (by simp [hcv.wk, intRows_snoc]) rfl rfl (by simp) rfl rfl (by simp [hcv.cp]) (.inl rfl) ?_
            simp [hcv.rn]
            refine Wk.weak (ρ := [0, 1, 2, 3, 4, 5, 6, 11]) (φ := []) ?_
            simp [w1, hcv.wk, intRows_snoc]
      · rw [if_neg hf]
        have hd0 : ¬ delayOf l SS start ≤ 0 := by
          unfold fitsT at hf
          rw [hS] at hf
          simpa using hf
        rcases htc with rfl | rfl | rfl
        · have hcb := (t3 rfl).symm
          subst hcb
          simp [seaSt]
          refine CallZ.use0 (c_sizeOrder l) rfl rfl ?_
          simp [hlt]
          refine CallZ.use (c_CloneInt64 (intRows c) (intRowsOne _) (by rw [intRows_len]; omega)) rfl (.inr ⟨flat_intRows _, trivial⟩) rfl rfl ?_
          simp
          refine ⟨by simp [Go.Ab.rowsOne], by omega, by omega, ?_⟩
          simp only [hcv.sc]
          refine CallZ.use hsb rfl (.inr ⟨flat_intRows _, trivial⟩) rfl rfl ?_
          simp
          refine CallZ.use0 hdl rfl rfl ?_
          simp [hd0]
          refine Wk.weak (ρ := [0, 1, 2, 3, 4, 5, 6]) (φ := []) ?_
          simp [w1, hcv.wk]
        · have hcb := (t4 rfl).symm
          subst hcb
          simp [seaSt]
          refine CallZ.use0 (c_sizeOrder l) rfl rfl ?_
          simp [hlt]
          refine CallZ.use (c_CloneInt64 (intRows c) (intRowsOne _) (by rw [intRows_len]; omega)) rfl (.inr ⟨flat_intRows _, trivial⟩) rfl rfl ?_
          simp
          refine ⟨by simp [Go.Ab.rowsOne], by omega, by omega, ?_⟩
          simp only [hcv.sc]
          refine CallZ.use hsb rfl (.inr ⟨flat_intRows _, trivial⟩) rfl rfl ?_
          simp
          refine CallZ.use0 hdl rfl rfl ?_
          simp [hd0]
          refine Wk.weak (ρ := [0, 1, 2, 3, 4, 5, 6]) (φ := []) ?_
          simp [w1, hcv.wk]
        · skip
          simp [seaSt]
          refine CallZ.use0 (c_sizeOrder l) rfl rfl ?_
          simp [hlt]
          refine CallZ.use (c_CloneInt64 (intRows c) (intRowsOne _) (by rw [intRows_len]; omega)) rfl (.inr ⟨flat_intRows _, trivial⟩) rfl rfl ?_
          simp
          refine ⟨by simp [Go.Ab.rowsOne], by omega, by omega, ?_⟩
          simp only [hcv.sc]
          refine CallZ.use hsb rfl (.inr ⟨flat_intRows _, trivial⟩) rfl rfl ?_
          simp
          refine CallZ.use0 hdl rfl rfl ?_
          simp [hd0]
          refine Wk.weak (ρ := [0, 1, 2, 3, 4, 5, 6, 7]) (φ := []) ?_
          simp [w1, hcv.wk]
    · obtain ⟨t1, t2, t3, t4⟩ := hA (l.length - k) (Nat.le_refl _)
      generalize RR (l.length - k) = a at t1 t2 t3 t4 ⊢
      obtain ⟨tg, cur⟩ := a
      simp only at t1 t2 t3 t4 ⊢
      have hge : ¬ (k : Int) + (l.length - k : Nat) < l.length := by omega
      have htc : tg = 0 ∨ tg = 1 ∨ tg = 2 := by omega
      simp [seaSt]
      refine CallZ.use0 (c_sizeOrder l) rfl rfl ?_
      simp [hge]
      rcases htc with rfl | rfl | rfl
      · refine ⟨by simp, Wk.weak (ρ := [0, 1, 2, 3, 4, 5, 6]) (φ := []) ?_⟩
        simp [hcv.wk]
      · refine ⟨by simp, Wk.weak (ρ := [0, 1, 2, 3, 4, 5, 6]) (φ := []) ?_⟩
        simp [hcv.wk]
      · refine ⟨by simp, Wk.weak (ρ := [0, 1, 2, 3, 4, 5, 6, 7]) (φ := []) ?_⟩
        simp [hcv.wk]
end Go.Proofs.Yteomgilojaibeaa
