/- Contracts: the history of a key. -/
import Derived.Test.YtaefhahgkijnfaaHg
namespace Go.Proofs.Ytaefhahgkijnfaa
open Go Go.Ab
set_option maxRecDepth 100000

/-- Another key's: those that fall. -/
def offK (l : List Record) (s : List UInt8) (x : Int) : Bool := !decide ((recAt l x.toNat).key = s)
def InR (l : List Record) (ks : List Int) : Prop := ∀ k ∈ ks, 0 ≤ k ∧ k < l.length
def hisL (l : List Record) (s : List UInt8) : List Int := (acL l).filter fun x => !offK l s x
theorem hisL_le (l : List Record) (s : List UInt8) : (hisL l s).length ≤ l.length := Nat.le_trans (List.length_filter_le _ _) (acL_le l)
theorem actL_in (l : List Record) : InR l (actL l l.length) := fun k hk => by
  cases h : act l l.length with
  | none => unfold actL at hk; simp [h] at hk
  | some S => rw [actL_some h] at hk; have := act_mem h k hk; omega
theorem InR.get {l : List Record} {ks : List Int} (h : InR l ks) {i : Nat} (hi : i < ks.length) : ∃ k : Nat, ks[i] = (k : Int) ∧ k < l.length := by
  have := h ks[i] (List.getElem_mem hi)
  exact ⟨ks[i].toNat, by omega, by omega⟩

theorem c_offK (l : List Record) (s : List UInt8) (a : Int) (ha : 0 ≤ a ∧ a < l.length) :
    HFn Try.prog 106 [.int .i64 a, .pe 1 [[.sl 3 (Record.rows l)]] 0 0, .pe 1 [[.str s]] 0 0] [] (.bool (offK l s a)) [] := by
  obtain ⟨i, rfl⟩ : ∃ i : Nat, a = i := ⟨a.toNat, by omega⟩
  have hi : i < l.length := by omega
  refine hfn_intro hm Try.func106 (by kernel_rfl) rfl (by kernel_rfl) rfl ret0_ok ?_
  simp [Record.rows_len, Record.row_get, hi, offK, recAt_eq hi]

theorem c_IndexOff (l : List Record) (s : List UInt8) (ks : List Int) (hk : InR l ks) (hn : ks.length ≤ 1048576) :
    HFn Try.prog 148 [.sl 1 (intRows ks), .fn 106 [.pe 1 [[.sl 3 (Record.rows l)]] 0 0, .pe 1 [[.str s]] 0 0]] [] (.int .i64 (findI (offK l s) ks)) [] := by
  refine hfn_intro hm Try.func148 (by kernel_rfl) rfl (by kernel_rfl) rfl ret0_ok ?_
  simp [intRows_len]
  refine loop_upto hm ks.length (fun i => ⟨[(0, .sl 1 (intRows ks)), (1, .fn 106 [.pe 1 [[.sl 3 (Record.rows l)]] 0 0, .pe 1 [[.str s]] 0 0]), (7, .int .i64 ks.length), (8, .int .i64 i)], []⟩) (fun i => ∀ j (h : j < ks.length), j < i → offK l s ks[j] = false) (by kernel_rfl) ?_ (by simp) (fun i hi hI => ?_) (fun hI => ?_)
  · exact Wk.weak (ρ := []) (φ := []) (by simp)
  · simp [hi, intRows_len, intRows_get]
    refine CallZ.use0 (c_offK l s ks[i] (hk _ (List.getElem_mem hi))) rfl rfl ?_
    simp
    refine ⟨fun h => (findI_at hi h hI).symm, fun h => ⟨fun j hj hji => ?_, ?_⟩⟩
    · by_cases e : j = i
      · subst e; exact h
      · exact hI j hj (by omega)
    · refine Wk.weak (ρ := []) (φ := []) ?_
      simp
      exact w64 (by omega) (by omega)
  · simp
    exact (findI_none fun j hj => hI j hj hj).symm

/-- Those kept of the first j. -/
def keptL (p : Int → Bool) (ks : List Int) (j : Nat) : List Int := (ks.take j).filter fun x => !p x
theorem keptL_le (p : Int → Bool) (ks : List Int) (j : Nat) : (keptL p ks j).length ≤ j := Nat.le_trans (List.length_filter_le _ _) (List.length_take_le _ _)
theorem keptL_succ (p : Int → Bool) (ks : List Int) {j : Nat} (hj : j < ks.length) : keptL p ks (j + 1) = if p ks[j] = true then keptL p ks j else keptL p ks j ++ [ks[j]] := by
  unfold keptL
  rw [← List.take_append_getElem hj, List.filter_append]
  cases h : p ks[j] <;> simp [h]
theorem keptL_none {p : Int → Bool} {ks : List Int} {j : Nat} (h : ∀ i (hi : i < ks.length), i < j → p ks[i] = false) : keptL p ks j = ks.take j := by
  unfold keptL
  refine List.filter_eq_self.2 fun x hx => ?_
  obtain ⟨i, hi, rfl⟩ := List.getElem_of_mem hx
  rw [List.length_take] at hi
  rw [List.getElem_take, h i (by omega) (by omega)]
  rfl
theorem findI_some {p : Int → Bool} {ks : List Int} (h : findI p ks ≠ -1) : ∃ i : Nat, findI p ks = i ∧ ∃ hi : i < ks.length, p ks[i] = true ∧ ∀ j (hj : j < ks.length), j < i → p ks[j] = false := by
  unfold findI at h ⊢
  cases e : ks.findIdx? p with
  | none => rw [e] at h; exact absurd rfl h
  | some i =>
    obtain ⟨h1, h2, h3⟩ := List.findIdx?_eq_some_iff_getElem.1 e
    exact ⟨i, rfl, h1, h2, fun j hj hji => by simpa using h3 j hji⟩
theorem findI_no {p : Int → Bool} {ks : List Int} (h : findI p ks = -1) : ks.filter (fun x => !p x) = ks := by
  unfold findI at h
  cases e : ks.findIdx? p with
  | none =>
    refine List.filter_eq_self.2 fun x hx => ?_
    have := List.findIdx?_eq_none_iff.1 e x hx
    simp [this]
  | some i => rw [e] at h; simp only at h; omega

theorem c_DeleteOff (l : List Record) (s : List UInt8) (ks : List Int) (hk : InR l ks) (hn : ks.length ≤ 1048576) :
    MFn Try.prog 105 [.sf 0 1, .fn 106 [.pb 1 0, .pb 2 0]] [some (.arr 1 (intRows ks)), some (.box [.sl 3 (Record.rows l)]), some (.box [.str s])] [] (.sf 0 1) [some (.arr 1 (intRows (ks.filter fun x => !offK l s x))), some (.box [.sl 3 (Record.rows l)]), some (.box [.str s])] := by
  refine mfn_intro [] hm Try.func105 (by kernel_rfl) rfl (by kernel_rfl) rfl (fun _ _ h => h) trivial ?_
  simp
  refine CallZ.use0 (c_IndexOff l s ks hk hn) rfl rfl ?_
  simp
  refine ⟨fun h => ?_, fun h => ?_⟩
  · refine Wk.weak (ρ := [0, 1, 2]) (φ := []) ?_
    simp [findI_no h]
  obtain ⟨i0, e0, hi0, hp0, hb0⟩ := findI_some h
  rw [e0]
  have w1 : IntKind.i64.wrap ((i0 : Int) + 1) = ((i0 + 1 : Nat) : Int) := by rw [w64 (by omega) (by omega)]; omega
  have hkp := keptL_none (p := offK l s) (ks := ks) (j := i0) hb0
  have hkp1 : keptL (offK l s) ks (i0 + 1) = ks.take i0 := by rw [keptL_succ _ _ hi0, if_pos hp0, hkp]
  refine loop_rule hm (ι := {x : Nat × List Int // i0 < x.1 ∧ x.1 ≤ ks.length ∧ x.2.length = ks.length ∧ x.2.take (keptL (offK l s) ks x.1).length = keptL (offK l s) ks x.1 ∧ x.2.drop x.1 = ks.drop x.1}) (fun x => ⟨[(0, .sf 0 1), (1, .fn 106 [.pb 1 0, .pb 2 0]), (5, .int .i64 (keptL (offK l s) ks x.1.1).length), (6, .int .i64 x.1.1)], [some (.arr 1 (intRows x.1.2)), some (.box [.sl 3 (Record.rows l)]), some (.box [.str s])]⟩) (fun x => ks.length - x.1.1) (by kernel_rfl) ⟨(i0 + 1, ks), by omega, by omega, rfl, by rw [hkp1]; simp, rfl⟩ ?_ ?_
  · refine Wk.weak (ρ := [0, 1, 2]) (φ := []) ?_
    have e : min i0 ks.length = i0 := by omega
    simp [w1, hkp1, e]
  · rintro ⟨⟨j, A⟩, h1, h2, h3, h4, h5⟩
    simp only at h1 h2 h3 h4 h5 ⊢
    have hkl := keptL_le (offK l s) ks j
    by_cases hj : j < ks.length
    · have hAj : A[j]? = some ks[j] := by
        have : (A.drop j)[0]? = (ks.drop j)[0]? := by rw [h5]
        rw [List.getElem?_drop, List.getElem?_drop, Nat.add_zero] at this
        rw [this, List.getElem?_eq_getElem hj]
      have hjA : j < A.length := by omega
      have hAe : A[j] = ks[j] := by rw [List.getElem?_eq_getElem hjA] at hAj; exact Option.some.inj hAj
      have w2 : IntKind.i64.wrap ((j : Int) + 1) = ((j + 1 : Nat) : Int) := by rw [w64 (by omega) (by omega)]; omega
      have hA1 : A.drop (j + 1) = ks.drop (j + 1) := by
        have e : ∀ B : List Int, B.drop (j + 1) = (B.drop j).drop 1 := fun B => by rw [List.drop_drop]
        rw [e A, e ks, h5]
      have hks := keptL_succ (offK l s) ks hj
      simp [hj, intRows_len, intRows_get, hAe, h3]
      refine CallZ.use0 (c_offK l s ks[j] (hk _ (List.getElem_mem hj))) rfl rfl ?_
      simp
      have hrow : (intRows A)[(keptL (offK l s) ks j).length]? = some [.int .i64 (A[(keptL (offK l s) ks j).length]'(by omega))] := intRows_at A (by omega)
      refine ⟨fun ho => ⟨by rw [intRows_len]; omega, ?_⟩, fun ho => ?_⟩
      · rw [ho, if_neg (by simp)] at hks
        refine ⟨j + 1, A.set (keptL (offK l s) ks j).length ks[j], Wk.weak (ρ := [0, 1, 2]) (φ := []) ?_, ⟨by omega, by omega, by simpa using h3, ?_, ?_⟩, by omega⟩
        · have w3 : IntKind.i64.wrap (((keptL (offK l s) ks j).length : Int) + 1) = ((keptL (offK l s) ks j).length : Int) + 1 := w64 (by omega) (by omega)
          rw [hrow]
          simp [w2, w3, hks, intRows, List.map_set]
        · rw [hks, List.length_append, List.length_singleton, List.take_add_one, List.take_set_of_le (Nat.le_refl _), h4, List.getElem?_set_self (by omega)]
          rfl
        · rw [List.drop_set_of_lt (by omega), hA1]
      · rw [ho, if_pos rfl] at hks
        refine ⟨j + 1, A, Wk.weak (ρ := [0, 1, 2]) (φ := []) ?_, ⟨by omega, by omega, h3, by rw [hks]; exact h4, hA1⟩, by omega⟩
        simp [w2, hks]
    · have hjn : j = ks.length := by omega
      subst hjn
      have hkn : keptL (offK l s) ks ks.length = ks.filter fun x => !offK l s x := by unfold keptL; rw [List.take_length]
      simp [intRows_len, h3]
      rw [hkn] at hkl h4 ⊢
      refine ⟨by omega, by omega, by omega, ?_⟩
      refine (weak_cut (S := ⟨[(0, .so 0 1 0 (ks.filter fun x => !offK l s x).length)], _⟩) (t := 0) rfl rfl (by simp [intRows_len]; omega)).trans (Wk.weak (ρ := [0, 1, 2]) (φ := []) ?_)
      simp [← intRows_take, h4]
      rw [List.take_left' (by rw [intRows_len])]

theorem c_impl_HistoryOf (l : List Record) (s : List UInt8) (hl : l.length ≤ 1048576) (hw : ∀ x ∈ l, x.wf) :
    HFn Try.prog 50 [.sl 3 (Record.rows l), .str s] [] (.tup [.sf 0 1, .int .i64 (acCode l)]) [some (.arr 1 (intRows (hisL l s)))] := by
  refine hfn_intro hm Try.func50 (by kernel_rfl) rfl (by kernel_rfl) rfl (fun _ _ h => h) ?_
  simp
  refine CallZ.use (c_impl_ActiveRecords l hl hw) rfl (.inl rfl) rfl rfl ?_
  simp
  refine ⟨fun h => ?_, fun h => ?_⟩
  · refine (weak_nilT (t := 0) 0 1 rfl rfl).trans (Wk.weak (ρ := [3]) (φ := []) ?_)
    have hk : ledgerOk l = false := by
      cases e : ledgerOk l with
      | false => rfl
      | true => exact absurd (by unfold acCode; rw [e]; rfl) h
    simp [hisL, acL, hk, intRows]
  have hk : ledgerOk l = true := by
    cases e : ledgerOk l with
    | true => rfl
    | false => unfold acCode at h; rw [e] at h; cases h
  have hL : acL l = actL l l.length := by unfold acL; rw [if_pos hk]
  refine CallZ.useM [2, 0, 1] [] [0, 1, 2] (c_DeleteOff l s (acL l) (by rw [hL]; exact actL_in l) (by have := acL_le l; omega)) (by simp) rfl rfl (by simp) rfl rfl rfl (.inl rfl) ?_
  simp
  refine Wk.weak (ρ := [2]) (φ := []) ?_
  simp [h, hisL]

theorem c_spec_HistoryOf (l : List Record) (s : List UInt8) (hl : l.length ≤ 1048576) (hw : ∀ x ∈ l, x.wf) :
    HFn Try.prog 49 [.sl 3 (Record.rows l), .str s] [] (.tup [.sf 0 1, .int .i64 (acCode l)]) [some (.arr 1 (intRows (hisL l s)))] := by
  refine hfn_intro hm Try.func49 (by kernel_rfl) rfl (by kernel_rfl) rfl (fun _ _ h => h) ?_
  simp
  refine CallZ.use0 (c_l30Ok l hl hw) rfl rfl ?_
  simp [Record.rows_len]
  refine ⟨fun h => ?_, fun h => ?_⟩
  · refine (weak_nilT (t := 0) 0 1 rfl rfl).trans (Wk.weak (ρ := [0]) (φ := []) ?_)
    simp [acCode, hisL, acL, h, intRows]
  refine CallZ.use (c_spec_l30Active l l.length (by omega) hl) rfl (.inl rfl) rfl rfl ?_
  simp
  have hL : acL l = actL l l.length := by unfold acL; rw [if_pos h]
  have hc : acCode l = 0 := by unfold acCode; rw [if_pos h]
  have hin := actL_in l
  unfold hisL
  rw [hL, hc]
  obtain ⟨S, hS⟩ : ∃ S, S = actL l l.length := ⟨_, rfl⟩
  have hSl := actL_len l l.length
  rw [← hS] at hin hSl ⊢
  refine loop_upto hm S.length (fun i => ⟨[(0, .sl 3 (Record.rows l)), (1, .str s), (6, .sf 0 1), (8, .sf 1 1), (9, .int .i64 i)], [some (.arr 1 (intRows S)), some (.arr 1 (intRows (keptL (offK l s) S i)))]⟩) (fun _ => True) (by kernel_rfl) ?_ trivial (fun i hi _ => ?_) (fun _ => ?_)
  · refine (weak_nil (t := 8) (z := 1) rfl).trans (Wk.weak (ρ := [0, 1]) (φ := []) ?_)
    simp [keptL, intRows]
  · obtain ⟨k, hSk, hkl⟩ := hin.get hi
    have hks := keptL_succ (offK l s) S hi
    have hkle := keptL_le (offK l s) S i
    have w1 : IntKind.i64.wrap ((i : Int) + 1) = (i : Int) + 1 := w64 (by omega) (by omega)
    have ho : offK l s S[i] = !decide (l[k].key = s) := by unfold offK; rw [hSk, Int.toNat_natCast, recAt_eq hkl]
    rw [ho] at hks
    simp [hi, intRows_len, intRows_get, hSk, hkl, Record.rows_len, Record.row_get]
    refine ⟨fun he => ⟨by simp [rowsOne], by omega, by omega, Wk.weak (ρ := [0, 1]) (φ := []) ?_⟩, fun he => Wk.weak (ρ := [0, 1]) (φ := []) ?_⟩
    · rw [he] at hks
      simp [w1, hks, hSk, intRows]
    · simp [he] at hks
      simp [w1, hks]
  · simp [intRows_len]
    refine Wk.weak (ρ := [1]) (φ := []) ?_
    simp [keptL]
end Go.Proofs.Ytaefhahgkijnfaa
