/- Contracts: the state after records, and whether a record can follow. -/
import Derived.Test.YtaefhahgkijnfaaHc
namespace Go.Proofs.Ytaefhahgkijnfaa
open Go Go.Ab
set_option maxRecDepth 100000

theorem Pair.rowsOne (l : List Pair) : rowsOne (Pair.rows l) := fun r hr => by
  obtain ⟨x, _, rfl⟩ := List.mem_map.1 hr
  simp [Pair.cells]
theorem intRows_at (S : List Int) {i : Nat} (hi : i < S.length) : (intRows S)[i]? = some [.int .i64 S[i]] := by simp [intRows, hi]
theorem act_at {l : List Record} {n : Nat} {S : List Int} (h : act l n = some S) {i : Nat} (hi : i < S.length) : ∃ k : Nat, S[i] = (k : Int) ∧ k < n := by
  have := act_mem h S[i] (List.getElem_mem hi)
  exact ⟨S[i].toNat, by omega, by omega⟩
theorem actL_at {l : List Record} {n : Nat} {i : Nat} (hi : i < (actL l n).length) : ∃ k : Nat, (actL l n)[i] = (k : Int) ∧ k < n := by
  cases h : act l n with
  | none => unfold actL at hi; simp [h] at hi
  | some S =>
    have e : actL l n = S := actL_some h
    have := act_at h (i := i) (by rw [← e]; exact hi)
    simpa [e] using this
theorem act_kind {l : List Record} : ∀ {i : Nat} {S : List Int}, act l i = some S → ∀ k ∈ S, (recAt l k.toNat).kind ≠ 3
  | 0, S, h, k, hk => by cases h; simp at hk
  | i + 1, S, h, k, hk => by
    unfold act at h
    cases ha : act l i with
    | none => rw [ha] at h; cases h
    | some T =>
      have ih := act_kind ha
      rw [ha] at h
      simp only at h
      split at h
      · rename_i h3
        cases h
        rcases List.mem_append.1 hk with g | g
        · exact ih k g
        · simp at g; subst g; simpa using h3
      · split at h
        · cases h
        · cases h
          exact ih k (List.dropLast_subset _ hk)
theorem actL_kind {l : List Record} {n : Nat} {i : Nat} (hi : i < (actL l n).length) : (recAt l (actL l n)[i].toNat).kind ≠ 3 := by
  cases h : act l n with
  | none => unfold actL at hi; simp [h] at hi
  | some S =>
    have e : actL l n = S := actL_some h
    have := act_kind h _ (List.getElem_mem (by rw [e] at hi; exact hi))
    simpa [e] using this
theorem actL_len (l : List Record) (n : Nat) : (actL l n).length ≤ n := by
  cases h : act l n with
  | none => simp [actL, h]
  | some S => rw [actL_some h]; exact act_len h

theorem stepK_del {T : List Pair} {r : Record} (h2 : r.kind = 2) (hf : keyIn T r.key = true) : stepK T r = T.take (keyCut T r.key) ++ T.drop (keyCut T r.key + 1) := by
  unfold stepK keyEnd
  simp [h2, hf]
theorem stepK_none {T : List Pair} {r : Record} (h2 : r.kind = 2) (hf : keyIn T r.key = false) : stepK T r = T := by
  unfold stepK keyEnd
  simp [h2, hf]
theorem stepK_set {T : List Pair} {r : Record} (h1 : r.kind = 1) (hf : keyIn T r.key = true) : stepK T r = T.set (keyCut T r.key) ⟨r.key, r.text⟩ := by
  obtain ⟨hlt, _⟩ := keyIn_at hf
  rw [List.set_eq_take_append_cons_drop, if_pos hlt]
  unfold stepK keyEnd
  simp [h1, hf]
theorem stepK_ins {T : List Pair} {r : Record} (h1 : r.kind = 1) (hf : keyIn T r.key = false) : stepK T r = T.take (keyCut T r.key) ++ ⟨r.key, r.text⟩ :: T.drop (keyCut T r.key) := by
  unfold stepK keyEnd
  simp [h1, hf]

theorem c_stateOf (l : List Record) (hl : l.length < 1048576) (hk : ∀ r ∈ l, r.kind = 1 ∨ r.kind = 2 ∨ r.kind = 3) :
    HFn Try.prog 84 [.sl 3 (Record.rows l)] [] (.sf 0 2) [some (.arr 2 (Pair.rows (stateF l (actL l l.length))))] := by
  refine hfn_intro hm Try.func84 (by kernel_rfl) rfl (by kernel_rfl) rfl (fun _ _ h => h) ?_
  simp
  refine CallZ.use (c_impl_active l (by omega)) rfl (.inl rfl) rfl rfl ?_
  simp
  obtain ⟨S, hS⟩ : ∃ S, S = actL l l.length := ⟨_, rfl⟩
  have hSl : S.length ≤ l.length := by rw [hS]; exact actL_len l _
  rw [← hS]
  refine loop_upto hm S.length (fun i => ⟨[(0, .sl 3 (Record.rows l)), (3, .sf 1 2), (16, .sf 0 1), (17, .int .i64 S.length), (18, .int .i64 i)], [some (.arr 1 (intRows S)), some (.arr 2 (Pair.rows (stateF l (S.take i))))]⟩) (fun _ => True) (by kernel_rfl) ?_ trivial (fun i hi _ => ?_) (fun _ => ?_)
  · refine (weak_nil (t := 3) (z := 2) rfl).trans (Wk.weak (ρ := [0, 1]) (φ := []) ?_)
    simp [stateF, Pair.rows, intRows_len]
  · obtain ⟨k, hSk, hkl⟩ : ∃ k : Nat, S[i] = (k : Int) ∧ k < l.length := by subst hS; exact actL_at hi
    have hok := stateF_ok l (S.take i)
    have hsc := stateF_succ l hi
    obtain ⟨T, hT⟩ : ∃ T, T = stateF l (S.take i) := ⟨_, rfl⟩
    rw [← hT] at hok hsc ⊢
    have hTl : T.length ≤ 1048576 := by have := hok.2; rw [List.length_take] at this; omega
    rw [hSk, Int.toNat_natCast, recAt_eq hkl] at hsc
    have hk12 : l[k].kind = 1 ∨ l[k].kind = 2 := by
      have h1 := hk l[k] (List.getElem_mem hkl)
      have h3 : (recAt l S[i].toNat).kind ≠ 3 := by subst hS; exact actL_kind hi
      rw [hSk, Int.toNat_natCast, recAt_eq hkl] at h3
      omega
    obtain ⟨r, hr⟩ : ∃ r, r = l[k] := ⟨_, rfl⟩
    rw [← hr] at hsc hk12
    have hcell : l[k].cells = [.int .i64 r.kind, .str r.key, .str r.text] := by rw [← hr]; rfl
    simp [hi, intRows_at, hSk, hkl, Record.rows, hcell]
    refine ⟨by simpa [intRows_len] using hi, CallZ.use0 (c_pairAt T r.key hTl hok.1) rfl rfl ?_⟩
    have hle := keyCut_le T r.key
    have w1 : IntKind.i64.wrap ((i : Int) + 1) = (i : Int) + 1 := w64 (by omega) (by omega)
    cases hf : keyIn T r.key with
    | true =>
      obtain ⟨hlt, hat⟩ := keyIn_at hf
      have wK : IntKind.i64.wrap ((keyCut T r.key : Int) + 1) = ((keyCut T r.key + 1 : Nat) : Int) := by rw [w64 (by omega) (by omega)]; omega
      rcases hk12 with h1 | h2
      · simp [h1]
        have hrow : (Pair.rows T)[keyCut T r.key]? = some [.str r.key, .str T[keyCut T r.key].text] := by simp [Pair.rows, Pair.cells, hlt, hat]
        refine ⟨by rw [Pair.rows_len]; exact hlt, Wk.weak (ρ := [0, 1]) (φ := []) ?_⟩
        rw [hsc, stepK_set h1 hf, hrow]
        simp [w1, Pair.rows, Pair.cells, List.map_set]
      · simp [h2, wK]
        refine CallZ.useM [1] [] [1] (c_DeletePair (Pair.rows T) (keyCut T r.key) (keyCut T r.key + 1) (Pair.rowsOne T) (by omega) (by rw [Pair.rows_len]; omega) (by rw [Pair.rows_len]; omega)) (by simp) rfl rfl (by simp) rfl rfl rfl (.inl rfl) ?_
        simp
        refine Wk.weak (ρ := [0, 1]) (φ := []) ?_
        rw [hsc, stepK_del h2 hf]
        simp [w1, Pair.rows]
    | false =>
      rcases hk12 with h1 | h2
      · simp [h1]
        have hsp : Pair.rows T = Pair.rows (T.take (keyCut T r.key)) ++ Pair.rows (T.drop (keyCut T r.key)) := by unfold Pair.rows; rw [← List.map_append, List.take_append_drop]
        have hlen : (Pair.rows (T.take (keyCut T r.key))).length = keyCut T r.key := by rw [Pair.rows_len, List.length_take]; omega
        have hc := c_InsertPair (Pair.rows (T.take (keyCut T r.key))) (Pair.rows (T.drop (keyCut T r.key))) [[.str r.key, .str r.text]] (by rw [← hsp]; exact Pair.rowsOne T) (by simp [rowsOne]) (by simp) (by rw [Pair.rows_len, Pair.rows_len, List.length_take, List.length_drop]; simp; have := hok.2; rw [List.length_take] at this; omega)
        rw [← hsp, hlen] at hc
        refine CallZ.useM [1, 3] [] [1, 3] hc (by simp) rfl rfl (by simp) rfl rfl rfl (.inl rfl) ?_
        simp
        refine Wk.weak (ρ := [0, 1]) (φ := []) ?_
        rw [hsc, stepK_ins h1 hf]
        simp [w1, Pair.rows, Pair.cells]
      · simp [h2]
        refine Wk.weak (ρ := [0, 1]) (φ := []) ?_
        rw [hsc, stepK_none h2 hf]
        simp [w1]
  · simp
    refine Wk.weak (ρ := [1]) (φ := []) ?_
    simp
end Go.Proofs.Ytaefhahgkijnfaa
