/- Contracts: the state after records, and whether a record can follow. -/
import Derived.Test.YtnphmemhejhooaaHc
namespace Go.Proofs.Ytnphmemhejhooaa
open Go Go.Ab
set_option maxRecDepth 100000

theorem Pair.rowsOne (l : List Pair) : rowsOne (Pair.rows l) := fun r hr => by
  obtain ⟨x, _, rfl⟩ := List.mem_map.1 hr
  simp [Pair.cells]
theorem intRows_at (S : List Int) {i : Nat} (hi : i < S.length) : (intRows S)[i]? = some [.int .i64 S[i]] := by simp [intRows, hi]
theorem act_at {l : List Record} {n : Nat} {S : List Int} (h : act l n = some S) {i : Nat} (hi : i < S.length) : ∃ k : Nat, S[i] = (k : Int) ∧ k < n := by
  have := act_mem h S[i] (List.getElem_mem hi)
  exact ⟨S[i].toNat, by omega, by omega⟩
theorem actL_at {l : List Record} {n : Nat} {i : Nat} (hi : i < (actL l n).length) : ∃ k : Nat, (actL l n)[i] = (k : Int) ∧ k < n := by
  cases h : act l n with
  | none => unfold actL at hi; simp [h] at hi
  | some S =>
    have e : actL l n = S := actL_some h
    have := act_at h (i := i) (by rw [← e]; exact hi)
    simpa [e] using this
theorem act_kind {l : List Record} : ∀ {i : Nat} {S : List Int}, act l i = some S → ∀ k ∈ S, (recAt l k.toNat).kind ≠ 3
  | 0, S, h, k, hk => by cases h; simp at hk
  | i + 1, S, h, k, hk => by
    unfold act at h
    cases ha : act l i with
    | none => rw [ha] at h; cases h
    | some T =>
      have ih := act_kind ha
      rw [ha] at h
      simp only at h
      split at h
      · rename_i h3
        cases h
        rcases List.mem_append.1 hk with g | g
        · exact ih k g
        · simp at g; subst g; simpa using h3
      · split at h
        · cases h
        · cases h
          exact ih k (List.dropLast_subset _ hk)
theorem actL_kind {l : List Record} {n : Nat} {i : Nat} (hi : i < (actL l n).length) : (recAt l (actL l n)[i].toNat).kind ≠ 3 := by
  cases h : act l n with
  | none => unfold actL at hi; simp [h] at hi
  | some S =>
    have e : actL l n = S := actL_some h
    have := act_kind h _ (List.getElem_mem (by rw [e] at hi; exact hi))
    simpa [e] using this
theorem actL_len (l : List Record) (n : Nat) : (actL l n).length ≤ n := by
  cases h : act l n with
  | none => simp [actL, h]
  | some S => rw [actL_some h]; exact act_len h

theorem stepK_del {T : List Pair} {r : Record} (h2 : r.kind = 2) (hf : keyIn T r.key = true) : stepK T r = T.take (keyCut T r.key) ++ T.drop (keyCut T r.key + 1) := by
  unfold stepK keyEnd
  simp [h2, hf]
theorem stepK_none {T : List Pair} {r : Record} (h2 : r.kind = 2) (hf : keyIn T r.key = false) : stepK T r = T := by
  unfold stepK keyEnd
  simp [h2, hf]
theorem stepK_set {T : List Pair} {r : Record} (h1 : r.kind = 1) (hf : keyIn T r.key = true) : stepK T r = T.set (keyCut T r.key) ⟨r.key, r.text⟩ := by
  obtain ⟨hlt, _⟩ := keyIn_at hf
  rw [List.set_eq_take_append_cons_drop, if_pos hlt]
  unfold stepK keyEnd
  simp [h1, hf]
theorem stepK_ins {T : List Pair} {r : Record} (h1 : r.kind = 1) (hf : keyIn T r.key = false) : stepK T r = T.take (keyCut T r.key) ++ ⟨r.key, r.text⟩ :: T.drop (keyCut T r.key) := by
  unfold stepK keyEnd
  simp [h1, hf]

end Go.Proofs.Ytnphmemhejhooaa
