/- Contracts: whether a record can follow others, and whether records are a ledger. -/
import Derived.Test.YtnphmemhejhooaaHe
namespace Go.Proofs.Ytnphmemhejhooaa
open Go Go.Ab
set_option maxRecDepth 100000

/-- Whether a record may follow the first n. -/
def nextOk (l : List Record) (n : Nat) (r : Record) : Bool :=
  match act l n with
  | none => false
  | some S => if r.kind = 3 then decide (0 < S.length) else if r.kind = 1 then true else (stateF l S).any fun x => decide (x.key = r.key)
def ledgerOk (l : List Record) : Bool := decide (l.length ≤ 32) && (List.range l.length).all fun i => validRecord (recAt l i) && nextOk l i (recAt l i)
theorem any_keyIn {T : List Pair} (h : keysOk T) (s : List UInt8) : (T.any fun x => decide (x.key = s)) = keyIn T s := by
  cases hf : keyIn T s with
  | true =>
    obtain ⟨hlt, he⟩ := keyIn_at hf
    exact List.any_eq_true.2 ⟨_, List.getElem_mem hlt, by simpa using he⟩
  | false =>
    refine List.any_eq_false.2 fun x hx => ?_
    obtain ⟨i, hi, rfl⟩ := List.getElem_of_mem hx
    simpa using keyIn_not h hf hi
theorem stateF_take (l : List Record) (k : Nat) {S : List Int} (h : ∀ x ∈ S, 0 ≤ x ∧ x < k) : stateF (l.take k) S = stateF l S := by
  have : ∀ (S : List Int) (st : List Pair), (∀ x ∈ S, 0 ≤ x ∧ x < k) → S.foldl (fun st k' => stepK st (recAt (l.take k) k'.toNat)) st = S.foldl (fun st k' => stepK st (recAt l k'.toNat)) st := by
    intro S
    induction S with
    | nil => exact fun _ _ => rfl
    | cons x S ih =>
      intro st h
      have hx := h x (List.mem_cons_self ..)
      have e : recAt (l.take k) x.toNat = recAt l x.toNat := by
        unfold recAt
        rw [List.getD_eq_getElem?_getD, List.getD_eq_getElem?_getD, List.getElem?_take, if_pos (by omega)]
      rw [List.foldl_cons, List.foldl_cons, e]
      exact ih _ fun y hy => h y (List.mem_cons_of_mem _ hy)
  exact this S [] h
/-- The same, of the list's first n alone. -/
theorem actL_take (l : List Record) {n : Nat} (hn : n ≤ l.length) : actL (l.take n) (l.take n).length = actL l n ∧ stateF (l.take n) (actL l n) = stateF l (actL l n) := by
  have e : (l.take n).length = n := by rw [List.length_take]; omega
  refine ⟨by unfold actL; rw [e, act_take (Nat.le_refl _)], stateF_take l n fun x hx => ?_⟩
  cases h : act l n with
  | none => unfold actL at hx; simp [h] at hx
  | some S => rw [actL_some h] at hx; exact act_mem h x hx
theorem valid_kind {r : Record} (h : validRecord r = true) : r.kind = 1 ∨ r.kind = 2 ∨ r.kind = 3 := by
  unfold validRecord at h
  split at h
  · exact .inl ‹_›
  · split at h
    · exact .inr (.inl ‹_›)
    · simp only [Bool.and_eq_true, decide_eq_true_eq] at h
      exact .inr (.inr h.1.1)
/-- The first n are a ledger, but for their number. -/
def fineTo (l : List Record) (n : Nat) : Prop := ∀ i, i < n → validRecord (recAt l i) = true ∧ nextOk l i (recAt l i) = true
theorem fineTo_act {l : List Record} : ∀ {n : Nat}, fineTo l n → (act l n).isSome = true
  | 0, _ => rfl
  | n + 1, h => by
    obtain ⟨S, hS⟩ := Option.isSome_iff_exists.1 (fineTo_act (n := n) fun i hi => h i (by omega))
    have h2 := (h n (by omega)).2
    unfold nextOk at h2
    rw [hS] at h2
    simp only at h2
    rw [act_some hS]
    split
    · rfl
    · rename_i h3
      have h3 : (recAt l n).kind = 3 := by omega
      rw [if_pos h3] at h2
      rw [if_neg (by intro e; subst e; simp at h2)]
      rfl
theorem fineTo_kind {l : List Record} {n : Nat} (h : fineTo l n) (hn : n ≤ l.length) : ∀ r ∈ l.take n, r.kind = 1 ∨ r.kind = 2 ∨ r.kind = 3 := fun r hr => by
  obtain ⟨i, hi, rfl⟩ := List.getElem_of_mem hr
  rw [List.length_take] at hi
  have := (h i (by omega)).1
  rw [recAt_eq (by omega)] at this
  rw [List.getElem_take]
  exact valid_kind this
theorem ledgerOk_iff {l : List Record} : ledgerOk l = true ↔ l.length ≤ 32 ∧ fineTo l l.length := by
  unfold ledgerOk fineTo
  simp

theorem rec_at {l : List Record} {i : Nat} (hi : i < l.length) : (Record.rows l)[i]? = some l[i].cells := by simp [Record.rows, hi]
theorem Record.row_get (T : List Record) {i : Nat} (h : i < (Record.rows T).length) : (Record.rows T)[i] = [.int .i64 (T[i]'(by rw [Record.rows_len] at h; exact h)).kind, .str (T[i]'(by rw [Record.rows_len] at h; exact h)).key, .str (T[i]'(by rw [Record.rows_len] at h; exact h)).text] := by simp [Record.rows, Record.cells]
theorem fineTo_succ {l : List Record} {i : Nat} (hi : i < l.length) (h : fineTo l i) (h1 : validRecord l[i] = true) (h2 : nextOk l i l[i] = true) : fineTo l (i + 1) := fun j hj => by
  by_cases e : j = i
  · subst e; rw [recAt_eq hi]; exact ⟨h1, h2⟩
  · exact h j (by omega)
theorem ledger_bad {l : List Record} {i : Nat} (hi : i < l.length) (h : ¬ (validRecord l[i] = true ∧ nextOk l i l[i] = true)) : ledgerOk l = false := by
  cases e : ledgerOk l with
  | false => rfl
  | true =>
    have := (ledgerOk_iff.1 e).2 i hi
    rw [recAt_eq hi] at this
    exact absurd this h

end Go.Proofs.Ytnphmemhejhooaa
