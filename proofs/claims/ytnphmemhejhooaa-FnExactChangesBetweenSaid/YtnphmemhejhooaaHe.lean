/- Contracts: the state after records, as the other side computes it. -/
import Derived.Test.YtnphmemhejhooaaHd
namespace Go.Proofs.Ytnphmemhejhooaa
open Go Go.Ab
set_option maxRecDepth 100000

def insR (r : Record) : List Pair := if r.kind = 2 then [] else [⟨r.key, r.text⟩]
theorem stepK_eq (S : List Pair) (r : Record) : stepK S r = S.take (keyCut S r.key) ++ (insR r ++ S.drop (keyEnd S r.key)) := rfl
/-- What the other side has put together when it has gone over j pairs. -/
def nextJ (T : List Pair) (r : Record) (j : Nat) : List Pair := if j ≤ keyCut T r.key then T.take j else T.take (keyCut T r.key) ++ (insR r ++ (T.take j).drop (keyEnd T r.key))
def doneJ (T : List Pair) (r : Record) (j : Nat) : Bool := decide (r.kind = 2) || decide (keyCut T r.key < j)
theorem nextJ_lt {T : List Pair} {r : Record} {j : Nat} (h : j < keyCut T r.key) (hj : j < T.length) : nextJ T r (j + 1) = nextJ T r j ++ [T[j]] := by
  unfold nextJ
  rw [if_pos (by omega), if_pos (by omega), List.take_append_getElem hj]
theorem nextJ_at {T : List Pair} {r : Record} {j : Nat} (h : j = keyCut T r.key) (hj : j < T.length) : nextJ T r (j + 1) = nextJ T r j ++ (insR r ++ if keyIn T r.key = true then [] else [T[j]]) := by
  have e1 : nextJ T r (j + 1) = T.take j ++ (insR r ++ (T.take (j + 1)).drop (keyEnd T r.key)) := by
    unfold nextJ
    rw [if_neg (by omega), ← h]
  have e2 : nextJ T r j = T.take j := by
    unfold nextJ
    rw [if_pos (by omega)]
  rw [e1, e2]
  unfold keyEnd
  by_cases hf : keyIn T r.key = true
  · rw [if_pos hf, if_pos hf, ← h, List.drop_of_length_le (by rw [List.length_take]; omega)]
  · rw [if_neg hf, if_neg hf, ← h, ← List.take_append_getElem hj, List.drop_left' (by simp; omega)]
theorem nextJ_gt {T : List Pair} {r : Record} {j : Nat} (h : keyCut T r.key < j) (hj : j < T.length) : nextJ T r (j + 1) = nextJ T r j ++ [T[j]] := by
  have hE : keyEnd T r.key ≤ j := by unfold keyEnd; split <;> omega
  unfold nextJ
  rw [if_neg (by omega), if_neg (by omega), ← List.take_append_getElem hj, List.drop_append_of_le_length (by simp; omega)]
  simp
theorem nextJ_end (T : List Pair) (r : Record) : stepK T r = if doneJ T r T.length = true then nextJ T r T.length else nextJ T r T.length ++ [⟨r.key, r.text⟩] := by
  have hle := keyCut_le T r.key
  have hE := keyEnd_le T r.key
  rw [stepK_eq]
  unfold nextJ doneJ
  by_cases h : T.length ≤ keyCut T r.key
  · have hK : keyCut T r.key = T.length := by omega
    have hE2 : keyEnd T r.key = T.length := by
      have : keyCut T r.key ≤ keyEnd T r.key := by unfold keyEnd; split <;> omega
      omega
    rw [if_pos h, hK, hE2]
    unfold insR
    by_cases h2 : r.kind = 2
    · simp [h2]
    · simp [h2]
  · rw [if_neg h]
    have : keyCut T r.key < T.length := by omega
    simp [this]

theorem key_eq_iff {T : List Pair} (h : keysOk T) (s : List UInt8) {j : Nat} (hj : j < T.length) : T[j].key = s ↔ j = keyCut T s ∧ keyIn T s = true := by
  constructor
  · intro e
    have h1 : ¬ j < keyCut T s := fun g => by
      have := cut_before h s hj g
      rw [e] at this
      exact List.lt_irrefl _ this
    have h2 : ¬ keyEnd T s ≤ j := fun g => by
      have := cut_after h s hj g
      rw [e] at this
      exact List.lt_irrefl _ this
    unfold keyEnd at h2
    by_cases hf : keyIn T s = true
    · rw [if_pos hf] at h2
      exact ⟨by omega, hf⟩
    · rw [if_neg hf] at h2
      omega
  · rintro ⟨rfl, hf⟩
    exact (keyIn_at hf).2
theorem key_less_iff {T : List Pair} (h : keysOk T) (s : List UInt8) {j : Nat} (hj : j < T.length) : Op.bytesLess T[j].key s = true ↔ j < keyCut T s := by
  rw [bytesLess_lt, decide_eq_true_eq]
  constructor
  · intro g
    by_cases hK : j < keyCut T s
    · exact hK
    · exfalso
      by_cases hE : keyEnd T s ≤ j
      · exact List.lt_irrefl _ (List.lt_trans g (cut_after h s hj hE))
      · unfold keyEnd at hE
        by_cases hf : keyIn T s = true
        · rw [if_pos hf] at hE
          have e := (key_eq_iff h s hj).2 ⟨by omega, hf⟩
          rw [e] at g
          exact List.lt_irrefl _ g
        · rw [if_neg hf] at hE
          omega
  · exact cut_before h s hj
theorem step_ins {T : List Pair} (h : keysOk T) {r : Record} {j : Nat} (hj : j < T.length) (hd : doneJ T r j = false) (hb : Op.bytesLess T[j].key r.key = false) :
    doneJ T r (j + 1) = true ∧ nextJ T r (j + 1) = nextJ T r j ++ (⟨r.key, r.text⟩ :: if T[j].key = r.key then [] else [T[j]]) := by
  have h1 : ¬ j < keyCut T r.key := fun g => by rw [(key_less_iff h r.key hj).2 g] at hb; cases hb
  unfold doneJ at hd ⊢
  simp only [Bool.or_eq_false_iff, decide_eq_false_iff_not] at hd
  have hK : j = keyCut T r.key := by omega
  refine ⟨by simp; omega, ?_⟩
  rw [nextJ_at hK hj]
  have e : T[j].key = r.key ↔ keyIn T r.key = true := by rw [key_eq_iff h r.key hj]; simp [hK]
  simp [insR, hd.1, e]
theorem step_not {T : List Pair} (h : keysOk T) {r : Record} {j : Nat} (hj : j < T.length) (hb : doneJ T r j = false → Op.bytesLess T[j].key r.key = true) :
    doneJ T r (j + 1) = doneJ T r j ∧ nextJ T r (j + 1) = nextJ T r j ++ if T[j].key = r.key then [] else [T[j]] := by
  have hle := key_less_iff h r.key hj
  have heq := key_eq_iff h r.key hj
  rcases Nat.lt_trichotomy j (keyCut T r.key) with g | g | g
  · rw [nextJ_lt g hj, if_neg (fun e => by have := (heq.1 e).1; omega)]
    refine ⟨?_, rfl⟩
    unfold doneJ
    have a : ¬ keyCut T r.key < j := by omega
    have b : ¬ keyCut T r.key < j + 1 := by omega
    simp [a, b]
  · have hk2 : r.kind = 2 := by
      by_cases h2 : r.kind = 2
      · exact h2
      · have hd : doneJ T r j = false := by
          unfold doneJ
          simp [h2]
          omega
        have := hle.1 (hb hd)
        omega
    rw [nextJ_at g hj]
    have e : T[j].key = r.key ↔ keyIn T r.key = true := by rw [heq]; simp [← g]
    simp [insR, hk2, e, doneJ]
  · rw [nextJ_gt g hj, if_neg (fun e => by have := (heq.1 e).1; omega)]
    refine ⟨?_, rfl⟩
    unfold doneJ
    have b : keyCut T r.key < j + 1 := by omega
    simp [g, b]
theorem nextJ_len {T : List Pair} {r : Record} {j : Nat} : (nextJ T r j).length ≤ j + 1 := by
  unfold nextJ insR
  have hE : keyCut T r.key ≤ keyEnd T r.key := by unfold keyEnd; split <;> omega
  split
  · rw [List.length_take]; omega
  · rw [List.length_append, List.length_append, List.length_take, List.length_drop, List.length_take]
    split <;> simp <;> omega
theorem intRows_get (S : List Int) {i : Nat} (h : i < (intRows S).length) : (intRows S)[i] = [.int .i64 (S[i]'(by rw [intRows_len] at h; exact h))] := by simp [intRows]

theorem Pair.row_get (T : List Pair) {i : Nat} (h : i < (Pair.rows T).length) : (Pair.rows T)[i] = [.str (T[i]'(by rw [Pair.rows_len] at h; exact h)).key, .str (T[i]'(by rw [Pair.rows_len] at h; exact h)).text] := by simp [Pair.rows, Pair.cells]

end Go.Proofs.Ytnphmemhejhooaa
