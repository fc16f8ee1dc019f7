/- Contracts: the state after records, as the other side computes it. -/
import Derived.Test.YtaefhahgkijnfaaHd
namespace Go.Proofs.Ytaefhahgkijnfaa
open Go Go.Ab
set_option maxRecDepth 100000

def insR (r : Record) : List Pair := if r.kind = 2 then [] else [⟨r.key, r.text⟩]
theorem stepK_eq (S : List Pair) (r : Record) : stepK S r = S.take (keyCut S r.key) ++ (insR r ++ S.drop (keyEnd S r.key)) := rfl
/-- What the other side has put together when it has gone over j pairs. -/
def nextJ (T : List Pair) (r : Record) (j : Nat) : List Pair := if j ≤ keyCut T r.key then T.take j else T.take (keyCut T r.key) ++ (insR r ++ (T.take j).drop (keyEnd T r.key))
def doneJ (T : List Pair) (r : Record) (j : Nat) : Bool := decide (r.kind = 2) || decide (keyCut T r.key < j)
theorem nextJ_lt {T : List Pair} {r : Record} {j : Nat} (h : j < keyCut T r.key) (hj : j < T.length) : nextJ T r (j + 1) = nextJ T r j ++ [T[j]] := by
  unfold nextJ
  rw [if_pos (by omega), if_pos (by omega), List.take_append_getElem hj]
theorem nextJ_at {T : List Pair} {r : Record} {j : Nat} (h : j = keyCut T r.key) (hj : j < T.length) : nextJ T r (j + 1) = nextJ T r j ++ (insR r ++ if keyIn T r.key = true then [] else [T[j]]) := by
  have e1 : nextJ T r (j + 1) = T.take j ++ (insR r ++ (T.take (j + 1)).drop (keyEnd T r.key)) := by
    unfold nextJ
    rw [if_neg (by omega), ← h]
  have e2 : nextJ T r j = T.take j := by
    unfold nextJ
    rw [if_pos (by omega)]
  rw [e1, e2]
  unfold keyEnd
  by_cases hf : keyIn T r.key = true
  · rw [if_pos hf, if_pos hf, ← h, List.drop_of_length_le (by rw [List.length_take]; omega)]
  · rw [if_neg hf, if_neg hf, ← h, ← List.take_append_getElem hj, List.drop_left' (by simp; omega)]
theorem nextJ_gt {T : List Pair} {r : Record} {j : Nat} (h : keyCut T r.key < j) (hj : j < T.length) : nextJ T r (j + 1) = nextJ T r j ++ [T[j]] := by
  have hE : keyEnd T r.key ≤ j := by unfold keyEnd; split <;> omega
  unfold nextJ
  rw [if_neg (by omega), if_neg (by omega), ← List.take_append_getElem hj, List.drop_append_of_le_length (by simp; omega)]
  simp
theorem nextJ_end (T : List Pair) (r : Record) : stepK T r = if doneJ T r T.length = true then nextJ T r T.length else nextJ T r T.length ++ [⟨r.key, r.text⟩] := by
  have hle := keyCut_le T r.key
  have hE := keyEnd_le T r.key
  rw [stepK_eq]
  unfold nextJ doneJ
  by_cases h : T.length ≤ keyCut T r.key
  · have hK : keyCut T r.key = T.length := by omega
    have hE2 : keyEnd T r.key = T.length := by
      have : keyCut T r.key ≤ keyEnd T r.key := by unfold keyEnd; split <;> omega
      omega
    rw [if_pos h, hK, hE2]
    unfold insR
    by_cases h2 : r.kind = 2
    · simp [h2]
    · simp [h2]
  · rw [if_neg h]
    have : keyCut T r.key < T.length := by omega
    simp [this]

theorem key_eq_iff {T : List Pair} (h : keysOk T) (s : List UInt8) {j : Nat} (hj : j < T.length) : T[j].key = s ↔ j = keyCut T s ∧ keyIn T s = true := by
  constructor
  · intro e
    have h1 : ¬ j < keyCut T s := fun g => by
      have := cut_before h s hj g
      rw [e] at this
      exact List.lt_irrefl _ this
    have h2 : ¬ keyEnd T s ≤ j := fun g => by
      have := cut_after h s hj g
      rw [e] at this
      exact List.lt_irrefl _ this
    unfold keyEnd at h2
    by_cases hf : keyIn T s = true
    · rw [if_pos hf] at h2
      exact ⟨by omega, hf⟩
    · rw [if_neg hf] at h2
      omega
  · rintro ⟨rfl, hf⟩
    exact (keyIn_at hf).2
theorem key_less_iff {T : List Pair} (h : keysOk T) (s : List UInt8) {j : Nat} (hj : j < T.length) : Op.bytesLess T[j].key s = true ↔ j < keyCut T s := by
  rw [bytesLess_lt, decide_eq_true_eq]
  constructor
  · intro g
    by_cases hK : j < keyCut T s
    · exact hK
    · exfalso
      by_cases hE : keyEnd T s ≤ j
      · exact List.lt_irrefl _ (List.lt_trans g (cut_after h s hj hE))
      · unfold keyEnd at hE
        by_cases hf : keyIn T s = true
        · rw [if_pos hf] at hE
          have e := (key_eq_iff h s hj).2 ⟨by omega, hf⟩
          rw [e] at g
          exact List.lt_irrefl _ g
        · rw [if_neg hf] at hE
          omega
  · exact cut_before h s hj
theorem step_ins {T : List Pair} (h : keysOk T) {r : Record} {j : Nat} (hj : j < T.length) (hd : doneJ T r j = false) (hb : Op.bytesLess T[j].key r.key = false) :
    doneJ T r (j + 1) = true ∧ nextJ T r (j + 1) = nextJ T r j ++ (⟨r.key, r.text⟩ :: if T[j].key = r.key then [] else [T[j]]) := by
  have h1 : ¬ j < keyCut T r.key := fun g => by rw [(key_less_iff h r.key hj).2 g] at hb; cases hb
  unfold doneJ at hd ⊢
  simp only [Bool.or_eq_false_iff, decide_eq_false_iff_not] at hd
  have hK : j = keyCut T r.key := by omega
  refine ⟨by simp; omega, ?_⟩
  rw [nextJ_at hK hj]
  have e : T[j].key = r.key ↔ keyIn T r.key = true := by rw [key_eq_iff h r.key hj]; simp [hK]
  simp [insR, hd.1, e]
theorem step_not {T : List Pair} (h : keysOk T) {r : Record} {j : Nat} (hj : j < T.length) (hb : doneJ T r j = false → Op.bytesLess T[j].key r.key = true) :
    doneJ T r (j + 1) = doneJ T r j ∧ nextJ T r (j + 1) = nextJ T r j ++ if T[j].key = r.key then [] else [T[j]] := by
  have hle := key_less_iff h r.key hj
  have heq := key_eq_iff h r.key hj
  rcases Nat.lt_trichotomy j (keyCut T r.key) with g | g | g
  · rw [nextJ_lt g hj, if_neg (fun e => by have := (heq.1 e).1; omega)]
    refine ⟨?_, rfl⟩
    unfold doneJ
    have a : ¬ keyCut T r.key < j := by omega
    have b : ¬ keyCut T r.key < j + 1 := by omega
    simp [a, b]
  · have hk2 : r.kind = 2 := by
      by_cases h2 : r.kind = 2
      · exact h2
      · have hd : doneJ T r j = false := by
          unfold doneJ
          simp [h2]
          omega
        have := hle.1 (hb hd)
        omega
    rw [nextJ_at g hj]
    have e : T[j].key = r.key ↔ keyIn T r.key = true := by rw [heq]; simp [← g]
    simp [insR, hk2, e, doneJ]
  · rw [nextJ_gt g hj, if_neg (fun e => by have := (heq.1 e).1; omega)]
    refine ⟨?_, rfl⟩
    unfold doneJ
    have b : keyCut T r.key < j + 1 := by omega
    simp [g, b]
theorem nextJ_len {T : List Pair} {r : Record} {j : Nat} : (nextJ T r j).length ≤ j + 1 := by
  unfold nextJ insR
  have hE : keyCut T r.key ≤ keyEnd T r.key := by unfold keyEnd; split <;> omega
  split
  · rw [List.length_take]; omega
  · rw [List.length_append, List.length_append, List.length_take, List.length_drop, List.length_take]
    split <;> simp <;> omega
theorem intRows_get (S : List Int) {i : Nat} (h : i < (intRows S).length) : (intRows S)[i] = [.int .i64 (S[i]'(by rw [intRows_len] at h; exact h))] := by simp [intRows]

theorem Pair.row_get (T : List Pair) {i : Nat} (h : i < (Pair.rows T).length) : (Pair.rows T)[i] = [.str (T[i]'(by rw [Pair.rows_len] at h; exact h)).key, .str (T[i]'(by rw [Pair.rows_len] at h; exact h)).text] := by simp [Pair.rows, Pair.cells]

theorem c_l30State (l : List Record) (n : Nat) (hn : n ≤ l.length) (hl : l.length ≤ 1048576) :
    HFn Try.prog 81 [.sl 3 (Record.rows l), .int .i64 n] [] (.sf 0 2) [some (.arr 2 (Pair.rows (stateF l (actL l n))))] := by
  refine hfn_intro hm Try.func81 (by kernel_rfl) rfl (by kernel_rfl) rfl (fun _ _ h => h) ?_
  simp
  refine CallZ.use (c_spec_l30Active l n hn hl) rfl (.inl rfl) rfl rfl ?_
  simp
  obtain ⟨S, hS⟩ : ∃ S, S = actL l n := ⟨_, rfl⟩
  have hSl : S.length ≤ l.length := by rw [hS]; have := actL_len l n; omega
  rw [← hS]
  refine loop_upto hm S.length (fun i => ⟨[(0, .sl 3 (Record.rows l)), (5, .sf 0 1), (7, .sf 1 2), (8, .int .i64 i)], [some (.arr 1 (intRows S)), some (.arr 2 (Pair.rows (stateF l (S.take i))))]⟩) (fun _ => True) (by kernel_rfl) ?_ trivial (fun i hi _ => ?_) (fun _ => ?_)
  · refine (weak_nil (t := 7) (z := 2) rfl).trans (Wk.weak (ρ := [0, 1]) (φ := []) ?_)
    simp [stateF, Pair.rows]
  · obtain ⟨k, hSk, hkl⟩ : ∃ k : Nat, S[i] = (k : Int) ∧ k < l.length := by
      subst hS
      obtain ⟨k, h1, h2⟩ := actL_at hi
      exact ⟨k, h1, by omega⟩
    have hok := stateF_ok l (S.take i)
    have hsc := stateF_succ l hi
    obtain ⟨T, hT⟩ : ∃ T, T = stateF l (S.take i) := ⟨_, rfl⟩
    rw [← hT] at hok hsc ⊢
    have hTl : T.length ≤ 1048576 := by have := hok.2; rw [List.length_take] at this; omega
    rw [hSk, Int.toNat_natCast, recAt_eq hkl] at hsc
    obtain ⟨r, hr⟩ : ∃ r, r = l[k] := ⟨_, rfl⟩
    rw [← hr] at hsc
    have hcell : l[k].cells = [.int .i64 r.kind, .str r.key, .str r.text] := by rw [← hr]; rfl
    have w1 : IntKind.i64.wrap ((i : Int) + 1) = (i : Int) + 1 := w64 (by omega) (by omega)
    simp [hi, intRows_get, intRows_len, hSk, hkl, Record.rows, hcell]
    refine loop_upto hm T.length (fun j => ⟨[(0, .sl 3 (Record.rows l)), (5, .sf 0 1), (7, .sf 1 2), (8, .int .i64 i), (9, .pb 2 0), (10, .sf 3 2), (11, .bool (doneJ T r j)), (12, .int .i64 j)], [some (.arr 1 (intRows S)), some (.arr 2 (Pair.rows T)), some (.box [.int .i64 r.kind, .str r.key, .str r.text]), some (.arr 2 (Pair.rows (nextJ T r j)))]⟩) (fun _ => True) (by kernel_rfl) ?_ trivial (fun j hj _ => ?_) (fun _ => ?_)
    · refine (weak_nil (t := 10) (z := 2) rfl).trans (Wk.weak (ρ := [0, 1, 2, 3]) (φ := []) ?_)
      simp [Record.rows, nextJ, doneJ, Pair.rows]
    · simp [hj, Pair.rows_len, Pair.row_get]
      have hnl := nextJ_len (T := T) (r := r) (j := j)
      have w2 : IntKind.i64.wrap ((j : Int) + 1) = (j : Int) + 1 := w64 (by omega) (by omega)
      refine ⟨fun hd hb => ?_, fun hb => ?_⟩
      · obtain ⟨n1, n2⟩ := step_ins hok.1 hj hd hb
        refine ⟨by simp [rowsOne], by omega, by omega, fun hne => ⟨by simp [rowsOne], by omega, by omega, Wk.weak (ρ := [0, 1, 2, 3]) (φ := []) ?_⟩, fun he => Wk.weak (ρ := [0, 1, 2, 3]) (φ := []) ?_⟩
        · rw [if_neg hne] at n2
          simp [w2, n1, n2, Record.rows, Pair.rows, Pair.cells]
        · rw [if_pos he] at n2
          simp [w2, n1, n2, Record.rows, Pair.rows, Pair.cells]
      · obtain ⟨n1, n2⟩ := step_not hok.1 hj hb
        refine ⟨fun hne => ⟨by simp [rowsOne], by omega, by omega, Wk.weak (ρ := [0, 1, 2, 3]) (φ := []) ?_⟩, fun he => Wk.weak (ρ := [0, 1, 2, 3]) (φ := []) ?_⟩
        · rw [if_neg hne] at n2
          simp [w2, n1, n2, Record.rows, Pair.rows, Pair.cells]
        · rw [if_pos he] at n2
          simp [w2, n1, n2, Record.rows, Pair.rows]
    · simp [Pair.rows_len]
      have hnl := nextJ_len (T := T) (r := r) (j := T.length)
      have hend := nextJ_end T r
      rw [← hsc] at hend
      refine ⟨fun hd => ⟨by simp [rowsOne], by omega, by omega, Wk.weak (ρ := [0, 3]) (φ := []) ?_⟩, fun hd => Wk.weak (ρ := [0, 3]) (φ := []) ?_⟩
      · rw [hd] at hend
        simp [w1, hend, Pair.rows, Pair.cells, Record.rows]
      · rw [if_pos hd] at hend
        simp [w1, hend, Pair.rows, Record.rows]
  · simp [intRows_len]
    refine Wk.weak (ρ := [1]) (φ := []) ?_
    simp
end Go.Proofs.Ytaefhahgkijnfaa
