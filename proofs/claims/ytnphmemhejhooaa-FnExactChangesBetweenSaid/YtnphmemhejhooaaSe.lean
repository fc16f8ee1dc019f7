/- Contracts: changes between two states, the reference. -/
import Derived.Test.YtnphmemhejhooaaSd
import Derived.Test.YtnphmemhejhooaaHf
namespace Go.Proofs.Ytnphmemhejhooaa
open Go Go.Ab
set_option maxRecDepth 100000

def chgL (a b : List Pair) : List Record := if stateOk a = true ∧ stateOk b = true then chg a b else []
def chgCode (a b : List Pair) : Int := if stateOk a = true ∧ stateOk b = true then 0 else 1
theorem chg_len : ∀ (a b : List Pair), (chg a b).length ≤ a.length + b.length
  | [], [] => by simp [chg]
  | x :: a, [] => by
    have := chg_len a []
    rw [chg]
    simp at this ⊢
    omega
  | [], y :: b => by
    have := chg_len [] b
    rw [chg]
    simp at this ⊢
    omega
  | x :: a, y :: b => by
    have h1 := chg_len a (y :: b)
    have h2 := chg_len (x :: a) b
    have h3 := chg_len a b
    rw [chg]
    split
    · simp at h1 ⊢; omega
    · split
      · simp at h2 ⊢; omega
      · split <;> simp at h3 ⊢ <;> omega
termination_by a b => a.length + b.length
theorem chgL_len (a b : List Pair) : (chgL a b).length ≤ a.length + b.length := by
  unfold chgL
  split
  · exact chg_len a b
  · simp

/-- Where the reference stands. -/
structure ChgAt (a b : List Pair) (i k : Nat) (out : List Record) : Prop where
  hi : i ≤ a.length
  hk : k ≤ b.length
  he : out ++ chg (a.drop i) (b.drop k) = chg a b
theorem ChgAt.len {a b : List Pair} {i k : Nat} {out : List Record} (h : ChgAt a b i k out) : out.length ≤ a.length + b.length := by
  have h1 := congrArg List.length h.he
  have h2 := chg_len a b
  rw [List.length_append] at h1
  omega
theorem ChgAt.dropA {a b : List Pair} {i k : Nat} {out : List Record} (h : ChgAt a b i k out) (hi : i < a.length) (hc : k = b.length ∨ ∃ hk : k < b.length, a[i].key < b[k].key) : ChgAt a b (i + 1) k (out ++ [recDrop a[i].key]) := by
  refine ⟨hi, h.hk, ?_⟩
  rw [← h.he, List.drop_eq_getElem_cons hi, List.append_assoc]
  congr 1
  rcases hc with rfl | ⟨hk, hlt⟩
  · rw [List.drop_length, chg]
    rfl
  · rw [List.drop_eq_getElem_cons hk, chg, if_pos hlt]
    rfl
theorem ChgAt.setB {a b : List Pair} {i k : Nat} {out : List Record} (h : ChgAt a b i k out) (hk : k < b.length) (hc : i = a.length ∨ ∃ hi : i < a.length, b[k].key < a[i].key) : ChgAt a b i (k + 1) (out ++ [recSet b[k].key b[k].text]) := by
  refine ⟨h.hi, hk, ?_⟩
  rw [← h.he, List.drop_eq_getElem_cons hk, List.append_assoc]
  congr 1
  rcases hc with rfl | ⟨hi, hlt⟩
  · rw [List.drop_length, chg]
    rfl
  · rw [List.drop_eq_getElem_cons hi, chg, if_neg (fun g => lt_irr _ (lt_tr g hlt)), if_pos hlt]
    rfl
theorem ChgAt.both {a b : List Pair} {i k : Nat} {out : List Record} (h : ChgAt a b i k out) (hi : i < a.length) (hk : k < b.length) (h1 : ¬ a[i].key < b[k].key) (h2 : ¬ b[k].key < a[i].key) :
    ChgAt a b (i + 1) (k + 1) (out ++ if a[i].text = b[k].text then [] else [recSet b[k].key b[k].text]) := by
  refine ⟨hi, hk, ?_⟩
  rw [← h.he, List.drop_eq_getElem_cons hk, List.drop_eq_getElem_cons hi, chg, if_neg h1, if_neg h2, List.append_assoc]

set_option maxHeartbeats 4000000 in
theorem c_spec_ChangesBetween (a b : List Pair) (ha : a.length ≤ 1048576) (hb : b.length ≤ 1048576) (wa : ∀ x ∈ a, x.wf) (wb : ∀ x ∈ b, x.wf) :
    HFn Try.prog 33 [.sl 2 (Pair.rows a), .sl 2 (Pair.rows b)] [] (.tup [.sf 0 3, .int .i64 (chgCode a b)]) [some (.arr 3 (Record.rows (chgL a b)))] := by
  refine hfn_intro hm Try.func33 (by kernel_rfl) rfl (by kernel_rfl) rfl (fun _ _ h => h) ?_
  simp
  refine CallZ.use0 (c_l30Pairs a ha wa) rfl rfl ?_
  simp
  refine CallY.use (fun _ => ⟨rfl, c_l30Pairs b hb wb⟩) rfl rfl ?_
  simp
  refine ⟨fun h => ?_, fun h1 h2 => ?_⟩
  · refine (weak_nilT (t := 0) 0 3 rfl rfl).trans (Wk.weak (ρ := [0]) (φ := []) ?_)
    have hn : ¬ (stateOk a = true ∧ stateOk b = true) := by
      rintro ⟨g1, g2⟩
      rcases h with h | h
      · rw [g1] at h; cases h
      · rw [g2] at h; cases h
    simp [chgCode, chgL, hn, Record.rows]
  have hL : chgL a b = chg a b := if_pos ⟨h1, h2⟩
  have hC : chgCode a b = 0 := if_pos ⟨h1, h2⟩
  rw [hL, hC]
  refine loop_rule hm (ι := {x : Nat × Nat × List Record // ChgAt a b x.1 x.2.1 x.2.2}) (fun x => ⟨[(0, .sl 2 (Pair.rows a)), (1, .sl 2 (Pair.rows b)), (6, .sf 0 3), (7, .int .i64 x.1.1), (8, .int .i64 x.1.2.1)], [some (.arr 3 (Record.rows x.1.2.2))]⟩) (fun x => (a.length - x.1.1) + (b.length - x.1.2.1)) (by kernel_rfl) ⟨(0, 0, []), Nat.zero_le _, Nat.zero_le _, rfl⟩ ?_ ?_
  · refine (weak_nil (t := 6) (z := 3) rfl).trans (Wk.weak (ρ := [0]) (φ := []) ?_)
    simp [Record.rows]
  · rintro ⟨⟨i, k, out⟩, hS⟩
    simp only at hS ⊢
    have hol := hS.len
    have hi0 := hS.hi
    have hk0 := hS.hk
    have w1 : IntKind.i64.wrap ((i : Int) + 1) = (i : Int) + 1 := w64 (by omega) (by omega)
    have w2 : IntKind.i64.wrap ((k : Int) + 1) = (k : Int) + 1 := w64 (by omega) (by omega)
    by_cases hi : i < a.length
    · have hin : ¬ ((i : Int) = a.length) := by omega
      by_cases hk : k < b.length
      · have hkn : ¬ ((k : Int) = b.length) := by omega
        by_cases g1 : a[i].key < b[k].key
        · have b1 : Op.bytesLess a[i].key b[k].key = true := by rw [bytesLess_lt]; exact decide_eq_true g1
          have hS' := hS.dropA hi (.inr ⟨hk, g1⟩)
          simp (maxSteps := 2000000) [Pair.rows_len, Pair.row_get, hi, hk, hkn, hin, b1]
          refine ⟨by simp [rowsOne], by rw [Record.rows_len]; omega, by rw [Record.rows_len]; omega, i + 1, k, _, Wk.weak (ρ := [0]) (φ := []) ?_, hS', by omega⟩
          simp [w1, Record.rows, recDrop, Record.cells]
        · have b1 : Op.bytesLess a[i].key b[k].key = false := by rw [bytesLess_lt]; exact decide_eq_false g1
          by_cases g2 : b[k].key < a[i].key
          · have b2 : Op.bytesLess b[k].key a[i].key = true := by rw [bytesLess_lt]; exact decide_eq_true g2
            have hS' := hS.setB hk (.inr ⟨hi, g2⟩)
            simp (maxSteps := 2000000) [Pair.rows_len, Pair.row_get, hi, hk, hkn, hin, b1, b2]
            refine ⟨by simp [rowsOne], rfl, by rw [Record.rows_len]; omega, by rw [Record.rows_len]; omega, i, k + 1, _, Wk.weak (ρ := [0]) (φ := []) ?_, hS', by omega⟩
            simp [w2, Record.rows, recSet, Record.cells]
          · have b2 : Op.bytesLess b[k].key a[i].key = false := by rw [bytesLess_lt]; exact decide_eq_false g2
            have hS' := hS.both hi hk g1 g2
            by_cases g3 : a[i].text = b[k].text
            · rw [if_pos g3, List.append_nil] at hS'
              simp (maxSteps := 2000000) [Pair.rows_len, Pair.row_get, hi, hk, hkn, hin, b1, b2, g3]
              refine ⟨i + 1, k + 1, _, Wk.weak (ρ := [0]) (φ := []) ?_, hS', by omega⟩
              simp [w1, w2]
            · rw [if_neg g3] at hS'
              simp (maxSteps := 2000000) [Pair.rows_len, Pair.row_get, hi, hk, hkn, hin, b1, b2, g3]
              refine ⟨by simp [rowsOne], rfl, by rw [Record.rows_len]; omega, by rw [Record.rows_len]; omega, i + 1, k + 1, _, Wk.weak (ρ := [0]) (φ := []) ?_, hS', by omega⟩
              simp [w1, w2, Record.rows, recSet, Record.cells]
      · obtain rfl : k = b.length := by omega
        have hS' := hS.dropA hi (.inl rfl)
        simp (maxSteps := 2000000) [Pair.rows_len, Pair.row_get, hi, hin]
        refine ⟨by simp [rowsOne], by rw [Record.rows_len]; omega, by rw [Record.rows_len]; omega, i + 1, b.length, _, Wk.weak (ρ := [0]) (φ := []) ?_, hS', by omega⟩
        simp [w1, Record.rows, recDrop, Record.cells]
    · obtain rfl : i = a.length := by omega
      by_cases hk : k < b.length
      · have hkn : ¬ ((k : Int) = b.length) := by omega
        have hS' := hS.setB hk (.inl rfl)
        simp (maxSteps := 2000000) [Pair.rows_len, Pair.row_get, hk, hkn]
        refine ⟨by simp [rowsOne], rfl, by rw [Record.rows_len]; omega, by rw [Record.rows_len]; omega, a.length, k + 1, _, Wk.weak (ρ := [0]) (φ := []) ?_, hS', by omega⟩
        simp [w2, Record.rows, recSet, Record.cells]
      · obtain rfl : k = b.length := by omega
        have he := hS.he
        simp only [List.drop_length, chg, List.append_nil] at he
        simp (maxSteps := 2000000) [Pair.rows_len]
        refine Wk.weak (ρ := [0]) (φ := []) ?_
        simp [he]
end Go.Proofs.Ytnphmemhejhooaa
