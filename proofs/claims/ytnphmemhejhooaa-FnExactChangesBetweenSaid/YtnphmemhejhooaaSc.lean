/- Contracts: whether pairs are a state. -/
import Derived.Test.YtnphmemhejhooaaHb
import Derived.Test.YtnphmemhejhooaaHe
namespace Go.Proofs.Ytnphmemhejhooaa
open Go Go.Ab
set_option maxRecDepth 100000

/-- Pair i may stand in a state, behind the one before it. -/
def stAt (S : List Pair) (i : Nat) : Bool := match S[i]? with
  | some x => isName x.key && isRemark x.text && (decide (i = 0) || match S[i - 1]? with
    | some y => Op.bytesLess y.key x.key
    | none => true)
  | none => true
def stateOk (S : List Pair) : Bool := (List.range S.length).all (stAt S)

theorem c_impl_isState (S : List Pair) (hS : S.length ≤ 1048576) (hw : ∀ x ∈ S, x.wf) : HFn Try.prog 87 [.sl 2 (Pair.rows S)] [] (.bool (stateOk S)) [] := by
  refine hfn_intro hm Try.func87 (by kernel_rfl) rfl (by kernel_rfl) rfl ret0_ok ?_
  simp [Pair.rows_len]
  refine loop_upto hm S.length (fun i => ⟨[(0, .sl 2 (Pair.rows S)), (5, .sl 2 (Pair.rows S)), (6, .int .i64 S.length), (7, .int .i64 i)], []⟩) (fun i => ∀ j, j < i → stAt S j = true) (by kernel_rfl) ?_ (by simp) (fun i hi hI => ?_) (fun hI => ?_)
  · exact Wk.weak (ρ := []) (φ := []) (by simp [Pair.rows_len])
  · have e1 : IntKind.i64.wrap ((i : Int) - 1) = i - 1 := w64 (by omega) (by omega)
    have hil : i - 1 < S.length := by omega
    have hx := List.getElem?_eq_getElem hi
    have hy := List.getElem?_eq_getElem hil
    have hwx := hw _ (List.getElem_mem hi)
    simp [Pair.rows_len, Pair.row_get, hi]
    refine CallZ.use0 (c_impl_IsName S[i].key) rfl rfl ?_
    simp
    refine CallY.use (fun _ => ⟨rfl, c_isRemark S[i].text hwx.2⟩) rfl rfl ?_
    simp [Pair.rows_len, Pair.row_get, e1, hil]
    have ho : stAt S i = (isName S[i].key && isRemark S[i].text && (decide (i = 0) || Op.bytesLess S[i - 1].key S[i].key)) := by simp [stAt, hx, hy]
    have hs := bytesLess_swap S[i - 1].key S[i].key
    iterate 6 refine ⟨by grind, ?_⟩
    refine ⟨fun h => ?_, fun h1 h2 h3 => ⟨upto_succ hI ?_, ?_⟩⟩
    · have : stAt S i = false := by
        rw [ho]
        rcases h with (h | h) | ⟨h, h'⟩
        · simp [h]
        · simp [h]
        · have h3 : (Op.bytesLess S[i].key S[i - 1].key || decide (S[i].key = S[i - 1].key)) = true := by simpa using h'
          rw [hs] at h3
          have h4 : ¬ i = 0 := by omega
          simp at h3
          simp [h3, h4]
      simp only [stateOk, all_range_false hi this]
    · rw [ho, h1, h2]
      by_cases h4 : i = 0
      · simp [h4]
      · obtain ⟨h5, h6⟩ := h3 (by omega)
        simp [h5, h6] at hs
        simp [hs]
    · refine Wk.weak (ρ := []) (φ := []) ?_
      simp
      exact w64 (by omega) (by omega)
  · simp
    simp only [stateOk, all_range_true hI]

theorem c_l30Pairs (S : List Pair) (hS : S.length ≤ 1048576) (hw : ∀ x ∈ S, x.wf) : HFn Try.prog 85 [.sl 2 (Pair.rows S)] [] (.bool (stateOk S)) [] := by
  refine hfn_intro hm Try.func85 (by kernel_rfl) rfl (by kernel_rfl) rfl ret0_ok ?_
  simp
  refine loop_upto hm S.length (fun i => ⟨[(0, .sl 2 (Pair.rows S)), (3, .int .i64 i)], []⟩) (fun i => ∀ j, j < i → stAt S j = true) (by kernel_rfl) ?_ (by simp) (fun i hi hI => ?_) (fun hI => ?_)
  · exact Wk.weak (ρ := []) (φ := []) (by simp)
  · have e1 : IntKind.i64.wrap ((i : Int) - 1) = i - 1 := w64 (by omega) (by omega)
    have hil : i - 1 < S.length := by omega
    have hx := List.getElem?_eq_getElem hi
    have hy := List.getElem?_eq_getElem hil
    have hwx := hw _ (List.getElem_mem hi)
    simp [Pair.rows_len, Pair.row_get, hi]
    refine CallZ.use0 (c_spec_l01Name S[i].key) rfl rfl ?_
    simp [Pair.rows_len, Pair.row_get, hi]
    first | refine CallY.use (fun _ => ⟨rfl, c_l30Words S[i].text hwx.2⟩) rfl rfl ?_ | refine ⟨by intros; simp [*], CallY.use (fun _ => ⟨rfl, c_l30Words S[i].text hwx.2⟩) rfl rfl ?_⟩
    simp [Pair.rows_len, Pair.row_get, e1, hil, hi]
    have ho : stAt S i = (isName S[i].key && isRemark S[i].text && (decide (i = 0) || Op.bytesLess S[i - 1].key S[i].key)) := by simp [stAt, hx, hy]
    iterate 6 refine ⟨by grind, ?_⟩
    refine ⟨fun h => ?_, fun h1 h2 h3 => ⟨upto_succ hI ?_, ?_⟩⟩
    · have : stAt S i = false := by
        rw [ho]
        rcases h with (h | h) | ⟨h, h'⟩
        · simp [h]
        · simp [h]
        · have h4 : ¬ i = 0 := by omega
          simp [h', h4]
      simp only [stateOk, all_range_false hi this]
    · rw [ho, h1, h2]
      by_cases h4 : i = 0
      · simp [h4]
      · simp [h3 (by omega)]
    · refine Wk.weak (ρ := []) (φ := []) ?_
      simp
      exact w64 (by omega) (by omega)
  · simp [Pair.rows_len]
    simp only [stateOk, all_range_true hI]
end Go.Proofs.Ytnphmemhejhooaa
