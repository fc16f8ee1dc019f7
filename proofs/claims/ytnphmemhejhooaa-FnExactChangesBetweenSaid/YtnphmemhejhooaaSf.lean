/- Contracts: changes between two states, the program. -/
import Derived.Test.YtnphmemhejhooaaSd
import Derived.Test.YtnphmemhejhooaaSb
import Derived.Test.YtnphmemhejhooaaHf
namespace Go.Proofs.Ytnphmemhejhooaa
open Go Go.Ab
set_option maxRecDepth 100000

theorem c_GrowPair (n : Nat) (h0 : 0 < n) (hn : n ≤ 4194304) : MFn Try.prog 144 [.nils, .int .i64 n] [] [] (.so 0 2 0 0) [some (.arr 2 (List.replicate n [.str [], .str []]))] := by
  refine mfn_intro [] hm Try.func144 (by kernel_rfl) rfl (by kernel_rfl) rfl (fun _ _ h => h) trivial ?_
  have w1 : IntKind.i64.wrap ((n : Int) - IntKind.i64.wrap 0) = n := by rw [show IntKind.i64.wrap 0 = 0 from rfl, Int.sub_zero]; exact w64 (by omega) (by omega)
  simp [w1]
  exact ⟨fun h => by omega, fun _ => ⟨h0, by omega, by omega, Wk.weak (ρ := [0]) (φ := []) (by simp)⟩, fun h => by omega⟩
theorem c_GrowPair0 : HFn Try.prog 144 [.nils, .int .i64 0] [] .nils [] := by
  refine hfn_intro hm Try.func144 (by kernel_rfl) rfl (by kernel_rfl) rfl ret0_ok ?_
  have w1 : IntKind.i64.wrap 0 = 0 := rfl
  simp [w1]

def catAt (A B : List (List PV)) (i : Nat) : List (List PV) := if i = 0 then [] else if i = 1 then A else A ++ B
theorem c_ConcatPair (A B : List (List PV)) (hA : rowsOne A) (hB : rowsOne B) (hl : A.length + B.length ≤ 2097152) :
    HFn Try.prog 88 [.sl 1 [[.sl 2 A], [.sl 2 B]]] [] (.sf 0 2) [some (.arr 2 (A ++ B))] := by
  refine hfn_intro hm Try.func88 (by kernel_rfl) rfl (by kernel_rfl) rfl (fun _ _ h => h) ?_
  simp
  refine loop_upto hm 2 (fun i => ⟨[(0, .sl 1 [[.sl 2 A], [.sl 2 B]]), (3, .int .i64 (catAt A B i).length), (9, .sl 1 [[.sl 2 A], [.sl 2 B]]), (10, .int .i64 2), (11, .int .i64 i)], []⟩) (fun _ => True) (by kernel_rfl) ?_ trivial (fun i hi _ => ?_) (fun _ => ?_)
  · exact Wk.weak (ρ := []) (φ := []) (by simp [catAt])
  · have w1 : IntKind.i64.wrap (A.length : Int) = A.length := w64 (by omega) (by omega)
    have w2 : IntKind.i64.wrap ((A.length : Int) + B.length) = A.length + B.length := w64 (by omega) (by omega)
    have hc : i = 0 ∨ i = 1 := by omega
    rcases hc with rfl | rfl
    · simp [catAt, w1]
      refine ⟨fun h => by omega, Wk.weak (ρ := []) (φ := []) ?_⟩
      simp
      rfl
    · simp [catAt, w2]
      refine ⟨fun h => by omega, fun _ => Wk.weak (ρ := []) (φ := []) ?_⟩
      simp
      rfl
  · simp [catAt]
    by_cases hn : A.length + B.length = 0
    · obtain rfl : A = [] := List.eq_nil_of_length_eq_zero (by omega)
      obtain rfl : B = [] := List.eq_nil_of_length_eq_zero (by omega)
      simp
      refine CallZ.use0 c_GrowPair0 rfl rfl ?_
      simp
      refine loop_upto hm 2 (fun i => ⟨[(6, .sf 0 2), (25, .sl 1 [[.sl 2 []], [.sl 2 []]]), (26, .int .i64 2), (27, .int .i64 i)], [some (.arr 2 [])]⟩) (fun _ => True) (by kernel_rfl) ?_ trivial (fun i hi _ => ?_) (fun _ => ?_)
      · refine (weak_nil (t := 6) (z := 2) rfl).trans (Wk.weak (ρ := [0]) (φ := []) ?_)
        simp
      · have hc : i = 0 ∨ i = 1 := by omega
        rcases hc with rfl | rfl
        · simp
          refine ⟨hA, Wk.weak (ρ := [0]) (φ := []) ?_⟩
          simp
          rfl
        · simp
          refine ⟨hA, Wk.weak (ρ := [0]) (φ := []) ?_⟩
          simp
          rfl
      · simp
        exact Wk.weak (ρ := [0]) (φ := []) (by simp)
    · have e : (A.length : Int) + B.length = ((A.length + B.length : Nat) : Int) := by omega
      rw [e]
      refine CallZ.useM [] [] [] (c_GrowPair (A.length + B.length) (by omega) (by omega)) (by simp) rfl rfl (by simp) rfl rfl rfl (.inl rfl) ?_
      simp
      refine loop_upto hm 2 (fun i => ⟨[(6, .so 0 2 0 (catAt A B i).length), (25, .sl 1 [[.sl 2 A], [.sl 2 B]]), (26, .int .i64 2), (27, .int .i64 i)], [some (.arr 2 (catAt A B i ++ List.replicate (A.length + B.length - (catAt A B i).length) [.str [], .str []]))]⟩) (fun _ => True) (by kernel_rfl) ?_ trivial (fun i hi _ => ?_) (fun _ => ?_)
      · refine Wk.weak (ρ := [0]) (φ := []) ?_
        simp [catAt]
      · have hc : i = 0 ∨ i = 1 := by omega
        rcases hc with rfl | rfl
        · simp [catAt]
          refine ⟨hA, Wk.weak (ρ := [0]) (φ := []) ?_⟩
          simp
          rfl
        · simp [catAt]
          refine ⟨hB, Wk.weak (ρ := [0]) (φ := []) ?_⟩
          simp
          rfl
      · simp [catAt]
        have hl0 : (A ++ B).length = A.length + B.length := List.length_append
        refine (weak_cut (S := ⟨[(0, .so 0 2 0 (A.length + B.length))], _⟩) (t := 0) rfl rfl (by simp)).trans (Wk.weak (ρ := [0]) (φ := []) ?_)
        rw [← hl0, List.take_length]
        simp
end Go.Proofs.Ytnphmemhejhooaa
