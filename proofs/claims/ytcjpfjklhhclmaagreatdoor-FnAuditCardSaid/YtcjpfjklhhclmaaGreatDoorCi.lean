/- Contracts: numbers of troubles. -/
import Derived.Test.YtcjpfjklhhclmaaGreatDoorTI
import Derived.Test.YtcjpfjklhhclmaaGreatDoorTFlat
import Derived.Test.YtcjpfjklhhclmaaGreatDoorCe
namespace Go.Proofs.YtcjpfjklhhclmaaGreatDoor
open Go Go.Ab
set_option maxRecDepth 100000

def isKind (n : Int) : Bool := decide (1 ≤ n) && decide (n ≤ 8)
/-- Of the first i troubles: those of a kind; all that have one for 0. -/
def kindP (j : Nat) (x : Trouble) : Bool := if j = 0 then isKind x.kind else decide (x.kind = (j : Int))
def cntAt (l : List Trouble) (i j : Nat) : Nat := (l.take i).countP (kindP j)
def cnts (l : List Trouble) (i : Nat) : List Int := [cntAt l i 0, cntAt l i 1, cntAt l i 2, cntAt l i 3, cntAt l i 4, cntAt l i 5, cntAt l i 6, cntAt l i 7, cntAt l i 8]
theorem cntAt_zero (l : List Trouble) (j : Nat) : cntAt l 0 j = 0 := by simp [cntAt]
theorem cntAt_succ {l : List Trouble} {i : Nat} (hi : i < l.length) (j : Nat) : cntAt l (i + 1) j = cntAt l i j + if kindP j l[i] = true then 1 else 0 := by
  unfold cntAt
  rw [List.take_add_one, List.getElem?_eq_getElem hi, List.countP_append]
  simp [List.countP_cons, List.countP_nil]
theorem cntAt_le (l : List Trouble) (i j : Nat) : cntAt l i j ≤ i := by
  unfold cntAt
  have := List.countP_le_length (p := kindP j) (l := l.take i)
  rw [List.length_take] at this
  omega

theorem c_impl_CountTroubles (l : List Trouble) (hl : l.length ≤ 1048576) : HFn Tryz.prog 20 [.sl 3 (Trouble.rows l)] [] (.sf 0 1) [some (.arr 1 (intRows (cnts l l.length)))] := by
  refine hfn_intro hm Tryz.func20 (by kernel_rfl) rfl (by kernel_rfl) rfl (retN_ok (ρ := [0]) (φ := [])) ?_
  simp [Trouble.rows]
  refine loop_upto hm l.length (fun i => ⟨[(3, .sf 0 1), (7, .sl 3 (Trouble.rows l)), (8, .int .i64 l.length), (9, .int .i64 i)], [some (.arr 1 (intRows (cnts l i)))]⟩) (fun _ => True) (by kernel_rfl) ?_ trivial (fun i hi _ => ?_) (fun _ => ?_)
  · refine Wk.weak (ρ := [0]) (φ := []) ?_
    simp [Trouble.rows, intRows, cnts, cntAt_zero]
  · have hs := cntAt_succ hi
    have hb := cntAt_le l i
    have hc : ∀ j, (cntAt l i j : Int) ≤ 1048576 := fun j => by have := hb j; omega
    have hw : ∀ j, IntKind.i64.wrap ((cntAt l i j : Int) + 1) = cntAt l i j + 1 := fun j => w64 (by omega) (by have := hc j; omega)
    have hwi : IntKind.i64.wrap ((i : Int) + 1) = i + 1 := w64 (by omega) (by omega)
    simp [Trouble.rows, Trouble.cells, hi, intRows, cnts]
    refine CallZ.use0 (c_isTrouble _) rfl rfl ?_
    generalize hkd : l[i].kind = kd at *
    by_cases hv : 1 ≤ kd ∧ kd ≤ 8
    · rcases cases8 hv.1 hv.2 with rfl | rfl | rfl | rfl | rfl | rfl | rfl | rfl
      all_goals
        simp [hw]
        refine Wk.weak (ρ := [0]) (φ := []) ?_
        simp [hs, hwi, kindP, isKind, hkd]
    · have hd : (decide (1 ≤ kd) && decide (kd ≤ 8)) = false := by rw [← Bool.not_eq_true]; simpa using hv
      rw [hd]
      simp
      refine Wk.weak (ρ := [0]) (φ := []) ?_
      simp [hs, hwi, kindP, isKind, hkd]
      and_intros <;> (split <;> omega)
  · simp [Trouble.rows]

end Go.Proofs.YtcjpfjklhhclmaaGreatDoor
