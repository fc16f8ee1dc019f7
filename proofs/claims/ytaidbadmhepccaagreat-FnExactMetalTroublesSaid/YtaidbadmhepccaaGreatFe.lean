/- Contracts: pins that are searched, drums that are copied.; Lists in order, searched by comparing; pins that are removed.; Contracts: a pin is removed. -/
import Derived.Test.YtaidbadmhepccaaGreatEd
import Derived.Test.YtaidbadmhepccaaGreatTy
import Derived.Test.YtaidbadmhepccaaGreatKc
import Derived.Lib.Overlaps
import Derived.Laws.Externs
-- from Fc
namespace Go.Proofs.YtaidbadmhepccaaGreat
open Go Go.Ab
set_option maxRecDepth 100000

end Go.Proofs.YtaidbadmhepccaaGreat
-- from Fd
namespace Go.Proofs.YtaidbadmhepccaaGreat
open Go Go.Ab
set_option maxRecDepth 100000

/-! ### The plain law -/
/-- A list in order, where c compares with what is looked for. -/
def InOrder {α : Type} (l : List α) (c : α → Int) : Prop := ∀ i j (hi : i < l.length) (hj : j < l.length), i < j → c l[j] ≤ 0 → c l[i] < 0
def cutG {α : Type} (l : List α) (c : α → Int) : Nat := l.findIdx fun x => decide (0 ≤ c x)
def foundG {α : Type} (l : List α) (c : α → Int) : Bool := match l[cutG l c]? with
  | some x => decide (c x = 0)
  | none => false
def findG {α : Type} (l : List α) (c : α → Int) : Int := findI (fun x => decide (c x = 0)) l
def cAt {α : Type} (l : List α) (c : α → Int) (i : Nat) : Int := match l[i]? with
  | some x => c x
  | none => 1
theorem cAt_eq {α : Type} {l : List α} {c : α → Int} {i : Nat} (hi : i < l.length) : cAt l c i = c l[i] := by simp [cAt, hi]
theorem cutG_cut {α : Type} {l : List α} {c : α → Int} (h : InOrder l c) : Cut l.length (cAt l c) (cutG l c) := by
  refine ⟨List.findIdx_le_length, fun i hi => ?_, fun i h1 h2 => ?_⟩
  · have hl : i < l.length := Nat.lt_of_lt_of_le hi List.findIdx_le_length
    rw [cAt_eq hl]
    have := List.not_of_lt_findIdx hi
    simpa using this
  · rw [cAt_eq h2]
    have hp : cutG l c < l.length := by omega
    have hg : decide (0 ≤ c l[cutG l c]) = true := List.findIdx_getElem (w := hp)
    have hg : 0 ≤ c l[cutG l c] := by simpa using hg
    by_cases e : i = cutG l c
    · subst e; exact hg
    · by_cases h3 : 0 ≤ c l[i]
      · exact h3
      · have := h (cutG l c) i hp h2 (by omega) (by omega)
        omega
theorem foundG_at {α : Type} (l : List α) (c : α → Int) : foundG l c = (decide (cutG l c < l.length) && decide (cAt l c (cutG l c) = 0)) := by
  unfold foundG cAt
  by_cases h : cutG l c < l.length
  · simp [h]
  · rw [List.getElem?_eq_none (by omega)]; simp [h]
theorem findG_eq {α : Type} {l : List α} {c : α → Int} (h : InOrder l c) : findG l c = if foundG l c = true then (cutG l c : Int) else -1 := by
  have hc := cutG_cut h
  rw [foundG_at]
  split
  · rename_i hf
    simp only [Bool.and_eq_true, decide_eq_true_eq] at hf
    obtain ⟨h1, h2⟩ := hf
    rw [cAt_eq h1] at h2
    refine findI_at h1 (by simpa using h2) fun j hj hlt => ?_
    have := hc.lo j hlt
    rw [cAt_eq hj] at this
    simp only [decide_eq_false_iff_not]
    omega
  · rename_i hf
    refine findI_none fun j hj => ?_
    simp only [decide_eq_false_iff_not]
    intro e
    apply hf
    have hle : cutG l c ≤ j := by
      by_cases g : j < cutG l c
      · have := hc.lo j g
        rw [cAt_eq hj] at this
        omega
      · omega
    by_cases g : j = cutG l c
    · subst g
      simp [hj, cAt_eq hj, e]
    · exfalso
      have hp : cutG l c < l.length := by omega
      have h1 := hc.hi (cutG l c) (Nat.le_refl _) hp
      rw [cAt_eq hp] at h1
      have := h (cutG l c) j hp hj (by omega) (by omega)
      omega
end Go.Proofs.YtaidbadmhepccaaGreat
-- from Fe
namespace Go.Proofs.YtaidbadmhepccaaGreat
open Go Go.Ab
set_option maxRecDepth 100000

end Go.Proofs.YtaidbadmhepccaaGreat
