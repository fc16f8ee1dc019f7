/- Contracts: troubles of the metal. No condition. -/
import Derived.Test.YtaidbadmhepccaaGreatDoorBg
import Derived.Test.YtaidbadmhepccaaGreatDoorTFlat
namespace Go.Proofs.YtaidbadmhepccaaGreatDoor
open Go Go.Ab
set_option maxRecDepth 100000

/-- What an own list of troubles is. -/
abbrev trO (L : List Trouble) : Option Go.Ab.Obj := some (.arr 3 (Trouble.rows L))
theorem tr_app (L M : List Trouble) : Trouble.rows (L ++ M) = Trouble.rows L ++ Trouble.rows M := by simp [Trouble.rows]
/-- The troubles of each element, one behind the other. -/
def upTo {α : Type} (f : α → List Trouble) (l : List α) (i : Nat) : List Trouble := ((l.take i).map f).flatten
theorem upTo_succ {α : Type} (f : α → List Trouble) (l : List α) {i : Nat} (hi : i < l.length) : upTo f l (i + 1) = upTo f l i ++ f l[i] := by
  unfold upTo
  rw [← List.take_append_getElem hi, List.map_append, List.flatten_append]
  simp [-List.map_take]
theorem upTo_zero {α : Type} (f : α → List Trouble) (l : List α) : upTo f l 0 = [] := by simp [upTo]
theorem upTo_le {α : Type} {f : α → List Trouble} (hf : ∀ x, (f x).length ≤ 1) (l : List α) (i : Nat) : (upTo f l i).length ≤ i := by
  induction i with
  | zero => simp [upTo]
  | succ i ih =>
    by_cases hi : i < l.length
    · rw [upTo_succ f l hi, List.length_append]
      have := hf l[i]
      omega
    · have : upTo f l (i + 1) = upTo f l i := by
        unfold upTo
        rw [List.take_of_length_le (by omega), List.take_of_length_le (by omega)]
      rw [this]
      omega
/-- What a valid carillon is. -/
structure CarOk (c : Carillon) : Prop where
  small : c.small
  ing : ingotsOk c.ingots = true
  mel : meltsOk c.melts = true
  bel : bellsOk c.bells = true
  hung : hungsOk c.hung = true
  cham : chamberOk c.chamber = true
  plac : placesOk c.places = true
  gap : 0 ≤ c.gap ∧ c.gap ≤ 5000
  tow : towerOk c.tower = true
  fram : frameOk c.frame = true
  stress : 0 ≤ c.stress ∧ c.stress ≤ 1000000
  bend : 0 ≤ c.bending ∧ c.bending ≤ 1000000
  clav : clavierOk c.clavier = true
  tune : tuneOk c.tune = true
theorem carOk_iff {c : Carillon} (hs : c.small) (h : carOk c = true) : CarOk c := by
  simp only [carOk, Bool.and_eq_true, decide_eq_true_eq] at h
  obtain ⟨⟨⟨⟨⟨⟨h1, h2⟩, h3⟩, ⟨⟨h4, h5⟩, h6⟩, h7⟩, ⟨⟨h8, h9⟩, h10⟩, h11⟩, h12⟩, h13⟩ := h
  exact ⟨hs, h1, h2, h3, h4, h5, h6, h7, h8, h9, h10, h11, h12, h13⟩
theorem CarOk.hl {c : Carillon} (h : CarOk c) : c.hung.length ≤ 16 := (hungs_mem h.hung).1

/-! ### The reference's side -/
end Go.Proofs.YtaidbadmhepccaaGreatDoor
