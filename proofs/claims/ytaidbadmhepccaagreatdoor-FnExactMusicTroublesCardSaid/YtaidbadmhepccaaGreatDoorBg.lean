/- Contracts: bells whose metal is traced. No condition. -/
import Derived.Test.YtaidbadmhepccaaGreatDoorBd
namespace Go.Proofs.YtaidbadmhepccaaGreatDoor
open Go Go.Ab
set_option maxRecDepth 100000

/-- What is known of bells. -/
structure BelOk (bs : List Bell) : Prop where
  len : bs.length ≤ 24
  shr : ∀ b ∈ bs, b.shares.length ≤ 4
  mass : ∀ b ∈ bs, ∀ s ∈ b.shares, 1 ≤ s.mass ∧ s.mass ≤ 20000000
theorem belOk_of {bs : List Bell} (h : bellsOk bs = true) : BelOk bs := by
  simp only [bellsOk, Bool.and_eq_true, decide_eq_true_eq] at h
  have hu := upOk_mem h.1
  refine ⟨by omega, fun b hb => ?_, fun b hb s hs => ?_⟩
  · have := hu b hb
    simp only [bellOk, Bool.and_eq_true, decide_eq_true_eq] at this
    omega
  · have := hu b hb
    simp only [bellOk, Bool.and_eq_true] at this
    have := upOk_mem this.1 s hs
    simp only [shareOk, Bool.and_eq_true, decide_eq_true_eq] at this
    omega
theorem upto_next {n : Nat} {p : (j : Nat) → j < n → Prop} {i : Nat} (hi : i < n) (h : ∀ j (hj : j < n), j < i → p j hj) (hp : p i hi) : ∀ j (hj : j < n), j < i + 1 → p j hj := fun j hj hji => by
  by_cases e : j = i
  · subst e; exact hp
  · exact h j hj (by omega)

/-! ### The program's side -/
/-! ### The reference's side -/
end Go.Proofs.YtaidbadmhepccaaGreatDoor
