/- Contracts: orders read back from their texts. No condition. -/
import Derived.Test.YtmdablalfmcgnaaDoorOd
import Derived.Test.YtmdablalfmcgnaaDoorJe
namespace Go.Proofs.YtmdablalfmcgnaaDoor
open Go Go.Ab
set_option maxRecDepth 100000

theorem len_three {α : Type} {l : List α} (h : l.length = 3) : ∃ a b c, l = [a, b, c] := by
  match l, h with
  | [a, b, c], _ => exact ⟨a, b, c, rfl⟩
theorem spl_mem {c : UInt8} : ∀ {s : List UInt8}, ∀ x ∈ spl c s, c ∉ x
  | [], x, hx => by simp [spl] at hx; simp [hx]
  | b :: r, x, hx => by
    rw [spl_cons] at hx
    split at hx
    · rcases List.mem_cons.1 hx with rfl | hx
      · simp
      · exact spl_mem x hx
    · rename_i hb
      split at hx
      · rename_i y t e
        rcases List.mem_cons.1 hx with rfl | hx
        · intro h
          rcases List.mem_cons.1 h with h | h
          · exact hb h.symm
          · exact spl_mem y (by rw [e]; simp) h
        · exact spl_mem x (by rw [e]; simp [hx])
      · rename_i e
        exact absurd e (spl_ne _ _)
theorem noteT_free {n : Int} (_h0 : 0 ≤ n) : 32 ∉ noteT n := fun h => by
  unfold noteT at h
  rcases List.mem_append.1 h with h | h
  · have hk : n.toNat % 12 < 12 := Nat.mod_lt _ (by omega)
    have key : ∀ k, k < 12 → ¬ (32 : UInt8) ∈ noteNames.getD k [] := by decide
    exact key _ hk h
  · exact itoa_free (by decide) (by decide) h
theorem listT_free (l : List Int) : 32 ∉ listT l := fun h => by
  have hj : ∀ xs : List (List UInt8), (∀ x ∈ xs, (32 : UInt8) ∉ x) → (32 : UInt8) ∉ Lib.join xs [44] := fun xs => by
    induction xs with
    | nil => intro _ h; simp [Lib.join_nil] at h
    | cons x t ih =>
      intro hx h
      cases t with
      | nil => rw [join_one] at h; exact hx x (by simp) h
      | cons y t =>
        rw [join_two] at h
        rcases List.mem_append.1 h with h | h
        · rcases List.mem_append.1 h with h | h
          · exact hx x (by simp) h
          · simp at h
        · exact ih (fun z hz => hx z (by simp [hz])) h
  unfold listT at h
  split at h
  · simp at h
  · refine hj _ (fun x hx => ?_) h
    obtain ⟨v, _, rfl⟩ := List.mem_map.1 hx
    exact itoa_free (by decide) (by decide)
end Go.Proofs.YtmdablalfmcgnaaDoor
