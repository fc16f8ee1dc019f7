/- Contracts: lists, notes and orders as text.; Contracts: OrderText.; Contracts: drums as text. -/
import Derived.Test.YtcjpfjklhhclmaaGreatDoorJc
import Derived.Test.YtcjpfjklhhclmaaGreatDoorCe
import Derived.Test.YtcjpfjklhhclmaaGreatDoorTI
import Derived.Test.YtcjpfjklhhclmaaGreatDoorCk
-- from Jd
namespace Go.Proofs.YtcjpfjklhhclmaaGreatDoor
open Go Go.Ab
set_option maxRecDepth 100000

def noteNames : List (List UInt8) := [[99], [99, 115], [100], [100, 115], [101], [102], [102, 115], [103], [103, 115], [97], [97, 115], [98]]
/-- The name of a note. -/
def noteT (n : Int) : List UInt8 := noteNames.getD (n.toNat % 12) [] ++ Lib.itoa (n / 12 - 1)
theorem note_row (k : Nat) (hk : k < 12) : (strRows noteNames)[k]? = some [.str (noteNames.getD k [])] := by
  have : k < noteNames.length := hk
  simp [strRows, List.getD, this]
theorem c_NoteName (n : Int) (h0 : 0 ≤ n) (h1 : n ≤ 127) : HFn Tryz.prog 125 [.int .i64 n] [] (.str (noteT n)) [] := by
  refine hfn_intro hm Tryz.func125 (by kernel_rfl) rfl (by kernel_rfl) rfl ret0_ok ?_
  obtain ⟨k, rfl⟩ : ∃ k : Nat, n = k := ⟨n.toNat, by omega⟩
  have e1 : (k : Int).tmod 12 = (k : Int) % 12 := Int.tmod_eq_emod_of_nonneg (by omega)
  have e1' : ((k : Int) % 12).toNat = k % 12 := by omega
  have e2 : (k : Int).tdiv 12 = (k : Int) / 12 := Int.tdiv_eq_ediv_of_nonneg (by omega)
  have e2' : IntKind.i64.wrap ((k : Int) / 12) = (k : Int) / 12 := w64 (by omega) (by omega)
  have e3 : IntKind.i64.wrap ((k : Int) / 12 - 1) = (k : Int) / 12 - 1 := w64 (by omega) (by omega)
  obtain ⟨s, hs⟩ : ∃ s, noteNames.getD (k % 12) [] = s := ⟨_, rfl⟩
  have hsl : s.length ≤ 2 := by
    subst hs
    have : ∀ j, j < 12 → (noteNames.getD j []).length ≤ 2 := by decide
    exact this _ (Nat.mod_lt _ (by omega))
  have er := note_row (k % 12) (Nat.mod_lt _ (by omega))
  rw [hs] at er
  simp only [strRows, noteNames, List.map_cons, List.map_nil] at er
  have hT : noteT k = s ++ Lib.itoa ((k : Int) / 12 - 1) := by unfold noteT; rw [Int.toNat_natCast, hs]
  have hI : I64 ((k : Int) / 12 - 1) := ⟨by omega, by omega⟩
  have hL := itoa_len hI
  have hk12 : k % 12 < 12 := Nat.mod_lt _ (by omega)
  simp
  refine CallZ.use0 (c_isNote _) rfl rfl ?_
  simp [e1, e1', e2, e2', e3, er]
  refine ⟨fun h => by omega, fun _ => ⟨by omega, by omega, ?_⟩⟩
  refine CallZ.use0 (c_Decimal _ hI) rfl rfl ?_
  simp [hT]
  omega
end Go.Proofs.YtcjpfjklhhclmaaGreatDoor
-- from Je
namespace Go.Proofs.YtcjpfjklhhclmaaGreatDoor
open Go Go.Ab
set_option maxRecDepth 100000

theorem noteT_len {n : Int} (h0 : 0 ≤ n) (h1 : n ≤ 127) : (noteT n).length ≤ 23 := by
  unfold noteT
  have : ∀ j, j < 12 → (noteNames.getD j []).length ≤ 2 := by decide
  have h2 := this (n.toNat % 12) (Nat.mod_lt _ (by omega))
  have h3 := itoa_len (n := n / 12 - 1) ⟨by omega, by omega⟩
  simp only [List.length_append]
  omega

end Go.Proofs.YtcjpfjklhhclmaaGreatDoor
-- from Jg
namespace Go.Proofs.YtcjpfjklhhclmaaGreatDoor
open Go Go.Ab
set_option maxRecDepth 100000

end Go.Proofs.YtcjpfjklhhclmaaGreatDoor
