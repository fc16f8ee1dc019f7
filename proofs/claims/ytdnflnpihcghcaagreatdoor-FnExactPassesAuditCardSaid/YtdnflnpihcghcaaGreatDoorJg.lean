/- Contracts: lists, notes and orders as text.; Contracts: OrderText.; Contracts: drums as text. -/
import Derived.Test.YtdnflnpihcghcaaGreatDoorJc
import Derived.Test.YtdnflnpihcghcaaGreatDoorCe
import Derived.Test.YtdnflnpihcghcaaGreatDoorUc
-- from Jd
namespace Go.Proofs.YtdnflnpihcghcaaGreatDoor
open Go Go.Ab
set_option maxRecDepth 100000

def valB (n : Int) : Bool := decide (-1000000000000 ≤ n) && decide (n ≤ 1000000000000)
/-- Whether a list of numbers has a text. -/
def listOk (l : List Int) : Bool := decide (l.length ≤ 64) && l.all valB
def listTx (l : List Int) : List UInt8 := if listOk l = true then listT l else []
theorem valB_I64 {n : Int} (h : valB n = true) : I64 n := by
  simp [valB] at h
  exact ⟨by omega, by omega⟩
theorem listOk_I64 {l : List Int} (h : listOk l = true) : ∀ x ∈ l, I64 x := fun x hx => by
  simp [listOk] at h
  exact valB_I64 (h.2 x hx)

def noteNames : List (List UInt8) := [[99], [99, 115], [100], [100, 115], [101], [102], [102, 115], [103], [103, 115], [97], [97, 115], [98]]
/-- The name of a note. -/
def noteT (n : Int) : List UInt8 := noteNames.getD (n.toNat % 12) [] ++ Lib.itoa (n / 12 - 1)
theorem note_row (k : Nat) (hk : k < 12) : (strRows noteNames)[k]? = some [.str (noteNames.getD k [])] := by
  have : k < noteNames.length := hk
  simp [strRows, List.getD, this]
theorem c_l03Text (n : Int) (h0 : 0 ≤ n) (h1 : n ≤ 127) : HFn Tryz.prog 114 [.int .i64 n] [] (.str (noteT n)) [] := by
  refine hfn_intro hm Tryz.func114 (by kernel_rfl) rfl (by kernel_rfl) rfl ret0_ok ?_
  obtain ⟨k, rfl⟩ : ∃ k : Nat, n = k := ⟨n.toNat, by omega⟩
  have e1 : (k : Int).tmod 12 = (k : Int) % 12 := Int.tmod_eq_emod_of_nonneg (by omega)
  have e1' : ((k : Int) % 12).toNat = k % 12 := by omega
  have e2 : (k : Int).tdiv 12 = (k : Int) / 12 := Int.tdiv_eq_ediv_of_nonneg (by omega)
  have e2' : IntKind.i64.wrap ((k : Int) / 12) = (k : Int) / 12 := w64 (by omega) (by omega)
  have e3 : IntKind.i64.wrap ((k : Int) / 12 - 1) = (k : Int) / 12 - 1 := w64 (by omega) (by omega)
  obtain ⟨s, hs⟩ : ∃ s, noteNames.getD (k % 12) [] = s := ⟨_, rfl⟩
  have hsl : s.length ≤ 2 := by
    subst hs
    have : ∀ j, j < 12 → (noteNames.getD j []).length ≤ 2 := by decide
    exact this _ (Nat.mod_lt _ (by omega))
  have er := note_row (k % 12) (Nat.mod_lt _ (by omega))
  rw [hs] at er
  simp only [strRows, noteNames, List.map_cons, List.map_nil] at er
  have hT : noteT k = s ++ Lib.itoa ((k : Int) / 12 - 1) := by unfold noteT; rw [Int.toNat_natCast, hs]
  have hI : I64 ((k : Int) / 12 - 1) := ⟨by omega, by omega⟩
  have hL := itoa_len hI
  have hk12 : k % 12 < 12 := Nat.mod_lt _ (by omega)
  simp [e1, e1', e2, e2', e3, er]
  refine ⟨by omega, by omega, ?_⟩
  refine CallZ.use0 (c_l01Dec _ hI) rfl rfl ?_
  simp [hT]
  omega
theorem c_NoteName (n : Int) (h0 : 0 ≤ n) (h1 : n ≤ 127) : HFn Tryz.prog 139 [.int .i64 n] [] (.str (noteT n)) [] := by
  refine hfn_intro hm Tryz.func139 (by kernel_rfl) rfl (by kernel_rfl) rfl ret0_ok ?_
  obtain ⟨k, rfl⟩ : ∃ k : Nat, n = k := ⟨n.toNat, by omega⟩
  have e1 : (k : Int).tmod 12 = (k : Int) % 12 := Int.tmod_eq_emod_of_nonneg (by omega)
  have e1' : ((k : Int) % 12).toNat = k % 12 := by omega
  have e2 : (k : Int).tdiv 12 = (k : Int) / 12 := Int.tdiv_eq_ediv_of_nonneg (by omega)
  have e2' : IntKind.i64.wrap ((k : Int) / 12) = (k : Int) / 12 := w64 (by omega) (by omega)
  have e3 : IntKind.i64.wrap ((k : Int) / 12 - 1) = (k : Int) / 12 - 1 := w64 (by omega) (by omega)
  obtain ⟨s, hs⟩ : ∃ s, noteNames.getD (k % 12) [] = s := ⟨_, rfl⟩
  have hsl : s.length ≤ 2 := by
    subst hs
    have : ∀ j, j < 12 → (noteNames.getD j []).length ≤ 2 := by decide
    exact this _ (Nat.mod_lt _ (by omega))
  have er := note_row (k % 12) (Nat.mod_lt _ (by omega))
  rw [hs] at er
  simp only [strRows, noteNames, List.map_cons, List.map_nil] at er
  have hT : noteT k = s ++ Lib.itoa ((k : Int) / 12 - 1) := by unfold noteT; rw [Int.toNat_natCast, hs]
  have hI : I64 ((k : Int) / 12 - 1) := ⟨by omega, by omega⟩
  have hL := itoa_len hI
  have hk12 : k % 12 < 12 := Nat.mod_lt _ (by omega)
  simp
  refine CallZ.use0 (c_isNote _) rfl rfl ?_
  simp [e1, e1', e2, e2', e3, er]
  refine ⟨fun h => by omega, fun _ => ⟨by omega, by omega, ?_⟩⟩
  refine CallZ.use0 (c_Decimal _ hI) rfl rfl ?_
  simp [hT]
  omega
end Go.Proofs.YtdnflnpihcghcaaGreatDoor
-- from Je
namespace Go.Proofs.YtdnflnpihcghcaaGreatDoor
open Go Go.Ab
set_option maxRecDepth 100000

theorem noteT_len {n : Int} (h0 : 0 ≤ n) (h1 : n ≤ 127) : (noteT n).length ≤ 23 := by
  unfold noteT
  have : ∀ j, j < 12 → (noteNames.getD j []).length ≤ 2 := by decide
  have h2 := this (n.toNat % 12) (Nat.mod_lt _ (by omega))
  have h3 := itoa_len (n := n / 12 - 1) ⟨by omega, by omega⟩
  simp only [List.length_append]
  omega

end Go.Proofs.YtdnflnpihcghcaaGreatDoor
-- from Jg
namespace Go.Proofs.YtdnflnpihcghcaaGreatDoor
open Go Go.Ab
set_option maxRecDepth 100000

theorem join_take_len {W : List (List UInt8)} {k : Nat} (h : ∀ x ∈ W, x.length ≤ k) (n : Nat) : (Lib.join (W.take n) [32]).length ≤ (k + 1) * n := by
  have h1 := join_len [32] k (by simp) (W.take n) fun x hx => h x (List.mem_of_mem_take hx)
  have h2 : (W.take n).length ≤ n := by simp; omega
  exact Nat.le_trans h1 (Nat.mul_le_mul_left _ h2)

end Go.Proofs.YtdnflnpihcghcaaGreatDoor
