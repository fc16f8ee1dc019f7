/- Contracts: lists of numbers as text, the reference's side.; Contracts: numbers and lists of numbers as text, the program's side. -/
import Derived.Test.YtcjpfjklhhclmaaGreatDoorJa
import Derived.Test.YtcjpfjklhhclmaaGreatDoorSr
import Derived.Test.YtcjpfjklhhclmaaGreatDoorAcj
-- from Jb
namespace Go.Proofs.YtcjpfjklhhclmaaGreatDoor
open Go Go.Ab
set_option maxRecDepth 100000

theorem itoa_len {n : Int} (h : I64 n) : (Lib.itoa n).length ≤ 21 := Lib.itoa_length_le n h.1 h.2

end Go.Proofs.YtcjpfjklhhclmaaGreatDoor
-- from Jc
namespace Go.Proofs.YtcjpfjklhhclmaaGreatDoor
open Go Go.Ab
set_option maxRecDepth 100000

theorem pow_tabs : (1, Lib.pow10Tab.map fun z => PV.int .u64 z) ∈ tabs := List.mem_cons_self
theorem c_FormatInt (n : Int) (hn : I64 n) : HFn Tryz.prog 284 [.int .i64 n, .int .i64 10] [] (.str (Lib.itoa n)) [] :=
  hfn_of_calls Tryz.func284 (by kernel_rfl) rfl rfl fun A w vs hA hsz hargs => by
    have h0 := hargs 0 _ rfl
    have h1 := hargs 1 _ rfl
    rw [args2 hsz]
    generalize vs.getD 0 undef = v0 at h0 ⊢
    generalize vs.getD 1 undef = v1 at h1 ⊢
    cases h0
    cases h1
    obtain ⟨e, fz, hw⟩ := hA.ints pow_tabs
    refine (Tryz.strconv_FormatInt_10 n hn.1 hn.2 w ?_).mono fun e w' ⟨he, k, os, hw'⟩ => ⟨_, he, ?_, .str _ _ rfl⟩
    · unfold Lib.TabIs World.var?
      rw [show Tryz.prog.globalNamed "internal/strconv.uint64pow10" = some 1 by kernel_rfl]
      simp [hw]
    · subst hw'
      exact moved_grow _ _ _

theorem c_Decimal (n : Int) (hn : I64 n) : HFn Tryz.prog 213 [.int .i64 n] [] (.str (Lib.itoa n)) [] := by
  refine hfn_intro hm Tryz.func213 (by kernel_rfl) rfl (by kernel_rfl) rfl ret0_ok ?_
  simp
  refine CallZ.use0 (c_FormatInt n hn) rfl rfl ?_
  simp

theorem strRows_len (l : List (List UInt8)) : (strRows l).length = l.length := by simp [strRows]
end Go.Proofs.YtcjpfjklhhclmaaGreatDoor
