/- Contracts: numbers and lists of numbers as text, the program's side. -/
import Derived.Test.YtjmoilnklaeacaaGreatDoorJb
import Derived.Test.YtjmoilnklaeacaaGreatDoorSr
import Derived.Test.YtjmoilnklaeacaaGreatDoorAcj
namespace Go.Proofs.YtjmoilnklaeacaaGreatDoor
open Go Go.Ab
set_option maxRecDepth 100000

theorem pow_tabs : (5, Lib.pow10Tab.map fun z => PV.int .u64 z) ∈ tabs := List.mem_cons_self
theorem c_FormatInt (n : Int) (hn : I64 n) : HFn Tryz.prog 142 [.int .i64 n, .int .i64 10] [] (.str (Lib.itoa n)) [] :=
  hfn_of_calls Tryz.func142 (by kernel_rfl) rfl rfl fun A w vs hA hsz hargs => by
    have h0 := hargs 0 _ rfl
    have h1 := hargs 1 _ rfl
    rw [args2 hsz]
    generalize vs.getD 0 undef = v0 at h0 ⊢
    generalize vs.getD 1 undef = v1 at h1 ⊢
    cases h0
    cases h1
    obtain ⟨e, fz, hw⟩ := hA.ints pow_tabs
    refine (Tryz.strconv_FormatInt_10 n hn.1 hn.2 w ?_).mono fun e w' ⟨he, k, os, hw'⟩ => ⟨_, he, ?_, .str _ _ rfl⟩
    · unfold Lib.TabIs World.var?
      rw [show Tryz.prog.globalNamed "internal/strconv.uint64pow10" = some 5 by kernel_rfl]
      simp [hw]
    · subst hw'
      exact moved_grow _ _ _

theorem c_Decimal (n : Int) (hn : I64 n) : HFn Tryz.prog 89 [.int .i64 n] [] (.str (Lib.itoa n)) [] := by
  refine hfn_intro hm Tryz.func89 (by kernel_rfl) rfl (by kernel_rfl) rfl ret0_ok ?_
  simp
  refine CallZ.use0 (c_FormatInt n hn) rfl rfl ?_
  simp

theorem strRows_len (l : List (List UInt8)) : (strRows l).length = l.length := by simp [strRows]
theorem c_Join (l : List (List UInt8)) (sep : List UInt8) (hl : l.length ≤ 140737488355328) (hlen : (Lib.join l sep).length ≤ 140737488355328) : HFn Tryz.prog 97 [.sl 1 (strRows l), .str sep] [] (.str (Lib.join l sep)) [] :=
  hfn_of_calls Tryz.func97 (by kernel_rfl) rfl rfl fun A w vs hA hsz hargs => by
    have h0 := hargs 0 _ rfl
    have h1 := hargs 1 _ rfl
    rw [args2 hsz]
    generalize vs.getD 0 undef = v0 at h0 ⊢
    generalize vs.getD 1 undef = v1 at h1 ⊢
    cases h1 with
    | str _ sb hsb =>
    generalize hrows : strRows l = rows at h0
    cases h0 with
    | slE _ ao cap =>
      obtain rfl : l = [] := by cases l with
        | nil => rfl
        | cons x r => cases hrows
      refine (Tryz.strings_Join_none ao cap sb w).mono fun e w' ⟨he, hw⟩ => ⟨_, he, ?_, ?_⟩
      · subst hw; exact .refl _ _
      · exact .str _ _ (by simp [Lib.join_nil])
    | sl _ _ b o cap u hb hc hz hu hh =>
      subst hrows
      have hget : ∀ (j : Nat) (s : List UInt8), l[j]? = some s → (strRows l)[j]? = some [.str s] := fun j s hj => by simp [strRows, hj]
      have hxs : (l.map fun s => (⟨s.toArray⟩ : ByteArray)).map (·.data.toList) = l := by simp [Function.comp_def]
      rw [← hsb] at hlen ⊢
      have c := Tryz.strings_Join b o cap (l.map fun s => ⟨s.toArray⟩) sb w (fun j x hx => ?_) (hA b hb) (by simpa using hl) (by simpa [strRows] using hc) (by rw [hxs]; exact hlen)
      · rw [hxs, List.length_map] at c
        rw [strRows_len]
        exact c.mono fun e w' ⟨he, hw⟩ => ⟨_, he, moved_below hw (fun h => by cases h), .str _ _ rfl⟩
      · rw [List.getElem?_map] at hx
        cases hj : l[j]? with
        | none => rw [hj] at hx; cases hx
        | some s =>
          rw [hj] at hx
          cases hx
          have h1 := hu j 0 [.str s] (.str s) (hget j s hj) rfl
          have h2 := hh j 0 [.str s] (.str s) (hget j s hj) rfl
          rw [Nat.mul_one, Nat.add_zero] at h1
          rw [h1]
          generalize u j 0 = x at h2
          cases h2 with
          | str _ bb hbb =>
            cases bb
            simp only at hbb
            subst hbb
            rfl
end Go.Proofs.YtjmoilnklaeacaaGreatDoor
