/- Contracts: lists of numbers as text, the reference's side.; Contracts: numbers and lists of numbers as text, the program's side. -/
import Derived.Test.YtdnflnpihcghcaaGreatDoorJa
import Derived.Test.YtdnflnpihcghcaaGreatDoorSr
import Derived.Test.YtdnflnpihcghcaaGreatDoorAcj
-- from Jb
namespace Go.Proofs.YtdnflnpihcghcaaGreatDoor
open Go Go.Ab
set_option maxRecDepth 100000

theorem join_snoc (xs : List (List UInt8)) (x sep : List UInt8) : Lib.join (xs ++ [x]) sep = if xs = [] then x else Lib.join xs sep ++ sep ++ x := by
  cases xs with
  | nil => simp [Lib.join_one]
  | cons y r =>
    rw [if_neg (by simp), List.cons_append, Lib.join_cons, Lib.join_cons]
    simp [Lib.joinTail]
theorem join_len (sep : List UInt8) (k : Nat) (hs : sep.length ≤ 1) : ∀ (xs : List (List UInt8)), (∀ x ∈ xs, x.length ≤ k) → (Lib.join xs sep).length ≤ (k + 1) * xs.length
  | [], _ => by simp [Lib.join_nil]
  | x :: r, h => by
    rw [Lib.join_cons, List.length_append]
    have h0 := h x (by simp)
    have h1 : ∀ r : List (List UInt8), (∀ x ∈ r, x.length ≤ k) → (Lib.joinTail sep r).length ≤ (k + 1) * r.length := fun r => by
      induction r with
      | nil => intro _; simp [Lib.joinTail]
      | cons y s ih =>
        intro h
        have := ih fun x hx => h x (by simp [hx])
        have hy := h y (by simp)
        have e : (Lib.joinTail sep (y :: s)).length = sep.length + y.length + (Lib.joinTail sep s).length := by simp [Lib.joinTail]; omega
        rw [e, List.length_cons, Nat.mul_add]
        omega
    have := h1 r fun y hy => h y (by simp [hy])
    rw [List.length_cons, Nat.mul_add]
    omega
theorem itoa_len {n : Int} (h : I64 n) : (Lib.itoa n).length ≤ 21 := Lib.itoa_length_le n h.1 h.2

theorem intRows_getE (l : List Int) {i : Nat} (h : i < (intRows l).length) : (intRows l)[i] = [PV.int .i64 (l[i]'(by rw [intRows_len] at h; exact h))] := by simp [intRows]

/-- A list of numbers as text. -/
def listT (l : List Int) : List UInt8 := if l = [] then [45] else Lib.join (l.map Lib.itoa) [44]
/-- The text of the first i numbers. -/
def listI (l : List Int) (i : Nat) : List UInt8 := Lib.join ((l.take i).map Lib.itoa) [44]
theorem listI_zero (l : List Int) : listI l 0 = [] := rfl
theorem listI_succ (l : List Int) {i : Nat} (h : i < l.length) : listI l (i + 1) = (if i = 0 then [] else listI l i ++ [44]) ++ Lib.itoa l[i] := by
  unfold listI
  rw [← List.take_append_getElem h, List.map_append, List.map_singleton, join_snoc]
  by_cases e : i = 0
  · subst e; simp
  · rw [if_neg (by simp; exact ⟨e, by intro h'; rw [h'] at h; simp at h⟩), if_neg e]
theorem listI_len (l : List Int) (hl : ∀ x ∈ l, I64 x) (i : Nat) : (listI l i).length ≤ 22 * i := by
  have h1 := join_len [44] 21 (by simp) ((l.take i).map Lib.itoa) (fun x hx => by
    obtain ⟨n, hn, rfl⟩ := List.mem_map.1 hx
    exact itoa_len (hl n (List.mem_of_mem_take hn)))
  have h2 : ((l.take i).map Lib.itoa).length ≤ i := by simp; omega
  unfold listI
  have := Nat.mul_le_mul_left 22 h2
  omega
theorem listI_all {l : List Int} (h : l ≠ []) : listI l l.length = listT l := by
  unfold listI listT
  rw [List.take_length, if_neg h]
theorem listT_len (l : List Int) (hl : ∀ x ∈ l, I64 x) : (listT l).length ≤ 22 * l.length + 1 := by
  by_cases e : l = []
  · subst e; simp [listT]
  · have := listI_len l hl l.length
    rw [listI_all e] at this
    omega

end Go.Proofs.YtdnflnpihcghcaaGreatDoor
-- from Jc
namespace Go.Proofs.YtdnflnpihcghcaaGreatDoor
open Go Go.Ab
set_option maxRecDepth 100000

theorem pow_tabs : (1, Lib.pow10Tab.map fun z => PV.int .u64 z) ∈ tabs := List.mem_cons_self
theorem c_FormatInt (n : Int) (hn : I64 n) : HFn Tryz.prog 239 [.int .i64 n, .int .i64 10] [] (.str (Lib.itoa n)) [] :=
  hfn_of_calls Tryz.func239 (by kernel_rfl) rfl rfl fun A w vs hA hsz hargs => by
    have h0 := hargs 0 _ rfl
    have h1 := hargs 1 _ rfl
    rw [args2 hsz]
    generalize vs.getD 0 undef = v0 at h0 ⊢
    generalize vs.getD 1 undef = v1 at h1 ⊢
    cases h0
    cases h1
    obtain ⟨e, fz, hw⟩ := hA.ints pow_tabs
    refine (Tryz.strconv_FormatInt_10 n hn.1 hn.2 w ?_).mono fun e w' ⟨he, k, os, hw'⟩ => ⟨_, he, ?_, .str _ _ rfl⟩
    · unfold Lib.TabIs World.var?
      rw [show Tryz.prog.globalNamed "internal/strconv.uint64pow10" = some 1 by kernel_rfl]
      simp [hw]
    · subst hw'
      exact moved_grow _ _ _

theorem c_Decimal (n : Int) (hn : I64 n) : HFn Tryz.prog 197 [.int .i64 n] [] (.str (Lib.itoa n)) [] := by
  refine hfn_intro hm Tryz.func197 (by kernel_rfl) rfl (by kernel_rfl) rfl ret0_ok ?_
  simp
  refine CallZ.use0 (c_FormatInt n hn) rfl rfl ?_
  simp

theorem strRows_len (l : List (List UInt8)) : (strRows l).length = l.length := by simp [strRows]
end Go.Proofs.YtdnflnpihcghcaaGreatDoor
