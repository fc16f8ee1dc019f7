/- Texts cut at a byte's first place; drums read back from their texts: plain law. No condition. -/
import Derived.Test.YtmdablalfmcgnaaGreatDoorOe
import Derived.Test.YtmdablalfmcgnaaGreatDoorJg
namespace Go.Proofs.YtmdablalfmcgnaaGreatDoor
open Go Go.Ab
set_option maxRecDepth 100000

theorem index_free {c : UInt8} : ∀ {x : List UInt8}, c ∉ x → ∀ y, Lib.index (x ++ c :: y) [c] = x.length
  | [], _, y => index_one_eq c y
  | b :: x, h, y => by
    have h1 : ¬ b = c := fun e => h (by simp [e])
    have ih := index_free (c := c) (x := x) (fun e => h (by simp [e])) y
    rw [List.cons_append, index_one_ne h1, ih]
    have h2 : (((x.length : Nat) : Int) == -1) = false := by simp
    rw [h2]
    simp
theorem cut_free {c : UInt8} {x : List UInt8} (h : c ∉ x) (y : List UInt8) : Lib.cut (x ++ c :: y) [c] = (x, y, true) := by
  unfold Lib.cut
  rw [index_free h, if_pos (by omega)]
  simp
theorem cut_len (w : List UInt8) (c : List UInt8) : (Lib.cut w c).1.length ≤ w.length ∧ (Lib.cut w c).2.1.length ≤ w.length := by
  unfold Lib.cut
  split
  · simp
    omega
  · simp
theorem cut_two {c : UInt8} {w x y : List UInt8} (h : spl c w = [x, y]) : w = x ++ c :: y ∧ Lib.cut w [c] = (x, y, true) := by
  have hx : c ∉ x := spl_mem x (by rw [h]; simp)
  have hw : w = x ++ c :: y := by
    have := join_spl c w
    rw [h, join_two, join_one] at this
    rw [← this]
    simp
  exact ⟨hw, by rw [hw]; exact cut_free hx y⟩

theorem nv_small (p : List UInt8) : (nv p).natAbs < 10 ^ 18 := by
  unfold nv
  cases h : num p with
  | none => simp
  | some v => exact (num_itoa.1 h).2
theorem num_iff {p : List UInt8} : Lib.itoa (nv p) = p ↔ (num p).isSome = true := by
  constructor
  · intro h
    have : num p = some (nv p) := num_itoa.2 ⟨h, nv_small p⟩
    rw [this]
    rfl
  · intro h
    obtain ⟨v, hv⟩ := Option.isSome_iff_exists.1 h
    unfold nv
    rw [hv]
    exact (num_itoa.1 hv).1

/-- The pin that the program sees in a word. -/
def cutP (w : List UInt8) : Pin := ⟨nv (Lib.cut w [58]).1, nv (Lib.cut w [58]).2.1⟩
def pinS (w : List UInt8) : Bool := match spl 58 w with
  | [x, y] => (num x).isSome && (num y).isSome
  | _ => false
theorem pinS_iff {w : List UInt8} : pinW (cutP w) = w ↔ pinS w = true := by
  constructor
  · intro h
    have hf : ∀ v : Int, (58 : UInt8) ∉ Lib.itoa v := fun v => itoa_free (by decide) (by decide)
    have h2 : spl 58 w = [Lib.itoa (cutP w).step, Lib.itoa (cutP w).hammer] := by
      conv => lhs; rw [← h]
      unfold pinW
      rw [List.append_assoc, List.singleton_append, spl_free (hf _), spl_none (hf _)]
    unfold pinS
    rw [h2]
    have k : ∀ p, num (Lib.itoa (nv p)) = some (nv p) := fun p => num_itoa.2 ⟨rfl, nv_small p⟩
    simp [cutP, k]
  · intro h
    unfold pinS at h
    split at h
    · rename_i x y e
      obtain ⟨h1, h2⟩ := cut_two e
      simp only [Bool.and_eq_true] at h
      unfold cutP pinW
      rw [h2]
      simp only
      rw [num_iff.2 h.1, num_iff.2 h.2]
      conv => rhs; rw [h1]
      simp
    · cases h

/-- The drum that the program sees in the words. -/
def drumV (a b c : List UInt8) (r : List (List UInt8)) : Drum := ⟨nv a, nv b, (listR c).getD [], r.map cutP⟩
def wordsOk (a b c : List UInt8) (r : List (List UInt8)) : Bool := (num a).isSome && (num b).isSome && (listR c).isSome && r.all pinS
def drumR (s : List UInt8) : Option Drum := match spl 32 s with
  | a :: b :: c :: r => if wordsOk a b c r = true ∧ validDrum (drumV a b c r) = true then some (drumV a b c r) else none
  | _ => none
def zeroDrum : Drum := ⟨0, 0, [], []⟩
@[simp] def drumRP (s : List UInt8) : PV := .tup [.agg [.int .i64 ((drumR s).getD zeroDrum).steps, .int .i64 ((drumR s).getD zeroDrum).rest, .sf 0 1, .sf 1 2], .bool (drumR s).isSome]
@[simp] def drumRO (s : List UInt8) : Heap := [some (.arr 1 (intRows ((drumR s).getD zeroDrum).notes)), some (.arr 2 (Pin.rows ((drumR s).getD zeroDrum).pins))]

theorem map_self {α : Type} {f : α → α} : ∀ {l : List α}, l.map f = l ↔ ∀ x ∈ l, f x = x
  | [] => by simp
  | a :: l => by simp [map_self (f := f) (l := l)]
theorem listR_iff {c : List UInt8} : listT ((listR c).getD []) = c ↔ (listR c).isSome = true := by
  cases h : listR c with
  | some l => simpa using (listR_text h).2
  | none =>
    simp
    intro e
    have : listR [45] = some [] := rfl
    have e2 : listT [] = [45] := rfl
    rw [← e, e2, this] at h
    cases h
theorem drumW_free (d : Drum) : ∀ x ∈ drumW d, (32 : UInt8) ∉ x := fun x hx => by
  have hf : ∀ v : Int, (32 : UInt8) ∉ Lib.itoa v := fun v => itoa_free (by decide) (by decide)
  rcases List.mem_append.1 hx with hx | hx
  · simp at hx
    rcases hx with rfl | rfl | rfl
    · exact hf _
    · exact hf _
    · exact listT_free _
  · obtain ⟨p, _, rfl⟩ := List.mem_map.1 hx
    unfold pinW
    intro h
    rcases List.mem_append.1 h with h | h
    · rcases List.mem_append.1 h with h | h
      · exact hf _ h
      · simp at h
    · exact hf _ h
theorem drumV_iff {s a b c : List UInt8} {r : List (List UInt8)} (hs : spl 32 s = a :: b :: c :: r) : drumT (drumV a b c r) = s ↔ wordsOk a b c r = true := by
  have h1 : drumT (drumV a b c r) = s ↔ drumW (drumV a b c r) = spl 32 s := by
    constructor
    · intro h
      rw [← h]
      exact (spl_join (by simp [drumW]) (drumW_free _)).symm
    · intro h
      unfold drumT
      rw [h, join_spl]
  rw [h1, hs]
  simp only [drumW, drumV, List.map_map, List.cons_append, List.nil_append, List.cons.injEq, num_iff, listR_iff, map_self, Function.comp, pinS_iff, wordsOk, Bool.and_eq_true, List.all_eq_true]
  constructor
  · rintro ⟨h1, h2, h3, h4⟩; exact ⟨⟨⟨h1, h2⟩, h3⟩, h4⟩
  · rintro ⟨⟨⟨h1, h2⟩, h3⟩, h4⟩; exact ⟨h1, h2, h3, h4⟩

theorem drumR_three {s : List UInt8} (h : (spl 32 s).length < 3) : drumR s = none := by
  unfold drumR
  split
  · rename_i e; rw [e] at h; simp at h; omega
  · rfl
theorem len_over {α : Type} {l : List α} (h : 3 ≤ l.length) : ∃ a b c r, l = a :: b :: c :: r := by
  match l, h with
  | a :: b :: c :: r, _ => exact ⟨a, b, c, r, rfl⟩

theorem listR_len (c : List UInt8) : ((listR c).getD []).length ≤ 64 := by
  cases hl : listR c with
  | none => simp
  | some l =>
    have := (listR_text hl).1
    simp [listOk] at this
    exact this.1
theorem drumR_len (s : List UInt8) : ((drumR s).getD zeroDrum).notes.length ≤ 64 ∧ ((drumR s).getD zeroDrum).pins.length ≤ 1048576 := by
  unfold drumR
  split
  · split
    · rename_i g
      have h1 := (validDrum_iff _).1 g.2
      have h2 := h1.nl
      have h3 := h1.pl
      simp only [Option.getD_some]
      omega
    · simp [zeroDrum]
  · simp [zeroDrum]

theorem c_Cut (s : List UInt8) (c : UInt8) (hs : s.length < 4294967281) : HFn Tryz.prog 75 [.str s, .str [c]] [] (.tup [.str (Lib.cut s [c]).1, .str (Lib.cut s [c]).2.1, .bool (Lib.cut s [c]).2.2]) [] :=
  hfn_of_calls Tryz.func75 (by kernel_rfl) rfl rfl fun A w vs hA hsz hargs => by
    have h0 := hargs 0 _ rfl
    have h1 := hargs 1 _ rfl
    rw [args2 hsz]
    generalize vs.getD 0 undef = v0 at h0 ⊢
    generalize vs.getD 1 undef = v1 at h1 ⊢
    cases h0 with
    | str _ b hb =>
    cases h1 with
    | str _ e he =>
    obtain ⟨v, hv, h3, _⟩ := aokCell hA (g := 0) (c := 0) (by simp [shps])
    obtain ⟨m, rfl⟩ := h3 rfl
    have e1 : b.size = b.data.toList.length := by simp
    refine (Tryz.strings_Cut b e m w (by rw [e1, hb]; exact hs) hv).mono fun q w' ⟨hq, n, hw⟩ => ⟨_, hq, ?_, ?_⟩
    · subst hw
      exact ⟨rfl, rfl, rfl, by simp [World.drewN], fun _ _ _ => rfl, fun _ => Nat.le_add_right _ _⟩
    · rw [hb, he]
      refine .tup _ _ rfl fun i p hp => ?_
      match i, hp with
      | 0, hp => cases hp; exact .str _ _ (by simp)
      | 1, hp => cases hp; exact .str _ _ (by simp)
      | 2, hp => cases hp; exact .bool _
end Go.Proofs.YtmdablalfmcgnaaGreatDoor
