/- A text cut at a byte; the parts of a method. No condition. -/
import Derived.Lib.SplitLaws
import Derived.Test.YtndbhcnedfbcoaaDoorZg
import Derived.Test.YtndbhcnedfbcoaaDoorSr
namespace Go.Proofs.YtndbhcnedfbcoaaDoor
open Go Go.Ab
set_option maxRecDepth 100000

theorem aokCell {A : Nat → Prop} {w : World} (h : AOk A w) {g c : Nat} (hm : (g, c) ∈ shps) : ∃ v, w.cell? ⟨g, 0, none⟩ = some v ∧ (c = 0 → ∃ m, v = .int .i64 m) ∧ (c = 1 → ∃ t p, v = .iface t p) := by
  obtain ⟨_, us, e, fz, v, h1, h2, h3⟩ := h.shp g c hm
  exact ⟨v, by simp [World.cell?, h1, h2], h3⟩
theorem strRows_len (l : List (List UInt8)) : (strRows l).length = l.length := by simp [strRows]
/-- The parts of a text between the bytes c. -/
def spl (c : UInt8) : List UInt8 → List (List UInt8)
  | [] => [[]]
  | b :: r => if b = c then [] :: spl c r else match spl c r with
    | x :: t => (b :: x) :: t
    | [] => [[b]]
theorem spl_cons (c b : UInt8) (r : List UInt8) : spl c (b :: r) = if b = c then [] :: spl c r else match spl c r with
    | x :: t => (b :: x) :: t
    | [] => [[b]] := rfl
theorem spl_ne (c : UInt8) (s : List UInt8) : spl c s ≠ [] := by
  cases s with
  | nil => simp [spl]
  | cons b r =>
    unfold spl
    split
    · simp
    · split <;> simp
theorem spl_len (c : UInt8) : ∀ s : List UInt8, (spl c s).length ≤ s.length + 1
  | [] => by simp [spl]
  | b :: r => by
    have ih := spl_len c r
    unfold spl
    split
    · simp; omega
    · split
      · rename_i x t e
        rw [e] at ih
        simp at ih ⊢
        omega
      · simp
theorem spl_piece (c : UInt8) : ∀ s : List UInt8, ∀ x ∈ spl c s, x.length ≤ s.length
  | [], x, hx => by simp [spl] at hx; simp [hx]
  | b :: r, x, hx => by
    have ih := spl_piece c r
    unfold spl at hx
    split at hx
    · rcases List.mem_cons.1 hx with rfl | hx
      · simp
      · have := ih x hx; simp; omega
    · split at hx
      · rename_i y t e
        rw [e] at ih
        rcases List.mem_cons.1 hx with rfl | hx
        · have := ih y (by simp); simp; omega
        · have := ih x (by simp [hx]); simp; omega
      · simp at hx; subst hx; simp
theorem spl_none {c : UInt8} : ∀ {x : List UInt8}, c ∉ x → spl c x = [x]
  | [], _ => rfl
  | b :: x, h => by
    have hb : ¬ b = c := fun e => h (by simp [e])
    have hx : c ∉ x := fun e => h (by simp [e])
    rw [spl_cons, if_neg hb, spl_none hx]
/-- The library's parts are these. -/
theorem index_one_eq (c : UInt8) (l : List UInt8) : Lib.index (c :: l) [c] = 0 := by
  unfold Lib.index
  rw [if_pos (by simp)]
theorem index_one_ne {b c : UInt8} (h : ¬ b = c) (l : List UInt8) : Lib.index (b :: l) [c] = if Lib.index l [c] == -1 then -1 else Lib.index l [c] + 1 := by
  rw [Lib.index]
  rw [if_neg]
  simp
  exact fun e => h e.symm
theorem split_spl (c : UInt8) : ∀ s : List UInt8, Lib.splitK [c] 0 (Lib.count s [c]) s = spl c s
  | [] => by
    have : Lib.count [] [c] = 0 := by rw [Lib.count_one]; rfl
    rw [this]
    rfl
  | b :: l => by
    have ih := split_spl c l
    unfold spl
    by_cases h : b = c
    · subst h
      rw [if_pos rfl, Lib.count_cons_eq, Nat.add_comm]
      unfold Lib.splitK
      rw [index_one_eq, if_neg (by decide)]
      simp [ih]
    · rw [if_neg h, Lib.count_cons_ne b c l h, ← ih]
      cases hk : Lib.count l [c] with
      | zero => rfl
      | succ k =>
        unfold Lib.splitK
        rw [index_one_ne h]
        have hge := Lib.index_ge l [c]
        by_cases hi : Lib.index l [c] = -1
        · simp [hi]
        · have h1 : (Lib.index l [c] == -1) = false := by simpa using hi
          have h2 : (Lib.index l [c] + 1 == -1) = false := by simp; omega
          have h3 : (Lib.index l [c] + 1).toNat = (Lib.index l [c]).toNat + 1 := by omega
          simp [h1, h2, h3]
theorem c_Split (s : List UInt8) (c : UInt8) (hs : s.length < 4294967281) : HFn Tryd.prog 42 [.str s, .str [c]] [] (.sf 0 1) [some (.arr 1 (strRows (spl c s)))] :=
  hfn_of_calls_new Tryd.func42 (by kernel_rfl) rfl rfl (fun i r hr => by
      unfold strRows at hr
      rw [List.getElem?_map] at hr
      cases hx : (spl c s)[i]? with
      | none => rw [hx] at hr; cases hr
      | some x => rw [hx] at hr; cases hr; rfl) fun A w vs hA hsz hargs => by
    have h0 := hargs 0 _ rfl
    have h1 := hargs 1 _ rfl
    rw [args2 hsz]
    generalize vs.getD 0 undef = v0 at h0 ⊢
    generalize vs.getD 1 undef = v1 at h1 ⊢
    cases h0 with
    | str _ b hb =>
    cases h1 with
    | str _ e he =>
    obtain ⟨v, hv, h3, _⟩ := aokCell hA (g := 0) (c := 0) (by simp [shps])
    obtain ⟨m, rfl⟩ := h3 rfl
    have e1 : b.size = b.data.toList.length := by simp
    have e2 : e.size = 1 := by
      have : e.size = e.data.toList.length := by simp
      rw [this, he]
      rfl
    have hcount : Lib.countB b e = Lib.count s [c] := by unfold Lib.countB; rw [hb, he]
    have hdata := Lib.splitB_data e 0 (Lib.countB b e) b
    rw [hb, he, hcount, split_spl] at hdata
    rw [← hcount] at hdata
    have hlen := Lib.splitB_all e (by omega) 0 (Lib.countB b e) b rfl
    have hrl : (strRows (spl c s)).length = Lib.countB b e + 1 := by rw [strRows_len, ← hdata, List.length_map, hlen]
    refine (Tryd.strings_Split b e m w (by rw [e1, hb]; exact hs) hv (by omega)).mono fun q w' ⟨hq, hw⟩ => ?_
    subst hw
    refine ⟨w.heap.size, Lib.countB b e + 1, _, _, by rw [hq, hrl], moved_alloc _ _, Nat.le_refl _, heap_alloc_at, by simp [hlen], by rw [hrl]; exact Nat.le_refl _, ?_, fun i j r x hr hx => ?_⟩
    · have h9 := spl_len c s
      rw [strRows_len] at hrl
      have hmax : maxLen = 9223372036854775807 := rfl
      omega
    · have hi := (List.getElem?_eq_some_iff.1 hr).1
      rw [hrl] at hi
      unfold strRows at hr
      rw [List.getElem?_map, ← hdata, List.getElem?_map, List.getElem?_eq_getElem (by omega)] at hr
      obtain rfl := Option.some.inj hr
      cases j with
      | zero =>
        obtain rfl := Option.some.inj hx
        refine ⟨_, ?_, .str _ _ rfl⟩
        rw [Nat.mul_one, Nat.add_zero, List.getElem?_toArray, List.getElem?_map, List.getElem?_eq_getElem (by omega)]
        rfl
      | succ j => cases hx

/-- A change alone, as parts of a method. -/
def lone (s : List UInt8) : Prop := s = [120] ∨ (s ≠ [] ∧ (120 : UInt8) ∉ s ∧ (46 : UInt8) ∉ s)
theorem c_splitMethod (s : List UInt8) (hs : s.length ≤ 1048576) (h : lone s) : HFn Tryd.prog 25 [.str s] [] (.sf 0 1) [some (.arr 1 (strRows [s]))] := by
  refine hfn_intro hm Tryd.func25 (by kernel_rfl) rfl (by kernel_rfl) rfl (fun _ _ h => h) ?_
  simp
  refine CallZ.use (c_Split s 120 (by omega)) rfl (.inr ⟨flat_strRows _, trivial⟩) rfl rfl ?_
  have w1 : IntKind.i64.wrap 1 = 1 := rfl
  have w2 : IntKind.i64.wrap (1 + 1) = 2 := rfl
  rcases h with rfl | ⟨h1, h2, h3⟩
  · have e : spl 120 [120] = [[], []] := rfl
    rw [e]
    simp [strRows]
    refine loop_upto hm 2 (fun i => ⟨[(3, .sf 1 1), (7, .sf 0 1), (8, .int .i64 2), (9, .int .i64 i)], [some (.arr 1 [[.str []], [.str []]]), some (.arr 1 (if i ≤ 1 then [] else [[.str [120]]]))]⟩) (fun _ => True) (by kernel_rfl) ?_ trivial (fun i hi _ => ?_) (fun _ => ?_)
    · refine (weak_nil (t := 3) (z := 1) rfl).trans (Wk.weak (ρ := [0, 1]) (φ := []) ?_)
      simp
    · have : i = 0 ∨ i = 1 := by omega
      rcases this with rfl | rfl
      · simp
        exact Wk.weak (ρ := [0, 1]) (φ := []) (by simp [w1])
      · simp
        refine ⟨by simp [rowsOne], ?_⟩
        exact Wk.weak (ρ := [0, 1]) (φ := []) (by simp; rfl)
    · simp
      exact Wk.weak (ρ := [1]) (φ := []) (by simp)
  · have e : spl 120 s = [s] := spl_none h2
    have e2 : spl 46 s = [s] := spl_none h3
    have kS := c_Split s 46 (by omega)
    rw [e2] at kS
    rw [e]
    simp [strRows]
    refine loop_upto hm 1 (fun i => ⟨[(3, .sf 1 1), (7, .sf 0 1), (8, .int .i64 1), (9, .int .i64 i)], [some (.arr 1 [[.str s]]), some (.arr 1 (if i = 0 then [] else [[.str s]]))]⟩) (fun _ => True) (by kernel_rfl) ?_ trivial (fun i hi _ => ?_) (fun _ => ?_)
    · refine (weak_nil (t := 3) (z := 1) rfl).trans (Wk.weak (ρ := [0, 1]) (φ := []) ?_)
      simp
    · obtain rfl : i = 0 := by omega
      simp [h1]
      refine CallZ.use kS rfl (.inr ⟨flat_strRows _, trivial⟩) rfl rfl ?_
      simp [strRows]
      refine ⟨by simp [rowsOne], ?_⟩
      exact Wk.weak (ρ := [0, 1]) (φ := []) (by simp [w1])
    · simp
      exact Wk.weak (ρ := [1]) (φ := []) (by simp)
end Go.Proofs.YtndbhcnedfbcoaaDoor
