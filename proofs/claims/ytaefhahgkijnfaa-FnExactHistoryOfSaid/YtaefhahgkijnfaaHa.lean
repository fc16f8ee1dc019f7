/- Contracts: the active ones of records. -/
import Derived.Test.YtaefhahgkijnfaaCg
import Derived.Test.YtaefhahgkijnfaaFd
namespace Go.Proofs.Ytaefhahgkijnfaa
open Go Go.Ab
set_option maxRecDepth 100000

def recAt (l : List Record) (i : Nat) : Record := l.getD i ⟨0, [], []⟩
theorem recAt_eq {l : List Record} {i : Nat} (hi : i < l.length) : recAt l i = l[i] := by simp [recAt, hi]
/-- The active ones of the first i records; none if there is nothing to take back for one. -/
def act (l : List Record) : Nat → Option (List Int)
  | 0 => some []
  | i + 1 => match act l i with
    | none => none
    | some S => if (recAt l i).kind ≠ 3 then some (S ++ [(i : Int)]) else if S = [] then none else some S.dropLast
theorem act_len {l : List Record} : ∀ {i : Nat} {S : List Int}, act l i = some S → S.length ≤ i
  | 0, S, h => by cases h; exact Nat.le_refl _
  | i + 1, S, h => by
    unfold act at h
    cases ha : act l i with
    | none => rw [ha] at h; cases h
    | some T =>
      have := act_len ha
      rw [ha] at h
      simp only at h
      split at h
      · cases h; simp; omega
      · split at h
        · cases h
        · cases h; simp; omega
theorem act_mem {l : List Record} : ∀ {i : Nat} {S : List Int}, act l i = some S → ∀ k ∈ S, 0 ≤ k ∧ k < i
  | 0, S, h, k, hk => by cases h; simp at hk
  | i + 1, S, h, k, hk => by
    unfold act at h
    cases ha : act l i with
    | none => rw [ha] at h; cases h
    | some T =>
      have ih := act_mem ha
      rw [ha] at h
      simp only at h
      split at h
      · cases h
        rcases List.mem_append.1 hk with g | g
        · have := ih k g; omega
        · simp at g; omega
      · split at h
        · cases h
        · cases h
          have := ih k (List.dropLast_subset _ hk)
          omega
theorem act_none {l : List Record} {i : Nat} (h : act l i = none) : act l (i + 1) = none := by unfold act; rw [h]
theorem act_some {l : List Record} {i : Nat} {S : List Int} (h : act l i = some S) : act l (i + 1) = if (recAt l i).kind ≠ 3 then some (S ++ [(i : Int)]) else if S = [] then none else some S.dropLast := by
  conv => lhs; unfold act
  rw [h]
theorem act_up {l : List Record} {i : Nat} (h : act l i = none) : ∀ j, i ≤ j → act l j = none := fun j hij => by
  induction j with
  | zero => have : i = 0 := by omega
            subst this; exact h
  | succ j ih =>
    by_cases e : i = j + 1
    · subst e; exact h
    · exact act_none (ih (by omega))
theorem act_take {l : List Record} {k : Nat} : ∀ {i : Nat}, i ≤ k → act (l.take k) i = act l i
  | 0, _ => rfl
  | i + 1, h => by
    have ih := act_take (l := l) (i := i) (k := k) (by omega)
    have e : recAt (l.take k) i = recAt l i := by
      unfold recAt
      rw [List.getD_eq_getElem?_getD, List.getD_eq_getElem?_getD, List.getElem?_take, if_pos (by omega)]
    unfold act
    rw [ih, e]
def actL (l : List Record) (i : Nat) : List Int := (act l i).getD []
theorem actL_some {l : List Record} {i : Nat} {S : List Int} (h : act l i = some S) : actL l i = S := by simp [actL, h]
theorem intRows_app (a b : List Int) : intRows (a ++ b) = intRows a ++ intRows b := by simp [intRows]
theorem intRows_take (a : List Int) (n : Nat) : intRows (a.take n) = (intRows a).take n := by simp [intRows]

theorem c_impl_active (l : List Record) (hl : l.length ≤ 1048576) :
    HFn Try.prog 76 [.sl 3 (Record.rows l)] [] (.tup [.sf 0 1, .bool (act l l.length).isSome]) [some (.arr 1 (intRows (actL l l.length)))] := by
  refine hfn_intro hm Try.func76 (by kernel_rfl) rfl (by kernel_rfl) rfl (fun _ _ h => h) ?_
  simp [Record.rows_len]
  refine loop_upto hm l.length (fun i => ⟨[(4, .sf 0 1), (7, .sl 3 (Record.rows l)), (8, .int .i64 l.length), (9, .int .i64 i)], [some (.arr 1 (intRows (actL l i)))]⟩) (fun i => (act l i).isSome = true) (by kernel_rfl) ?_ rfl (fun i hi hI => ?_) (fun hI => ?_)
  · exact (weak_nil (t := 4) (z := 1) rfl).trans (Wk.weak (ρ := [0]) (φ := []) (by simp [intRows, actL, act]))
  · obtain ⟨S, hS⟩ := Option.isSome_iff_exists.1 hI
    have hSl := act_len hS
    have hs := act_some hS
    rw [recAt_eq hi] at hs
    have w1 : IntKind.i64.wrap ((i : Int) + 1) = (i : Int) + 1 := w64 (by omega) (by omega)
    have hSa := actL_some hS
    rw [hSa]
    simp [hi, Record.rows, Record.cells, intRows_len]
    refine ⟨fun hk => ?_, fun hk => ?_⟩
    · rw [if_pos hk] at hs
      have hsl := actL_some hs
      refine ⟨by simp [rowsOne], by omega, by omega, by rw [hs]; rfl, Wk.weak (ρ := [0]) (φ := []) ?_⟩
      simp [hsl, intRows_app, w1]
      rfl
    · rw [if_neg (by simpa using hk)] at hs
      refine ⟨fun h0 => ?_, fun h0 => ?_⟩
      · rw [if_pos h0] at hs
        have hu := act_up hs l.length (by omega)
        refine (weak_nilT (t := 0) 0 1 rfl rfl).trans (Wk.weak (ρ := [2]) (φ := []) ?_)
        simp [hu, actL, intRows]
      · rw [if_neg h0] at hs
        have hpos := List.length_pos_iff.2 h0
        have hw : IntKind.i64.wrap ((S.length : Int) - 1) = ((S.length - 1 : Nat) : Int) := by rw [w64 (by omega) (by omega)]; omega
        have hsl := actL_some hs
        rw [hw]
        refine ⟨⟨by omega, by omega⟩, by rw [hs]; rfl, (weak_cut (t := 4) (k := 0) (z := 1) (len := S.length - 1) (rows := intRows S) rfl rfl (by rw [intRows_len]; omega)).trans (Wk.weak (ρ := [0]) (φ := []) ?_)⟩
        simp [hsl, w1, List.dropLast_eq_take, intRows_take]
  · simp
    refine Wk.weak (ρ := [0]) (φ := []) ?_
    simp [hI]

theorem c_spec_l30Active (l : List Record) (n : Nat) (hn : n ≤ l.length) (hl : l.length ≤ 1048576) :
    HFn Try.prog 75 [.sl 3 (Record.rows l), .int .i64 n] [] (.tup [.sf 0 1, .bool (act l n).isSome]) [some (.arr 1 (intRows (actL l n)))] := by
  refine hfn_intro hm Try.func75 (by kernel_rfl) rfl (by kernel_rfl) rfl (fun _ _ h => h) ?_
  simp
  refine loop_upto hm n (fun i => ⟨[(0, .sl 3 (Record.rows l)), (1, .int .i64 n), (6, .sf 0 1), (7, .int .i64 i)], [some (.arr 1 (intRows (actL l i)))]⟩) (fun i => (act l i).isSome = true) (by kernel_rfl) ?_ rfl (fun i hi' hI => ?_) (fun hI => ?_)
  · exact (weak_nil (t := 6) (z := 1) rfl).trans (Wk.weak (ρ := [0]) (φ := []) (by simp [intRows, actL, act]))
  · have hi : i < l.length := by omega
    obtain ⟨S, hS⟩ := Option.isSome_iff_exists.1 hI
    have hSl := act_len hS
    have hs := act_some hS
    rw [recAt_eq hi] at hs
    have w1 : IntKind.i64.wrap ((i : Int) + 1) = (i : Int) + 1 := w64 (by omega) (by omega)
    have hSa := actL_some hS
    rw [hSa]
    simp [hi, hi', Record.rows, Record.cells, intRows_len]
    refine ⟨fun hk => ?_, fun hk => ⟨fun h0 => ?_, fun h0 => ?_⟩⟩
    · rw [if_pos hk] at hs
      have hsl := actL_some hs
      refine ⟨by simp [rowsOne], by omega, by omega, by rw [hs]; rfl, Wk.weak (ρ := [0]) (φ := []) ?_⟩
      simp [hsl, intRows_app, w1]
      rfl
    · rw [if_neg (by simpa using hk), if_pos h0] at hs
      have hu := act_up hs n (by omega)
      refine (weak_nilT (t := 0) 0 1 rfl rfl).trans (Wk.weak (ρ := [1]) (φ := []) ?_)
      simp [hu, actL, intRows]
    · rw [if_neg (by simpa using hk), if_neg h0] at hs
      have hpos := List.length_pos_iff.2 h0
      have hw : IntKind.i64.wrap ((S.length : Int) - 1) = ((S.length - 1 : Nat) : Int) := by rw [w64 (by omega) (by omega)]; omega
      have hsl := actL_some hs
      rw [hw]
      refine ⟨⟨by omega, by omega⟩, by rw [hs]; rfl, (weak_cut (t := 6) (k := 0) (z := 1) (len := S.length - 1) (rows := intRows S) rfl rfl (by rw [intRows_len]; omega)).trans (Wk.weak (ρ := [0]) (φ := []) ?_)⟩
      simp [hsl, w1, List.dropLast_eq_take, intRows_take]
  · simp
    refine Wk.weak (ρ := [0]) (φ := []) ?_
    simp [hI]
end Go.Proofs.Ytaefhahgkijnfaa
