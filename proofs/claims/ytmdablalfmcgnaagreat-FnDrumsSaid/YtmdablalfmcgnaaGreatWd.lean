/- Contracts: slices.Compact at tones. No condition. -/
import Derived.Test.YtmdablalfmcgnaaGreatUb
namespace Go.Proofs.YtmdablalfmcgnaaGreat
open Go Go.Ab
set_option maxRecDepth 100000

/-- The first i tones without those that are like the one before. -/
def compT (T : List Tone) : Nat → List Tone
  | 0 => []
  | i + 1 => match T[i]? with
    | none => compT T i
    | some x => if 0 < i ∧ T[i - 1]? = some x then compT T i else compT T i ++ [x]
theorem compT_succ (T : List Tone) {i : Nat} (hi : i < T.length) : compT T (i + 1) = if 0 < i ∧ T[i - 1]'(by omega) = T[i] then compT T i else compT T i ++ [T[i]] := by
  have h1 : T[i]? = some T[i] := List.getElem?_eq_getElem hi
  have h2 : T[i - 1]? = some (T[i - 1]'(by omega)) := List.getElem?_eq_getElem (by omega)
  simp only [compT, h1, h2, Option.some.injEq]
theorem compT_le (T : List Tone) : ∀ i, i ≤ T.length → (compT T i).length ≤ i
  | 0, _ => by simp [compT]
  | i + 1, hi => by
    have := compT_le T i (by omega)
    rw [compT_succ T (by omega)]
    split
    · omega
    · simp; omega
/-- Where no two are alike, nothing is left out. -/
theorem compT_id (T : List Tone) : ∀ i, i ≤ T.length → (∀ j (_ : 0 < j) (_hj : j < i) (hl : j < T.length), T[j - 1]'(by omega) ≠ T[j]) → compT T i = T.take i
  | 0, _, _ => by simp [compT]
  | i + 1, hi, h => by
    rw [compT_succ T (by omega), compT_id T i (by omega) fun j h0 hj hl => h j h0 (by omega) hl, if_neg fun g => h i g.1 (by omega) (by omega) g.2]
    exact List.take_append_getElem (by omega)
theorem Tone.cells_inj {a b : Tone} : a.cells = b.cells ↔ a = b := by
  obtain ⟨a1, a2, a3⟩ := a
  obtain ⟨b1, b2, b3⟩ := b
  simp [Tone.cells]

/-- What stands in place while tones are left out. -/
def midT (T C : List Tone) : List Tone := C ++ T.drop C.length
theorem midT_len (T C : List Tone) (h : C.length ≤ T.length) : (midT T C).length = T.length := by simp [midT]; omega
theorem midT_get (T C : List Tone) {i : Nat} (hi : i < T.length) (h : C.length ≤ i) : (midT T C)[i]'(by rw [midT_len T C (by omega)]; exact hi) = T[i] := by
  unfold midT
  rw [List.getElem_append_right h]
  simp only [List.getElem_drop]
  congr 1
  omega
theorem midT_set (T C : List Tone) (x : Tone) (h : C.length < T.length) : (midT T C).set C.length x = midT T (C ++ [x]) := by
  unfold midT
  rw [List.set_append_right (h := Nat.le_refl _), Nat.sub_self, List.drop_eq_getElem_cons h, List.set_cons_zero]
  simp
theorem midT_rows_set (T C : List Tone) (x : Tone) (h : C.length < T.length) : (Tone.rows (midT T C)).set C.length x.cells = Tone.rows (midT T (C ++ [x])) := by
  rw [← midT_set T C x h]
  unfold Tone.rows
  rw [List.map_set]

/-- Behind two that are alike, one place at least is free. -/
theorem compT_dup (T : List Tone) (k : Nat) (h0 : 0 < k) (hk : k < T.length) (hd : T[k] = T[k - 1]) : ∀ j, k + 1 + j ≤ T.length → (compT T (k + 1 + j)).length ≤ k + j
  | 0, _ => by
    rw [Nat.add_zero, compT_succ T hk, if_pos ⟨h0, hd.symm⟩]
    have := compT_le T k (by omega)
    omega
  | j + 1, hj => by
    have ih := compT_dup T k h0 hk hd j (by omega)
    rw [show k + 1 + (j + 1) = (k + 1 + j) + 1 by omega, compT_succ T (by omega)]
    split
    · omega
    · simp; omega
theorem midT_take (T : List Tone) (k : Nat) (h : k ≤ T.length) : midT T (T.take k) = T := by
  unfold midT
  rw [List.length_take, Nat.min_eq_left h, List.take_append_drop]

set_option maxHeartbeats 8000000 in
theorem c_CompactTone (T : List Tone) (hl : T.length ≤ 1048576) :
    MFn Tryz.prog 25 [.sf 0 3] [some (.arr 3 (Tone.rows T))] [] (.sf 0 3) [some (.arr 3 (Tone.rows (compT T T.length)))] := by
  refine mfn_intro [] hm Tryz.func25 (by kernel_rfl) rfl (by kernel_rfl) rfl (fun _ _ h => h) trivial ?_
  simp [Tone.rows_len]
  refine ⟨fun h2 => ?_, fun h2 => ?_⟩
  · refine Wk.weak (ρ := [0]) (φ := []) ?_
    rw [compT_id T _ (Nat.le_refl _) (fun j _ _ _ => by omega), List.take_length]
    simp
  refine loop_rule hm (ι := {k : Nat // 1 ≤ k ∧ k ≤ T.length ∧ ∀ j (_ : 0 < j) (hj : j < k) (hl : j < T.length), T[j - 1]'(by omega) ≠ T[j]}) (fun k => ⟨[(0, .sf 0 3), (3, .int .i64 k.1)], [some (.arr 3 (Tone.rows T))]⟩) (fun k => T.length - k.1) (by kernel_rfl) ⟨1, by omega, by omega, fun j _ _ _ => by omega⟩ ?_ ?_
  · exact Wk.weak (ρ := [0]) (φ := []) (by simp)
  · rintro ⟨k, k1, k2, k3⟩
    by_cases hk : k < T.length
    · have w1 : IntKind.i64.wrap ((k : Int) - 1) = ((k - 1 : Nat) : Int) := by rw [w64 (by omega) (by omega)]; omega
      have w2 : IntKind.i64.wrap ((k : Int) + 1) = ((k + 1 : Nat) : Int) := by rw [w64 (by omega) (by omega)]; omega
      have hk1 : k - 1 < T.length := by omega
      simp [hk, hk1, w1, Tone.rows_len, Tone.row_get, -Int.natCast_add]
      refine ⟨fun g1 g2 g3 => ?_, ?_⟩
      · have hd : T[k] = T[k - 1] := Tone.eq_iff.2 ⟨g1, g2, g3⟩
        have hsm := compT_dup T k k1 hk hd
        have hck : compT T k = T.take k := compT_id T k (by omega) k3
        refine ⟨k2, ?_⟩
        refine loop_upto hm (T.length - k - 1) (fun j => ⟨[(0, .sf 0 3), (3, .int .i64 (compT T (k + 1 + j)).length), (4, .so 0 3 k (T.length - k)), (5, .int .i64 (j + 1 : Nat))], [some (.arr 3 (Tone.rows (midT T (compT T (k + 1 + j)))))]⟩) (fun _ => True) (by kernel_rfl) ?_ trivial (fun j hj _ => ?_) (fun _ => ?_)
        · refine Wk.weak (ρ := [0]) (φ := []) ?_
          have e1 : compT T (k + 1) = T.take k := by rw [compT_succ T hk, if_pos ⟨k1, hd.symm⟩, hck]
          simp [e1, midT_take T k (by omega), List.length_take, Nat.min_eq_left k2]
        · have hc := hsm j (by omega)
          have hs := compT_succ T (i := k + 1 + j) (by omega)
          generalize compT T (k + 1 + j) = C at hc hs ⊢
          have hml := midT_len T C (by omega)
          have q1 := midT_get T C (i := k + (j + 1)) (by omega) (by omega)
          have q2 := midT_get T C (i := k + j) (by omega) (by omega)
          have hset := midT_rows_set T C (T[k + (j + 1)]'(by omega)) (by omega)
          have w3 : IntKind.i64.wrap (((j + 1 : Nat) : Int) - 1) = (j : Int) := by rw [w64 (by omega) (by omega)]; omega
          have w4 : IntKind.i64.wrap (((j + 1 : Nat) : Int) + 1) = ((j + 1 + 1 : Nat) : Int) := by rw [w64 (by omega) (by omega)]; omega
          have w5 : IntKind.i64.wrap ((C.length : Int) + 1) = ((C.length + 1 : Nat) : Int) := by rw [w64 (by omega) (by omega)]; omega
          have b1 : j + 1 < T.length - k := by omega
          have b2 : k + (j + 1) < (midT T C).length := by omega
          have b3 : k + j < (midT T C).length := by omega
          have b4 : j < T.length - k := by omega
          have b5 : C.length < (midT T C).length := by omega
          have b6 : k + (T.length - k) ≤ (midT T C).length := by omega
          simp (maxSteps := 2000000) [b1, b2, b3, b4, b5, b6, w3, Tone.rows_len, Tone.row_get, q1, q2, -Int.natCast_add]
          have ex : k + 1 + (j + 1) = k + 1 + j + 1 := by omega
          have ey : k + 1 + j = k + (j + 1) := by omega
          have ez : k + 1 + j - 1 = k + j := by omega
          rw [ex, hs]
          simp only [ey] at *
          simp only [show k + (j + 1) - 1 = k + j by omega] at *
          refine ⟨fun g => ?_, fun f1 f2 f3 => ?_⟩
          · have hne : ¬ (0 < k + (j + 1) ∧ T[k + j] = T[k + (j + 1)]) := fun h => by
              rw [h.2] at g
              simp at g
            rw [if_neg hne, ← hset]
            refine Wk.weak (ρ := [0]) (φ := []) ?_
            simp [w4, w5, Tone.cells, -Int.natCast_add]
          · have he : T[k + j] = T[k + (j + 1)] := Tone.eq_iff.2 ⟨f1.symm, f2.symm, f3.symm⟩
            rw [if_pos ⟨by omega, he⟩]
            refine Wk.weak (ρ := [0]) (φ := []) ?_
            simp [w4, -Int.natCast_add]
        · have hc := hsm (T.length - k - 1) (by omega)
          rw [show k + 1 + (T.length - k - 1) = T.length by omega] at hc
          have hml := midT_len T (compT T T.length) (by omega)
          simp (maxSteps := 2000000) [Tone.rows_len, hml, show k + 1 + (T.length - k - 1) = T.length by omega, show ¬ (T.length - k - 1 + 1 < T.length - k) by omega, -Int.natCast_add]
          refine ⟨by omega, by omega, by omega, ?_⟩
          have hlen : (compT T T.length).length ≤ T.length := by omega
          generalize hC : compT T T.length = C at hlen ⊢
          have htk : List.take C.length (Tone.rows (midT T C)) = Tone.rows C := by
            unfold midT Tone.rows
            rw [← List.map_take, List.take_append_of_le_length (Nat.le_refl _), List.take_length]
          rw [htk]
          refine (weak_cut (S := ⟨[(0, .so 0 3 0 C.length)], _⟩) (t := 0) rfl rfl (by simp [Tone.rows_len])).trans (Wk.weak (ρ := [0]) (φ := []) ?_)
          simp [Tone.rows_len]
      · intro g
        refine ⟨k + 1, Wk.weak (ρ := [0]) (φ := []) ?_, ⟨by omega, by omega, fun j j0 j1 j2 => ?_⟩, by omega⟩
        · simp [w2, -Int.natCast_add]
        · by_cases e : j = k
          · subst e
            intro h
            have := Tone.eq_iff.1 h.symm
            exact g this.1 this.2.1 this.2.2
          · exact k3 j j0 (by omega) j2
    · simp [hk, Tone.rows_len]
      have e : k = T.length := by omega
      rw [compT_id T _ (Nat.le_refl _) (fun j h0 hj hl => k3 j h0 (by omega) hl), List.take_length]
      exact Wk.weak (ρ := [0]) (φ := []) (by simp)
end Go.Proofs.YtmdablalfmcgnaaGreat
