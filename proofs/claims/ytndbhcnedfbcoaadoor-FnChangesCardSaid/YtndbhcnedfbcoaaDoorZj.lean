/- Contracts: rows and changes, the reference's side; rows and changes that are drawn. No condition. -/
import Derived.Test.YtndbhcnedfbcoaaDoorZh
import Derived.Test.YtndbhcnedfbcoaaDoorNa
namespace Go.Proofs.YtndbhcnedfbcoaaDoor
open Go Go.Ab
set_option maxRecDepth 100000

/-- The sign of place k + 1. -/
def signB (k : Nat) : UInt8 := signsB.getD k 0
theorem c_l27Sign (k : Nat) (h : k < 12) : HFn Tryd.prog 31 [.int .i64 ((k : Int) + 1)] [] (.int .u8 (signB k).toNat) [] := by
  refine hfn_intro hm Tryd.func31 (by kernel_rfl) rfl (by kernel_rfl) rfl ret0_ok ?_
  have w1 : IntKind.i64.wrap (k : Int) = k := w64 (by omega) (by omega)
  have e : (k : Int) + 1 - 1 = k := by omega
  simp [e, w1]
  exact ⟨by omega, by simp [signB, signsB]⟩
theorem indexB_at {l : List UInt8} {c : UInt8} : ∀ {k : Nat}, (∀ j, j < k → l.getD j 0 ≠ c) → (hk : k < l.length) → l.getD k 0 = c → Lib.indexByte l c = k := by
  induction l with
  | nil => intro k _ hk; cases hk
  | cons b r ih =>
    intro k h1 hk h2
    cases k with
    | zero =>
      have : b = c := by simpa using h2
      unfold Lib.indexByte
      rw [if_pos (by simp [this])]
      rfl
    | succ k =>
      have hb : ¬ b = c := by simpa using h1 0 (by omega)
      have := ih (k := k) (fun j hj => by simpa using h1 (j + 1) (by omega)) (by simpa using hk) (by simpa using h2)
      unfold Lib.indexByte
      rw [if_neg (by simpa using hb), this, if_neg (by first | (simp; done) | (simp; omega))]
      rfl
theorem indexB_no {l : List UInt8} {c : UInt8} (h : ∀ j, j < l.length → l.getD j 0 ≠ c) : Lib.indexByte l c = -1 := by
  induction l with
  | nil => rfl
  | cons b r ih =>
    have hb : ¬ b = c := by simpa using h 0 (by simp)
    have := ih fun j hj => by simpa using h (j + 1) (by simpa using hj)
    unfold Lib.indexByte
    rw [if_neg (by simpa using hb), this]
    rfl
theorem c_l27Value (c : UInt8) : HFn Tryd.prog 45 [.int .u8 c.toNat] [] (.int .i64 (signP c)) [] := by
  refine hfn_intro hm Tryd.func45 (by kernel_rfl) rfl (by kernel_rfl) rfl ret0_ok ?_
  simp
  refine loop_upto hm 12 (fun i => ⟨[(0, .int .u8 c.toNat), (3, .int .i64 ((i : Int) + 1))], []⟩) (fun i => ∀ j, j < i → signB j ≠ c) (by kernel_rfl) ?_ (by simp) (fun i hi hI => ?_) (fun hI => ?_)
  · exact Wk.weak (ρ := []) (φ := []) (by simp)
  · have w1 : IntKind.i64.wrap ((i : Int) + 1 + 1) = (i : Int) + 1 + 1 := w64 (by omega) (by omega)
    have g : (i : Int) + 1 ≤ 12 := by omega
    simp [g]
    refine CallZ.use0 (c_l27Sign i hi) rfl rfl ?_
    simp [w1]
    have ec : (((signB i).toNat : Int) = (c.toNat : Int)) = (signB i = c) := propext ⟨fun h => by
      have : (signB i).toNat = c.toNat := by omega
      exact UInt8.toNat_inj.1 this, fun h => by rw [h]⟩
    refine ⟨fun h => ?_, fun h => ⟨fun j hj => ?_, Wk.weak (ρ := []) (φ := []) (by simp)⟩⟩
    · first | rw [ec] at h | skip
      have hh : signB i = c := by first | exact h | exact UInt8.toNat_inj.1 (by omega)
      unfold signP
      rw [indexB_at (k := i) hI (by simp [signsB]; omega) hh]
    · have hh : ¬ signB i = c := by
        intro e
        first | exact h e | exact h (by rw [e])
      by_cases e : j = i
      · subst e; exact hh
      · exact hI j (by omega)
  · simp
    unfold signP
    rw [indexB_no fun j hj => hI j (by simpa [signsB] using hj)]
    rfl

theorem c_l27Places (s : List UInt8) (n : Nat) (hn : n ≤ 12) (hs : s.length ≤ 1048576) : HFn Tryd.prog 33 [.str s, .int .i64 n] [] (.tup [.sf 0 1, .bool (stayB s n)]) [some (.arr 1 (intRows (stayL s n)))] := by
  refine hfn_intro hm Tryd.func33 (by kernel_rfl) rfl (by kernel_rfl) rfl (fun _ _ h => h) ?_
  simp
  refine ⟨fun h2 => ?_, fun h2 => ?_⟩
  · refine (weak_nilT (t := 0) 0 1 rfl rfl).trans (Wk.weak (ρ := [0]) (φ := []) ?_)
    have w1 : IntKind.i64.wrap (n : Int) = (n : Int) := w64 (by omega) (by omega)
    have e : ((n : Int).tmod 2 = 0) = (n % 2 = 0) := by rw [Int.tmod_eq_emod_of_nonneg (by omega)]; exact propext ⟨fun h => by omega, fun h => by omega⟩
    simp [stayB, stayL, h2, intRows, e]
  · refine loop_upto hm s.length (fun i => ⟨[(0, .str s), (1, .int .i64 n), (6, .sf 0 1), (7, .int .i64 (lastP s i)), (8, .int .i64 i)], [some (.arr 1 (intRows ((s.take i).map signP)))]⟩) (fun i => ∀ j, j < i → placeOk s n j = true) (by kernel_rfl) ?_ (fun _ g => absurd g (by omega)) (fun i hi hI => ?_) (fun hI => ?_)
    · refine (weak_nil (t := 6) (z := 1) rfl).trans (Wk.weak (ρ := [0]) (φ := []) ?_)
      simp [lastP, intRows]
    · have w1 : IntKind.i64.wrap ((i : Int) + 1) = (i : Int) + 1 := w64 (by omega) (by omega)
      have hne : s ≠ [] := fun e => by subst e; simp at hi
      simp [hi]
      refine CallZ.use0 (c_l27Value s[i]) rfl rfl ?_
      have p1 := signP_range s[i]
      have p2 := lastP_range s i
      have w3 : IntKind.i64.wrap (signP s[i] - lastP s i) = signP s[i] - lastP s i := w64 (by omega) (by omega)
      have hP : placeOk s n i = (decide (lastP s i < signP s[i]) && decide (signP s[i] ≤ n) && decide ((signP s[i] - lastP s i) % 2 = 1)) := by simp [placeOk, hi]
      have hN : lastP s (i + 1) = signP s[i] := by simp [lastP, hi]
      have hT : List.take (i + 1) (List.map signP s) = List.take i (List.map signP s) ++ [signP s[i]] := by
        rw [← List.map_take, ← List.map_take, ← List.take_append_getElem hi, List.map_append]
        rfl
      have hbad : placeOk s n i = false → stayB s n = false ∧ stayL s n = [] := fun hf => by
        have hp : placesOk s n = false := by
          cases hq : placesOk s n with
          | false => rfl
          | true => rw [List.all_eq_true.1 hq i (List.mem_range.2 hi)] at hf; cases hf
        simp [stayB, stayL, hne, h2, hp]
      rw [hP] at hbad
      generalize signP s[i] = p at *
      generalize lastP s i = q at *
      simp [w1, w3, intRows_len]
      refine ⟨fun a b => ⟨a, b⟩, fun g => ?_, fun a b c => ⟨by simp [rowsOne], by omega, by omega, upto_succ hI ?_, Wk.weak (ρ := [0]) (φ := []) ?_⟩⟩
      · have hf : (decide (q < p) && decide (p ≤ n) && decide ((p - q) % 2 = 1)) = false := by
          by_cases g1 : q < p
          · rw [Int.tmod_eq_emod_of_nonneg (by omega)] at g
            simp
            omega
          · simp [g1]
        obtain ⟨e1, e2⟩ := hbad hf
        refine (weak_nilT (t := 0) 0 1 rfl rfl).trans (Wk.weak (ρ := [1]) (φ := []) ?_)
        simp [e1, e2, intRows]
      · rw [hP]
        rw [Int.tmod_eq_emod_of_nonneg (by omega)] at c
        simp
        omega
      · simp [hN, hT, intRows]
    · simp
      have p2 := lastP_range s s.length
      have w3 : IntKind.i64.wrap ((n : Int) - lastP s s.length) = (n : Int) - lastP s s.length := w64 (by omega) (by omega)
      have hp : placesOk s n = true := List.all_eq_true.2 fun j hj => hI j (List.mem_range.1 hj)
      refine Wk.weak (ρ := [0]) (φ := []) ?_
      by_cases h : s = []
      · subst h
        simp [stayB, stayL, intRows]
      · have hq : 0 ≤ (n : Int) - lastP s s.length := by
          have := hI (s.length - 1) (by have := List.length_pos_iff.2 h; omega)
          have hl : s.length ≠ 0 := by simpa using h
          simp only [placeOk, Bool.and_eq_true, decide_eq_true_eq] at this
          unfold lastP
          rw [if_neg hl]
          omega
        have hpos : 0 < s.length := List.length_pos_iff.2 h
        rw [w3, Int.tmod_eq_emod_of_nonneg hq]
        simp [stayB, stayL, h, h2, hp, intRows_len, hpos]
theorem c_spec_ValidChange (s : List UInt8) (n : Nat) (hn : n ≤ 12) (hs : s.length ≤ 1048576) : HFn Tryd.prog 17 [.str s, .int .i64 n] [] (.bool (chgOk s n)) [] := by
  refine hfn_intro hm Tryd.func17 (by kernel_rfl) rfl (by kernel_rfl) rfl ret0_ok ?_
  simp
  refine CallZ.use0 (c_l27Stage n) rfl rfl ?_
  have e2 : (n : Int) ≤ 12 := by omega
  simp [e2]
  refine ⟨fun h => ?_, fun h => ?_⟩
  · simp [chgOk]
    try omega
  · refine CallZ.use (c_l27Places s n hn hs) rfl (.inl rfl) rfl rfl ?_
    simp [chgOk, h, e2]
    try omega
end Go.Proofs.YtndbhcnedfbcoaaDoor
