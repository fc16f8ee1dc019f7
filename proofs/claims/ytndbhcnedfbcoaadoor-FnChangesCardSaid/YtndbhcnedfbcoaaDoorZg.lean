/- Contracts: rows and changes, the program's side. No condition. -/
import Derived.Test.YtndbhcnedfbcoaaDoorZf
import Derived.Test.YtndbhcnedfbcoaaDoorFe
import Derived.Test.YtndbhcnedfbcoaaDoorCj
import Derived.Test.YtndbhcnedfbcoaaDoorSu
import Derived.Test.YtndbhcnedfbcoaaDoorAcj
import Derived.Test.YtndbhcnedfbcoaaDoorJa
import Derived.Test.YtndbhcnedfbcoaaDoorDb
namespace Go.Proofs.YtndbhcnedfbcoaaDoor
open Go Go.Ab
set_option maxRecDepth 100000

/-- The row 1, 2, up to n. -/
def roundsL (n : Nat) : List Int := (List.range n).map fun (k : Nat) => (k : Int) + 1
theorem roundsL_succ (n : Nat) : roundsL (n + 1) = roundsL n ++ [(n : Int) + 1] := by simp [roundsL, List.range_succ]
theorem roundsL_len (n : Nat) : (roundsL n).length = n := by simp [roundsL]
theorem c_rounds (n : Nat) (hn : n ≤ 1000) : HFn Tryd.prog 24 [.int .i64 n] [] (.sf 0 1) [some (.arr 1 (intRows (roundsL n)))] := by
  refine hfn_intro hm Tryd.func24 (by kernel_rfl) rfl (by kernel_rfl) rfl (fun _ _ h => h) ?_
  simp
  refine loop_upto hm n (fun i => ⟨[(3, .sf 0 1), (5, .int .i64 n), (6, .int .i64 i)], [some (.arr 1 (intRows (roundsL i)))]⟩) (fun _ => True) (by kernel_rfl) ?_ trivial (fun i hi _ => ?_) (fun _ => ?_)
  · refine (weak_nil (t := 3) (z := 1) rfl).trans (Wk.weak (ρ := [0]) (φ := []) ?_)
    simp [roundsL, intRows]
  · have w1 : IntKind.i64.wrap ((i : Int) + 1) = (i : Int) + 1 := w64 (by omega) (by omega)
    simp [hi, w1, intRows_len, roundsL_len]
    refine ⟨by simp [rowsOne], by omega, by omega, Wk.weak (ρ := [0]) (φ := []) ?_⟩
    simp [roundsL_succ, intRows]
  · simp
    exact Wk.weak (ρ := [0]) (φ := []) (by simp)
theorem c_isStage (n : Int) : HFn Tryd.prog 22 [.int .i64 n] [] (.bool (decide (3 ≤ n) && decide (n ≤ 12))) [] := by
  refine hfn_intro hm Tryd.func22 (by kernel_rfl) rfl (by kernel_rfl) rfl ret0_ok ?_
  simp
  refine CallZ.use0 (c_within n 3 12) rfl rfl ?_
  simp

def signsB : List UInt8 := [49, 50, 51, 52, 53, 54, 55, 56, 57, 48, 69, 84]
theorem c_IndexByte (s : List UInt8) (c : UInt8) : HFn Tryd.prog 38 [.str s, .int .u8 c.toNat] [] (.int .i64 (Lib.indexByte s c)) [] :=
  hfn_of_calls Tryd.func38 (by kernel_rfl) rfl rfl fun A w vs hA hsz hargs => by
    have h0 := hargs 0 _ rfl
    have h1 := hargs 1 _ rfl
    rw [args2 hsz]
    generalize vs.getD 0 undef = v0 at h0 ⊢
    generalize vs.getD 1 undef = v1 at h1 ⊢
    cases h1
    cases h0 with
    | str _ b hb =>
      refine (Tryd.strings_IndexByte b (c.toNat : Int) w).mono fun e w' ⟨he, hw'⟩ => ⟨_, he, ?_, ?_⟩
      · subst hw'; exact .refl _ _
      · rw [hb, show ((c.toNat : Int)).toNat.toUInt8 = c by simp]
        exact .int _ _

/-- The place with a sign, or 0. -/
def signP (b : UInt8) : Int := Lib.indexByte signsB b + 1
theorem indexByte_range (l : List UInt8) (c : UInt8) : -1 ≤ Lib.indexByte l c ∧ Lib.indexByte l c < l.length := by
  induction l with
  | nil => simp [Lib.indexByte]
  | cons x r ih =>
    unfold Lib.indexByte
    split
    · simp
    · split <;> simp at * <;> omega
theorem signP_range (b : UInt8) : 0 ≤ signP b ∧ signP b ≤ 12 := by
  have := indexByte_range signsB b
  simp [signsB] at this
  unfold signP signsB
  omega
/-- The last place in front of the i-th sign. -/
def lastP (s : List UInt8) (i : Nat) : Int := if i = 0 then 0 else signP (s.getD (i - 1) 0)
theorem lastP_range (s : List UInt8) (i : Nat) : 0 ≤ lastP s i ∧ lastP s i ≤ 12 := by
  unfold lastP
  split
  · omega
  · exact signP_range _
def placeOk (s : List UInt8) (n i : Nat) : Bool := decide (lastP s i < signP (s.getD i 0)) && decide (signP (s.getD i 0) ≤ n) && decide ((signP (s.getD i 0) - lastP s i) % 2 = 1)
def placesOk (s : List UInt8) (n : Nat) : Bool := (List.range s.length).all (placeOk s n)
def stayB (s : List UInt8) (n : Nat) : Bool := if s = [] then false else if s = [120] then decide (n % 2 = 0) else placesOk s n && decide (((n : Int) - lastP s s.length) % 2 = 0)
def stayL (s : List UInt8) (n : Nat) : List Int := if s = [] then [] else if s = [120] then [] else if placesOk s n = true then s.map signP else []

theorem c_staying (s : List UInt8) (n : Nat) (hn : n ≤ 12) (hs : s.length ≤ 1048576) : HFn Tryd.prog 21 [.str s, .int .i64 n] [] (.tup [.sf 0 1, .bool (stayB s n)]) [some (.arr 1 (intRows (stayL s n)))] := by
  refine hfn_intro hm Tryd.func21 (by kernel_rfl) rfl (by kernel_rfl) rfl (fun _ _ h => h) ?_
  simp
  refine ⟨fun h => ?_, fun h => ⟨fun h2 => ?_, fun h2 => ?_⟩⟩
  · refine (weak_nilT (t := 0) 0 1 rfl rfl).trans (Wk.weak (ρ := [0]) (φ := []) ?_)
    simp [stayB, stayL, h, intRows]
  · refine loop_upto hm s.length (fun i => ⟨[(1, .int .i64 n), (6, .sf 0 1), (7, .int .i64 (lastP s i)), (16, .sl 1 (bytesV s)), (17, .int .i64 s.length), (18, .int .i64 i)], [some (.arr 1 (intRows ((s.take i).map signP)))]⟩) (fun i => ∀ j, j < i → placeOk s n j = true) (by kernel_rfl) ?_ (fun _ g => absurd g (by omega)) (fun i hi hI => ?_) (fun hI => ?_)
    · refine (weak_nil (t := 6) (z := 1) rfl).trans (Wk.weak (ρ := [0]) (φ := []) ?_)
      simp [lastP, intRows, bytesV_len]
    · have w1 : IntKind.i64.wrap ((i : Int) + 1) = (i : Int) + 1 := w64 (by omega) (by omega)
      simp [hi, bytesV_len, bytesV_getE]
      refine CallZ.use0 (c_IndexByte signsB s[i]) rfl rfl ?_
      have hs1 : Lib.indexByte signsB s[i] = signP s[i] - 1 := by unfold signP; omega
      rw [hs1]
      have p1 := signP_range s[i]
      have p2 := lastP_range s i
      have w2 : IntKind.i64.wrap (signP s[i]) = signP s[i] := w64 (by omega) (by omega)
      have w3 : IntKind.i64.wrap (signP s[i] - lastP s i) = signP s[i] - lastP s i := w64 (by omega) (by omega)
      have hP : placeOk s n i = (decide (lastP s i < signP s[i]) && decide (signP s[i] ≤ n) && decide ((signP s[i] - lastP s i) % 2 = 1)) := by simp [placeOk, hi]
      have hN : lastP s (i + 1) = signP s[i] := by simp [lastP, hi]
      have hT : List.take (i + 1) (List.map signP s) = List.take i (List.map signP s) ++ [signP s[i]] := by
        rw [← List.map_take, ← List.map_take, ← List.take_append_getElem hi, List.map_append]
        rfl
      have hbad : placeOk s n i = false → stayB s n = false ∧ stayL s n = [] := fun hf => by
        have hp : placesOk s n = false := by
          cases hq : placesOk s n with
          | false => rfl
          | true => rw [List.all_eq_true.1 hq i (List.mem_range.2 hi)] at hf; cases hf
        simp [stayB, stayL, h, h2, hp]
      rw [hP] at hbad
      generalize signP s[i] = p at *
      generalize lastP s i = q at *
      simp [w1, w2, w3, intRows_len]
      refine ⟨fun a b => ⟨a, b⟩, fun g => ?_, fun a b c => ⟨by simp [rowsOne], by omega, by omega, upto_succ hI ?_, Wk.weak (ρ := [0]) (φ := []) ?_⟩⟩
      · have hf : (decide (q < p) && decide (p ≤ n) && decide ((p - q) % 2 = 1)) = false := by
          by_cases g1 : q < p
          · rw [Int.tmod_eq_emod_of_nonneg (by omega)] at g
            simp
            omega
          · simp [g1]
        obtain ⟨e1, e2⟩ := hbad hf
        refine (weak_nilT (t := 0) 0 1 rfl rfl).trans (Wk.weak (ρ := [1]) (φ := []) ?_)
        simp [e1, e2, intRows]
      · rw [hP]
        rw [Int.tmod_eq_emod_of_nonneg (by omega)] at c
        simp
        omega
      · simp [hN, hT, intRows]
    · simp
      have p2 := lastP_range s s.length
      have w3 : IntKind.i64.wrap ((n : Int) - lastP s s.length) = (n : Int) - lastP s s.length := w64 (by omega) (by omega)
      have hp : placesOk s n = true := List.all_eq_true.2 fun j hj => hI j (List.mem_range.1 hj)
      refine Wk.weak (ρ := [0]) (φ := []) ?_
      have hq : 0 ≤ (n : Int) - lastP s s.length := by
        have := hI (s.length - 1) (by have := List.length_pos_iff.2 h; omega)
        have hl : s.length ≠ 0 := by simpa using h
        simp only [placeOk, Bool.and_eq_true, decide_eq_true_eq] at this
        unfold lastP
        rw [if_neg hl]
        omega
      rw [w3, Int.tmod_eq_emod_of_nonneg hq]
      simp [stayB, stayL, h, h2, hp]
  · refine (weak_nilT (t := 0) 0 1 rfl rfl).trans (Wk.weak (ρ := [0]) (φ := []) ?_)
    have w1 : IntKind.i64.wrap (n : Int) = (n : Int) := w64 (by omega) (by omega)
    have e : ((n : Int).tmod 2 = 0) = (n % 2 = 0) := by rw [Int.tmod_eq_emod_of_nonneg (by omega)]; exact propext ⟨fun h => by omega, fun h => by omega⟩
    simp [stayB, stayL, h2, intRows, w1, e]

def chgOk (s : List UInt8) (n : Nat) : Bool := stayB s n && (decide (3 ≤ (n : Int)) && decide ((n : Int) ≤ 12))
theorem c_impl_ValidChange (s : List UInt8) (n : Nat) (hn : n ≤ 12) (hs : s.length ≤ 1048576) : HFn Tryd.prog 8 [.str s, .int .i64 n] [] (.bool (chgOk s n)) [] := by
  refine hfn_intro hm Tryd.func8 (by kernel_rfl) rfl (by kernel_rfl) rfl ret0_ok ?_
  simp
  refine CallZ.use (c_staying s n hn hs) rfl (.inl rfl) rfl rfl ?_
  simp
  refine CallY.use (fun _ => ⟨rfl, c_isStage n⟩) rfl rfl ?_
  simp [chgOk]

/-- From index i on, m bells left: no bell is left alone that has to move. -/
def safeL (ps : List Int) : Nat → Nat → Prop
  | _, 0 => True
  | i, 1 => ((i : Int) + 1) ∈ ps
  | i, m + 2 => if ((i : Int) + 1) ∈ ps then safeL ps (i + 1) (m + 1) else safeL ps (i + 2) m
theorem safe_even : ∀ (m i : Nat), safeL [] i (2 * m)
  | 0, _ => trivial
  | m + 1, i => by
    show safeL [] i (2 * m + 2)
    unfold safeL
    rw [if_neg (by simp)]
    exact safe_even m (i + 2)
theorem sign_get {s : List UInt8} {i : Nat} (h : i < s.length) : s.getD i 0 = s[i] := by simp [h]
theorem lastP_succ {s : List UInt8} {i : Nat} (h : i < s.length) : lastP s (i + 1) = signP s[i] := by simp [lastP, h]
theorem place_mono {s : List UInt8} {n : Nat} (h : placesOk s n = true) : ∀ (j i : Nat) (hj : j < s.length), i ≤ j → lastP s i < signP s[j]
  | j, i, hj, hij => by
    have hp := List.all_eq_true.1 h j (List.mem_range.2 hj)
    simp only [placeOk, Bool.and_eq_true, decide_eq_true_eq, sign_get hj] at hp
    by_cases e : i = j
    · subst e; exact hp.1.1
    · match j with
      | 0 => omega
      | j + 1 =>
        have ih := place_mono h j i (by omega) (by omega)
        rw [lastP_succ (by omega)] at hp
        omega
theorem safe_from {s : List UInt8} {n : Nat} (h : placesOk s n = true) (hn : ((n : Int) - lastP s s.length) % 2 = 0) : ∀ (m i k : Nat), i + m = n → k ≤ s.length → lastP s k ≤ i → (∀ hk : k < s.length, (i : Int) < signP s[k]) → ((i : Int) - lastP s k) % 2 = 0 → safeL (s.map signP) i m
  | 0, _, _, _, _, _, _, _ => trivial
  | m + 1, i, k, hm, hk, h1, h2, h3 => by
    have hmem : ((i : Int) + 1) ∈ s.map signP → ∃ hk : k < s.length, signP s[k] = (i : Int) + 1 := fun hi => by
      obtain ⟨b, hb, he⟩ := List.mem_map.1 hi
      obtain ⟨j, hj, rfl⟩ := List.getElem_of_mem hb
      rcases Nat.lt_trichotomy j k with g | g | g
      · exfalso
        have : signP s[j] ≤ lastP s k := by
          have hk0 : k = (k - 1) + 1 := by omega
          rw [hk0, lastP_succ (by omega)]
          by_cases e : j = k - 1
          · subst e; exact Int.le_refl _
          · have := place_mono h (k - 1) (j + 1) (by omega) (by omega)
            rw [lastP_succ hj] at this
            omega
        omega
      · subst g; exact ⟨hj, he⟩
      · exfalso
        have := place_mono h j (k + 1) hj (by omega)
        rw [lastP_succ (by omega)] at this
        have := h2 (by omega)
        omega
    by_cases hi : ((i : Int) + 1) ∈ s.map signP
    · obtain ⟨hk', he⟩ := hmem hi
      cases m with
      | zero => exact hi
      | succ m =>
        unfold safeL
        rw [if_pos hi]
        refine safe_from h hn (m + 1) (i + 1) (k + 1) (by omega) hk' (by rw [lastP_succ hk']; omega) (fun hk2 => ?_) (by rw [lastP_succ hk', he]; omega)
        have := place_mono h (k + 1) (k + 1) hk2 (Nat.le_refl _)
        rw [lastP_succ hk'] at this
        omega
    · have hfar : (∀ hk : k < s.length, (i : Int) + 2 < signP s[k]) ∧ 2 ≤ m + 1 := by
        by_cases hk' : k < s.length
        · have hp := List.all_eq_true.1 h k (List.mem_range.2 hk')
          simp only [placeOk, Bool.and_eq_true, decide_eq_true_eq, sign_get hk'] at hp
          have hne : signP s[k] ≠ (i : Int) + 1 := fun e => hi (e ▸ List.mem_map_of_mem (List.getElem_mem hk'))
          have := h2 hk'
          exact ⟨fun _ => by omega, by omega⟩
        · have : k = s.length := by omega
          subst this
          exact ⟨fun hk => absurd hk hk', by omega⟩
      obtain ⟨g1, g2⟩ := hfar
      obtain ⟨m, rfl⟩ : ∃ m', m = m' + 1 := ⟨m - 1, by omega⟩
      unfold safeL
      rw [if_neg hi]
      exact safe_from h hn m (i + 2) k (by omega) hk (by omega) (fun hk' => by have := g1 hk'; omega) (by omega)
theorem safe_chg {s : List UInt8} {n : Nat} (h : stayB s n = true) : safeL (stayL s n) 0 n := by
  unfold stayB at h
  unfold stayL
  split at h
  · cases h
  · rename_i h0
    rw [if_neg h0]
    split at h
    · rename_i h1
      rw [if_pos h1]
      have e : n = 2 * (n / 2) := by have := of_decide_eq_true h; omega
      rw [e]
      exact safe_even _ 0
    · rename_i h1
      simp only [Bool.and_eq_true, decide_eq_true_eq] at h
      rw [if_neg h1, if_pos h.1]
      refine safe_from h.1 h.2 n 0 0 (by omega) (by omega) (by simp [lastP]) (fun hk => ?_) (by simp [lastP])
      have := place_mono h.1 0 0 hk (Nat.le_refl _)
      simp [lastP] at this
      simpa using this

/-- In the middle of a change: in front of i it is made. -/
def Mid (ps row : List Int) (x : Nat × List Int) : Prop := x.2.length = row.length ∧ x.1 ≤ row.length ∧ x.2.take x.1 ++ appL ps x.1 (x.2.drop x.1) = appL ps 0 row ∧ safeL ps x.1 (row.length - x.1)
theorem mid_end {ps row : List Int} {i : Nat} {out : List Int} (h : Mid ps row (i, out)) (hi : row.length ≤ i) : out = appL ps 0 row := by
  obtain ⟨h1, h2, h3, _⟩ := h
  simp only at h1 h2 h3
  rw [List.drop_of_length_le (by omega), List.take_of_length_le (by omega)] at h3
  simpa [appL] using h3
theorem mid_stay {ps row : List Int} {i : Nat} {out : List Int} (h : Mid ps row (i, out)) (hi : i < row.length) (hm : ((i : Int) + 1) ∈ ps) : Mid ps row (i + 1, out) := by
  obtain ⟨h1, h2, h3, h4⟩ := h
  simp only at h1 h2 h3 h4
  have ho : i < out.length := by omega
  refine ⟨h1, by simp only; omega, ?_, ?_⟩
  · simp only
    rw [← h3, ← List.take_append_getElem ho, List.append_assoc, List.drop_eq_getElem_cons ho]
    congr 1
    cases hd : List.drop (i + 1) out with
    | nil => simp [appL]
    | cons y r => simp [appL, hm]
  · simp only
    obtain ⟨m, hm'⟩ : ∃ m, row.length - i = m + 1 := ⟨row.length - i - 1, by omega⟩
    rw [hm'] at h4
    rw [show row.length - (i + 1) = m by omega]
    cases m with
    | zero => trivial
    | succ m => unfold safeL at h4; rwa [if_pos hm] at h4
theorem mid_swap {ps row : List Int} {i : Nat} {out : List Int} (h : Mid ps row (i, out)) (hi : i < row.length) (hm : ((i : Int) + 1) ∉ ps) : ∃ h2 : i + 1 < out.length, Mid ps row (i + 2, (out.set i out[i + 1]).set (i + 1) (out[i]'(by omega))) := by
  obtain ⟨h1, h2, h3, h4⟩ := h
  simp only at h1 h2 h3 h4
  have ho : i < out.length := by omega
  have h5 : i + 1 < row.length := by
    rcases Nat.lt_or_ge (i + 1) row.length with g | g
    · exact g
    · exfalso
      rw [show row.length - i = 1 by omega] at h4
      exact hm h4
  have ho2 : i + 1 < out.length := by omega
  refine ⟨ho2, by simp [h1], by simp only; omega, ?_, ?_⟩
  · simp only
    rw [← h3, List.drop_eq_getElem_cons ho, List.drop_eq_getElem_cons ho2, appL, if_neg hm]
    have e : (out.set i out[i + 1]).set (i + 1) out[i] = out.take i ++ out[i + 1] :: out[i] :: out.drop (i + 2) := by
      apply List.ext_getElem?
      intro k
      simp only [List.getElem?_set, List.length_set, List.getElem?_append, List.length_take, List.getElem?_take]
      by_cases k1 : k < i
      · rw [if_neg (by omega), if_neg (by omega), if_pos (by omega), if_pos k1]
      · by_cases k2 : k = i
        · subst k2
          rw [if_neg (by omega), if_pos rfl, if_pos ho, if_neg (by omega), Nat.min_eq_left (by omega), Nat.sub_self]
          rfl
        · by_cases k3 : k = i + 1
          · subst k3
            rw [if_pos rfl, if_pos ho2, if_neg (by omega), Nat.min_eq_left (by omega), show i + 1 - i = 1 by omega]
            rfl
          · rw [if_neg (by omega), if_neg (by omega), if_neg (by omega), Nat.min_eq_left (by omega)]
            obtain ⟨d, rfl⟩ : ∃ d, k = i + 2 + d := ⟨k - i - 2, by omega⟩
            rw [show i + 2 + d - i = d + 2 by omega]
            simp
    rw [e]
    have l1 : (out.take i).length = i := by simp; omega
    rw [show i + 2 = (out.take i ++ [out[i + 1], out[i]]).length by simp [l1], show out.take i ++ out[i + 1] :: out[i] :: out.drop ((out.take i ++ [out[i + 1], out[i]]).length) = (out.take i ++ [out[i + 1], out[i]]) ++ out.drop ((out.take i ++ [out[i + 1], out[i]]).length) by simp, List.take_left' rfl, List.drop_left' rfl]
    simp
  · simp only
    obtain ⟨m, hm'⟩ : ∃ m, row.length - i = m + 2 := ⟨row.length - i - 2, by omega⟩
    rw [hm'] at h4
    rw [show row.length - (i + 2) = m by omega]
    unfold safeL at h4
    rwa [if_neg hm] at h4
end Go.Proofs.YtndbhcnedfbcoaaDoor
