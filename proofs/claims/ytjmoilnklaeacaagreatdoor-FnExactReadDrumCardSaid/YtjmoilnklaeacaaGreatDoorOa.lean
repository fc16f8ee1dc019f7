/- Numbers read back from their decimal text: the plain law. No condition. -/
import Derived.Test.YtjmoilnklaeacaaGreatDoorJb
import Derived.Lib.ParseIntB
namespace Go.Proofs.YtjmoilnklaeacaaGreatDoor
open Go Go.Ab
set_option maxRecDepth 100000

def isDig (b : UInt8) : Bool := decide (48 ≤ b.toNat) && decide (b.toNat ≤ 57)
theorem isDig_iff {b : UInt8} : isDig b = true ↔ 48 ≤ b.toNat ∧ b.toNat ≤ 57 := by simp [isDig]
/-- What digits spell, behind acc. -/
def valA (acc : Nat) (l : List UInt8) : Nat := l.foldl (fun a b => a * 10 + (b.toNat - 48)) acc
theorem valA_nil (acc : Nat) : valA acc [] = acc := rfl
theorem valA_cons (acc : Nat) (b : UInt8) (l : List UInt8) : valA acc (b :: l) = valA (acc * 10 + (b.toNat - 48)) l := by unfold valA; rw [List.foldl_cons]
theorem valA_snoc (acc : Nat) (b : UInt8) (l : List UInt8) : valA acc (l ++ [b]) = valA acc l * 10 + (b.toNat - 48) := by
  unfold valA
  rw [List.foldl_append]
  rfl
theorem valA_ge : ∀ (l : List UInt8) (acc : Nat), acc ≤ valA acc l
  | [], acc => Nat.le_refl _
  | b :: l, acc => by
    have := valA_ge l (acc * 10 + (b.toNat - 48))
    rw [valA_cons]
    omega
theorem valA_lt : ∀ (l : List UInt8) (acc : Nat), l.all isDig = true → valA acc l < (acc + 1) * 10 ^ l.length
  | [], acc, _ => by simp [valA_nil]
  | b :: l, acc, h => by
    simp only [List.all_cons, Bool.and_eq_true] at h
    have hb := isDig_iff.1 h.1
    have := valA_lt l (acc * 10 + (b.toNat - 48)) h.2
    rw [valA_cons, List.length_cons, Nat.pow_succ]
    refine Nat.lt_of_lt_of_le this ?_
    rw [Nat.mul_comm (10 ^ l.length) 10, ← Nat.mul_assoc]
    exact Nat.mul_le_mul_right _ (by omega)

theorem parse_ok {M : Nat} (hM : M < 18446744073709551616) : ∀ (l : List UInt8) (acc : Nat), l.all isDig = true → valA acc l ≤ M → Lib.parseUintM M acc l = .ok (valA acc l)
  | [], acc, _, _ => rfl
  | b :: l, acc, h, hv => by
    simp only [List.all_cons, Bool.and_eq_true] at h
    have hb := isDig_iff.1 h.1
    rw [valA_cons] at hv ⊢
    have h1 := valA_ge l (acc * 10 + (b.toNat - 48))
    unfold Lib.parseUintM
    rw [if_pos hb, if_neg (by omega), if_neg (by omega)]
    exact parse_ok hM l _ h.2 hv

theorem dig_of {d : Nat} (h : d < 10) : isDig (UInt8.ofNat (48 + d)) = true ∧ (UInt8.ofNat (48 + d)).toNat = 48 + d := by
  have : (UInt8.ofNat (48 + d)).toNat = 48 + d := by rw [UInt8.toNat_ofNat']; omega
  exact ⟨isDig_iff.2 (by omega), this⟩
theorem of_dig {b : UInt8} (h : isDig b = true) : UInt8.ofNat (48 + (b.toNat - 48)) = b := by
  have := isDig_iff.1 h
  rw [show 48 + (b.toNat - 48) = b.toNat by omega]
  exact UInt8.ofNat_toNat

/-- The digits of a number that is not 0. -/
def dgs (u : Nat) : List UInt8 := (revDig u).reverse
theorem dgs_zero : dgs 0 = [] := by unfold dgs; rw [revDig_zero]; rfl
theorem dgs_pos {u : Nat} (h : u ≠ 0) : dgs u = dgs (u / 10) ++ [UInt8.ofNat (48 + u % 10)] := by
  unfold dgs
  rw [revDig_pos h, List.reverse_cons]
theorem dgs_spec (u : Nat) : (dgs u).all isDig = true ∧ valA 0 (dgs u) = u ∧ (u ≠ 0 → ∃ b r, dgs u = b :: r ∧ b ≠ 48) := by
  induction u using Nat.strongRecOn with
  | _ u ih =>
    by_cases h : u = 0
    · subst h
      rw [dgs_zero]
      exact ⟨rfl, rfl, fun h => absurd rfl h⟩
    · obtain ⟨h1, h2, h3⟩ := ih (u / 10) (by omega)
      obtain ⟨d1, d2⟩ := dig_of (show u % 10 < 10 by omega)
      rw [dgs_pos h]
      refine ⟨by rw [List.all_append, h1, List.all_cons, d1]; rfl, by rw [valA_snoc, h2, d2]; omega, fun _ => ?_⟩
      by_cases h0 : u / 10 = 0
      · rw [h0, dgs_zero]
        refine ⟨_, [], rfl, fun e => ?_⟩
        rw [e] at d2
        have : (48 : UInt8).toNat = 48 := rfl
        omega
      · obtain ⟨b, r, e, hb⟩ := h3 h0
        rw [e]
        exact ⟨b, _, rfl, hb⟩
theorem dgs_of : ∀ (n : Nat) (l : List UInt8), l.length = n → l.all isDig = true → l.head? ≠ some 48 → dgs (valA 0 l) = l
  | 0, l, hn, _, _ => by
    obtain rfl := List.eq_nil_of_length_eq_zero hn
    exact dgs_zero
  | n + 1, l, hn, hd, h0 => by
    obtain ⟨xs, d, rfl⟩ : ∃ xs d, l = xs ++ [d] := ⟨l.dropLast, l.getLast (by intro e; subst e; simp at hn), (List.dropLast_concat_getLast _).symm⟩
    have hx : xs.length = n := by simpa using hn
    simp only [List.all_append, List.all_cons, List.all_nil, Bool.and_true, Bool.and_eq_true] at hd
    have hdd := isDig_iff.1 hd.2
    have hh : xs.head? ≠ some 48 := fun e => h0 (by
      cases xs with
      | nil => cases e
      | cons x r => simpa using e)
    have ih := dgs_of n xs hx hd.1 hh
    rw [valA_snoc]
    by_cases hxs : xs = []
    · subst hxs
      have hne : d.toNat ≠ 48 := fun e => h0 (by
        have : d = 48 := UInt8.toNat_inj.1 (by rw [e]; rfl)
        rw [this]
        rfl)
      rw [valA_nil, dgs_pos (by omega), show (0 * 10 + (d.toNat - 48)) / 10 = 0 by omega, dgs_zero, show (0 * 10 + (d.toNat - 48)) % 10 = d.toNat - 48 by omega, of_dig hd.2]
    · have hv : valA 0 xs ≠ 0 := fun e => hxs (by rw [← ih, e, dgs_zero])
      rw [dgs_pos (by omega), show (valA 0 xs * 10 + (d.toNat - 48)) / 10 = valA 0 xs by omega, ih, show (valA 0 xs * 10 + (d.toNat - 48)) % 10 = d.toNat - 48 by omega, of_dig hd.2]

theorem itoa_of_pos {v : Int} (h : 0 < v) : Lib.itoa v = dgs v.natAbs := itoa_pos h
theorem itoa_of_neg {v : Int} (h : v < 0) : Lib.itoa v = 45 :: dgs v.natAbs := itoa_neg h

/-- The number with a decimal text of at most 18 digits. -/
def numOk (s : List UInt8) : Bool :=
  let k := if s.head? = some 45 then 1 else 0
  decide (k < s.length) && decide (s.length - k ≤ 18) && !(decide (s[k]? = some 48) && decide (1 < s.length)) && (s.drop k).all isDig
def numV (s : List UInt8) : Int := if s.head? = some 45 then -(valA 0 (s.drop 1) : Int) else valA 0 s
def num (s : List UInt8) : Option Int := if numOk s = true then some (numV s) else none

theorem num_itoa {s : List UInt8} {v : Int} : num s = some v ↔ Lib.itoa v = s ∧ v.natAbs < 10 ^ 18 := by
  constructor
  · intro h
    unfold num at h
    split at h
    · rename_i hok
      obtain rfl := Option.some.inj h
      unfold numOk at hok
      unfold numV
      simp only [Bool.and_eq_true, decide_eq_true_eq] at hok
      obtain ⟨⟨⟨h1, h2⟩, h3⟩, h4⟩ := hok
      by_cases hneg : s.head? = some 45
      · simp only [hneg, if_true] at h1 h2 h3 h4 ⊢
        obtain ⟨r, rfl⟩ : ∃ r, s = 45 :: r := by
          cases s with
          | nil => cases hneg
          | cons c r => simp at hneg; exact ⟨r, by rw [hneg]⟩
        simp only [List.drop_succ_cons, List.drop_zero, List.length_cons, List.getElem?_cons_succ] at h1 h2 h3 h4 ⊢
        have hh : r.head? ≠ some 48 := fun e => by
          rw [List.head?_eq_getElem?] at e
          simp only [e, decide_true, Bool.true_and, Bool.not_eq_true', decide_eq_false_iff_not] at h3
          omega
        have hD := dgs_of _ r rfl h4 hh
        have hv0 : valA 0 r ≠ 0 := fun e => by
          rw [e, dgs_zero] at hD
          subst hD
          simp at h1
        have hlt := valA_lt r 0 h4
        have hp : 10 ^ r.length ≤ 10 ^ 18 := Nat.pow_le_pow_right (by omega) (by omega)
        refine ⟨?_, by rw [Int.natAbs_neg, Int.natAbs_natCast]; omega⟩
        rw [itoa_of_neg (by omega), Int.natAbs_neg, Int.natAbs_natCast, hD]
      · simp only [hneg, if_false] at h1 h2 h3 h4 ⊢
        simp only [List.drop_zero, Nat.sub_zero] at h1 h2 h3 h4 ⊢
        have hlt := valA_lt s 0 h4
        have hp : 10 ^ s.length ≤ 10 ^ 18 := Nat.pow_le_pow_right (by omega) (by omega)
        refine ⟨?_, by rw [Int.natAbs_natCast]; omega⟩
        by_cases hz : s = [48]
        · subst hz
          exact itoa_zero
        · have hh : s.head? ≠ some 48 := fun e => by
            rw [List.head?_eq_getElem?] at e
            simp [e] at h3
            have hl : s.length = 1 := by omega
            apply hz
            obtain ⟨c, rfl⟩ := List.length_eq_one_iff.1 hl
            simpa using e
          have hD := dgs_of _ s rfl h4 hh
          have hv0 : valA 0 s ≠ 0 := fun e => by
            rw [e, dgs_zero] at hD
            subst hD
            simp at h1
          rw [itoa_of_pos (by omega), Int.natAbs_natCast, hD]
    · cases h
  · rintro ⟨rfl, hv⟩
    have hlen : (dgs v.natAbs).length ≤ 18 := by
      unfold dgs
      rw [List.length_reverse]
      exact revDig_len20 18 _ hv
    obtain ⟨h1, h2, h3⟩ := dgs_spec v.natAbs
    unfold num
    rcases Int.lt_trichotomy v 0 with h | h | h
    · obtain ⟨b, r, e, hb⟩ := h3 (by omega)
      rw [itoa_of_neg h]
      have hok : numOk (45 :: dgs v.natAbs) = true := by
        unfold numOk
        simp only [List.head?_cons, if_true, List.length_cons, List.getElem?_cons_succ, List.drop_succ_cons, List.drop_zero, h1, Bool.and_true, Bool.and_eq_true, decide_eq_true_eq]
        refine ⟨⟨by rw [e]; simp, by omega⟩, ?_⟩
        rw [e]
        simp [hb]
      rw [if_pos hok]
      unfold numV
      simp only [List.head?_cons, if_true, List.drop_succ_cons, List.drop_zero, h2]
      congr 1
      omega
    · subst h
      rw [itoa_zero]
      rfl
    · obtain ⟨b, r, e, hb⟩ := h3 (by omega)
      rw [itoa_of_pos h]
      have hb45 : b ≠ 45 := fun e' => by
        rw [e, List.all_cons, Bool.and_eq_true] at h1
        have := isDig_iff.1 h1.1
        rw [e'] at this
        have : (45 : UInt8).toNat = 45 := rfl
        omega
      have hhd : (dgs v.natAbs).head? ≠ some 45 := by rw [e]; simpa using hb45
      have hok : numOk (dgs v.natAbs) = true := by
        unfold numOk
        simp only [hhd, if_false, List.drop_zero, Nat.sub_zero, h1, Bool.and_true, Bool.and_eq_true, decide_eq_true_eq]
        refine ⟨⟨by rw [e]; simp, by omega⟩, ?_⟩
        rw [e]
        simp [hb]
      rw [if_pos hok]
      unfold numV
      rw [if_neg hhd, h2]
      congr 1
      omega

/-- What the program's reader of numbers goes by. -/
theorem num_parse (s : List UInt8) (h1 : 1 ≤ (Lib.trimPrefix s [45]).length) (h2 : (Lib.trimPrefix s [45]).length ≤ 18) :
    num s = match Lib.parseIntB 64 s with
      | .ok v => if Lib.itoa v = s then some v else none
      | _ => none := by
  have trim : s.head? = some 45 → Lib.trimPrefix s [45] = s.drop 1 := fun e => by
    cases s with
    | nil => cases e
    | cons c r =>
      simp at e
      subst e
      rfl
  have notrim : s.head? ≠ some 45 → Lib.trimPrefix s [45] = s := fun e => by
    cases s with
    | nil => rfl
    | cons c r =>
      have : ¬ c = 45 := by simpa using e
      unfold Lib.trimPrefix Lib.hasPrefix
      rw [if_neg]
      simp [List.isPrefixOf]
      exact fun h => this h.symm
  cases hn : num s with
  | some v =>
    obtain ⟨e1, e2⟩ := num_itoa.1 hn
    obtain ⟨d1, d2, d3⟩ := dgs_spec v.natAbs
    have hp : Lib.parseIntB 64 s = .ok v := by
      rw [← e1]
      rcases Int.lt_trichotomy v 0 with h | h | h
      · obtain ⟨b, r, e, hb⟩ := d3 (by omega)
        rw [itoa_of_neg h]
        have hu : Lib.parseUintB 64 (dgs v.natAbs) = .ok v.natAbs := by
          unfold Lib.parseUintB
          rw [if_neg (by rw [e]; simp), parse_ok (by decide) _ _ d1 (by rw [d2]; omega), d2]
        unfold Lib.parseIntB
        simp [hu]
        rw [if_neg (by omega)]
        simp
        omega
      · subst h
        rw [itoa_zero]
        decide
      · obtain ⟨b, r, e, hb⟩ := d3 (by omega)
        rw [itoa_of_pos h]
        have hu : Lib.parseUintB 64 (dgs v.natAbs) = .ok v.natAbs := by
          unfold Lib.parseUintB
          rw [if_neg (by rw [e]; simp), parse_ok (by decide) _ _ d1 (by rw [d2]; omega), d2]
        rw [e] at d1 hu ⊢
        rw [List.all_cons, Bool.and_eq_true] at d1
        have hbd := isDig_iff.1 d1.1
        have n1 : ¬ b.toNat = 43 := by omega
        have n2 : ¬ b.toNat = 45 := by omega
        unfold Lib.parseIntB
        simp only [n1, n2, or_self, if_false, hu, not_false_eq_true, true_and, false_and]
        rw [if_neg (by omega)]
        congr 1
        omega
    rw [hp]
    simp [e1]
  | none =>
    cases hp : Lib.parseIntB 64 s with
    | ok v =>
      simp only
      split
      · rename_i e
        exfalso
        have hlt : v.natAbs < 10 ^ 18 := by
          obtain ⟨d1, d2, d3⟩ := dgs_spec v.natAbs
          have := valA_lt (dgs v.natAbs) 0 d1
          rw [d2] at this
          have hl : (dgs v.natAbs).length ≤ 18 := by
            rcases Int.lt_trichotomy v 0 with h | h | h
            · rw [itoa_of_neg h] at e
              have ht := trim (by rw [← e]; rfl)
              rw [ht, ← e] at h2
              simpa using h2
            · subst h
              rw [Int.natAbs_zero, dgs_zero]
              simp
            · rw [itoa_of_pos h] at e
              obtain ⟨b, r, e', hb⟩ := d3 (by omega)
              have hb45 : s.head? ≠ some 45 := by
                rw [← e, e']
                intro q
                simp at q
                rw [e', List.all_cons, Bool.and_eq_true] at d1
                have hh := isDig_iff.1 d1.1
                rw [q] at hh
                have : (45 : UInt8).toNat = 45 := rfl
                omega
              rw [notrim hb45, ← e] at h2
              exact h2
          have hpw : 10 ^ (dgs v.natAbs).length ≤ 10 ^ 18 := Nat.pow_le_pow_right (by omega) hl
          omega
        have := num_itoa.2 ⟨e, hlt⟩
        rw [hn] at this
        cases this
      · rfl
    | «syntax» => rfl
    | range => rfl
/-- A text whose digits are none, or too many, is no number's. -/
theorem num_short {s : List UInt8} (h : (Lib.trimPrefix s [45]).length < 1 ∨ 18 < (Lib.trimPrefix s [45]).length) : num s = none := by
  cases hn : num s with
  | none => rfl
  | some v =>
    exfalso
    unfold num at hn
    split at hn
    · rename_i hok
      unfold numOk at hok
      simp only [Bool.and_eq_true, decide_eq_true_eq] at hok
      obtain ⟨⟨⟨h1, h2⟩, _⟩, _⟩ := hok
      cases s with
      | nil => simp at h1
      | cons c r =>
        by_cases hc : c = 45
        · subst hc
          have : Lib.trimPrefix (45 :: r) [45] = r := rfl
          rw [this] at h
          simp only [List.head?_cons, if_true, List.length_cons] at h1 h2
          omega
        · have hh : ¬ (c :: r).head? = some 45 := by simpa using hc
          have : Lib.trimPrefix (c :: r) [45] = c :: r := by
            unfold Lib.trimPrefix Lib.hasPrefix
            rw [if_neg]
            simp [List.isPrefixOf]
            exact fun h => hc h.symm
          rw [this] at h
          simp only [hh, if_false] at h1 h2
          omega
    · cases hn
end Go.Proofs.YtjmoilnklaeacaaGreatDoor
