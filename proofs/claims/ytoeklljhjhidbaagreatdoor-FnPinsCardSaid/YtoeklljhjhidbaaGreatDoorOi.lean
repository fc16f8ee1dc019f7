/- Numbers read back from their decimal text: the plain law. No condition.; Contracts: numbers read from texts; texts cut into parts. No condition.; Texts cut at a byte, and put together again; lists of numbers read back: the plain law. No condition.; Contracts: texts cut at a byte; lists of numbers and names of notes read back. No condition.; Contracts: orders read back from their texts. No condition.; Texts cut at a byte's first place; drums read back from their texts: plain law. No condition.; Records read back from their texts: plain law and contracts. No condition. -/
import Derived.Lib.ParseIntB
import Derived.Lib.SplitLaws
import Derived.Test.YtoeklljhjhidbaaGreatDoorJc
import Derived.Test.YtoeklljhjhidbaaGreatDoorCe
import Derived.Test.YtoeklljhjhidbaaGreatDoorJg
import Derived.Test.YtoeklljhjhidbaaGreatDoorHg
import Derived.Test.YtoeklljhjhidbaaGreatDoorJi
-- from Od
-- from Oa
namespace Go.Proofs.YtoeklljhjhidbaaGreatDoor
open Go Go.Ab
set_option maxRecDepth 100000

def isDig (b : UInt8) : Bool := decide (48 ≤ b.toNat) && decide (b.toNat ≤ 57)
theorem isDig_iff {b : UInt8} : isDig b = true ↔ 48 ≤ b.toNat ∧ b.toNat ≤ 57 := by simp [isDig]
/-- What digits spell, behind acc. -/
def valA (acc : Nat) (l : List UInt8) : Nat := l.foldl (fun a b => a * 10 + (b.toNat - 48)) acc
theorem valA_nil (acc : Nat) : valA acc [] = acc := rfl
theorem valA_cons (acc : Nat) (b : UInt8) (l : List UInt8) : valA acc (b :: l) = valA (acc * 10 + (b.toNat - 48)) l := by unfold valA; rw [List.foldl_cons]
theorem valA_snoc (acc : Nat) (b : UInt8) (l : List UInt8) : valA acc (l ++ [b]) = valA acc l * 10 + (b.toNat - 48) := by
  unfold valA
  rw [List.foldl_append]
  rfl
theorem valA_ge : ∀ (l : List UInt8) (acc : Nat), acc ≤ valA acc l
  | [], acc => Nat.le_refl _
  | b :: l, acc => by
    have := valA_ge l (acc * 10 + (b.toNat - 48))
    rw [valA_cons]
    omega
theorem valA_lt : ∀ (l : List UInt8) (acc : Nat), l.all isDig = true → valA acc l < (acc + 1) * 10 ^ l.length
  | [], acc, _ => by simp [valA_nil]
  | b :: l, acc, h => by
    simp only [List.all_cons, Bool.and_eq_true] at h
    have hb := isDig_iff.1 h.1
    have := valA_lt l (acc * 10 + (b.toNat - 48)) h.2
    rw [valA_cons, List.length_cons, Nat.pow_succ]
    refine Nat.lt_of_lt_of_le this ?_
    rw [Nat.mul_comm (10 ^ l.length) 10, ← Nat.mul_assoc]
    exact Nat.mul_le_mul_right _ (by omega)

theorem parse_ok {M : Nat} (hM : M < 18446744073709551616) : ∀ (l : List UInt8) (acc : Nat), l.all isDig = true → valA acc l ≤ M → Lib.parseUintM M acc l = .ok (valA acc l)
  | [], acc, _, _ => rfl
  | b :: l, acc, h, hv => by
    simp only [List.all_cons, Bool.and_eq_true] at h
    have hb := isDig_iff.1 h.1
    rw [valA_cons] at hv ⊢
    have h1 := valA_ge l (acc * 10 + (b.toNat - 48))
    unfold Lib.parseUintM
    rw [if_pos hb, if_neg (by omega), if_neg (by omega)]
    exact parse_ok hM l _ h.2 hv

theorem dig_of {d : Nat} (h : d < 10) : isDig (UInt8.ofNat (48 + d)) = true ∧ (UInt8.ofNat (48 + d)).toNat = 48 + d := by
  have : (UInt8.ofNat (48 + d)).toNat = 48 + d := by rw [UInt8.toNat_ofNat']; omega
  exact ⟨isDig_iff.2 (by omega), this⟩
theorem of_dig {b : UInt8} (h : isDig b = true) : UInt8.ofNat (48 + (b.toNat - 48)) = b := by
  have := isDig_iff.1 h
  rw [show 48 + (b.toNat - 48) = b.toNat by omega]
  exact UInt8.ofNat_toNat

/-- The digits of a number that is not 0. -/
def dgs (u : Nat) : List UInt8 := (revDig u).reverse
theorem dgs_zero : dgs 0 = [] := by unfold dgs; rw [revDig_zero]; rfl
theorem dgs_pos {u : Nat} (h : u ≠ 0) : dgs u = dgs (u / 10) ++ [UInt8.ofNat (48 + u % 10)] := by
  unfold dgs
  rw [revDig_pos h, List.reverse_cons]
theorem dgs_spec (u : Nat) : (dgs u).all isDig = true ∧ valA 0 (dgs u) = u ∧ (u ≠ 0 → ∃ b r, dgs u = b :: r ∧ b ≠ 48) := by
  induction u using Nat.strongRecOn with
  | _ u ih =>
    by_cases h : u = 0
    · subst h
      rw [dgs_zero]
      exact ⟨rfl, rfl, fun h => absurd rfl h⟩
    · obtain ⟨h1, h2, h3⟩ := ih (u / 10) (by omega)
      obtain ⟨d1, d2⟩ := dig_of (show u % 10 < 10 by omega)
      rw [dgs_pos h]
      refine ⟨by rw [List.all_append, h1, List.all_cons, d1]; rfl, by rw [valA_snoc, h2, d2]; omega, fun _ => ?_⟩
      by_cases h0 : u / 10 = 0
      · rw [h0, dgs_zero]
        refine ⟨_, [], rfl, fun e => ?_⟩
        rw [e] at d2
        have : (48 : UInt8).toNat = 48 := rfl
        omega
      · obtain ⟨b, r, e, hb⟩ := h3 h0
        rw [e]
        exact ⟨b, _, rfl, hb⟩
theorem dgs_of : ∀ (n : Nat) (l : List UInt8), l.length = n → l.all isDig = true → l.head? ≠ some 48 → dgs (valA 0 l) = l
  | 0, l, hn, _, _ => by
    obtain rfl := List.eq_nil_of_length_eq_zero hn
    exact dgs_zero
  | n + 1, l, hn, hd, h0 => by
    obtain ⟨xs, d, rfl⟩ : ∃ xs d, l = xs ++ [d] := ⟨l.dropLast, l.getLast (by intro e; subst e; simp at hn), (List.dropLast_concat_getLast _).symm⟩
    have hx : xs.length = n := by simpa using hn
    simp only [List.all_append, List.all_cons, List.all_nil, Bool.and_true, Bool.and_eq_true] at hd
    have hdd := isDig_iff.1 hd.2
    have hh : xs.head? ≠ some 48 := fun e => h0 (by
      cases xs with
      | nil => cases e
      | cons x r => simpa using e)
    have ih := dgs_of n xs hx hd.1 hh
    rw [valA_snoc]
    by_cases hxs : xs = []
    · subst hxs
      have hne : d.toNat ≠ 48 := fun e => h0 (by
        have : d = 48 := UInt8.toNat_inj.1 (by rw [e]; rfl)
        rw [this]
        rfl)
      rw [valA_nil, dgs_pos (by omega), show (0 * 10 + (d.toNat - 48)) / 10 = 0 by omega, dgs_zero, show (0 * 10 + (d.toNat - 48)) % 10 = d.toNat - 48 by omega, of_dig hd.2]
    · have hv : valA 0 xs ≠ 0 := fun e => hxs (by rw [← ih, e, dgs_zero])
      rw [dgs_pos (by omega), show (valA 0 xs * 10 + (d.toNat - 48)) / 10 = valA 0 xs by omega, ih, show (valA 0 xs * 10 + (d.toNat - 48)) % 10 = d.toNat - 48 by omega, of_dig hd.2]

theorem itoa_of_pos {v : Int} (h : 0 < v) : Lib.itoa v = dgs v.natAbs := itoa_pos h
theorem itoa_of_neg {v : Int} (h : v < 0) : Lib.itoa v = 45 :: dgs v.natAbs := itoa_neg h

/-- The number with a decimal text of at most 18 digits. -/
def numOk (s : List UInt8) : Bool :=
  let k := if s.head? = some 45 then 1 else 0
  decide (k < s.length) && decide (s.length - k ≤ 18) && !(decide (s[k]? = some 48) && decide (1 < s.length)) && (s.drop k).all isDig
def numV (s : List UInt8) : Int := if s.head? = some 45 then -(valA 0 (s.drop 1) : Int) else valA 0 s
def num (s : List UInt8) : Option Int := if numOk s = true then some (numV s) else none

theorem num_itoa {s : List UInt8} {v : Int} : num s = some v ↔ Lib.itoa v = s ∧ v.natAbs < 10 ^ 18 := by
  constructor
  · intro h
    unfold num at h
    split at h
    · rename_i hok
      obtain rfl := Option.some.inj h
      unfold numOk at hok
      unfold numV
      simp only [Bool.and_eq_true, decide_eq_true_eq] at hok
      obtain ⟨⟨⟨h1, h2⟩, h3⟩, h4⟩ := hok
      by_cases hneg : s.head? = some 45
      · simp only [hneg, if_true] at h1 h2 h3 h4 ⊢
        obtain ⟨r, rfl⟩ : ∃ r, s = 45 :: r := by
          cases s with
          | nil => cases hneg
          | cons c r => simp at hneg; exact ⟨r, by rw [hneg]⟩
        simp only [List.drop_succ_cons, List.drop_zero, List.length_cons, List.getElem?_cons_succ] at h1 h2 h3 h4 ⊢
        have hh : r.head? ≠ some 48 := fun e => by
          rw [List.head?_eq_getElem?] at e
          simp only [e, decide_true, Bool.true_and, Bool.not_eq_true', decide_eq_false_iff_not] at h3
          omega
        have hD := dgs_of _ r rfl h4 hh
        have hv0 : valA 0 r ≠ 0 := fun e => by
          rw [e, dgs_zero] at hD
          subst hD
          simp at h1
        have hlt := valA_lt r 0 h4
        have hp : 10 ^ r.length ≤ 10 ^ 18 := Nat.pow_le_pow_right (by omega) (by omega)
        refine ⟨?_, by rw [Int.natAbs_neg, Int.natAbs_natCast]; omega⟩
        rw [itoa_of_neg (by omega), Int.natAbs_neg, Int.natAbs_natCast, hD]
      · simp only [hneg, if_false] at h1 h2 h3 h4 ⊢
        simp only [List.drop_zero, Nat.sub_zero] at h1 h2 h3 h4 ⊢
        have hlt := valA_lt s 0 h4
        have hp : 10 ^ s.length ≤ 10 ^ 18 := Nat.pow_le_pow_right (by omega) (by omega)
        refine ⟨?_, by rw [Int.natAbs_natCast]; omega⟩
        by_cases hz : s = [48]
        · subst hz
          exact itoa_zero
        · have hh : s.head? ≠ some 48 := fun e => by
            rw [List.head?_eq_getElem?] at e
            simp [e] at h3
            have hl : s.length = 1 := by omega
            apply hz
            obtain ⟨c, rfl⟩ := List.length_eq_one_iff.1 hl
            simpa using e
          have hD := dgs_of _ s rfl h4 hh
          have hv0 : valA 0 s ≠ 0 := fun e => by
            rw [e, dgs_zero] at hD
            subst hD
            simp at h1
          rw [itoa_of_pos (by omega), Int.natAbs_natCast, hD]
    · cases h
  · rintro ⟨rfl, hv⟩
    have hlen : (dgs v.natAbs).length ≤ 18 := by
      unfold dgs
      rw [List.length_reverse]
      exact revDig_len20 18 _ hv
    obtain ⟨h1, h2, h3⟩ := dgs_spec v.natAbs
    unfold num
    rcases Int.lt_trichotomy v 0 with h | h | h
    · obtain ⟨b, r, e, hb⟩ := h3 (by omega)
      rw [itoa_of_neg h]
      have hok : numOk (45 :: dgs v.natAbs) = true := by
        unfold numOk
        simp only [List.head?_cons, if_true, List.length_cons, List.getElem?_cons_succ, List.drop_succ_cons, List.drop_zero, h1, Bool.and_true, Bool.and_eq_true, decide_eq_true_eq]
        refine ⟨⟨by rw [e]; simp, by omega⟩, ?_⟩
        rw [e]
        simp [hb]
      rw [if_pos hok]
      unfold numV
      simp only [List.head?_cons, if_true, List.drop_succ_cons, List.drop_zero, h2]
      congr 1
      omega
    · subst h
      rw [itoa_zero]
      rfl
    · obtain ⟨b, r, e, hb⟩ := h3 (by omega)
      rw [itoa_of_pos h]
      have hb45 : b ≠ 45 := fun e' => by
        rw [e, List.all_cons, Bool.and_eq_true] at h1
        have := isDig_iff.1 h1.1
        rw [e'] at this
        have : (45 : UInt8).toNat = 45 := rfl
        omega
      have hhd : (dgs v.natAbs).head? ≠ some 45 := by rw [e]; simpa using hb45
      have hok : numOk (dgs v.natAbs) = true := by
        unfold numOk
        simp only [hhd, if_false, List.drop_zero, Nat.sub_zero, h1, Bool.and_true, Bool.and_eq_true, decide_eq_true_eq]
        refine ⟨⟨by rw [e]; simp, by omega⟩, ?_⟩
        rw [e]
        simp [hb]
      rw [if_pos hok]
      unfold numV
      rw [if_neg hhd, h2]
      congr 1
      omega

/-- What the program's reader of numbers goes by. -/
theorem num_parse (s : List UInt8) (h1 : 1 ≤ (Lib.trimPrefix s [45]).length) (h2 : (Lib.trimPrefix s [45]).length ≤ 18) :
    num s = match Lib.parseIntB 64 s with
      | .ok v => if Lib.itoa v = s then some v else none
      | _ => none := by
  have trim : s.head? = some 45 → Lib.trimPrefix s [45] = s.drop 1 := fun e => by
    cases s with
    | nil => cases e
    | cons c r =>
      simp at e
      subst e
      rfl
  have notrim : s.head? ≠ some 45 → Lib.trimPrefix s [45] = s := fun e => by
    cases s with
    | nil => rfl
    | cons c r =>
      have : ¬ c = 45 := by simpa using e
      unfold Lib.trimPrefix Lib.hasPrefix
      rw [if_neg]
      simp [List.isPrefixOf]
      exact fun h => this h.symm
  cases hn : num s with
  | some v =>
    obtain ⟨e1, e2⟩ := num_itoa.1 hn
    obtain ⟨d1, d2, d3⟩ := dgs_spec v.natAbs
    have hp : Lib.parseIntB 64 s = .ok v := by
      rw [← e1]
      rcases Int.lt_trichotomy v 0 with h | h | h
      · obtain ⟨b, r, e, hb⟩ := d3 (by omega)
        rw [itoa_of_neg h]
        have hu : Lib.parseUintB 64 (dgs v.natAbs) = .ok v.natAbs := by
          unfold Lib.parseUintB
          rw [if_neg (by rw [e]; simp), parse_ok (by decide) _ _ d1 (by rw [d2]; omega), d2]
        unfold Lib.parseIntB
        simp [hu]
        rw [if_neg (by omega)]
        simp
        omega
      · subst h
        rw [itoa_zero]
        decide
      · obtain ⟨b, r, e, hb⟩ := d3 (by omega)
        rw [itoa_of_pos h]
        have hu : Lib.parseUintB 64 (dgs v.natAbs) = .ok v.natAbs := by
          unfold Lib.parseUintB
          rw [if_neg (by rw [e]; simp), parse_ok (by decide) _ _ d1 (by rw [d2]; omega), d2]
        rw [e] at d1 hu ⊢
        rw [List.all_cons, Bool.and_eq_true] at d1
        have hbd := isDig_iff.1 d1.1
        have n1 : ¬ b.toNat = 43 := by omega
        have n2 : ¬ b.toNat = 45 := by omega
        unfold Lib.parseIntB
        simp only [n1, n2, or_self, if_false, hu, not_false_eq_true, true_and, false_and]
        rw [if_neg (by omega)]
        congr 1
        omega
    rw [hp]
    simp [e1]
  | none =>
    cases hp : Lib.parseIntB 64 s with
    | ok v =>
      simp only
      split
      · rename_i e
        exfalso
        have hlt : v.natAbs < 10 ^ 18 := by
          obtain ⟨d1, d2, d3⟩ := dgs_spec v.natAbs
          have := valA_lt (dgs v.natAbs) 0 d1
          rw [d2] at this
          have hl : (dgs v.natAbs).length ≤ 18 := by
            rcases Int.lt_trichotomy v 0 with h | h | h
            · rw [itoa_of_neg h] at e
              have ht := trim (by rw [← e]; rfl)
              rw [ht, ← e] at h2
              simpa using h2
            · subst h
              rw [Int.natAbs_zero, dgs_zero]
              simp
            · rw [itoa_of_pos h] at e
              obtain ⟨b, r, e', hb⟩ := d3 (by omega)
              have hb45 : s.head? ≠ some 45 := by
                rw [← e, e']
                intro q
                simp at q
                rw [e', List.all_cons, Bool.and_eq_true] at d1
                have hh := isDig_iff.1 d1.1
                rw [q] at hh
                have : (45 : UInt8).toNat = 45 := rfl
                omega
              rw [notrim hb45, ← e] at h2
              exact h2
          have hpw : 10 ^ (dgs v.natAbs).length ≤ 10 ^ 18 := Nat.pow_le_pow_right (by omega) hl
          omega
        have := num_itoa.2 ⟨e, hlt⟩
        rw [hn] at this
        cases this
      · rfl
    | «syntax» => rfl
    | range => rfl
/-- A text whose digits are none, or too many, is no number's. -/
theorem num_short {s : List UInt8} (h : (Lib.trimPrefix s [45]).length < 1 ∨ 18 < (Lib.trimPrefix s [45]).length) : num s = none := by
  cases hn : num s with
  | none => rfl
  | some v =>
    exfalso
    unfold num at hn
    split at hn
    · rename_i hok
      unfold numOk at hok
      simp only [Bool.and_eq_true, decide_eq_true_eq] at hok
      obtain ⟨⟨⟨h1, h2⟩, _⟩, _⟩ := hok
      cases s with
      | nil => simp at h1
      | cons c r =>
        by_cases hc : c = 45
        · subst hc
          have : Lib.trimPrefix (45 :: r) [45] = r := rfl
          rw [this] at h
          simp only [List.head?_cons, if_true, List.length_cons] at h1 h2
          omega
        · have hh : ¬ (c :: r).head? = some 45 := by simpa using hc
          have : Lib.trimPrefix (c :: r) [45] = c :: r := by
            unfold Lib.trimPrefix Lib.hasPrefix
            rw [if_neg]
            simp [List.isPrefixOf]
            exact fun h => hc h.symm
          rw [this] at h
          simp only [hh, if_false] at h1 h2
          omega
    · cases hn
end Go.Proofs.YtoeklljhjhidbaaGreatDoor
-- from Ob
namespace Go.Proofs.YtoeklljhjhidbaaGreatDoor
open Go Go.Ab
set_option maxRecDepth 100000

theorem args1 {vs : Array Value} (h : vs.size = 1) : vs = #[vs.getD 0 undef] := by
  apply Array.ext
  · simp [h]
  · intro i h1 h2
    have : i = 0 := by omega
    subst this
    simp [Array.getD_eq_getD_getElem?, h]
theorem args3 {vs : Array Value} (h : vs.size = 3) : vs = #[vs.getD 0 undef, vs.getD 1 undef, vs.getD 2 undef] := by
  apply Array.ext
  · simp [h]
  · intro i h1 h2
    have : i = 0 ∨ i = 1 ∨ i = 2 := by omega
    rcases this with rfl | rfl | rfl <;> simp [Array.getD_eq_getD_getElem?, h]
theorem aokCell {A : Nat → Prop} {w : World} (h : AOk A w) {g c : Nat} (hm : (g, c) ∈ shps) : ∃ v, w.cell? ⟨g, 0, none⟩ = some v ∧ (c = 0 → ∃ m, v = .int .i64 m) ∧ (c = 1 → ∃ t p, v = .iface t p) := by
  obtain ⟨_, us, e, fz, v, h1, h2, h3⟩ := h.shp g c hm
  exact ⟨v, by simp [World.cell?, h1, h2], h3⟩
theorem moved_bytes [Go.Ab.Drwn] (w : World) (e : TypeId) (s : ByteArray) : Moved (fun _ => False) w (Lib.bytesWorld w e s) :=
  ⟨rfl, rfl, rfl, by rw [Lib.bytesWorld_size]; omega, fun j hj _ => Lib.bytesWorld_at_old w e s j hj, fun _ => by unfold Lib.bytesWorld; first | exact Nat.le_refl _ | exact Nat.le_succ _ | (simp [World.drew, World.alloc]; done)⟩

theorem c_TrimPrefix [Go.Ab.Drwn] (s p : List UInt8) : HFn Tryz.prog 62 [.str s, .str p] [] (.str (Lib.trimPrefix s p)) [] :=
  hfn_of_calls Tryz.func62 (by kernel_rfl) rfl rfl fun A w vs hA hsz hargs => by
    have h0 := hargs 0 _ rfl
    have h1 := hargs 1 _ rfl
    rw [args2 hsz]
    generalize vs.getD 0 undef = v0 at h0 ⊢
    generalize vs.getD 1 undef = v1 at h1 ⊢
    cases h0 with
    | str _ b hb =>
    cases h1 with
    | str _ c hc =>
    refine (Tryz.strings_TrimPrefix b c w).mono fun e w' ⟨he, hw⟩ => ⟨_, he, ?_, .str _ _ (by simp [hb, hc])⟩
    subst hw
    exact .refl _ _

/-- What ParseInt hands back. -/
def parseR (s : List UInt8) : PV := match Lib.parseIntB 64 s with
  | .ok v => .tup [.int .i64 v, .err false]
  | .syntax => .tup [.int .i64 0, .err true]
  | .range => .tup [.int .i64 (Lib.intSat 64 s), .err true]
theorem repTup {A : Nat → Prop} {w : World} {p q : PV} {u v : Value} (h1 : RepI A w p u) (h2 : RepI A w q v) : RepI A w (.tup [p, q]) (.tuple #[u, v]) := .tup _ _ rfl fun i c hc => by
  cases i with
  | zero => cases hc; exact h1
  | succ i => cases i with
    | zero => cases hc; exact h2
    | succ i => simp at hc
theorem c_ParseInt [Go.Ab.Drwn] [Go.Ab.DrwOff] (s : List UInt8) (hs : s.length ≤ 281474976710656) : HFn Tryz.prog 63 [.str s, .int .i64 10, .int .i64 64] [] (parseR s) [] :=
  hfn_of_calls Tryz.func63 (by kernel_rfl) rfl rfl fun A w vs hA hsz hargs => by
    have h0 := hargs 0 _ rfl
    have h1 := hargs 1 _ rfl
    have h2 := hargs 2 _ rfl
    rw [args3 hsz]
    generalize vs.getD 0 undef = v0 at h0 ⊢
    generalize vs.getD 1 undef = v1 at h1 ⊢
    generalize vs.getD 2 undef = v2 at h2 ⊢
    cases h1
    cases h2
    cases h0 with
    | str _ b hb =>
    subst hb
    have hsz : b.size = b.data.toList.length := by simp
    unfold parseR
    cases hp : Lib.parseIntB 64 b.data.toList with
    | ok v =>
      refine (Tryz.strconv_ParseInt_10_at64_ok b (by omega) v hp w).mono fun e w' ⟨he, hw⟩ => ⟨_, he, ?_, repTup (.int _ _) .errF⟩
      rcases hw with rfl | ⟨t, rfl⟩
      · exact .refl _ _
      · exact moved_bytes _ _ _
    | «syntax» =>
      obtain ⟨v, hv, _, h3⟩ := aokCell hA (g := 2) (c := 1) (by simp [shps])
      obtain ⟨t, p, rfl⟩ := h3 rfl
      refine (Tryz.strconv_ParseInt_10_at64_syntax b (by omega) hp _ w hv (.inr ⟨_, _, rfl⟩)).mono fun e w' ⟨N, he, _, _, hw⟩ => ⟨_, he, moved_below hw drw_off, repTup (.int _ _) (.errT _ _)⟩
    | range =>
      obtain ⟨v, hv, _, h3⟩ := aokCell hA (g := 3) (c := 1) (by simp [shps])
      obtain ⟨t, p, rfl⟩ := h3 rfl
      refine (Tryz.strconv_ParseInt_10_at64_range b (by omega) hp _ w hv (.inr ⟨_, _, rfl⟩)).mono fun e w' ⟨N, he, _, _, hw⟩ => ⟨_, he, moved_below hw drw_off, repTup (.int _ _) (.errT _ _)⟩

/-- What the readers of a number hand back. -/
@[simp] def numR (s : List UInt8) : PV := .tup [.int .i64 ((num s).getD 0), .bool (num s).isSome]
theorem num_I64 {s : List UInt8} {v : Int} (h : num s = some v) : I64 v := by
  have := (num_itoa.1 h).2
  unfold I64
  omega
theorem parse_I64 {s : List UInt8} {v : Int} (h : Lib.parseIntB 64 s = .ok v) : I64 v := by
  cases s with
  | nil => cases h
  | cons c r =>
    unfold Lib.parseIntB at h
    simp only at h
    cases hu : Lib.parseUintB 64 (if c.toNat = 43 ∨ c.toNat = 45 then r else c :: r) with
    | «syntax» => rw [hu] at h; cases h
    | range => rw [hu] at h; cases h
    | ok u =>
      rw [hu] at h
      simp only at h
      split at h
      · cases h
      · split at h
        · cases h
        · rename_i h1 h2
          have := Lib.NumEnd.ok.inj h
          unfold I64
          by_cases hc : c.toNat = 45
          · simp only [hc, not_true, false_and, true_and, if_true] at h1 h2 this
            omega
          · simp only [hc, not_false_eq_true, false_and, true_and, if_false] at h1 h2 this
            omega

theorem c_ReadDecimal [Go.Ab.Drwn] [Go.Ab.DrwOff] (s : List UInt8) (hs : s.length ≤ 9223372036854775807) : HFn Tryz.prog 29 [.str s] [] (numR s) [] := by
  refine hfn_intro hm Tryz.func29 (by kernel_rfl) rfl (by kernel_rfl) rfl ret0_ok ?_
  simp
  refine CallZ.use0 (c_TrimPrefix s [45]) rfl rfl ?_
  simp
  have hl : s.length ≤ (Lib.trimPrefix s [45]).length + 1 := by
    unfold Lib.trimPrefix
    split
    · rw [List.length_drop]
      simp only [List.length_cons, List.length_nil]
      omega
    · omega
  refine ⟨fun h => ?_, fun h1 h2 => ?_⟩
  · have hn := num_short (s := s) (by omega)
    simp [hn]
  · have hn := num_parse s (by omega) (by omega)
    have hP := c_ParseInt s (by omega)
    unfold parseR at hP
    cases hp : Lib.parseIntB 64 s with
    | ok v =>
      rw [hp] at hn hP
      simp only at hn hP
      have hv := parse_I64 hp
      refine CallZ.use0 hP rfl rfl ?_
      simp
      refine ⟨by kernel_rfl, CallY.use (fun _ => ⟨rfl, c_Decimal v hv⟩) rfl rfl ?_⟩
      simp
      refine ⟨fun h => ?_, fun h => ?_⟩
      · rw [if_neg h] at hn
        simp [hn]
      · rw [if_pos h] at hn
        simp [hn]
    | «syntax» =>
      rw [hp] at hn hP
      simp only at hn hP
      refine CallZ.use0 hP rfl rfl ?_
      simp
      refine ⟨by kernel_rfl, CallY.use (res := .str []) (fun h => by cases h) rfl rfl ?_⟩
      simp [hn]
    | range =>
      rw [hp] at hn hP
      simp only at hn hP
      refine CallZ.use0 hP rfl rfl ?_
      simp
      refine ⟨by kernel_rfl, CallY.use (res := .str []) (fun h => by cases h) rfl rfl ?_⟩
      simp [hn]

theorem dig_eq (b : UInt8) : isDigit b = isDig b := by
  unfold isDigit isDig
  congr 1 <;> exact decide_eq_decide.2 (by omega)
theorem num_neg (r : List UInt8) : num (45 :: r) = if 1 ≤ r.length ∧ r.length ≤ 18 ∧ ¬ r[0]? = some 48 ∧ r.all isDig = true then some (-(valA 0 r : Int)) else none := by
  unfold num
  have hV : numV (45 :: r) = -(valA 0 r : Int) := by simp [numV]
  rw [hV]
  refine ite_congr (propext ?_) (fun _ => rfl) (fun _ => rfl)
  unfold numOk
  simp only [List.head?_cons, if_true, List.length_cons, List.getElem?_cons_succ, List.drop_succ_cons, List.drop_zero, Bool.and_eq_true, decide_eq_true_eq, Bool.not_eq_true', Bool.and_eq_false_imp, decide_eq_false_iff_not]
  constructor
  · rintro ⟨⟨⟨h1, h2⟩, h3⟩, h4⟩
    exact ⟨by omega, by omega, fun e => h3 e (by omega), h4⟩
  · rintro ⟨h1, h2, h3, h4⟩
    exact ⟨⟨⟨by omega, by omega⟩, fun e => absurd e h3⟩, h4⟩
theorem num_pos {c : UInt8} (r : List UInt8) (hc : ¬ c = 45) : num (c :: r) = if r.length + 1 ≤ 18 ∧ ¬ (c = 48 ∧ 1 ≤ r.length) ∧ (c :: r).all isDig = true then some (valA 0 (c :: r) : Int) else none := by
  have hh : ¬ (c :: r).head? = some 45 := by simpa using hc
  unfold num
  have hV : numV (c :: r) = (valA 0 (c :: r) : Int) := by simp [numV, hc]
  rw [hV]
  refine ite_congr (propext ?_) (fun _ => rfl) (fun _ => rfl)
  unfold numOk
  simp only [hh, if_false, List.length_cons, List.getElem?_cons_zero, Option.some.injEq, List.drop_zero, Nat.sub_zero, Bool.and_eq_true, decide_eq_true_eq, Bool.not_eq_true', Bool.and_eq_false_imp, decide_eq_false_iff_not]
  constructor
  · rintro ⟨⟨⟨h1, h2⟩, h3⟩, h4⟩
    exact ⟨by omega, fun ⟨e, h⟩ => h3 e (by omega), h4⟩
  · rintro ⟨h1, h3, h4⟩
    exact ⟨⟨⟨by omega, by omega⟩, fun e h => h3 ⟨e, by omega⟩⟩, h4⟩
theorem u8_eq {b : UInt8} {n : Nat} (hn : n < 256) : ((b.toNat : Int) = n) ↔ b = UInt8.ofNat n := by
  constructor
  · intro h
    have : b.toNat = n := by omega
    rw [← this]
    exact UInt8.ofNat_toNat.symm
  · rintro rfl
    rw [UInt8.toNat_ofNat', Nat.mod_eq_of_lt hn]
theorem valA_lt18 (l : List UInt8) {k : Nat} (hk : l.length ≤ k) (h : l.all isDig = true) : valA 0 l < 10 ^ k := by
  have := valA_lt l 0 h
  have h2 : 10 ^ l.length ≤ 10 ^ k := Nat.pow_le_pow_right (by omega) hk
  omega
end Go.Proofs.YtoeklljhjhidbaaGreatDoor
-- from Oc
namespace Go.Proofs.YtoeklljhjhidbaaGreatDoor
open Go Go.Ab
set_option maxRecDepth 100000

/-- The parts of a text between the bytes c. -/
def spl (c : UInt8) : List UInt8 → List (List UInt8)
  | [] => [[]]
  | b :: r => if b = c then [] :: spl c r else match spl c r with
    | x :: t => (b :: x) :: t
    | [] => [[b]]
theorem spl_cons (c b : UInt8) (r : List UInt8) : spl c (b :: r) = if b = c then [] :: spl c r else match spl c r with
    | x :: t => (b :: x) :: t
    | [] => [[b]] := rfl
theorem spl_ne (c : UInt8) (s : List UInt8) : spl c s ≠ [] := by
  cases s with
  | nil => simp [spl]
  | cons b r =>
    unfold spl
    split
    · simp
    · split <;> simp
theorem spl_len (c : UInt8) : ∀ s : List UInt8, (spl c s).length ≤ s.length + 1
  | [] => by simp [spl]
  | b :: r => by
    have ih := spl_len c r
    unfold spl
    split
    · simp; omega
    · split
      · rename_i x t e
        rw [e] at ih
        simp at ih ⊢
        omega
      · simp
theorem spl_piece (c : UInt8) : ∀ s : List UInt8, ∀ x ∈ spl c s, x.length ≤ s.length
  | [], x, hx => by simp [spl] at hx; simp [hx]
  | b :: r, x, hx => by
    have ih := spl_piece c r
    unfold spl at hx
    split at hx
    · rcases List.mem_cons.1 hx with rfl | hx
      · simp
      · have := ih x hx; simp; omega
    · split at hx
      · rename_i y t e
        rw [e] at ih
        rcases List.mem_cons.1 hx with rfl | hx
        · have := ih y (by simp); simp; omega
        · have := ih x (by simp [hx]); simp; omega
      · simp at hx; subst hx; simp
theorem spl_free {c : UInt8} : ∀ {x : List UInt8}, c ∉ x → ∀ r, spl c (x ++ c :: r) = x :: spl c r
  | [], _, r => by simp [spl]
  | b :: x, h, r => by
    have hb : ¬ b = c := fun e => h (by simp [e])
    have hx : c ∉ x := fun e => h (by simp [e])
    rw [List.cons_append, spl_cons, if_neg hb, spl_free hx r]
theorem spl_none {c : UInt8} : ∀ {x : List UInt8}, c ∉ x → spl c x = [x]
  | [], _ => rfl
  | b :: x, h => by
    have hb : ¬ b = c := fun e => h (by simp [e])
    have hx : c ∉ x := fun e => h (by simp [e])
    rw [spl_cons, if_neg hb, spl_none hx]
theorem join_two (x y : List UInt8) (t : List (List UInt8)) (sep : List UInt8) : Lib.join (x :: y :: t) sep = x ++ sep ++ Lib.join (y :: t) sep := by
  rw [Lib.join_cons, Lib.join_cons]
  simp [Lib.joinTail]
theorem join_one (x sep : List UInt8) : Lib.join [x] sep = x := Lib.join_one x sep
theorem spl_join {c : UInt8} : ∀ {xs : List (List UInt8)}, xs ≠ [] → (∀ x ∈ xs, c ∉ x) → spl c (Lib.join xs [c]) = xs
  | [x], _, h => by rw [join_one, spl_none (h x (by simp))]
  | x :: y :: t, _, h => by
    rw [join_two, List.append_assoc, List.singleton_append, spl_free (h x (by simp)), spl_join (by simp) fun z hz => h z (by simp [hz])]
theorem join_spl (c : UInt8) : ∀ s : List UInt8, Lib.join (spl c s) [c] = s
  | [] => join_one _ _
  | b :: r => by
    have ih := join_spl c r
    unfold spl
    split
    · rename_i e
      subst e
      cases hs : spl b r with
      | nil => exact absurd hs (spl_ne _ _)
      | cons y t => rw [join_two, ← hs, ih]; rfl
    · split
      · rename_i x t e
        rw [e] at ih
        cases t with
        | nil => rw [join_one] at ih ⊢; rw [ih]
        | cons y t => rw [join_two] at ih ⊢; rw [← ih]; simp
      · rename_i e
        exact absurd e (spl_ne _ _)

/-- The library's parts are these. -/
theorem index_one_eq (c : UInt8) (l : List UInt8) : Lib.index (c :: l) [c] = 0 := by
  unfold Lib.index
  rw [if_pos (by simp)]
theorem index_one_ne {b c : UInt8} (h : ¬ b = c) (l : List UInt8) : Lib.index (b :: l) [c] = if Lib.index l [c] == -1 then -1 else Lib.index l [c] + 1 := by
  rw [Lib.index]
  rw [if_neg]
  simp
  exact fun e => h e.symm
theorem split_spl (c : UInt8) : ∀ s : List UInt8, Lib.splitK [c] 0 (Lib.count s [c]) s = spl c s
  | [] => by
    have : Lib.count [] [c] = 0 := by rw [Lib.count_one]; rfl
    rw [this]
    rfl
  | b :: l => by
    have ih := split_spl c l
    unfold spl
    by_cases h : b = c
    · subst h
      rw [if_pos rfl, Lib.count_cons_eq, Nat.add_comm]
      unfold Lib.splitK
      rw [index_one_eq, if_neg (by decide)]
      simp [ih]
    · rw [if_neg h, Lib.count_cons_ne b c l h, ← ih]
      cases hk : Lib.count l [c] with
      | zero => rfl
      | succ k =>
        unfold Lib.splitK
        rw [index_one_ne h]
        have hge := Lib.index_ge l [c]
        by_cases hi : Lib.index l [c] = -1
        · simp [hi]
        · have h1 : (Lib.index l [c] == -1) = false := by simpa using hi
          have h2 : (Lib.index l [c] + 1 == -1) = false := by simp; omega
          have h3 : (Lib.index l [c] + 1).toNat = (Lib.index l [c]).toNat + 1 := by omega
          simp [h1, h2, h3]
end Go.Proofs.YtoeklljhjhidbaaGreatDoor
-- from Od
namespace Go.Proofs.YtoeklljhjhidbaaGreatDoor
open Go Go.Ab
set_option maxRecDepth 100000

theorem c_Split [Go.Ab.Drwn] (s : List UInt8) (c : UInt8) (hs : s.length < 4294967281) : HFn Tryz.prog 28 [.str s, .str [c]] [] (.sf 0 1) [some (.arr 1 (strRows (spl c s)))] :=
  hfn_of_calls_new Tryz.func28 (by kernel_rfl) rfl rfl (fun i r hr => by
      unfold strRows at hr
      rw [List.getElem?_map] at hr
      cases hx : (spl c s)[i]? with
      | none => rw [hx] at hr; cases hr
      | some x => rw [hx] at hr; cases hr; rfl) fun A w vs hA hsz hargs => by
    have h0 := hargs 0 _ rfl
    have h1 := hargs 1 _ rfl
    rw [args2 hsz]
    generalize vs.getD 0 undef = v0 at h0 ⊢
    generalize vs.getD 1 undef = v1 at h1 ⊢
    cases h0 with
    | str _ b hb =>
    cases h1 with
    | str _ e he =>
    obtain ⟨v, hv, h3, _⟩ := aokCell hA (g := 0) (c := 0) (by simp [shps])
    obtain ⟨m, rfl⟩ := h3 rfl
    have e1 : b.size = b.data.toList.length := by simp
    have e2 : e.size = 1 := by
      have : e.size = e.data.toList.length := by simp
      rw [this, he]
      rfl
    have hcount : Lib.countB b e = Lib.count s [c] := by unfold Lib.countB; rw [hb, he]
    have hdata := Lib.splitB_data e 0 (Lib.countB b e) b
    rw [hb, he, hcount, split_spl] at hdata
    rw [← hcount] at hdata
    have hlen := Lib.splitB_all e (by omega) 0 (Lib.countB b e) b rfl
    have hrl : (strRows (spl c s)).length = Lib.countB b e + 1 := by rw [strRows_len, ← hdata, List.length_map, hlen]
    refine (Tryz.strings_Split b e m w (by rw [e1, hb]; exact hs) hv (by omega)).mono fun q w' ⟨hq, hw⟩ => ?_
    subst hw
    refine ⟨w.heap.size, Lib.countB b e + 1, _, _, by rw [hq, hrl], moved_alloc _ _, Nat.le_refl _, heap_alloc_at, by simp [hlen], by rw [hrl]; exact Nat.le_refl _, ?_, fun i j r x hr hx => ?_⟩
    · have h9 := spl_len c s
      rw [strRows_len] at hrl
      have hmax : maxLen = 9223372036854775807 := rfl
      omega
    · have hi := (List.getElem?_eq_some_iff.1 hr).1
      rw [hrl] at hi
      unfold strRows at hr
      rw [List.getElem?_map, ← hdata, List.getElem?_map, List.getElem?_eq_getElem (by omega)] at hr
      obtain rfl := Option.some.inj hr
      cases j with
      | zero =>
        obtain rfl := Option.some.inj hx
        refine ⟨_, ?_, .str _ _ rfl⟩
        rw [Nat.mul_one, Nat.add_zero, List.getElem?_toArray, List.getElem?_map, List.getElem?_eq_getElem (by omega)]
        rfl
      | succ j => cases hx

/-- How far the reference has come behind i bytes: the parts that are whole; where the next one begins. -/
def spSt (c : UInt8) (s : List UInt8) : Nat → List (List UInt8) × Nat
  | 0 => ([], 0)
  | i + 1 => if s.getD i 0 = c then ((spSt c s i).1 ++ [(s.take i).drop (spSt c s i).2], i + 1) else spSt c s i
theorem spl_snoc (c b : UInt8) : ∀ (l : List UInt8) (t : List (List UInt8)) (x : List UInt8), spl c l = t ++ [x] → spl c (l ++ [b]) = if b = c then t ++ [x, []] else t ++ [x ++ [b]]
  | [], t, x, h => by
    have : t = [] ∧ x = [] := by
      cases t with
      | nil => simpa [spl] using h.symm
      | cons y t => simp [spl] at h
    obtain ⟨rfl, rfl⟩ := this
    simp only [List.nil_append, spl_cons]
    split <;> rfl
  | a :: l, t, x, h => by
    rw [List.cons_append, spl_cons]
    rw [spl_cons] at h
    by_cases ha : a = c
    · rw [if_pos ha] at h ⊢
      cases t with
      | nil => simp at h; exact absurd h.2 (spl_ne _ _)
      | cons y t =>
        simp only [List.cons_append, List.cons.injEq] at h
        rw [spl_snoc c b l t x h.2, ← h.1]
        split <;> rfl
    · rw [if_neg ha] at h ⊢
      cases hs : spl c l with
      | nil => exact absurd hs (spl_ne _ _)
      | cons y u =>
        rw [hs] at h
        simp only at h
        cases t with
        | nil =>
          simp at h
          obtain ⟨rfl, rfl⟩ := h
          rw [spl_snoc c b l [] y (by rw [hs]; rfl)]
          by_cases hb : b = c <;> simp [hb]
        | cons z t =>
          simp only [List.cons_append, List.cons.injEq] at h
          rw [spl_snoc c b l (y :: t) x (by rw [hs, h.2]; rfl), ← h.1]
          by_cases hb : b = c <;> simp [hb]
theorem spSt_spl (c : UInt8) (s : List UInt8) : ∀ i, i ≤ s.length → (spSt c s i).2 ≤ i ∧ (spSt c s i).1.length ≤ i ∧ spl c (s.take i) = (spSt c s i).1 ++ [(s.take i).drop (spSt c s i).2]
  | 0, _ => ⟨Nat.le_refl _, Nat.le_refl _, rfl⟩
  | i + 1, hi => by
    obtain ⟨h1, h2, h3⟩ := spSt_spl c s i (by omega)
    have e : s.take (i + 1) = s.take i ++ [s[i]] := (List.take_append_getElem (by omega)).symm
    have eg : s.getD i 0 = s[i] := by simp [show i < s.length by omega]
    have hl : (s.take i).length = i := by rw [List.length_take]; omega
    unfold spSt
    rw [e, spl_snoc c s[i] _ _ _ h3, eg]
    split
    · refine ⟨Nat.le_refl _, by simp; omega, ?_⟩
      have : (s.take i ++ [s[i]]).drop (i + 1) = [] := List.drop_eq_nil_of_le (by simp; omega)
      rw [this]
      simp
    · refine ⟨by omega, by omega, ?_⟩
      rw [List.drop_append_of_le_length (by omega)]

/-! ### Lists of numbers -/
def nv (p : List UInt8) : Int := (num p).getD 0
def numB (p : List UInt8) : Bool := match num p with
  | some v => valB v
  | none => false
theorem numB_iff {p : List UInt8} : numB p = true ↔ ∃ v, num p = some v ∧ valB v = true := by
  unfold numB
  cases num p <;> simp
def listOkS (s : List UInt8) : Bool := decide ((spl 44 s).length ≤ 64) && (spl 44 s).all numB
/-- The list with a text. -/
def listR (s : List UInt8) : Option (List Int) := if s = [45] then some [] else if listOkS s = true then some ((spl 44 s).map nv) else none
theorem itoa_free {v : Int} {c : UInt8} (h1 : ¬ c = 45) (h2 : isDig c = false) : c ∉ Lib.itoa v := fun h => by
  obtain ⟨d1, _, _⟩ := dgs_spec v.natAbs
  rcases Int.lt_trichotomy v 0 with g | g | g
  · rw [itoa_of_neg g] at h
    rcases List.mem_cons.1 h with e | h
    · exact h1 e
    · rw [List.all_eq_true.1 d1 c h] at h2; cases h2
  · subst g
    rw [itoa_zero] at h
    rw [List.mem_singleton.1 h] at h2
    cases h2
  · rw [itoa_of_pos g] at h
    rw [List.all_eq_true.1 d1 c h] at h2; cases h2
theorem numB_itoa {v : Int} (h : valB v = true) : num (Lib.itoa v) = some v := num_itoa.2 ⟨rfl, by simp [valB] at h; omega⟩
theorem listTx_of {s : List UInt8} (h : listOkS s = true) : listOk ((spl 44 s).map nv) = true ∧ listTx ((spl 44 s).map nv) = s := by
  simp only [listOkS, Bool.and_eq_true, decide_eq_true_eq, List.all_eq_true] at h
  obtain ⟨h1, h2⟩ := h
  have hv : ∀ p ∈ spl 44 s, valB (nv p) = true ∧ Lib.itoa (nv p) = p := fun p hp => by
    obtain ⟨v, e1, e2⟩ := numB_iff.1 (h2 p hp)
    unfold nv
    rw [e1]
    exact ⟨e2, (num_itoa.1 e1).1⟩
  have hok : listOk ((spl 44 s).map nv) = true := by
    simp only [listOk, Bool.and_eq_true, decide_eq_true_eq, List.length_map, List.all_eq_true]
    refine ⟨h1, fun x hx => ?_⟩
    obtain ⟨p, hp, rfl⟩ := List.mem_map.1 hx
    exact (hv p hp).1
  refine ⟨hok, ?_⟩
  unfold listTx listT
  rw [if_pos hok, if_neg (by simp [spl_ne]), List.map_map]
  have : (spl 44 s).map (Lib.itoa ∘ nv) = spl 44 s := by
    conv => rhs; rw [← List.map_id (spl 44 s)]
    exact List.map_congr_left fun p hp => (hv p hp).2
  rw [this, join_spl]
theorem listTx_iff (s : List UInt8) : listTx ((spl 44 s).map nv) = s ↔ listOkS s = true := by
  constructor
  · intro h
    have hok : listOk ((spl 44 s).map nv) = true := by
      cases hc : listOk ((spl 44 s).map nv) with
      | true => rfl
      | false =>
        exfalso
        have h0 : s = [] := by
          unfold listTx at h
          rw [hc] at h
          exact h.symm
        subst h0
        have : listOk ((spl 44 []).map nv) = true := by decide
        rw [this] at hc
        cases hc
    unfold listTx listT at h
    rw [if_pos hok, if_neg (by simp [spl_ne])] at h
    have hp := spl_join (c := 44) (xs := ((spl 44 s).map nv).map Lib.itoa) (by simp [spl_ne]) fun x hx => by
      obtain ⟨v, _, rfl⟩ := List.mem_map.1 hx
      exact itoa_free (by decide) (by decide)
    rw [h] at hp
    simp only [listOk, Bool.and_eq_true, decide_eq_true_eq, List.length_map, List.all_eq_true] at hok
    simp only [listOkS, Bool.and_eq_true, decide_eq_true_eq, List.all_eq_true]
    refine ⟨hok.1, fun p hp' => ?_⟩
    rw [hp, List.map_map] at hp'
    obtain ⟨q, hq, rfl⟩ := List.mem_map.1 hp'
    exact numB_iff.2 ⟨_, numB_itoa (hok.2 _ (List.mem_map.2 ⟨q, hq, rfl⟩)), hok.2 _ (List.mem_map.2 ⟨q, hq, rfl⟩)⟩
  · exact fun h => (listTx_of h).2
theorem listR_text {s : List UInt8} {l : List Int} (h : listR s = some l) : listOk l = true ∧ listT l = s := by
  unfold listR at h
  split at h
  · obtain rfl := Option.some.inj h
    rename_i e
    subst e
    exact ⟨rfl, rfl⟩
  · split at h
    · rename_i hk
      obtain rfl := Option.some.inj h
      obtain ⟨g1, g2⟩ := listTx_of hk
      refine ⟨g1, ?_⟩
      unfold listTx at g2
      rwa [if_pos g1] at g2
    · cases h
theorem listR_of {l : List Int} (h : listOk l = true) : listR (listT l) = some l := by
  unfold listT
  split
  · rename_i e
    subst e
    rfl
  · rename_i hne
    have hp := spl_join (c := 44) (xs := l.map Lib.itoa) (by simpa using hne) fun x hx => by
      obtain ⟨v, _, rfl⟩ := List.mem_map.1 hx
      exact itoa_free (by decide) (by decide)
    simp only [listOk, Bool.and_eq_true, decide_eq_true_eq, List.all_eq_true] at h
    have hn : ∀ v ∈ l, num (Lib.itoa v) = some v := fun v hv => numB_itoa (h.2 v hv)
    have hm : (l.map Lib.itoa).map nv = l := by
      rw [List.map_map]
      conv => rhs; rw [← List.map_id l]
      exact List.map_congr_left fun v hv => by simp [nv, hn v hv]
    unfold listR
    have h45 : Lib.join (l.map Lib.itoa) [44] ≠ [45] := fun e => by
      rw [e] at hp
      cases l with
      | nil => exact hne rfl
      | cons v t =>
        have e2 : spl 44 [45] = [[45]] := rfl
        rw [e2] at hp
        simp only [List.map_cons, List.cons.injEq] at hp
        have := hn v (by simp)
        rw [← hp.1] at this
        cases this
    rw [if_neg h45, if_pos, hp, hm]
    simp only [listOkS, hp, Bool.and_eq_true, decide_eq_true_eq, List.length_map, List.all_eq_true]
    refine ⟨h.1, fun x hx => ?_⟩
    obtain ⟨v, hv, rfl⟩ := List.mem_map.1 hx
    exact numB_iff.2 ⟨v, hn v hv, h.2 v hv⟩

@[simp] def listRP (s : List UInt8) : PV := .tup [.sf 0 1, .bool (listR s).isSome]
theorem nv_I64 (p : List UInt8) : I64 (nv p) := by
  unfold nv
  cases h : num p with
  | none => unfold I64; simp
  | some v => exact num_I64 h
set_option maxHeartbeats 1000000 in
theorem c_impl_ReadList [Go.Ab.Drwn] [Go.Ab.DrwOff] (s : List UInt8) (hs : s.length < 4294967281) : HFn Tryz.prog 30 [.str s] [] (listRP s) [some (.arr 1 (intRows ((listR s).getD [])))] := by
  refine hfn_intro hm Tryz.func30 (by kernel_rfl) rfl (by kernel_rfl) rfl (fun _ _ h => h) ?_
  simp
  refine ⟨fun h => ?_, fun h => ?_⟩
  · refine (weak_nilT (t := 0) 0 1 rfl rfl).trans (Wk.weak (ρ := [0]) (φ := []) ?_)
    simp [listR, h, intRows]
  have hl := spl_len 44 s
  refine CallZ.use (c_Split s 44 hs) rfl (.inr ⟨flat_strRows _, trivial⟩) rfl rfl ?_
  simp
  refine loop_upto hm (spl 44 s).length (fun i => ⟨[(0, .str s), (4, .sf 1 1), (12, .sf 0 1), (13, .int .i64 (spl 44 s).length), (14, .int .i64 i)], [some (.arr 1 (strRows (spl 44 s))), some (.arr 1 (intRows (((spl 44 s).map nv).take i)))]⟩) (fun _ => True) (by kernel_rfl) ?_ trivial (fun i hi _ => ?_) (fun _ => ?_)
  · refine (weak_nil (t := 4) (z := 1) rfl).trans (Wk.weak (ρ := [0, 1]) (φ := []) ?_)
    simp [intRows, strRows_len]
  · have w1 : IntKind.i64.wrap ((i : Int) + 1) = (i : Int) + 1 := w64 (by omega) (by omega)
    have hp := spl_piece 44 s (spl 44 s)[i] (List.getElem_mem hi)
    have hg : (strRows (spl 44 s))[i]'(by rw [strRows_len]; exact hi) = [.str (spl 44 s)[i]] := by simp [strRows]
    have hs1 : ((spl 44 s).map nv).take (i + 1) = ((spl 44 s).map nv).take i ++ [nv (spl 44 s)[i]] := by rw [← List.take_append_getElem (by simpa using hi), List.getElem_map]
    simp [hi, strRows_len, hg]
    refine CallZ.use0 (c_ReadDecimal (spl 44 s)[i] (by omega)) rfl rfl ?_
    simp
    have hil : (intRows (((spl 44 s).map nv).take i)).length = i := by rw [intRows_len, List.length_take, List.length_map]; omega
    refine ⟨by simp [rowsOne], by omega, by omega, Wk.weak (ρ := [0, 1]) (φ := []) ?_⟩
    rw [hs1]
    simp [w1, intRows, nv]
  · have hall : ((spl 44 s).map nv).take (spl 44 s).length = (spl 44 s).map nv := List.take_of_length_le (by simp)
    rw [hall]
    simp
    refine CallZ.use0 (c_ListText ((spl 44 s).map nv) (by rw [List.length_map]; omega)) rfl rfl ?_
    simp
    have hiff := listTx_iff s
    refine ⟨fun g => ?_, fun g => ?_⟩
    · have hn : listR s = none := by
        unfold listR
        rw [if_neg h, if_neg fun e => g (hiff.2 e)]
      refine (weak_nilT (t := 0) 0 1 rfl rfl).trans (Wk.weak (ρ := [2]) (φ := []) ?_)
      simp [hn, intRows]
    · have hn : listR s = some ((spl 44 s).map nv) := by
        unfold listR
        rw [if_neg h, if_pos (hiff.1 g)]
      refine Wk.weak (ρ := [1]) (φ := []) ?_
      simp [hn]

/-! ### Names of notes -/
/-- The note with a name: the first of them all. -/
def noteR (s : List UInt8) : Option Nat := (List.range 128).find? fun n => decide (noteT n = s)
@[simp] def noteP (s : List UInt8) : PV := .tup [.int .i64 (((noteR s).getD 0 : Nat) : Int), .bool (noteR s).isSome]
theorem find_range {p : Nat → Bool} : ∀ {n k : Nat}, k < n → (∀ j, j < k → p j = false) → p k = true → (List.range n).find? p = some k := fun {n k} hk h1 h2 => by
  rw [List.find?_eq_some_iff_getElem]
  exact ⟨h2, k, by simpa using hk, by simp, fun j hj => by simp [h1 j hj]⟩
theorem find_range_none {p : Nat → Bool} {n : Nat} (h : ∀ j, j < n → p j = false) : (List.range n).find? p = none := by
  rw [List.find?_eq_none]
  intro x hx
  simp [h x (List.mem_range.1 hx)]
theorem noteR_text {s : List UInt8} {n : Nat} (h : noteR s = some n) : n < 128 ∧ noteT n = s := by
  unfold noteR at h
  exact ⟨List.mem_range.1 (List.mem_of_find?_eq_some h), by simpa using List.find?_some h⟩
end Go.Proofs.YtoeklljhjhidbaaGreatDoor
-- from Oe
namespace Go.Proofs.YtoeklljhjhidbaaGreatDoor
open Go Go.Ab
set_option maxRecDepth 100000

theorem len_three {α : Type} {l : List α} (h : l.length = 3) : ∃ a b c, l = [a, b, c] := by
  match l, h with
  | [a, b, c], _ => exact ⟨a, b, c, rfl⟩
theorem spl_mem {c : UInt8} : ∀ {s : List UInt8}, ∀ x ∈ spl c s, c ∉ x
  | [], x, hx => by simp [spl] at hx; simp [hx]
  | b :: r, x, hx => by
    rw [spl_cons] at hx
    split at hx
    · rcases List.mem_cons.1 hx with rfl | hx
      · simp
      · exact spl_mem x hx
    · rename_i hb
      split at hx
      · rename_i y t e
        rcases List.mem_cons.1 hx with rfl | hx
        · intro h
          rcases List.mem_cons.1 h with h | h
          · exact hb h.symm
          · exact spl_mem y (by rw [e]; simp) h
        · exact spl_mem x (by rw [e]; simp [hx])
      · rename_i e
        exact absurd e (spl_ne _ _)
theorem noteT_free {n : Int} (_h0 : 0 ≤ n) : 32 ∉ noteT n := fun h => by
  unfold noteT at h
  rcases List.mem_append.1 h with h | h
  · have hk : n.toNat % 12 < 12 := Nat.mod_lt _ (by omega)
    have key : ∀ k, k < 12 → ¬ (32 : UInt8) ∈ noteNames.getD k [] := by decide
    exact key _ hk h
  · exact itoa_free (by decide) (by decide) h
theorem listT_free (l : List Int) : 32 ∉ listT l := fun h => by
  have hj : ∀ xs : List (List UInt8), (∀ x ∈ xs, (32 : UInt8) ∉ x) → (32 : UInt8) ∉ Lib.join xs [44] := fun xs => by
    induction xs with
    | nil => intro _ h; simp [Lib.join_nil] at h
    | cons x t ih =>
      intro hx h
      cases t with
      | nil => rw [join_one] at h; exact hx x (by simp) h
      | cons y t =>
        rw [join_two] at h
        rcases List.mem_append.1 h with h | h
        · rcases List.mem_append.1 h with h | h
          · exact hx x (by simp) h
          · simp at h
        · exact ih (fun z hz => hx z (by simp [hz])) h
  unfold listT at h
  split at h
  · simp at h
  · refine hj _ (fun x hx => ?_) h
    obtain ⟨v, _, rfl⟩ := List.mem_map.1 hx
    exact itoa_free (by decide) (by decide)
end Go.Proofs.YtoeklljhjhidbaaGreatDoor
-- from Of
namespace Go.Proofs.YtoeklljhjhidbaaGreatDoor
open Go Go.Ab
set_option maxRecDepth 100000

theorem index_free {c : UInt8} : ∀ {x : List UInt8}, c ∉ x → ∀ y, Lib.index (x ++ c :: y) [c] = x.length
  | [], _, y => index_one_eq c y
  | b :: x, h, y => by
    have h1 : ¬ b = c := fun e => h (by simp [e])
    have ih := index_free (c := c) (x := x) (fun e => h (by simp [e])) y
    rw [List.cons_append, index_one_ne h1, ih]
    have h2 : (((x.length : Nat) : Int) == -1) = false := by simp
    rw [h2]
    simp
theorem cut_free {c : UInt8} {x : List UInt8} (h : c ∉ x) (y : List UInt8) : Lib.cut (x ++ c :: y) [c] = (x, y, true) := by
  unfold Lib.cut
  rw [index_free h, if_pos (by omega)]
  simp
theorem cut_len (w : List UInt8) (c : List UInt8) : (Lib.cut w c).1.length ≤ w.length ∧ (Lib.cut w c).2.1.length ≤ w.length := by
  unfold Lib.cut
  split
  · simp
    omega
  · simp
theorem cut_two {c : UInt8} {w x y : List UInt8} (h : spl c w = [x, y]) : w = x ++ c :: y ∧ Lib.cut w [c] = (x, y, true) := by
  have hx : c ∉ x := spl_mem x (by rw [h]; simp)
  have hw : w = x ++ c :: y := by
    have := join_spl c w
    rw [h, join_two, join_one] at this
    rw [← this]
    simp
  exact ⟨hw, by rw [hw]; exact cut_free hx y⟩

theorem nv_small (p : List UInt8) : (nv p).natAbs < 10 ^ 18 := by
  unfold nv
  cases h : num p with
  | none => simp
  | some v => exact (num_itoa.1 h).2
theorem num_iff {p : List UInt8} : Lib.itoa (nv p) = p ↔ (num p).isSome = true := by
  constructor
  · intro h
    have : num p = some (nv p) := num_itoa.2 ⟨h, nv_small p⟩
    rw [this]
    rfl
  · intro h
    obtain ⟨v, hv⟩ := Option.isSome_iff_exists.1 h
    unfold nv
    rw [hv]
    exact (num_itoa.1 hv).1

/-- The pin that the program sees in a word. -/
def cutP (w : List UInt8) : Pin := ⟨nv (Lib.cut w [58]).1, nv (Lib.cut w [58]).2.1⟩
def pinS (w : List UInt8) : Bool := match spl 58 w with
  | [x, y] => (num x).isSome && (num y).isSome
  | _ => false
theorem pinS_iff {w : List UInt8} : pinW (cutP w) = w ↔ pinS w = true := by
  constructor
  · intro h
    have hf : ∀ v : Int, (58 : UInt8) ∉ Lib.itoa v := fun v => itoa_free (by decide) (by decide)
    have h2 : spl 58 w = [Lib.itoa (cutP w).step, Lib.itoa (cutP w).hammer] := by
      conv => lhs; rw [← h]
      unfold pinW
      rw [List.append_assoc, List.singleton_append, spl_free (hf _), spl_none (hf _)]
    unfold pinS
    rw [h2]
    have k : ∀ p, num (Lib.itoa (nv p)) = some (nv p) := fun p => num_itoa.2 ⟨rfl, nv_small p⟩
    simp [cutP, k]
  · intro h
    unfold pinS at h
    split at h
    · rename_i x y e
      obtain ⟨h1, h2⟩ := cut_two e
      simp only [Bool.and_eq_true] at h
      unfold cutP pinW
      rw [h2]
      simp only
      rw [num_iff.2 h.1, num_iff.2 h.2]
      conv => rhs; rw [h1]
      simp
    · cases h

/-- The drum that the program sees in the words. -/
def drumV (a b c : List UInt8) (r : List (List UInt8)) : Drum := ⟨nv a, nv b, (listR c).getD [], r.map cutP⟩
def wordsOk (a b c : List UInt8) (r : List (List UInt8)) : Bool := (num a).isSome && (num b).isSome && (listR c).isSome && r.all pinS
def drumR (s : List UInt8) : Option Drum := match spl 32 s with
  | a :: b :: c :: r => if wordsOk a b c r = true ∧ validDrum (drumV a b c r) = true then some (drumV a b c r) else none
  | _ => none
def zeroDrum : Drum := ⟨0, 0, [], []⟩
@[simp] def drumRP (s : List UInt8) : PV := .tup [.agg [.int .i64 ((drumR s).getD zeroDrum).steps, .int .i64 ((drumR s).getD zeroDrum).rest, .sf 0 1, .sf 1 2], .bool (drumR s).isSome]
@[simp] def drumRO (s : List UInt8) : Heap := [some (.arr 1 (intRows ((drumR s).getD zeroDrum).notes)), some (.arr 2 (Pin.rows ((drumR s).getD zeroDrum).pins))]

theorem map_self {α : Type} {f : α → α} : ∀ {l : List α}, l.map f = l ↔ ∀ x ∈ l, f x = x
  | [] => by simp
  | a :: l => by simp [map_self (f := f) (l := l)]
theorem listR_iff {c : List UInt8} : listT ((listR c).getD []) = c ↔ (listR c).isSome = true := by
  cases h : listR c with
  | some l => simpa using (listR_text h).2
  | none =>
    simp
    intro e
    have : listR [45] = some [] := rfl
    have e2 : listT [] = [45] := rfl
    rw [← e, e2, this] at h
    cases h
theorem drumW_free (d : Drum) : ∀ x ∈ drumW d, (32 : UInt8) ∉ x := fun x hx => by
  have hf : ∀ v : Int, (32 : UInt8) ∉ Lib.itoa v := fun v => itoa_free (by decide) (by decide)
  rcases List.mem_append.1 hx with hx | hx
  · simp at hx
    rcases hx with rfl | rfl | rfl
    · exact hf _
    · exact hf _
    · exact listT_free _
  · obtain ⟨p, _, rfl⟩ := List.mem_map.1 hx
    unfold pinW
    intro h
    rcases List.mem_append.1 h with h | h
    · rcases List.mem_append.1 h with h | h
      · exact hf _ h
      · simp at h
    · exact hf _ h
theorem drumV_iff {s a b c : List UInt8} {r : List (List UInt8)} (hs : spl 32 s = a :: b :: c :: r) : drumT (drumV a b c r) = s ↔ wordsOk a b c r = true := by
  have h1 : drumT (drumV a b c r) = s ↔ drumW (drumV a b c r) = spl 32 s := by
    constructor
    · intro h
      rw [← h]
      exact (spl_join (by simp [drumW]) (drumW_free _)).symm
    · intro h
      unfold drumT
      rw [h, join_spl]
  rw [h1, hs]
  simp only [drumW, drumV, List.map_map, List.cons_append, List.nil_append, List.cons.injEq, num_iff, listR_iff, map_self, Function.comp, pinS_iff, wordsOk, Bool.and_eq_true, List.all_eq_true]
  constructor
  · rintro ⟨h1, h2, h3, h4⟩; exact ⟨⟨⟨h1, h2⟩, h3⟩, h4⟩
  · rintro ⟨⟨⟨h1, h2⟩, h3⟩, h4⟩; exact ⟨h1, h2, h3, h4⟩

theorem drumR_three {s : List UInt8} (h : (spl 32 s).length < 3) : drumR s = none := by
  unfold drumR
  split
  · rename_i e; rw [e] at h; simp at h; omega
  · rfl
theorem len_over {α : Type} {l : List α} (h : 3 ≤ l.length) : ∃ a b c r, l = a :: b :: c :: r := by
  match l, h with
  | a :: b :: c :: r, _ => exact ⟨a, b, c, r, rfl⟩

theorem listR_len (c : List UInt8) : ((listR c).getD []).length ≤ 64 := by
  cases hl : listR c with
  | none => simp
  | some l =>
    have := (listR_text hl).1
    simp [listOk] at this
    exact this.1
theorem drumR_len (s : List UInt8) : ((drumR s).getD zeroDrum).notes.length ≤ 64 ∧ ((drumR s).getD zeroDrum).pins.length ≤ 1048576 := by
  unfold drumR
  split
  · split
    · rename_i g
      have h1 := (validDrum_iff _).1 g.2
      have h2 := h1.nl
      have h3 := h1.pl
      simp only [Option.getD_some]
      omega
    · simp [zeroDrum]
  · simp [zeroDrum]

theorem c_Cut [Go.Ab.Drwn] (s : List UInt8) (c : UInt8) (hs : s.length < 4294967281) : HFn Tryz.prog 31 [.str s, .str [c]] [] (.tup [.str (Lib.cut s [c]).1, .str (Lib.cut s [c]).2.1, .bool (Lib.cut s [c]).2.2]) [] :=
  hfn_of_calls Tryz.func31 (by kernel_rfl) rfl rfl fun A w vs hA hsz hargs => by
    have h0 := hargs 0 _ rfl
    have h1 := hargs 1 _ rfl
    rw [args2 hsz]
    generalize vs.getD 0 undef = v0 at h0 ⊢
    generalize vs.getD 1 undef = v1 at h1 ⊢
    cases h0 with
    | str _ b hb =>
    cases h1 with
    | str _ e he =>
    obtain ⟨v, hv, h3, _⟩ := aokCell hA (g := 0) (c := 0) (by simp [shps])
    obtain ⟨m, rfl⟩ := h3 rfl
    have e1 : b.size = b.data.toList.length := by simp
    refine (Tryz.strings_Cut b e m w (by rw [e1, hb]; exact hs) hv).mono fun q w' ⟨hq, n, hw⟩ => ⟨_, hq, ?_, ?_⟩
    · subst hw
      exact ⟨rfl, rfl, rfl, by simp [World.drewN], fun _ _ _ => rfl, fun _ => Nat.le_add_right _ _⟩
    · rw [hb, he]
      refine .tup _ _ rfl fun i p hp => ?_
      match i, hp with
      | 0, hp => cases hp; exact .str _ _ (by simp)
      | 1, hp => cases hp; exact .str _ _ (by simp)
      | 2, hp => cases hp; exact .bool _
end Go.Proofs.YtoeklljhjhidbaaGreatDoor
-- from Oi
namespace Go.Proofs.YtoeklljhjhidbaaGreatDoor
open Go Go.Ab
set_option maxRecDepth 100000

theorem index_none {c : UInt8} : ∀ {x : List UInt8}, c ∉ x → Lib.index x [c] = -1
  | [], _ => rfl
  | b :: x, h => by
    have h1 : ¬ b = c := fun e => h (by simp [e])
    rw [index_one_ne h1, index_none (c := c) (x := x) fun e => h (by simp [e])]
    rfl
theorem cut_one {c : UInt8} {s w : List UInt8} (h : spl c s = [w]) : s = w ∧ Lib.cut s [c] = (w, [], false) := by
  have hs : s = w := by rw [← join_spl c s, h, join_one]
  have hf : c ∉ s := by rw [hs]; exact spl_mem w (by rw [h]; simp)
  refine ⟨hs, ?_⟩
  unfold Lib.cut
  rw [index_none hf, if_neg (by omega), hs]
theorem cut_more {c : UInt8} {s x y : List UInt8} {r : List (List UInt8)} (h : spl c s = x :: y :: r) :
    s = x ++ c :: Lib.join (y :: r) [c] ∧ Lib.cut s [c] = (x, Lib.join (y :: r) [c], true) ∧ spl c (Lib.join (y :: r) [c]) = y :: r := by
  have hx : c ∉ x := spl_mem x (by rw [h]; simp)
  have hs : s = x ++ c :: Lib.join (y :: r) [c] := by
    have := join_spl c s
    rw [h, join_two] at this
    rw [← this]
    simp
  refine ⟨hs, ?_, spl_join (by simp) fun z hz => spl_mem z (by rw [h]; exact List.mem_cons_of_mem _ hz)⟩
  conv => lhs; rw [hs]
  exact cut_free hx _
theorem isName_sp {s : List UInt8} (h : (32 : UInt8) ∈ s) : isName s = false := by
  cases e : isName s with
  | false => rfl
  | true =>
    exfalso
    simp only [isName, Bool.and_eq_true, List.all_eq_true] at e
    obtain ⟨i, hi, h32⟩ := List.getElem_of_mem h
    have := e.2 i (List.mem_range.2 hi)
    simp [nameAt, hi, h32, isSmall, isDigit] at this

def wSet : List UInt8 := [115, 101, 116]
def wDrop : List UInt8 := [100, 114, 111, 112]
def wUndo : List UInt8 := [117, 110, 100, 111]
end Go.Proofs.YtoeklljhjhidbaaGreatDoor
