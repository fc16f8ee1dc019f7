/- Contracts: numbers read from texts; texts cut into parts. No condition. -/
import Derived.Test.YtjmoilnklaeacaaGreatDoorOa
import Derived.Test.YtjmoilnklaeacaaGreatDoorJc
import Derived.Test.YtjmoilnklaeacaaGreatDoorCe
import Derived.Lib.SplitLaws
namespace Go.Proofs.YtjmoilnklaeacaaGreatDoor
open Go Go.Ab
set_option maxRecDepth 100000

theorem args1 {vs : Array Value} (h : vs.size = 1) : vs = #[vs.getD 0 undef] := by
  apply Array.ext
  · simp [h]
  · intro i h1 h2
    have : i = 0 := by omega
    subst this
    simp [Array.getD_eq_getD_getElem?, h]
theorem args3 {vs : Array Value} (h : vs.size = 3) : vs = #[vs.getD 0 undef, vs.getD 1 undef, vs.getD 2 undef] := by
  apply Array.ext
  · simp [h]
  · intro i h1 h2
    have : i = 0 ∨ i = 1 ∨ i = 2 := by omega
    rcases this with rfl | rfl | rfl <;> simp [Array.getD_eq_getD_getElem?, h]
theorem aokCell {A : Nat → Prop} {w : World} (h : AOk A w) {g c : Nat} (hm : (g, c) ∈ shps) : ∃ v, w.cell? ⟨g, 0, none⟩ = some v ∧ (c = 0 → ∃ m, v = .int .i64 m) ∧ (c = 1 → ∃ t p, v = .iface t p) := by
  obtain ⟨_, us, e, fz, v, h1, h2, h3⟩ := h.shp g c hm
  exact ⟨v, by simp [World.cell?, h1, h2], h3⟩
theorem moved_bytes (w : World) (e : TypeId) (s : ByteArray) : Moved (fun _ => False) w (Lib.bytesWorld w e s) :=
  ⟨rfl, rfl, rfl, by rw [Lib.bytesWorld_size]; omega, fun j hj _ => Lib.bytesWorld_at_old w e s j hj, fun _ => by unfold Lib.bytesWorld; first | exact Nat.le_refl _ | exact Nat.le_succ _ | (simp [World.drew, World.alloc]; done)⟩

theorem c_TrimPrefix (s p : List UInt8) : HFn Tryz.prog 87 [.str s, .str p] [] (.str (Lib.trimPrefix s p)) [] :=
  hfn_of_calls Tryz.func87 (by kernel_rfl) rfl rfl fun A w vs hA hsz hargs => by
    have h0 := hargs 0 _ rfl
    have h1 := hargs 1 _ rfl
    rw [args2 hsz]
    generalize vs.getD 0 undef = v0 at h0 ⊢
    generalize vs.getD 1 undef = v1 at h1 ⊢
    cases h0 with
    | str _ b hb =>
    cases h1 with
    | str _ c hc =>
    refine (Tryz.strings_TrimPrefix b c w).mono fun e w' ⟨he, hw⟩ => ⟨_, he, ?_, .str _ _ (by simp [hb, hc])⟩
    subst hw
    exact .refl _ _

/-- What ParseInt hands back. -/
def parseR (s : List UInt8) : PV := match Lib.parseIntB 64 s with
  | .ok v => .tup [.int .i64 v, .err false]
  | .syntax => .tup [.int .i64 0, .err true]
  | .range => .tup [.int .i64 (Lib.intSat 64 s), .err true]
theorem repTup {A : Nat → Prop} {w : World} {p q : PV} {u v : Value} (h1 : RepI A w p u) (h2 : RepI A w q v) : RepI A w (.tup [p, q]) (.tuple #[u, v]) := .tup _ _ rfl fun i c hc => by
  cases i with
  | zero => cases hc; exact h1
  | succ i => cases i with
    | zero => cases hc; exact h2
    | succ i => simp at hc
theorem c_ParseInt (s : List UInt8) (hs : s.length ≤ 281474976710656) : HFn Tryz.prog 88 [.str s, .int .i64 10, .int .i64 64] [] (parseR s) [] :=
  hfn_of_calls Tryz.func88 (by kernel_rfl) rfl rfl fun A w vs hA hsz hargs => by
    have h0 := hargs 0 _ rfl
    have h1 := hargs 1 _ rfl
    have h2 := hargs 2 _ rfl
    rw [args3 hsz]
    generalize vs.getD 0 undef = v0 at h0 ⊢
    generalize vs.getD 1 undef = v1 at h1 ⊢
    generalize vs.getD 2 undef = v2 at h2 ⊢
    cases h1
    cases h2
    cases h0 with
    | str _ b hb =>
    subst hb
    have hsz : b.size = b.data.toList.length := by simp
    unfold parseR
    cases hp : Lib.parseIntB 64 b.data.toList with
    | ok v =>
      refine (Tryz.strconv_ParseInt_10_at64_ok b (by omega) v hp w).mono fun e w' ⟨he, hw⟩ => ⟨_, he, ?_, repTup (.int _ _) .errF⟩
      rcases hw with rfl | ⟨t, rfl⟩
      · exact .refl _ _
      · exact moved_bytes _ _ _
    | «syntax» =>
      obtain ⟨v, hv, _, h3⟩ := aokCell hA (g := 1) (c := 1) (by simp [shps])
      obtain ⟨t, p, rfl⟩ := h3 rfl
      refine (Tryz.strconv_ParseInt_10_at64_syntax b (by omega) hp _ w hv (.inr ⟨_, _, rfl⟩)).mono fun e w' ⟨N, he, _, _, hw⟩ => ⟨_, he, moved_below hw (fun h => by cases h), repTup (.int _ _) (.errT _ _)⟩
    | range =>
      obtain ⟨v, hv, _, h3⟩ := aokCell hA (g := 2) (c := 1) (by simp [shps])
      obtain ⟨t, p, rfl⟩ := h3 rfl
      refine (Tryz.strconv_ParseInt_10_at64_range b (by omega) hp _ w hv (.inr ⟨_, _, rfl⟩)).mono fun e w' ⟨N, he, _, _, hw⟩ => ⟨_, he, moved_below hw (fun h => by cases h), repTup (.int _ _) (.errT _ _)⟩

/-- What the readers of a number hand back. -/
@[simp] def numR (s : List UInt8) : PV := .tup [.int .i64 ((num s).getD 0), .bool (num s).isSome]
theorem num_I64 {s : List UInt8} {v : Int} (h : num s = some v) : I64 v := by
  have := (num_itoa.1 h).2
  unfold I64
  omega
theorem parse_I64 {s : List UInt8} {v : Int} (h : Lib.parseIntB 64 s = .ok v) : I64 v := by
  cases s with
  | nil => cases h
  | cons c r =>
    unfold Lib.parseIntB at h
    simp only at h
    cases hu : Lib.parseUintB 64 (if c.toNat = 43 ∨ c.toNat = 45 then r else c :: r) with
    | «syntax» => rw [hu] at h; cases h
    | range => rw [hu] at h; cases h
    | ok u =>
      rw [hu] at h
      simp only at h
      split at h
      · cases h
      · split at h
        · cases h
        · rename_i h1 h2
          have := Lib.NumEnd.ok.inj h
          unfold I64
          by_cases hc : c.toNat = 45
          · simp only [hc, not_true, false_and, true_and, if_true] at h1 h2 this
            omega
          · simp only [hc, not_false_eq_true, false_and, true_and, if_false] at h1 h2 this
            omega

theorem c_ReadDecimal (s : List UInt8) (hs : s.length ≤ 9223372036854775807) : HFn Tryz.prog 45 [.str s] [] (numR s) [] := by
  refine hfn_intro hm Tryz.func45 (by kernel_rfl) rfl (by kernel_rfl) rfl ret0_ok ?_
  simp
  refine CallZ.use0 (c_TrimPrefix s [45]) rfl rfl ?_
  simp
  have hl : s.length ≤ (Lib.trimPrefix s [45]).length + 1 := by
    unfold Lib.trimPrefix
    split
    · rw [List.length_drop]
      simp only [List.length_cons, List.length_nil]
      omega
    · omega
  refine ⟨fun h => ?_, fun h1 h2 => ?_⟩
  · have hn := num_short (s := s) (by omega)
    simp [hn]
  · have hn := num_parse s (by omega) (by omega)
    have hP := c_ParseInt s (by omega)
    unfold parseR at hP
    cases hp : Lib.parseIntB 64 s with
    | ok v =>
      rw [hp] at hn hP
      simp only at hn hP
      have hv := parse_I64 hp
      refine CallZ.use0 hP rfl rfl ?_
      simp
      refine ⟨by kernel_rfl, CallY.use (fun _ => ⟨rfl, c_Decimal v hv⟩) rfl rfl ?_⟩
      simp
      refine ⟨fun h => ?_, fun h => ?_⟩
      · rw [if_neg h] at hn
        simp [hn]
      · rw [if_pos h] at hn
        simp [hn]
    | «syntax» =>
      rw [hp] at hn hP
      simp only at hn hP
      refine CallZ.use0 hP rfl rfl ?_
      simp
      refine ⟨by kernel_rfl, CallY.use (res := .str []) (fun h => by cases h) rfl rfl ?_⟩
      simp [hn]
    | range =>
      rw [hp] at hn hP
      simp only at hn hP
      refine CallZ.use0 hP rfl rfl ?_
      simp
      refine ⟨by kernel_rfl, CallY.use (res := .str []) (fun h => by cases h) rfl rfl ?_⟩
      simp [hn]

theorem dig_eq (b : UInt8) : isDigit b = isDig b := by
  unfold isDigit isDig
  congr 1 <;> exact decide_eq_decide.2 (by omega)
theorem num_neg (r : List UInt8) : num (45 :: r) = if 1 ≤ r.length ∧ r.length ≤ 18 ∧ ¬ r[0]? = some 48 ∧ r.all isDig = true then some (-(valA 0 r : Int)) else none := by
  unfold num
  have hV : numV (45 :: r) = -(valA 0 r : Int) := by simp [numV]
  rw [hV]
  refine ite_congr (propext ?_) (fun _ => rfl) (fun _ => rfl)
  unfold numOk
  simp only [List.head?_cons, if_true, List.length_cons, List.getElem?_cons_succ, List.drop_succ_cons, List.drop_zero, Bool.and_eq_true, decide_eq_true_eq, Bool.not_eq_true', Bool.and_eq_false_imp, decide_eq_false_iff_not]
  constructor
  · rintro ⟨⟨⟨h1, h2⟩, h3⟩, h4⟩
    exact ⟨by omega, by omega, fun e => h3 e (by omega), h4⟩
  · rintro ⟨h1, h2, h3, h4⟩
    exact ⟨⟨⟨by omega, by omega⟩, fun e => absurd e h3⟩, h4⟩
theorem num_pos {c : UInt8} (r : List UInt8) (hc : ¬ c = 45) : num (c :: r) = if r.length + 1 ≤ 18 ∧ ¬ (c = 48 ∧ 1 ≤ r.length) ∧ (c :: r).all isDig = true then some (valA 0 (c :: r) : Int) else none := by
  have hh : ¬ (c :: r).head? = some 45 := by simpa using hc
  unfold num
  have hV : numV (c :: r) = (valA 0 (c :: r) : Int) := by simp [numV, hc]
  rw [hV]
  refine ite_congr (propext ?_) (fun _ => rfl) (fun _ => rfl)
  unfold numOk
  simp only [hh, if_false, List.length_cons, List.getElem?_cons_zero, Option.some.injEq, List.drop_zero, Nat.sub_zero, Bool.and_eq_true, decide_eq_true_eq, Bool.not_eq_true', Bool.and_eq_false_imp, decide_eq_false_iff_not]
  constructor
  · rintro ⟨⟨⟨h1, h2⟩, h3⟩, h4⟩
    exact ⟨by omega, fun ⟨e, h⟩ => h3 e (by omega), h4⟩
  · rintro ⟨h1, h3, h4⟩
    exact ⟨⟨⟨by omega, by omega⟩, fun e h => h3 ⟨e, by omega⟩⟩, h4⟩
theorem u8_eq {b : UInt8} {n : Nat} (hn : n < 256) : ((b.toNat : Int) = n) ↔ b = UInt8.ofNat n := by
  constructor
  · intro h
    have : b.toNat = n := by omega
    rw [← this]
    exact UInt8.ofNat_toNat.symm
  · rintro rfl
    rw [UInt8.toNat_ofNat', Nat.mod_eq_of_lt hn]
theorem valA_lt18 (l : List UInt8) {k : Nat} (hk : l.length ≤ k) (h : l.all isDig = true) : valA 0 l < 10 ^ k := by
  have := valA_lt l 0 h
  have h2 : 10 ^ l.length ≤ 10 ^ k := Nat.pow_le_pow_right (by omega) hk
  omega
set_option maxHeartbeats 1000000 in
theorem c_l01Number (s : List UInt8) (hs : s.length ≤ 9223372036854775806) : HFn Tryz.prog 41 [.str s] [] (numR s) [] := by
  refine hfn_intro hm Tryz.func41 (by kernel_rfl) rfl (by kernel_rfl) rfl ret0_ok ?_
  cases s with
  | nil => simp; decide
  | cons c r =>
    simp only [List.length_cons] at hs
    by_cases hc : c = 45
    · subst hc
      have w : IntKind.i64.wrap (r.length : Int) = r.length := w64 (by omega) (by omega)
      have h48 : ((r[0]?.getD 0).toNat : Int) = 48 ↔ r[0]? = some 48 := by
        cases r with
        | nil => simp
        | cons x t => simpa using u8_eq (b := x) (n := 48) (by omega)
      simp [w, h48]
      iterate 5 refine ⟨by grind, ?_⟩
      refine ⟨fun h => ?_, fun h1 h2 h3 => ?_⟩
      · have hn : num (45 :: r) = none := by
          rw [num_neg, if_neg]
          rintro ⟨g1, g2, g3, g4⟩
          rcases h with (h | h) | h
          · omega
          · omega
          · exact g3 h.1
        simp [hn]

      have hlen : (r).length ≤ 18 := by omega
      have hyes : (r).all isDig = true → num (45 :: r) = some (-(valA 0 r : Int)) := fun g => by rw [num_neg, if_pos ⟨by omega, by omega, fun e => by have := h3 e; omega, g⟩]
      have hno : ¬ (r).all isDig = true → num (45 :: r) = none := fun g => by rw [num_neg, if_neg fun h => g h.2.2.2]
      refine loop_upto hm (r).length (fun i => ⟨[(0, .str (45 :: r)), (4, .int .i64 1), (5, .int .i64 ((valA 0 ((r).take i) : Nat) : Int)), (6, .int .i64 ((i : Int) + 1))], []⟩) (fun i => ((r).take i).all isDig = true) (by kernel_rfl) ?_ rfl (fun i hi hI => ?_) (fun hI => ?_)
      · refine Wk.weak (ρ := []) (φ := []) ?_
        simp [valA]
      · have hv := valA_lt18 ((r).take i) (k := 17) (by rw [List.length_take]; omega) hI
        have hs1 : (r).take (i + 1) = (r).take i ++ [(r)[i]] := (List.take_append_getElem hi).symm
        have hdg := c_l01Digit (r)[i]
        rw [dig_eq] at hdg
        have hget : (45 :: r)[i + 1]? = some (r)[i] := by
          simp [hi]
        have hpos : (0 : Int) ≤ (i : Int) + 1 := by omega
        have hlt : (i : Int) < r.length := by omega
        have w1 : IntKind.i64.wrap ((i : Int) + 1 + 1) = (i : Int) + 1 + 1 := w64 (by omega) (by omega)
        have w2 : IntKind.i64.wrap (10 * (valA 0 ((r).take i) : Int)) = 10 * (valA 0 ((r).take i) : Int) := w64 (by omega) (by omega)
        have hmem : (r)[i] ∈ (r) := List.getElem_mem hi
        generalize hd : (r)[i] = d at hs1 hdg hget hmem
        simp [hget, hpos, hlt]
        refine CallZ.use0 hdg rfl rfl ?_
        simp [hget, hpos, hlt]
        refine ⟨fun h => ?_, fun h => ?_⟩
        · have hn := hno fun g => by rw [List.all_eq_true.1 g d hmem] at h; cases h
          simp [hn]
        · have hdd := isDig_iff.1 h
          have w3 : IntKind.u8.wrap ((d.toNat : Int) - 48) = ((d.toNat - 48 : Nat) : Int) := by rw [w8 (by omega) (by omega)]; omega
          have w4 : IntKind.i64.wrap ((d.toNat - 48 : Nat) : Int) = ((d.toNat - 48 : Nat) : Int) := w64 (by omega) (by omega)
          have w5 : IntKind.i64.wrap (10 * (valA 0 ((r).take i) : Int) + ((d.toNat - 48 : Nat) : Int)) = ((valA 0 ((r).take (i + 1)) : Nat) : Int) := by
            rw [w64 (by omega) (by omega), hs1, valA_snoc]
            omega
          have hall : ((r).take (i + 1)).all isDig = true := by rw [hs1, List.all_append, hI, List.all_cons, h]; rfl
          refine ⟨by simpa using hall, ?_⟩
          refine Wk.weak (ρ := []) (φ := []) ?_
          simp [w1, w2, w3, w4, w5]
      · rw [List.take_length] at hI ⊢
        have hv := valA_lt18 (r) (k := 18) hlen hI
        have hn := hyes hI
        have w1 : IntKind.i64.wrap (-(valA 0 (r) : Int)) = -(valA 0 (r) : Int) := w64 (by omega) (by omega)
        simp [hn, w1]
    · have h45 := u8_eq (b := c) (n := 45) (by omega)
      have h48 := u8_eq (b := c) (n := 48) (by omega)
      have hc' : ¬ (c.toNat : Int) = 45 := fun e => hc (h45.1 e)
      have w : IntKind.i64.wrap ((r.length : Int) + 1) = r.length + 1 := w64 (by omega) (by omega)
      have h48' : (c.toNat : Int) = 48 ↔ c = 48 := h48
      simp [hc', w, h48']
      iterate 4 refine ⟨by grind, ?_⟩
      refine ⟨fun h => ?_, fun h1 h2 h3 => ?_⟩
      · have hn : num (c :: r) = none := by
          rw [num_pos r hc, if_neg]
          rintro ⟨g1, g2, g3⟩
          rcases h with (h | h) | h
          · omega
          · omega
          · exact g2 ⟨h.1, by omega⟩
        simp [hn]

      have hlen : (c :: r).length ≤ 18 := by simp only [List.length_cons]; omega
      have hyes : (c :: r).all isDig = true → num (c :: r) = some (valA 0 (c :: r) : Int) := fun g => by rw [num_pos r hc, if_pos ⟨by omega, fun e => by have := h3 e.1; omega, g⟩]
      have hno : ¬ (c :: r).all isDig = true → num (c :: r) = none := fun g => by rw [num_pos r hc, if_neg fun h => g h.2.2]
      refine loop_upto hm (c :: r).length (fun i => ⟨[(0, .str (c :: r)), (4, .int .i64 0), (5, .int .i64 ((valA 0 ((c :: r).take i) : Nat) : Int)), (6, .int .i64 ((i : Int)))], []⟩) (fun i => ((c :: r).take i).all isDig = true) (by kernel_rfl) ?_ rfl (fun i hi hI => ?_) (fun hI => ?_)
      · refine Wk.weak (ρ := []) (φ := []) ?_
        simp [valA]
      · have hv := valA_lt18 ((c :: r).take i) (k := 17) (by rw [List.length_take]; omega) hI
        have hs1 : (c :: r).take (i + 1) = (c :: r).take i ++ [(c :: r)[i]] := (List.take_append_getElem hi).symm
        have hdg := c_l01Digit (c :: r)[i]
        rw [dig_eq] at hdg
        have hget : (c :: r)[i]? = some (c :: r)[i] := by
          skip
          simp
        have hpos : (0 : Int) ≤ (i : Int) := by omega
        have hlt : (i : Int) < (r.length : Int) + 1 := by simp only [List.length_cons] at hi; omega
        have w1 : IntKind.i64.wrap ((i : Int) + 1) = (i : Int) + 1 := by rw [w64 (by omega) (by omega)]
        have w2 : IntKind.i64.wrap (10 * (valA 0 ((c :: r).take i) : Int)) = 10 * (valA 0 ((c :: r).take i) : Int) := w64 (by omega) (by omega)
        have hmem : (c :: r)[i] ∈ (c :: r) := List.getElem_mem hi
        generalize hd : (c :: r)[i] = d at hs1 hdg hget hmem
        simp [hget, hpos, hlt]
        refine CallZ.use0 hdg rfl rfl ?_
        simp [hget, hpos, hlt]
        refine ⟨fun h => ?_, fun h => ?_⟩
        · have hn := hno fun g => by rw [List.all_eq_true.1 g d hmem] at h; cases h
          simp [hn]
        · have hdd := isDig_iff.1 h
          have w3 : IntKind.u8.wrap ((d.toNat : Int) - 48) = ((d.toNat - 48 : Nat) : Int) := by rw [w8 (by omega) (by omega)]; omega
          have w4 : IntKind.i64.wrap ((d.toNat - 48 : Nat) : Int) = ((d.toNat - 48 : Nat) : Int) := w64 (by omega) (by omega)
          have w5 : IntKind.i64.wrap (10 * (valA 0 ((c :: r).take i) : Int) + ((d.toNat - 48 : Nat) : Int)) = ((valA 0 ((c :: r).take (i + 1)) : Nat) : Int) := by
            rw [w64 (by omega) (by omega), hs1, valA_snoc]
            omega
          have hall : ((c :: r).take (i + 1)).all isDig = true := by rw [hs1, List.all_append, hI, List.all_cons, h]; rfl
          refine ⟨by simpa using hall, ?_⟩
          refine Wk.weak (ρ := []) (φ := []) ?_
          simp [w1, w2, w3, w4, w5]
      · rw [List.take_length] at hI ⊢
        have hv := valA_lt18 (c :: r) (k := 18) hlen hI
        have hn := hyes hI
        have w1 : IntKind.i64.wrap (-(valA 0 (c :: r) : Int)) = -(valA 0 (c :: r) : Int) := w64 (by omega) (by omega)
        simp [hn, w1]
end Go.Proofs.YtjmoilnklaeacaaGreatDoor
