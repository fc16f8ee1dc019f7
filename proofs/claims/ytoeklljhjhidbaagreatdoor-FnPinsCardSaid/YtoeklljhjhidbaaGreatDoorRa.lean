/- Drums that are turned, pins that are added: the plain law. No condition. -/
import Derived.Test.YtoeklljhjhidbaaGreatDoorTb
import Derived.Test.YtoeklljhjhidbaaGreatDoorDd
import Derived.Test.YtoeklljhjhidbaaGreatDoorOg
namespace Go.Proofs.YtoeklljhjhidbaaGreatDoor
open Go Go.Ab
set_option maxRecDepth 100000

theorem diff_mod {x y n : Int} (hx : 0 ≤ x ∧ x < n) (hy : 0 ≤ y ∧ y < n) : (y - x) % n = if x ≤ y then y - x else y - x + n := by
  split
  · exact Int.emod_eq_of_lt (by omega) (by omega)
  · rw [← Int.add_emod_right]
    exact Int.emod_eq_of_lt (by omega) (by omega)
/-- The steps of a line, rising, are far enough apart. -/
theorem rest_iff {s : List Int} {n r : Int} (hs : s.Pairwise fun x y => x < y) (hb : ∀ x ∈ s, 0 ≤ x ∧ x < n) : restOk s n r = true ↔ (s ≠ [] → r ≤ n) ∧ ∀ x ∈ s, ∀ y ∈ s, x ≠ y → r ≤ (y - x) % n := by
  have get : ∀ k (hk : k < s.length), s.getD k 0 = s[k] := fun k hk => by simp [hk]
  have bd : ∀ k, k < s.length → 0 ≤ s.getD k 0 ∧ s.getD k 0 < n := fun k hk => by rw [get k hk]; exact hb _ (List.getElem_mem hk)
  have lt : ∀ i j, i < j → j < s.length → s.getD i 0 < s.getD j 0 := fun i j hij hj => by
    rw [get j hj, get i (by omega)]
    exact List.pairwise_iff_getElem.1 hs i j (by omega) hj hij
  have le : ∀ i j, i ≤ j → j < s.length → s.getD i 0 ≤ s.getD j 0 := fun i j hij hj => by
    rcases Nat.lt_or_ge i j with g | g
    · exact Int.le_of_lt (lt i j g hj)
    · rw [show i = j by omega]; omega
  have all : restOk s n r = true ↔ ∀ k, k < s.length → r ≤ gapAt s n k := by
    unfold restOk
    rw [List.all_eq_true]
    exact ⟨fun h k hk => of_decide_eq_true (h k (List.mem_range.2 hk)), fun h k hk => decide_eq_true (h k (List.mem_range.1 hk))⟩
  rw [all]
  constructor
  · intro h
    refine ⟨fun hne => ?_, fun x hx y hy hxy => ?_⟩
    · have hl := List.length_pos_iff.2 hne
      have h1 := h (s.length - 1) (by omega)
      unfold gapAt at h1
      rw [if_neg (by omega)] at h1
      have h2 := le 0 (s.length - 1) (by omega) (by omega)
      omega
    · obtain ⟨i, hi, rfl⟩ := List.getElem_of_mem hx
      obtain ⟨j, hj, rfl⟩ := List.getElem_of_mem hy
      have bi := bd i hi
      have bj := bd j hj
      rw [get i hi] at bi
      rw [get j hj] at bj
      rw [diff_mod bi bj]
      rw [← get i hi, ← get j hj] at *
      rcases Nat.lt_trichotomy i j with g | g | g
      · have h1 := h i hi
        unfold gapAt at h1
        rw [if_pos (by omega)] at h1
        have h2 := le (i + 1) j (by omega) hj
        have h3 := lt i j g hj
        rw [if_pos (by omega)]
        omega
      · subst g; exact absurd rfl hxy
      · have h1 := h (s.length - 1) (by omega)
        unfold gapAt at h1
        rw [if_neg (by omega)] at h1
        have h2 := le 0 j (by omega) hj
        have h3 := le i (s.length - 1) (by omega) (by omega)
        have h4 := lt j i g hi
        rw [if_neg (by omega)]
        omega
  · rintro ⟨h1, h2⟩ k hk
    have hne : s ≠ [] := fun e => by subst e; simp at hk
    have hr := h1 hne
    have far : ∀ i j (hi : i < s.length) (hj : j < s.length), s.getD i 0 ≠ s.getD j 0 → r ≤ (s.getD j 0 - s.getD i 0) % n := fun i j hi hj hne => by
      rw [get i hi, get j hj] at *
      exact h2 _ (List.getElem_mem hi) _ (List.getElem_mem hj) hne
    unfold gapAt
    split
    · rename_i hk1
      have h3 := lt k (k + 1) (by omega) hk1
      have h4 := far k (k + 1) hk hk1 (by omega)
      rw [diff_mod (bd k hk) (bd (k + 1) hk1), if_pos (by omega)] at h4
      exact h4
    · rcases Nat.eq_zero_or_pos k with g | g
      · subst g; omega
      · have h3 := lt 0 k g hk
        have h4 := far k 0 hk (by omega) (by omega)
        rw [diff_mod (bd k hk) (bd 0 (by omega)), if_neg (by omega)] at h4
        omega

theorem line_mem {l : List Pin} {h x : Int} : x ∈ lineOf l h ↔ ∃ p ∈ l, p.hammer = h ∧ p.step = x := by
  simp [lineOf, and_assoc]
theorem line_rises {l : List Pin} (hl : l.Pairwise fun a b => pinLt a b = true) (h : Int) : (lineOf l h).Pairwise fun x y => x < y := by
  unfold lineOf
  rw [List.pairwise_map]
  refine (List.Pairwise.filter _ hl).imp_of_mem fun {a b} ha hb g => ?_
  have h1 := (List.mem_filter.1 ha).2
  have h2 := (List.mem_filter.1 hb).2
  simp at h1 h2
  unfold pinLt at g
  simp at g
  omega

/-- A valid drum, by its pins as a set. -/
structure VD (d : Drum) : Prop where
  s0 : 1 ≤ d.steps
  s1 : d.steps ≤ 4096
  r0 : 1 ≤ d.rest
  r1 : d.rest ≤ 100
  nl : d.notes.length ≤ 32
  pl : d.pins.length ≤ 256
  sorted : sortedI d.notes = true
  notes : ∀ i, i < d.notes.length → noteOkAt d.notes i = true
  pw : d.pins.Pairwise fun a b => pinLt a b = true
  inn : ∀ p ∈ d.pins, pinIn d p = true
  one : d.pins ≠ [] → d.rest ≤ d.steps
  apart : ∀ p ∈ d.pins, ∀ q ∈ d.pins, p.hammer = q.hammer → p.step ≠ q.step → d.rest ≤ (q.step - p.step) % d.steps
theorem pinIn_iff {d : Drum} {p : Pin} : pinIn d p = true ↔ (0 ≤ p.step ∧ p.step < d.steps) ∧ 0 ≤ p.hammer ∧ p.hammer < d.notes.length := by
  simp [pinIn]
  omega
theorem line_in {d : Drum} (h : ∀ p ∈ d.pins, pinIn d p = true) (a : Int) : ∀ x ∈ lineOf d.pins a, 0 ≤ x ∧ x < d.steps := fun x hx => by
  obtain ⟨p, hp, _, rfl⟩ := line_mem.1 hx
  exact (pinIn_iff.1 (h p hp)).1
theorem vd_iff (d : Drum) : validDrum d = true ↔ VD d := by
  constructor
  · intro h
    have D := (validDrum_iff d).1 h
    have pw : d.pins.Pairwise fun a b => pinLt a b = true := List.pairwise_iff_getElem.2 fun i j hi hj hij => pins_lt h i j hi hj hij
    have inn : ∀ p ∈ d.pins, pinIn d p = true := fun p hp => by
      obtain ⟨i, hi, rfl⟩ := List.getElem_of_mem hp
      have := D.pins i hi
      simp only [pinAtOk, pinAt_eq hi, Bool.and_eq_true] at this
      exact this.1
    have rest : ∀ p ∈ d.pins, (lineOf d.pins p.hammer ≠ [] → d.rest ≤ d.steps) ∧ ∀ x ∈ lineOf d.pins p.hammer, ∀ y ∈ lineOf d.pins p.hammer, x ≠ y → d.rest ≤ (y - x) % d.steps := fun p hp => by
      have hi := (pinIn_iff.1 (inn p hp)).2
      have hr := D.rests p.hammer.toNat (by omega)
      rw [show ((p.hammer.toNat : Nat) : Int) = p.hammer by omega] at hr
      exact (rest_iff (line_rises pw _) (line_in inn _)).1 hr
    refine ⟨D.s0, D.s1, D.r0, D.r1, D.nl, D.pl, D.sorted, D.notes, pw, inn, fun hne => ?_, fun p hp q hq hh hs => ?_⟩
    · obtain ⟨p, hp⟩ := List.exists_mem_of_ne_nil _ hne
      refine (rest p hp).1 fun e => ?_
      have : p.step ∈ lineOf d.pins p.hammer := line_mem.2 ⟨p, hp, rfl, rfl⟩
      rw [e] at this
      cases this
    · exact (rest p hp).2 _ (line_mem.2 ⟨p, hp, rfl, rfl⟩) _ (line_mem.2 ⟨q, hq, hh.symm, rfl⟩) hs
  · intro h
    refine (validDrum_iff d).2 ⟨h.s0, h.s1, h.r0, h.r1, h.nl, h.pl, h.sorted, h.notes, fun i hi => ?_, fun a _ => ?_⟩
    · simp only [pinAtOk, pinAt_eq hi, Bool.and_eq_true, Bool.or_eq_true, decide_eq_true_eq]
      refine ⟨h.inn _ (List.getElem_mem hi), ?_⟩
      by_cases e : i = 0
      · exact .inl e
      · refine .inr ?_
        rw [pinAt_eq (show i - 1 < d.pins.length by omega)]
        exact List.pairwise_iff_getElem.1 h.pw (i - 1) i (by omega) hi (by omega)
    · refine (rest_iff (line_rises h.pw _) (line_in h.inn _)).2 ⟨fun hne => ?_, fun x hx y hy hxy => ?_⟩
      · refine h.one fun e => hne ?_
        rw [e]
        rfl
      · obtain ⟨p, hp, hph, rfl⟩ := line_mem.1 hx
        obtain ⟨q, hq, hqh, rfl⟩ := line_mem.1 hy
        exact h.apart p hp q hq (hph.trans hqh.symm) hxy

/-! ### Turned -/
theorem tr_step {n q : Int} {p : Pin} (hn : 1 ≤ n) (hp : 0 ≤ p.step) : (trP n q p).step = (p.step + q) % n := by
  unfold trP
  simp only
  have h1 : -n < q.tmod n := by
    have := Int.lt_tmod_of_pos q (show 0 < n by omega)
    omega
  rw [Int.tmod_eq_emod_of_nonneg (by omega), Int.tmod_def]
  have e : p.step + (q - n * q.tdiv n) + n = (p.step + q) + n * (1 - q.tdiv n) := by rw [Int.mul_sub]; omega
  rw [e, Int.add_mul_emod_self_left]
theorem tr_in {n q : Int} {p : Pin} (hn : 1 ≤ n) (hp : 0 ≤ p.step) : 0 ≤ (trP n q p).step ∧ (trP n q p).step < n := by
  rw [tr_step hn hp]
  exact ⟨Int.emod_nonneg _ (by omega), Int.emod_lt_of_pos _ (by omega)⟩
theorem tr_diff {n q : Int} {p r : Pin} (hn : 1 ≤ n) (hp : 0 ≤ p.step) (hr : 0 ≤ r.step) : ((trP n q r).step - (trP n q p).step) % n = (r.step - p.step) % n := by
  rw [tr_step hn hp, tr_step hn hr, ← Int.sub_emod]
  congr 1
  omega
theorem tr_inj {n q : Int} {p r : Pin} (hp : 0 ≤ p.step ∧ p.step < n) (hr : 0 ≤ r.step ∧ r.step < n) (h : trP n q p = trP n q r) : p = r := by
  have hn : 1 ≤ n := by omega
  have hd := tr_diff (q := q) hn hp.1 hr.1
  rw [h, Int.sub_self, Int.zero_emod, diff_mod hp hr] at hd
  have hh : p.hammer = r.hammer := by
    have := congrArg Pin.hammer h
    simpa [trP] using this
  rw [Pin.eq_iff]
  split at hd <;> first | exact ⟨by omega, hh⟩ | omega
theorem tr_back {n q : Int} {p : Pin} (hp : 0 ≤ p.step ∧ p.step < n) : trP n (-q) (trP n q p) = p := by
  have hn : 1 ≤ n := by omega
  rw [Pin.eq_iff]
  refine ⟨?_, rfl⟩
  rw [tr_step hn (tr_in hn hp.1).1, tr_step hn hp.1, Int.emod_add_emod, show p.step + q + -q = p.step by omega]
  exact Int.emod_eq_of_lt hp.1 hp.2
theorem strict_of {l : List Pin} (h : InP l) (hn : l.Nodup) : l.Pairwise fun a b => pinLt a b = true := by
  refine (List.Pairwise.and h (List.nodup_iff_pairwise_ne.1 hn)).imp fun {a b} ⟨h1, h2⟩ => ?_
  cases g : pinLt a b with
  | true => rfl
  | false => exact absurd (pin_tot _ _ g h1) h2
theorem strict_nodup {l : List Pin} (h : l.Pairwise fun a b => pinLt a b = true) : l.Nodup := by
  refine List.nodup_iff_pairwise_ne.2 (h.imp fun {a b} g e => ?_)
  subst e
  unfold pinLt at g
  simp at g
theorem strict_in {l : List Pin} (h : l.Pairwise fun a b => pinLt a b = true) : InP l := h.imp fun g => pin_asym _ _ g
theorem sort_perm {l m : List Pin} (h : m.Perm l) (hl : InP l) : sortP m = l :=
  List.Perm.eq_of_pairwise (le := fun x y => pinLt y x = false) (fun _x _y _ _ h1 h2 => pin_tot _ _ h2 h1) (sortP_in m) hl ((List.mergeSort_perm m _).trans h)
theorem turnD_of {d : Drum} (h : validDrum d = true) (q : Int) : turnD d q = ⟨d.steps, d.rest, d.notes, sortP (d.pins.map (trP d.steps q))⟩ := if_pos h
theorem turn_pins {d : Drum} (h : validDrum d = true) (q : Int) : (turnD d q).pins.Perm (d.pins.map (trP d.steps q)) := by
  unfold turnD
  rw [if_pos h]
  exact List.mergeSort_perm _ _
theorem turn_valid {d : Drum} (h : validDrum d = true) (q : Int) : validDrum (turnD d q) = true := by
  have V := (vd_iff d).1 h
  have hp := turn_pins h q
  have hI : InP (turnD d q).pins := by unfold turnD; rw [if_pos h]; exact sortP_in _
  have e1 : (turnD d q).steps = d.steps := by unfold turnD; rw [if_pos h]
  have e2 : (turnD d q).rest = d.rest := by unfold turnD; rw [if_pos h]
  have e3 : (turnD d q).notes = d.notes := by unfold turnD; rw [if_pos h]
  have hst : ∀ p ∈ d.pins, 0 ≤ p.step ∧ p.step < d.steps := fun p hp => (pinIn_iff.1 (V.inn p hp)).1
  have hm : ∀ p ∈ (turnD d q).pins, ∃ r ∈ d.pins, trP d.steps q r = p := fun p h => List.mem_map.1 (hp.mem_iff.1 h)
  have hnd : (turnD d q).pins.Nodup := by
    refine hp.nodup_iff.2 (List.nodup_iff_pairwise_ne.2 ?_)
    rw [List.pairwise_map]
    exact (List.nodup_iff_pairwise_ne.1 (strict_nodup V.pw)).imp_of_mem fun ha hb g e => g (tr_inj (hst _ ha) (hst _ hb) e)
  refine (vd_iff _).2 ⟨by rw [e1]; exact V.s0, by rw [e1]; exact V.s1, by rw [e2]; exact V.r0, by rw [e2]; exact V.r1, by rw [e3]; exact V.nl, by rw [hp.length_eq, List.length_map]; exact V.pl, by rw [e3]; exact V.sorted, by rw [e3]; exact V.notes, strict_of hI hnd, fun p hp => ?_, fun hne => ?_, fun a ha b hb hab hs => ?_⟩
  · obtain ⟨r, hr, rfl⟩ := hm p hp
    have h1 := pinIn_iff.1 (V.inn r hr)
    rw [pinIn_iff, e1, e3]
    exact ⟨tr_in V.s0 h1.1.1, h1.2⟩
  · rw [e1, e2]
    refine V.one fun e => hne ?_
    rw [e] at hp
    exact List.perm_nil.1 hp
  · obtain ⟨r, hr, rfl⟩ := hm a ha
    obtain ⟨t, ht, rfl⟩ := hm b hb
    rw [e1, e2, tr_diff V.s0 (hst r hr).1 (hst t ht).1]
    refine V.apart r hr t ht hab fun e => hs ?_
    rw [tr_step V.s0 (hst r hr).1, tr_step V.s0 (hst t ht).1, e]
theorem turn_back {d : Drum} (h : validDrum d = true) (q : Int) : turnD (turnD d q) (-q) = d := by
  have V := (vd_iff d).1 h
  have hst : ∀ p ∈ d.pins, 0 ≤ p.step ∧ p.step < d.steps := fun p hp => (pinIn_iff.1 (V.inn p hp)).1
  have hp := turn_pins h q
  have e : turnD (turnD d q) (-q) = ⟨d.steps, d.rest, d.notes, sortP ((turnD d q).pins.map (trP d.steps (-q)))⟩ := by
    rw [turnD_of (turn_valid h q)]
    have e1 : (turnD d q).steps = d.steps := by unfold turnD; rw [if_pos h]
    have e2 : (turnD d q).rest = d.rest := by unfold turnD; rw [if_pos h]
    have e3 : (turnD d q).notes = d.notes := by unfold turnD; rw [if_pos h]
    rw [e1, e2, e3]
  rw [e]
  have hq : ((turnD d q).pins.map (trP d.steps (-q))).Perm d.pins := by
    refine (hp.map _).trans ?_
    rw [List.map_map]
    refine List.Perm.of_eq ((List.map_congr_left fun p hp => ?_).trans (List.map_id _))
    exact tr_back (hst p hp)
  rw [sort_perm hq (strict_in V.pw)]

/-! ### A pin added -/
theorem add_facts {d : Drum} {p : Pin} (h : addCodeP d p = 0) : validDrum d = true ∧ pinIn d p = true ∧ findP d.pins p < 0 ∧ d.pins.length ≠ 256 ∧ restOk (lineOf (putD d p).pins p.hammer) d.steps d.rest = true := by
  unfold addCodeP at h
  split at h
  · rename_i h1
    split at h
    · rename_i h2
      split at h
      · rename_i h3
        split at h
        · omega
        · rename_i h4
          split at h
          · rename_i h5
            exact ⟨h1, h2, h3, h4, h5⟩
          · omega
      · omega
    · omega
  · omega
theorem findP_not {l : List Pin} {p : Pin} (h : findP l p < 0) : p ∉ l := fun hm => by
  unfold findP findI at h
  cases e : l.findIdx? fun q => decide (q = p) with
  | none =>
    have := List.findIdx?_eq_none_iff.1 e p hm
    simp at this
  | some i => rw [e] at h; simp only at h; omega
theorem put_valid {d : Drum} {p : Pin} (h : addCodeP d p = 0) : validDrum (putD d p) = true := by
  obtain ⟨h1, h2, h3, h4, h5⟩ := add_facts h
  have V := (vd_iff d).1 h1
  have hpm : (putD d p).pins.Perm (p :: d.pins) := putL_perm d.pins p
  have hI : InP (putD d p).pins := putL_in (strict_in V.pw) p
  have hnot := findP_not h3
  have hnd : (putD d p).pins.Nodup := hpm.nodup_iff.2 (List.nodup_cons.2 ⟨hnot, strict_nodup V.pw⟩)
  have hpw := strict_of hI hnd
  have hin : ∀ r ∈ (putD d p).pins, pinIn (putD d p) r = true := fun r hr => by
    rcases List.mem_cons.1 (hpm.mem_iff.1 hr) with rfl | g
    · exact h2
    · exact V.inn r g
  have hR := (rest_iff (line_rises hpw p.hammer) (line_in hin p.hammer)).1 h5
  have hmem : p ∈ (putD d p).pins := hpm.mem_iff.2 (by simp)
  refine (vd_iff _).2 ⟨V.s0, V.s1, V.r0, V.r1, V.nl, ?_, V.sorted, V.notes, hpw, hin, fun _ => ?_, fun a ha b hb hab hs => ?_⟩
  · rw [hpm.length_eq, List.length_cons]
    have := V.pl
    omega
  · refine hR.1 fun e => ?_
    have : p.step ∈ lineOf (putD d p).pins p.hammer := line_mem.2 ⟨p, hmem, rfl, rfl⟩
    rw [e] at this
    cases this
  · by_cases g : a.hammer = p.hammer
    · exact hR.2 _ (line_mem.2 ⟨a, ha, g, rfl⟩) _ (line_mem.2 ⟨b, hb, hab.symm.trans g, rfl⟩) hs
    · have old : ∀ r ∈ (putD d p).pins, r.hammer ≠ p.hammer → r ∈ d.pins := fun r hr hne => by
        rcases List.mem_cons.1 (hpm.mem_iff.1 hr) with rfl | g
        · exact absurd rfl hne
        · exact g
      exact V.apart a (old a ha g) b (old b hb fun e => g (hab.trans e)) hab hs
theorem findP_put {d : Drum} {p : Pin} (h : p ∉ d.pins) : findP (putD d p).pins p = cutPin d p := by
  have hl : (d.pins.take (cutPin d p)).length = cutPin d p := by rw [List.length_take]; exact Nat.min_eq_left (cutPin_le d p)
  have hi : cutPin d p < (putD d p).pins.length := by
    show _ < (d.pins.take (cutPin d p) ++ p :: d.pins.drop (cutPin d p)).length
    rw [List.length_append, hl, List.length_cons]
    omega
  have hq : (putD d p).pins = d.pins.take (cutPin d p) ++ p :: d.pins.drop (cutPin d p) := rfl
  refine findI_at hi ?_ fun j hj hji => ?_
  · have h1 : (putD d p).pins[cutPin d p]? = some p := by
      rw [hq, List.getElem?_append_right (by omega), hl]
      simp
    rw [List.getElem?_eq_getElem hi] at h1
    simp [Option.some.inj h1]
  · have h1 : (putD d p).pins[j]? = (d.pins.take (cutPin d p))[j]? := by rw [hq, List.getElem?_append_left (by omega)]
    rw [List.getElem?_eq_getElem hj, List.getElem?_eq_getElem (by omega)] at h1
    have : (putD d p).pins[j] ∈ d.pins := by
      rw [Option.some.inj h1]
      exact List.mem_of_mem_take (List.getElem_mem _)
    simp only [decide_eq_false_iff_not]
    exact fun e => h (e ▸ this)
theorem remove_put {d : Drum} {p : Pin} (h : addCodeP d p = 0) : remCode (putD d p) p = 0 ∧ remD (putD d p) p = d := by
  obtain ⟨_, _, h3, _, _⟩ := add_facts h
  have hf := findP_put (findP_not h3)
  have hc : remCode (putD d p) p = 0 := by
    unfold remCode
    rw [if_pos (put_valid h), hf, if_neg (by omega)]
  refine ⟨hc, ?_⟩
  unfold remD
  rw [if_pos hc, hf]
  have hl : (d.pins.take (cutPin d p)).length = cutPin d p := by rw [List.length_take]; exact Nat.min_eq_left (cutPin_le d p)
  have e : (putD d p).pins.take (cutPin d p) ++ (putD d p).pins.drop (cutPin d p + 1) = d.pins := by
    show (d.pins.take (cutPin d p) ++ p :: d.pins.drop (cutPin d p)).take (cutPin d p) ++ (d.pins.take (cutPin d p) ++ p :: d.pins.drop (cutPin d p)).drop (cutPin d p + 1) = d.pins
    rw [List.take_left' hl, List.drop_append, hl, List.drop_of_length_le (by omega)]
    simp
  rw [show ((cutPin d p : Nat) : Int).toNat = cutPin d p by omega, e]
  rfl
theorem put_line {d : Drum} {p : Pin} (h : addCodeP d p = 0) : lineCode (putD d p) p.hammer = 0 ∧ p.step ∈ lineL (putD d p) p.hammer := by
  obtain ⟨_, h2, _, _, _⟩ := add_facts h
  have hh := (pinIn_iff.1 h2).2
  have hc : lineCode (putD d p) p.hammer = 0 := by
    unfold lineCode
    rw [if_pos (put_valid h), if_pos ⟨hh.1, by show p.hammer ≤ (d.notes.length : Int) - 1; omega⟩]
  refine ⟨hc, ?_⟩
  unfold lineL
  rw [if_pos hc]
  exact line_mem.2 ⟨p, (putL_perm d.pins p).mem_iff.2 (by simp), rfl, rfl⟩
theorem busy_facts {d : Drum} (h : validDrum d = true) (hne : d.pins ≠ []) : (0 ≤ (bestS d.pins d.pins.length).1 ∧ (bestS d.pins d.pins.length).1 < d.steps) ∧ 1 ≤ (bestS d.pins d.pins.length).2 := by
  have V := (vd_iff d).1 h
  have hl := List.length_pos_iff.2 hne
  have B := bestS_ok (rising_of ((validDrum_iff d).1 h).pins) d.pins.length (Nat.le_refl _) hl
  obtain ⟨j, hj, e⟩ := B.mem
  refine ⟨?_, ?_⟩
  · rw [← e]
    unfold stepAt
    rw [pinAt_eq hj]
    exact (pinIn_iff.1 (V.inn _ (List.getElem_mem hj))).1
  · refine Nat.le_trans ?_ (B.max 0 hl)
    unfold cntP
    rw [List.take_length]
    refine List.countP_pos_iff.2 ⟨d.pins[0], List.getElem_mem hl, ?_⟩
    unfold stepAt
    rw [pinAt_eq hl]
    simp

/-! ### Read back -/
theorem nv_itoa {v : Int} (h : v.natAbs < 10 ^ 18) : nv (Lib.itoa v) = v := by
  unfold nv
  rw [num_itoa.2 ⟨rfl, h⟩]
  rfl
theorem cut_pin {p : Pin} (h1 : p.step.natAbs < 10 ^ 18) (h2 : p.hammer.natAbs < 10 ^ 18) : cutP (pinW p) = p := by
  have hf : ∀ v : Int, (58 : UInt8) ∉ Lib.itoa v := fun v => itoa_free (by decide) (by decide)
  unfold cutP pinW
  rw [List.append_assoc, List.singleton_append, cut_free (hf _)]
  simp only
  rw [nv_itoa h1, nv_itoa h2]
theorem read_text {d : Drum} (h : validDrum d = true) : drumR (drumTx d) = some d := by
  have V := (vd_iff d).1 h
  have s0 := V.s0
  have s1 := V.s1
  have r0 := V.r0
  have r1 := V.r1
  have n0 : d.steps.natAbs < 10 ^ 18 := by omega
  have n1 : d.rest.natAbs < 10 ^ 18 := by omega
  have hl : listOk d.notes = true := by
    have hn := V.nl
    unfold listOk
    rw [Bool.and_eq_true]
    refine ⟨decide_eq_true (by omega), List.all_eq_true.2 fun x hx => ?_⟩
    obtain ⟨i, hi, rfl⟩ := List.getElem_of_mem hx
    have := V.notes i hi
    simp [noteOkAt, hi] at this
    simp [valB]
    omega
  have hp : ∀ p ∈ d.pins, cutP (pinW p) = p := fun p hp => by
    have h1 := pinIn_iff.1 (V.inn p hp)
    have := V.nl
    exact cut_pin (by omega) (by omega)
  have e : spl 32 (drumT d) = Lib.itoa d.steps :: Lib.itoa d.rest :: listT d.notes :: d.pins.map pinW := spl_join (by simp [drumW]) (drumW_free d)
  have ev : drumV (Lib.itoa d.steps) (Lib.itoa d.rest) (listT d.notes) (d.pins.map pinW) = d := by
    unfold drumV
    rw [nv_itoa n0, nv_itoa n1, listR_of hl, List.map_map, (List.map_congr_left fun p h => hp p h : d.pins.map (cutP ∘ pinW) = d.pins.map id), List.map_id]
    rfl
  have ew : wordsOk (Lib.itoa d.steps) (Lib.itoa d.rest) (listT d.notes) (d.pins.map pinW) = true := by
    refine (drumV_iff e).1 ?_
    rw [ev]
  unfold drumTx
  rw [if_pos h]
  unfold drumR
  rw [e]
  simp only
  rw [if_pos ⟨ew, by rw [ev]; exact h⟩, ev]
end Go.Proofs.YtoeklljhjhidbaaGreatDoor
