/- Contracts: melts that are possible, bells whose metal is traced. No condition. -/
import Derived.Test.YtcjpfjklhhclmaaGreatDoorFm
import Derived.Test.YtcjpfjklhhclmaaGreatDoorHg
namespace Go.Proofs.YtcjpfjklhhclmaaGreatDoor
open Go Go.Ab
set_option maxRecDepth 100000

/-! ### Ingots and melts found by their ids -/
/-- Ids rise strictly. -/
def Rising {α : Type} (id : α → List UInt8) (l : List α) : Prop := ∀ i j (hi : i < l.length) (hj : j < l.length), i < j → id l[i] < id l[j]
theorem rising_order {α : Type} {id : α → List UInt8} {l : List α} (h : Rising id l) (s : List UInt8) : InOrder l fun x => cmpS (id x) s := fun i j hi hj hij hle => by
  have h1 := h i j hi hj hij
  simp only at hle ⊢
  rw [cmpS_neg, bytesLess_lt]
  by_cases e : id l[j] = s
  · rw [e] at h1; simpa using h1
  · have h2 : cmpS (id l[j]) s < 0 := by
      have := mt cmpS_zero.1 e
      omega
    rw [cmpS_neg, bytesLess_lt] at h2
    simpa using List.lt_trans h1 (by simpa using h2)
theorem rising_of_step {α : Type} {id : α → List UInt8} {l : List α} (step : ∀ k (hk : k + 1 < l.length), id l[k] < id l[k + 1]) : Rising id l := by
  intro i j hi hj hij
  induction j with
  | zero => omega
  | succ j ih =>
    by_cases e : i = j
    · subst e; exact step i hj
    · exact List.lt_trans (ih (by omega) (by omega)) (step j hj)
theorem rising_up {α : Type} {ok : α → Bool} {lt : α → α → Bool} {id : α → List UInt8} (hlt : ∀ a b, lt a b = Op.bytesLess (id a) (id b)) {l : List α} (h : upOk ok lt l = true) : Rising id l :=
  rising_of_step fun k hk => by
    have := upOk_step h hk (by omega)
    rw [hlt, bytesLess_lt] at this
    simpa using this
theorem ingots_rise {l : List Ingot} (h : ingotsOk l = true) : Rising Ingot.id l := by
  simp only [ingotsOk, Bool.and_eq_true] at h
  exact rising_up (fun _ _ => rfl) h.1
theorem melts_up {l : List Melt} (h : meltsOk l = true) : upOk meltOk ltMelt l = true := by
  simp only [meltsOk, Bool.and_eq_true, List.all_eq_true, meltAt] at h
  simp only [upOk, List.all_eq_true]
  exact fun i hi => (h.1 i hi).1
theorem melts_rise {l : List Melt} (h : meltsOk l = true) : Rising Melt.id l := rising_up (fun _ _ => rfl) (melts_up h)
/-- The element with an id: where it stands, or -1. -/
def ixOf {α : Type} (id : α → List UInt8) (l : List α) (s : List UInt8) : Int := findI (fun x => decide (id x = s)) l
def hasId {α : Type} (id : α → List UInt8) (l : List α) (s : List UInt8) : Bool := l.any fun x => decide (id x = s)
theorem ix_findG {α : Type} (id : α → List UInt8) (l : List α) (s : List UInt8) : findG l (fun x => cmpS (id x) s) = ixOf id l s := by
  unfold findG ixOf
  congr 1
  funext x
  simp [cmpS_zero]
theorem ix_has {α : Type} (id : α → List UInt8) (l : List α) (s : List UInt8) : decide (0 ≤ ixOf id l s) = hasId id l s := findI_any
theorem found_has {α : Type} {id : α → List UInt8} {l : List α} (h : Rising id l) (s : List UInt8) : foundG l (fun x => cmpS (id x) s) = hasId id l s := by
  have h1 := findG_eq (rising_order h s)
  rw [ix_findG] at h1
  rw [← ix_has, h1]
  cases foundG l (fun x => cmpS (id x) s) <;> simp
theorem cut_ix {α : Type} {id : α → List UInt8} {l : List α} (h : Rising id l) {s : List UInt8} (hh : hasId id l s = true) : ((cutG l fun x => cmpS (id x) s : Nat) : Int) = ixOf id l s := by
  have h1 := findG_eq (rising_order h s)
  rw [ix_findG, found_has h, hh, if_pos rfl] at h1
  exact h1.symm
theorem has_get {α : Type} {id : α → List UInt8} {l : List α} {s : List UInt8} (hh : hasId id l s = true) : ∃ i : Nat, ixOf id l s = i ∧ ∃ hi : i < l.length, id l[i] = s := by
  unfold ixOf findI
  cases e : l.findIdx? (fun x => decide (id x = s)) with
  | none =>
    exfalso
    obtain ⟨x, h1, h2⟩ := List.any_eq_true.1 hh
    have := List.findIdx?_eq_none_iff.1 e x h1
    simp [this] at h2
  | some i =>
    obtain ⟨h1, h2, _⟩ := List.findIdx?_eq_some_iff_getElem.1 e
    exact ⟨i, rfl, h1, by simpa using h2⟩
theorem rising_inj {α : Type} {id : α → List UInt8} {l : List α} (h : Rising id l) {i j : Nat} (hi : i < l.length) (hj : j < l.length) (e : id l[i] = id l[j]) : i = j := by
  rcases Nat.lt_trichotomy i j with h1 | h1 | h1
  · have := h i j hi hj h1
    rw [e] at this
    exact absurd this (List.lt_irrefl _)
  · exact h1
  · have := h j i hj hi h1
    rw [e] at this
    exact absurd this (List.lt_irrefl _)

theorem c_ingotAt1 (x : Ingot) (s : List UInt8) : HFn Tryz.prog 372 [.agg x.cells, .str s] [] (.int .i64 (cmpS x.id s)) [] := by
  refine hfn_intro hm Tryz.func372 (by kernel_rfl) rfl (by kernel_rfl) rfl ret0_ok ?_
  simp [Ingot.cells]
  refine CallZ.use0 (c_CompareStr _ _) rfl rfl ?_
  simp
theorem c_meltAt1 (x : Melt) (s : List UInt8) : HFn Tryz.prog 348 [.agg x.cells, .str s] [] (.int .i64 (cmpS x.id s)) [] := by
  refine hfn_intro hm Tryz.func348 (by kernel_rfl) rfl (by kernel_rfl) rfl ret0_ok ?_
  simp [Melt.cells]
  refine CallZ.use0 (c_CompareStr _ _) rfl rfl ?_
  simp

theorem c_BSearchIngot (l : List Ingot) (s : List UInt8) (c : Nat → Int) (p : Nat) (hl : l.length ≤ 1048576) (hp : Cut l.length c p) (hc : ∀ i (h : i < l.length), c i = cmpS l[i].id s) :
    HFn Tryz.prog 371 [.sl 5 (Ingot.rows l), .str s, .fn 372 []] [] (.tup [.int .i64 p, .bool (decide (p < l.length) && decide (c p = 0))]) [] := by
  refine hfn_intro hm Tryz.func371 (by kernel_rfl) rfl (by kernel_rfl) rfl ret0_ok ?_
  simp
  refine loop_rule hm (ι := {x : Nat × Nat // x.1 ≤ p ∧ p ≤ x.2 ∧ x.2 ≤ l.length}) (fun x => ⟨[(0, .sl 5 (Ingot.rows l)), (1, .str s), (2, .fn 372 []), (8, .int .i64 l.length), (9, .int .i64 x.1.1), (10, .int .i64 x.1.2)], []⟩) (fun x => x.1.2 - x.1.1) (by kernel_rfl) ⟨(0, l.length), by have := hp.le; omega⟩ ?_ ?_
  · refine Wk.weak (ρ := []) (φ := []) ?_
    simp [Ingot.rows]
  · rintro ⟨⟨i, j⟩, h1, h2, h3⟩
    simp only at h1 h2 h3 ⊢
    by_cases hij : i < j
    · obtain ⟨k, hk⟩ : ∃ k, k = (i + j) / 2 := ⟨_, rfl⟩
      have hmid := mid_eq i j (by omega)
      rw [← hk] at hmid
      have hm1 : k < l.length := by omega
      have hw1 : IntKind.i64.wrap ((k : Int) + 1) = ((k + 1 : Nat) : Int) := by rw [w64 (by omega) (by omega)]; omega
      have kc := c_ingotAt1 l[k] s
      simp only [Ingot.cells] at kc
      simp [hmid, hij, Ingot.rows, Ingot.cells, hm1]
      refine CallZ.use0 kc rfl rfl ?_
      have c1 := hp.lo k
      have c2 := hp.hi k
      rw [hc k hm1] at c1 c2
      simp
      refine ⟨fun h => ?_, fun h => ?_⟩
      · refine ⟨k + 1, j, Wk.weak (ρ := []) (φ := []) ?_, by omega, by omega⟩
        simp [hw1]
      · refine ⟨i, k, Wk.weak (ρ := []) (φ := []) ?_, by omega, by omega⟩
        simp
    · obtain rfl : i = p := by omega
      obtain rfl : i = j := by omega
      simp
      by_cases hip : i < l.length
      · have kc := c_ingotAt1 l[i] s
        simp only [Ingot.cells] at kc
        simp [Ingot.rows, Ingot.cells, hip]
        refine CallY.use (res := .int .i64 (cmpS l[i].id s)) (fun _ => ⟨rfl, kc⟩) rfl rfl ?_
        simp [hc i hip]
      · simp [Ingot.rows, hip]
        refine CallY.use (res := .int .i64 0) (fun h => absurd h (by simp)) rfl rfl ?_
        simp

theorem c_BSearchMelt (l : List Melt) (s : List UInt8) (c : Nat → Int) (p : Nat) (hl : l.length ≤ 1048576) (hp : Cut l.length c p) (hc : ∀ i (h : i < l.length), c i = cmpS l[i].id s) :
    HFn Tryz.prog 347 [.sl 3 (Melt.rows l), .str s, .fn 348 []] [] (.tup [.int .i64 p, .bool (decide (p < l.length) && decide (c p = 0))]) [] := by
  refine hfn_intro hm Tryz.func347 (by kernel_rfl) rfl (by kernel_rfl) rfl ret0_ok ?_
  simp
  refine loop_rule hm (ι := {x : Nat × Nat // x.1 ≤ p ∧ p ≤ x.2 ∧ x.2 ≤ l.length}) (fun x => ⟨[(0, .sl 3 (Melt.rows l)), (1, .str s), (2, .fn 348 []), (8, .int .i64 l.length), (9, .int .i64 x.1.1), (10, .int .i64 x.1.2)], []⟩) (fun x => x.1.2 - x.1.1) (by kernel_rfl) ⟨(0, l.length), by have := hp.le; omega⟩ ?_ ?_
  · refine Wk.weak (ρ := []) (φ := []) ?_
    simp [Melt.rows]
  · rintro ⟨⟨i, j⟩, h1, h2, h3⟩
    simp only at h1 h2 h3 ⊢
    by_cases hij : i < j
    · obtain ⟨k, hk⟩ : ∃ k, k = (i + j) / 2 := ⟨_, rfl⟩
      have hmid := mid_eq i j (by omega)
      rw [← hk] at hmid
      have hm1 : k < l.length := by omega
      have hw1 : IntKind.i64.wrap ((k : Int) + 1) = ((k + 1 : Nat) : Int) := by rw [w64 (by omega) (by omega)]; omega
      have kc := c_meltAt1 l[k] s
      simp only [Melt.cells] at kc
      simp [hmid, hij, Melt.rows, Melt.cells, hm1]
      refine CallZ.use0 kc rfl rfl ?_
      have c1 := hp.lo k
      have c2 := hp.hi k
      rw [hc k hm1] at c1 c2
      simp
      refine ⟨fun h => ?_, fun h => ?_⟩
      · refine ⟨k + 1, j, Wk.weak (ρ := []) (φ := []) ?_, by omega, by omega⟩
        simp [hw1]
      · refine ⟨i, k, Wk.weak (ρ := []) (φ := []) ?_, by omega, by omega⟩
        simp
    · obtain rfl : i = p := by omega
      obtain rfl : i = j := by omega
      simp
      by_cases hip : i < l.length
      · have kc := c_meltAt1 l[i] s
        simp only [Melt.cells] at kc
        simp [Melt.rows, Melt.cells, hip]
        refine CallY.use (res := .int .i64 (cmpS l[i].id s)) (fun _ => ⟨rfl, kc⟩) rfl rfl ?_
        simp [hc i hip]
      · simp [Melt.rows, hip]
        refine CallY.use (res := .int .i64 0) (fun h => absurd h (by simp)) rfl rfl ?_
        simp

theorem c_ingotAt (l : List Ingot) (s : List UInt8) (hl : l.length ≤ 1048576) (h : Rising Ingot.id l) :
    HFn Tryz.prog 363 [.sl 5 (Ingot.rows l), .str s] [] (.tup [.int .i64 (cutG l fun x => cmpS x.id s : Nat), .bool (hasId Ingot.id l s)]) [] := by
  have k := c_BSearchIngot l s (cAt l fun x => cmpS x.id s) (cutG l fun x => cmpS x.id s) hl (cutG_cut (rising_order h s)) (fun i hi => cAt_eq hi)
  rw [← foundG_at, found_has h] at k
  refine hfn_intro hm Tryz.func363 (by kernel_rfl) rfl (by kernel_rfl) rfl ret0_ok ?_
  simp
  refine CallZ.use0 k rfl rfl ?_
  simp
theorem c_meltAt (l : List Melt) (s : List UInt8) (hl : l.length ≤ 1048576) (h : Rising Melt.id l) :
    HFn Tryz.prog 322 [.sl 3 (Melt.rows l), .str s] [] (.tup [.int .i64 (cutG l fun x => cmpS x.id s : Nat), .bool (hasId Melt.id l s)]) [] := by
  have k := c_BSearchMelt l s (cAt l fun x => cmpS x.id s) (cutG l fun x => cmpS x.id s) hl (cutG_cut (rising_order h s)) (fun i hi => cAt_eq hi)
  rw [← foundG_at, found_has h] at k
  refine hfn_intro hm Tryz.func322 (by kernel_rfl) rfl (by kernel_rfl) rfl ret0_ok ?_
  simp
  refine CallZ.use0 k rfl rfl ?_
  simp

/-! ### The ingots of a melt -/
/-- The ingots of which names speak: all are known; where they stand; their mass. -/
def knownN (l : List Ingot) (ns : List (List UInt8)) : Bool := ns.all (hasId Ingot.id l)
def ixN (l : List Ingot) (ns : List (List UInt8)) : List Int := ns.map (ixOf Ingot.id l)
def choN (l : List Ingot) (ns : List (List UInt8)) : List Int := if knownN l ns = true then ixN l ns else []
def massAt (l : List Ingot) (k : Int) : Int := match l[k.toNat]? with
  | some x => x.mass
  | none => 0
def sumA (l : List Ingot) (ks : List Int) (i : Nat) : Int := (ks.take i).foldl (fun s k => IntKind.i64.wrap (s + massAt l k)) 0
theorem sumA_succ (l : List Ingot) (ks : List Int) {i : Nat} (hi : i < ks.length) : sumA l ks (i + 1) = IntKind.i64.wrap (sumA l ks i + massAt l ks[i]) := by
  unfold sumA
  rw [← List.take_append_getElem hi, List.foldl_append]
  rfl
/-- The mass of a melt's metal. -/
def metalN (l : List Ingot) (ns : List (List UInt8)) : Int := sumA l (choN l ns) (choN l ns).length
theorem cho_mem {l : List Ingot} {ns : List (List UInt8)} {k : Int} (h : k ∈ choN l ns) : 0 ≤ k ∧ k < l.length := by
  unfold choN at h
  split at h
  · rename_i hk
    obtain ⟨s, hs, rfl⟩ := List.mem_map.1 h
    obtain ⟨i, e, hi, _⟩ := has_get (List.all_eq_true.1 hk s hs)
    rw [e]
    omega
  · cases h
theorem cho_len (l : List Ingot) (ns : List (List UInt8)) : (choN l ns).length ≤ ns.length := by
  unfold choN
  split
  · simp [ixN]
  · simp
theorem sumA_bound {l : List Ingot} (hl : ∀ x ∈ l, 0 ≤ x.mass ∧ x.mass ≤ 20000000) (ks : List Int) (hk : ks.length ≤ 16) (i : Nat) (hi : i ≤ ks.length) : 0 ≤ sumA l ks i ∧ sumA l ks i ≤ 20000000 * i := by
  induction i with
  | zero => simp [sumA]
  | succ i ih =>
    have h1 := ih (by omega)
    rw [sumA_succ l ks (by omega)]
    have h2 : 0 ≤ massAt l ks[i] ∧ massAt l ks[i] ≤ 20000000 := by
      unfold massAt
      split
      · rename_i x e
        exact hl x (List.mem_of_getElem? e)
      · omega
    rw [w64 (by omega) (by omega)]
    omega
theorem metal_bound {l : List Ingot} (hl : ∀ x ∈ l, 0 ≤ x.mass ∧ x.mass ≤ 20000000) {ns : List (List UInt8)} (hn : ns.length ≤ 16) : 0 ≤ metalN l ns ∧ metalN l ns ≤ 320000000 := by
  have h1 := cho_len l ns
  have := sumA_bound hl (choN l ns) (by omega) _ (Nat.le_refl _)
  unfold metalN
  omega
/-- The most that a melt can weigh. -/
def mostN (l : List Ingot) (ns : List (List UInt8)) : Int := metalN l ns - nearV (metalN l ns * 20000) 1000000

theorem ixN_take (l : List Ingot) (ns : List (List UInt8)) {i : Nat} (hi : i < ns.length) : (ixN l ns).take (i + 1) = (ixN l ns).take i ++ [ixOf Ingot.id l ns[i]] := by
  rw [← List.take_append_getElem (show i < (ixN l ns).length by simpa [ixN] using hi)]
  simp [ixN]
theorem ixN_len (l : List Ingot) (ns : List (List UInt8)) : (ixN l ns).length = ns.length := by simp [ixN]
theorem known_false {l : List Ingot} {ns : List (List UInt8)} {i : Nat} (hi : i < ns.length) (h : hasId Ingot.id l ns[i] = false) : knownN l ns = false := by
  rw [knownN, List.all_eq_false]
  exact ⟨_, List.getElem_mem hi, by simp [h]⟩
theorem known_true {l : List Ingot} {ns : List (List UInt8)} (h : ∀ j (hj : j < ns.length), j < ns.length → hasId Ingot.id l ns[j] = true) : knownN l ns = true := by
  rw [knownN, List.all_eq_true]
  intro s hs
  obtain ⟨j, hj, rfl⟩ := List.getElem_of_mem hs
  exact h j hj hj

set_option maxHeartbeats 1000000 in
theorem c_choiceOf (l : List Ingot) (x : Melt) (hl : l.length ≤ 1048576) (hx : x.ingots.length ≤ 1048576) (h : Rising Ingot.id l) :
    HFn Tryz.prog 345 [.sl 5 (Ingot.rows l), .agg x.cells] [] (.tup [.sf 0 1, .bool (knownN l x.ingots)]) [some (.arr 1 (intRows (choN l x.ingots)))] := by
  refine hfn_intro hm Tryz.func345 (by kernel_rfl) rfl (by kernel_rfl) rfl (fun _ _ h => h) ?_
  simp [Melt.cells, strRows_len]
  refine loop_upto hm x.ingots.length (fun i => ⟨[(0, .sl 5 (Ingot.rows l)), (6, .sf 0 1), (12, .sl 1 (strRows x.ingots)), (13, .int .i64 x.ingots.length), (14, .int .i64 i)], [some (.arr 1 (intRows ((ixN l x.ingots).take i)))]⟩) (fun i => ∀ j (h : j < x.ingots.length), j < i → hasId Ingot.id l x.ingots[j] = true) (by kernel_rfl) ?_ (by simp) (fun i hi hI => ?_) (fun hI => ?_)
  · refine (weak_nil (t := 6) (z := 1) rfl).trans (Wk.weak (ρ := [1]) (φ := []) ?_)
    simp [intRows]
  · have w1 : IntKind.i64.wrap ((i : Int) + 1) = (i : Int) + 1 := w64 (by omega) (by omega)
    have hlen : ((ixN l x.ingots).take i).length = i := by rw [List.length_take, ixN_len]; omega
    rw [ixN_take l x.ingots hi]
    generalize (ixN l x.ingots).take i = T at hlen ⊢
    simp [strRows_len, strRows_get, hi]
    refine CallZ.use0 (c_ingotAt l x.ingots[i] hl h) rfl rfl ?_
    simp [intRows_len]
    refine ⟨fun hn => ?_, fun hh => ?_⟩
    · have hk := known_false hi hn
      refine (weak_nilT (t := 0) 0 1 rfl rfl).trans (Wk.weak (ρ := [1]) (φ := []) ?_)
      simp [choN, hk, intRows]
    · rw [cut_ix h hh]
      refine ⟨by simp [rowsOne], by omega, by omega, ⟨fun j hj hji => ?_, Wk.weak (ρ := [0]) (φ := []) ?_⟩⟩
      · by_cases e : j = i
        · subst e; exact hh
        · exact hI j hj (by omega)
      · simp [w1, intRows_app]
        rfl
  · simp
    have hk := known_true hI
    refine Wk.weak (ρ := [0]) (φ := []) ?_
    simp [hk, choN, ← ixN_len l x.ingots]

theorem massAt_get (l : List Ingot) {k : Int} (h0 : 0 ≤ k) (h1 : k < l.length) : massAt l k = (l[k.toNat]'(by omega)).mass := by
  have e := List.getElem?_eq_getElem (show k.toNat < l.length by omega)
  simp [massAt, e]
set_option maxHeartbeats 1000000 in
theorem c_sums (l : List Ingot) (ks : List Int) (_hl : l.length ≤ 1048576) (hk : ks.length ≤ 1048576) (hin : ∀ k ∈ ks, 0 ≤ k ∧ k < l.length) :
    ∃ a b : Int, HFn Tryz.prog 364 [.sl 5 (Ingot.rows l), .sl 1 (intRows ks)] [] (.tup [.int .i64 (sumA l ks ks.length), .int .i64 a, .int .i64 b]) [] := by
  let t : Nat → Int := fun i => (ks.take i).foldl (fun s k => IntKind.i64.wrap (s + IntKind.i64.wrap (massAt l k * (match l[k.toNat]? with | some x => x.alloyTin | none => 0)))) 0
  let o : Nat → Int := fun i => (ks.take i).foldl (fun s k => IntKind.i64.wrap (s + IntKind.i64.wrap (massAt l k * (match l[k.toNat]? with | some x => x.alloyOther | none => 0)))) 0
  refine ⟨t ks.length, o ks.length, ?_⟩
  refine hfn_intro hm Tryz.func364 (by kernel_rfl) rfl (by kernel_rfl) rfl ret0_ok ?_
  simp [intRows_len]
  refine loop_upto hm ks.length (fun i => ⟨[(0, .sl 5 (Ingot.rows l)), (7, .int .i64 (sumA l ks i)), (8, .int .i64 (t i)), (9, .int .i64 (o i)), (13, .sl 1 (intRows ks)), (14, .int .i64 ks.length), (15, .int .i64 i)], []⟩) (fun _ => True) (by kernel_rfl) ?_ trivial (fun i hi _ => ?_) (fun _ => ?_)
  · exact Wk.weak (ρ := []) (φ := []) (by simp [sumA, t, o])
  · have w1 : IntKind.i64.wrap ((i : Int) + 1) = (i : Int) + 1 := w64 (by omega) (by omega)
    obtain ⟨h0, h1⟩ := hin ks[i] (List.getElem_mem hi)
    have hn : ks[i].toNat < l.length := by omega
    have em := massAt_get l h0 h1
    have ts : t (i + 1) = IntKind.i64.wrap (t i + IntKind.i64.wrap (l[ks[i].toNat].mass * l[ks[i].toNat].alloyTin)) := by
      simp only [t]
      rw [← List.take_append_getElem hi, List.foldl_append]
      simp [em, hn]
    have os : o (i + 1) = IntKind.i64.wrap (o i + IntKind.i64.wrap (l[ks[i].toNat].mass * l[ks[i].toNat].alloyOther)) := by
      simp only [o]
      rw [← List.take_append_getElem hi, List.foldl_append]
      simp [em, hn]
    rw [sumA_succ l ks hi, ts, os, em]
    generalize t i = ti
    generalize o i = oi
    simp (maxSteps := 2000000) [intRows_len, intRows_get, hi, Ingot.rows, Ingot.cells, h0, h1, hn]
    refine Wk.weak (ρ := []) (φ := []) ?_
    simp [w1]
  · simp

theorem c_metalOf (l : List Ingot) (x : Melt) (hl : l.length ≤ 1048576) (hx : x.ingots.length ≤ 1048576) (h : Rising Ingot.id l) :
    HFn Tryz.prog 346 [.sl 5 (Ingot.rows l), .agg x.cells] [] (.int .i64 (metalN l x.ingots)) [] := by
  have kc := c_choiceOf l x hl hx h
  obtain ⟨a, b, ks⟩ := c_sums l (choN l x.ingots) hl (Nat.le_trans (cho_len _ _) hx) (fun k hk => cho_mem hk)
  simp only [Melt.cells] at kc
  refine hfn_intro hm Tryz.func346 (by kernel_rfl) rfl (by kernel_rfl) rfl ret0_ok ?_
  simp [Melt.cells]
  refine CallZ.use kc rfl (.inr ⟨flat_intRows _, trivial⟩) rfl rfl ?_
  simp
  refine CallZ.use0 ks rfl rfl ?_
  simp [metalN]

/-- What is known of ingots. -/
structure IngOk (l : List Ingot) : Prop where
  len : l.length ≤ 1048576
  rise : Rising Ingot.id l
  mass : ∀ x ∈ l, 0 ≤ x.mass ∧ x.mass ≤ 20000000
theorem ingOk_of {l : List Ingot} (h : ingotsOk l = true) : IngOk l := by
  have hr := ingots_rise h
  simp only [ingotsOk, Bool.and_eq_true, decide_eq_true_eq] at h
  refine ⟨by omega, hr, fun x hx => ?_⟩
  have := upOk_mem h.1 x hx
  simp only [ingotOk, Bool.and_eq_true, decide_eq_true_eq] at this
  omega
theorem meltOk_len {x : Melt} (h : meltOk x = true) : x.ingots.length ≤ 16 := by
  simp only [meltOk, Bool.and_eq_true, decide_eq_true_eq] at h
  omega
theorem meltOk_mass {x : Melt} (h : meltOk x = true) : 1 ≤ x.mass ∧ x.mass ≤ 320000000 := by
  simp only [meltOk, Bool.and_eq_true, decide_eq_true_eq] at h
  omega
theorem c_mostFrom (l : List Ingot) (x : Melt) (hl : IngOk l) (hx : x.ingots.length ≤ 16) :
    HFn Tryz.prog 321 [.sl 5 (Ingot.rows l), .agg x.cells] [] (.int .i64 (mostN l x.ingots)) [] := by
  have km := c_metalOf l x hl.len (by omega) hl.rise
  obtain ⟨b1, b2⟩ := metal_bound hl.mass hx
  have w1 : IntKind.i64.wrap (metalN l x.ingots * 20000) = metalN l x.ingots * 20000 := w64 (by omega) (by omega)
  have kn := c_nearest (metalN l x.ingots * 20000) 1000000 ⟨by omega, by omega⟩ (by omega) (by omega)
  have hv : nearV (metalN l x.ingots * 20000) 1000000 = (2 * (metalN l x.ingots * 20000) + 1000000) / (2 * 1000000) := by
    unfold nearV
    rw [if_neg (by omega), Int.tdiv_eq_ediv_of_nonneg (by omega)]
  simp only [Melt.cells] at km
  refine hfn_intro hm Tryz.func321 (by kernel_rfl) rfl (by kernel_rfl) rfl ret0_ok ?_
  simp [Melt.cells]
  refine CallZ.use0 km rfl rfl ?_
  simp [w1]
  refine CallZ.use0 kn rfl rfl ?_
  simp [mostN]
  exact w64 (by omega) (by omega)
theorem c_exist1 (l : List Ingot) (x : Melt) (rows : List (List PV)) (i0 : Nat) (hr : rows[i0]? = some [.sl 5 (Ingot.rows l)]) (hl : IngOk l) (hx : x.ingots.length ≤ 1048576) :
    HFn Tryz.prog 344 [.agg x.cells, .pe 1 rows i0 0] [] (.bool (!knownN l x.ingots)) [] := by
  have hi : i0 < rows.length := (List.getElem?_eq_some_iff.1 hr).1
  have hx0 : rows[i0] = [.sl 5 (Ingot.rows l)] := (List.getElem?_eq_some_iff.1 hr).2
  have kc := c_choiceOf l x hl.len hx hl.rise
  simp only [Melt.cells] at kc
  refine hfn_intro hm Tryz.func344 (by kernel_rfl) rfl (by kernel_rfl) rfl ret0_ok ?_
  simp [Melt.cells, hi, hx0]
  refine CallZ.use kc rfl (.inr ⟨flat_intRows _, trivial⟩) rfl rfl ?_
  simp
theorem c_possible1 (l : List Ingot) (x : Melt) (rows : List (List PV)) (i0 : Nat) (hr : rows[i0]? = some [.sl 5 (Ingot.rows l)]) (hl : IngOk l) (hx : x.ingots.length ≤ 16) :
    HFn Tryz.prog 320 [.agg x.cells, .pe 1 rows i0 0] [] (.bool (decide (mostN l x.ingots < x.mass))) [] := by
  have hi : i0 < rows.length := (List.getElem?_eq_some_iff.1 hr).1
  have hx0 : rows[i0] = [.sl 5 (Ingot.rows l)] := (List.getElem?_eq_some_iff.1 hr).2
  have kc := c_mostFrom l x hl hx
  simp only [Melt.cells] at kc
  refine hfn_intro hm Tryz.func320 (by kernel_rfl) rfl (by kernel_rfl) rfl ret0_ok ?_
  simp [Melt.cells, hi, hx0]
  refine CallZ.use0 kc rfl rfl ?_
  simp
def existN (l : List Ingot) (ms : List Melt) : Bool := !ms.any fun x => !knownN l x.ingots
def possibleN (l : List Ingot) (ms : List Melt) : Bool := existN l ms && !ms.any fun x => decide (mostN l x.ingots < x.mass)
/-- What is known of melts. -/
structure MelOk (ms : List Melt) : Prop where
  len : ms.length ≤ 12
  rise : Rising Melt.id ms
  ing : ∀ x ∈ ms, x.ingots.length ≤ 16
  mass : ∀ x ∈ ms, 1 ≤ x.mass ∧ x.mass ≤ 320000000
theorem melOk_of {ms : List Melt} (h : meltsOk ms = true) : MelOk ms := by
  have hu := upOk_mem (melts_up h)
  refine ⟨?_, melts_rise h, fun x hx => meltOk_len (hu x hx), fun x hx => meltOk_mass (hu x hx)⟩
  simp only [meltsOk, Bool.and_eq_true, decide_eq_true_eq] at h
  omega
theorem c_exist (l : List Ingot) (ms : List Melt) (hl : IngOk l) (hs : MelOk ms) :
    HFn Tryz.prog 319 [.sl 5 (Ingot.rows l), .sl 3 (Melt.rows ms)] [] (.bool (existN l ms)) [] := by
  have := hs.len
  refine hfn_intro hm Tryz.func319 (by kernel_rfl) rfl (by kernel_rfl) rfl ret0_ok ?_
  have k := c_ContainsFuncMelt1 344 1 [[.sl 5 (Ingot.rows l)]] 0 0 (fun x => !knownN l x.ingots) ms (fun x hx => c_exist1 l x _ 0 rfl hl (by have := hs.ing x hx; omega)) (by omega)
  simp
  refine CallZ.use0 k rfl rfl ?_
  simp only [put]
  simp [existN, -List.any_eq_true, -Bool.not_eq_true]
theorem c_possible (l : List Ingot) (ms : List Melt) (hl : IngOk l) (hs : MelOk ms) :
    HFn Tryz.prog 274 [.sl 5 (Ingot.rows l), .sl 3 (Melt.rows ms)] [] (.bool (possibleN l ms)) [] := by
  have := hs.len
  refine hfn_intro hm Tryz.func274 (by kernel_rfl) rfl (by kernel_rfl) rfl ret0_ok ?_
  have k := c_ContainsFuncMelt1 320 1 [[.sl 5 (Ingot.rows l)]] 0 0 (fun x => decide (mostN l x.ingots < x.mass)) ms (fun x hx => c_possible1 l x _ 0 rfl hl (hs.ing x hx)) (by omega)
  simp
  refine CallZ.use0 (c_exist l ms hl hs) rfl rfl ?_
  simp
  refine CallY.use (fun _ => ⟨rfl, k⟩) rfl rfl ?_
  simp only [put]
  simp [possibleN, -List.any_eq_true, -Bool.not_eq_true]
end Go.Proofs.YtcjpfjklhhclmaaGreatDoor
