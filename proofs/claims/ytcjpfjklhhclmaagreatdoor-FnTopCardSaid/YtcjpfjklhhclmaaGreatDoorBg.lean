/- Contracts: bells whose metal is traced. No condition. -/
import Derived.Test.YtcjpfjklhhclmaaGreatDoorBd
namespace Go.Proofs.YtcjpfjklhhclmaaGreatDoor
open Go Go.Ab
set_option maxRecDepth 100000

def haveB (ms : List Melt) (b : Bell) : Bool := b.shares.all fun s => hasId Melt.id ms s.melt
def haveL (ms : List Melt) (bs : List Bell) : Bool := bs.all (haveB ms)
/-- What shares take from a melt. -/
def takenS (s : List UInt8) : List Share → Int
  | [] => 0
  | x :: r => (if x.melt = s then x.mass else 0) + takenS s r
def takenB (s : List UInt8) : List Bell → Int
  | [] => 0
  | b :: r => takenS s b.shares + takenB s r
theorem takenS_app (s : List UInt8) (a b : List Share) : takenS s (a ++ b) = takenS s a + takenS s b := by
  induction a with
  | nil => simp [takenS]
  | cons x r ih => simp [takenS, ih]; omega
theorem takenB_app (s : List UInt8) (a b : List Bell) : takenB s (a ++ b) = takenB s a + takenB s b := by
  induction a with
  | nil => simp [takenB]
  | cons x r ih => simp [takenB, ih]; omega
/-- What is known of bells. -/
structure BelOk (bs : List Bell) : Prop where
  len : bs.length ≤ 24
  shr : ∀ b ∈ bs, b.shares.length ≤ 4
  mass : ∀ b ∈ bs, ∀ s ∈ b.shares, 1 ≤ s.mass ∧ s.mass ≤ 20000000
theorem belOk_of {bs : List Bell} (h : bellsOk bs = true) : BelOk bs := by
  simp only [bellsOk, Bool.and_eq_true, decide_eq_true_eq] at h
  have hu := upOk_mem h.1
  refine ⟨by omega, fun b hb => ?_, fun b hb s hs => ?_⟩
  · have := hu b hb
    simp only [bellOk, Bool.and_eq_true, decide_eq_true_eq] at this
    omega
  · have := hu b hb
    simp only [bellOk, Bool.and_eq_true] at this
    have := upOk_mem this.1 s hs
    simp only [shareOk, Bool.and_eq_true, decide_eq_true_eq] at this
    omega
theorem takenS_bound (s : List UInt8) (l : List Share) (h : ∀ x ∈ l, 1 ≤ x.mass ∧ x.mass ≤ 20000000) : 0 ≤ takenS s l ∧ takenS s l ≤ 20000000 * l.length := by
  induction l with
  | nil => simp [takenS]
  | cons x r ih =>
    have h1 := h x List.mem_cons_self
    have h2 := ih fun y hy => h y (List.mem_cons_of_mem _ hy)
    simp only [takenS, List.length_cons]
    split <;> omega
theorem takenB_bound (s : List UInt8) (l : List Bell) (h : ∀ b ∈ l, b.shares.length ≤ 4) (hm : ∀ b ∈ l, ∀ x ∈ b.shares, 1 ≤ x.mass ∧ x.mass ≤ 20000000) : 0 ≤ takenB s l ∧ takenB s l ≤ 80000000 * l.length := by
  induction l with
  | nil => simp [takenB]
  | cons b r ih =>
    have h1 := h b List.mem_cons_self
    have h2 := takenS_bound s b.shares (hm b List.mem_cons_self)
    have h3 := ih (fun y hy => h y (List.mem_cons_of_mem _ hy)) (fun y hy => hm y (List.mem_cons_of_mem _ hy))
    simp only [takenB, List.length_cons]
    omega
theorem takenB_step (s : List UInt8) (l : List Bell) {i : Nat} (hi : i < l.length) : takenB s (l.take (i + 1)) = takenB s (l.take i) + takenS s l[i].shares := by
  rw [← List.take_append_getElem hi, takenB_app]
  simp [takenB]
theorem takenS_step (s : List UInt8) (l : List Share) {i : Nat} (hi : i < l.length) : takenS s (l.take (i + 1)) = takenS s (l.take i) + (if l[i].melt = s then l[i].mass else 0) := by
  rw [← List.take_append_getElem hi, takenS_app]
  simp [takenS]
theorem taken_in {bs : List Bell} (h : BelOk bs) (s : List UInt8) {i : Nat} (hi : i < bs.length) {k : Nat} : 0 ≤ takenB s (bs.take i) + takenS s (bs[i].shares.take k) ∧ takenB s (bs.take i) + takenS s (bs[i].shares.take k) ≤ 2000000000 := by
  have h1 := takenB_bound s (bs.take i) (fun b hb => h.shr b (List.mem_of_mem_take hb)) (fun b hb => h.mass b (List.mem_of_mem_take hb))
  have h2 := takenS_bound s (bs[i].shares.take k) (fun x hx => h.mass _ (List.getElem_mem hi) x (List.mem_of_mem_take hx))
  have h3 := h.shr _ (List.getElem_mem hi)
  have h4 := h.len
  rw [List.length_take] at h1 h2
  omega
def enoughL (ms : List Melt) (bs : List Bell) : Bool := !ms.any fun x => decide (x.mass < takenB x.id bs)
def tracedC (is : List Ingot) (ms : List Melt) (bs : List Bell) : Bool := possibleN is ms && haveL ms bs && enoughL ms bs

theorem have_false {ms : List Melt} {bs : List Bell} {i k : Nat} (hi : i < bs.length) (hk : k < bs[i].shares.length) (h : hasId Melt.id ms bs[i].shares[k].melt = false) : haveL ms bs = false := by
  rw [haveL, List.all_eq_false]
  refine ⟨_, List.getElem_mem hi, ?_⟩
  rw [Bool.not_eq_true, haveB, List.all_eq_false]
  exact ⟨_, List.getElem_mem hk, by simp [h]⟩
theorem haveB_true {ms : List Melt} {b : Bell} (h : ∀ j (hj : j < b.shares.length), j < b.shares.length → hasId Melt.id ms b.shares[j].melt = true) : haveB ms b = true := by
  rw [haveB, List.all_eq_true]
  intro s hs
  obtain ⟨j, hj, rfl⟩ := List.getElem_of_mem hs
  exact h j hj hj
theorem haveL_true {ms : List Melt} {bs : List Bell} (h : ∀ j (hj : j < bs.length), j < bs.length → haveB ms bs[j] = true) : haveL ms bs = true := by
  rw [haveL, List.all_eq_true]
  intro s hs
  obtain ⟨j, hj, rfl⟩ := List.getElem_of_mem hs
  exact h j hj hj
theorem upto_next {n : Nat} {p : (j : Nat) → j < n → Prop} {i : Nat} (hi : i < n) (h : ∀ j (hj : j < n), j < i → p j hj) (hp : p i hi) : ∀ j (hj : j < n), j < i + 1 → p j hj := fun j hj hji => by
  by_cases e : j = i
  · subst e; exact hp
  · exact h j hj (by omega)

/-! ### The program's side -/
theorem c_meltNamed (ms : List Melt) (s : List UInt8) (hs : MelOk ms) :
    ∃ m : PV, HFn Tryz.prog 275 [.sl 3 (Melt.rows ms), .str s] [] (.tup [m, .bool (hasId Melt.id ms s)]) [] ∧ ∃ x : Melt, m = .agg x.cells ∨ m = .agg [.str [], .nils, .int .i64 0] := by
  by_cases hh : hasId Melt.id ms s = true
  · obtain ⟨i, hi, hl, _⟩ := has_get hh
    have hc := cut_ix hs.rise hh
    rw [hi] at hc
    refine ⟨.agg ms[i].cells, ?_, ms[i], .inl rfl⟩
    have := hs.len
    have k := c_meltAt ms s (by omega) hs.rise
    rw [hc, hh] at k
    refine hfn_intro hm Tryz.func275 (by kernel_rfl) rfl (by kernel_rfl) rfl ret0_ok ?_
    simp
    refine CallZ.use0 k rfl rfl ?_
    simp [hh, hl, Melt.rows_len, Melt.row_get, Melt.cells]
  · have hh : hasId Melt.id ms s = false := by simpa using hh
    have := hs.len
    have k := c_meltAt ms s (by omega) hs.rise
    rw [hh] at k
    refine ⟨.agg [.str [], .nils, .int .i64 0], ?_, ⟨[], [], 0⟩, .inr rfl⟩
    refine hfn_intro hm Tryz.func275 (by kernel_rfl) rfl (by kernel_rfl) rfl ret0_ok ?_
    simp
    refine CallZ.use0 k rfl rfl ?_
    simp [hh]
set_option maxHeartbeats 2000000 in
theorem c_haveMelts (ms : List Melt) (bs : List Bell) (hs : MelOk ms) (hb : BelOk bs) :
    HFn Tryz.prog 201 [.sl 3 (Melt.rows ms), .sl 5 (Bell.rows bs)] [] (.bool (haveL ms bs)) [] := by
  have := hb.len
  refine hfn_intro hm Tryz.func201 (by kernel_rfl) rfl (by kernel_rfl) rfl ret0_ok ?_
  simp [Bell.rows_len]
  refine loop_upto hm bs.length (fun i => ⟨[(0, .sl 3 (Melt.rows ms)), (11, .sl 5 (Bell.rows bs)), (12, .int .i64 bs.length), (13, .int .i64 i)], []⟩) (fun i => ∀ j (h : j < bs.length), j < i → haveB ms bs[j] = true) (by kernel_rfl) ?_ (by simp) (fun i hi hI => ?_) (fun hI => ?_)
  · exact Wk.weak (ρ := []) (φ := []) (by simp)
  · have w1 : IntKind.i64.wrap ((i : Int) + 1) = (i : Int) + 1 := w64 (by omega) (by omega)
    have h4 := hb.shr _ (List.getElem_mem hi)
    simp [Bell.rows_len, Bell.row_get, Bell.cells, hi, Share.rows_len]
    refine loop_upto hm bs[i].shares.length (fun k => ⟨[(0, .sl 3 (Melt.rows ms)), (11, .sl 5 (Bell.rows bs)), (12, .int .i64 bs.length), (13, .int .i64 i), (18, .sl 2 (Share.rows bs[i].shares)), (19, .int .i64 bs[i].shares.length), (20, .int .i64 k)], []⟩) (fun k => ∀ j (h : j < bs[i].shares.length), j < k → hasId Melt.id ms bs[i].shares[j].melt = true) (by kernel_rfl) ?_ (by simp) (fun k hk hK => ?_) (fun hK => ?_)
    · exact Wk.weak (ρ := []) (φ := []) (by simp)
    · obtain ⟨m, km, x, hm'⟩ := c_meltNamed ms bs[i].shares[k].melt hs
      have w2 : IntKind.i64.wrap ((k : Int) + 1) = (k : Int) + 1 := w64 (by omega) (by omega)
      simp [Share.rows, Share.cells, hk]
      rcases hm' with rfl | rfl
      · simp only [Melt.cells] at km
        refine CallZ.use0 km rfl rfl ?_
        simp
        refine ⟨fun h => have_false hi hk h, fun h => ⟨upto_next hk hK h, Wk.weak (ρ := []) (φ := []) ?_⟩⟩
        simp [w2]
      · refine CallZ.use0 km rfl rfl ?_
        simp
        refine ⟨fun h => have_false hi hk h, fun h => ⟨upto_next hk hK h, Wk.weak (ρ := []) (φ := []) ?_⟩⟩
        simp [w2]
    · simp
      refine ⟨upto_next hi hI (haveB_true hK), Wk.weak (ρ := []) (φ := []) ?_⟩
      simp [w1]
  · simp
    exact haveL_true hI

set_option maxHeartbeats 2000000 in
theorem c_leftIn (bs : List Bell) (x : Melt) (hb : BelOk bs) (hx : 1 ≤ x.mass ∧ x.mass ≤ 320000000) :
    HFn Tryz.prog 277 [.sl 5 (Bell.rows bs), .agg x.cells] [] (.int .i64 (x.mass - takenB x.id bs)) [] := by
  have := hb.len
  refine hfn_intro hm Tryz.func277 (by kernel_rfl) rfl (by kernel_rfl) rfl ret0_ok ?_
  simp [Bell.rows_len, Melt.cells]
  refine loop_upto hm bs.length (fun i => ⟨[(3, .pb 0 0), (5, .int .i64 (x.mass - takenB x.id (bs.take i))), (12, .sl 5 (Bell.rows bs)), (13, .int .i64 bs.length), (14, .int .i64 i)], [some (.box [.str x.id, .sl 1 (strRows x.ingots), .int .i64 x.mass])]⟩) (fun _ => True) (by kernel_rfl) ?_ trivial (fun i hi _ => ?_) (fun _ => ?_)
  · exact Wk.weak (ρ := [0]) (φ := []) (by simp [takenB])
  · have w1 : IntKind.i64.wrap ((i : Int) + 1) = (i : Int) + 1 := w64 (by omega) (by omega)
    have h4 := hb.shr _ (List.getElem_mem hi)
    simp [Bell.rows_len, Bell.row_get, Bell.cells, hi, Share.rows_len]
    refine loop_upto hm bs[i].shares.length (fun k => ⟨[(3, .pb 0 0), (5, .int .i64 (x.mass - (takenB x.id (bs.take i) + takenS x.id (bs[i].shares.take k)))), (12, .sl 5 (Bell.rows bs)), (13, .int .i64 bs.length), (14, .int .i64 i), (19, .sl 2 (Share.rows bs[i].shares)), (20, .int .i64 bs[i].shares.length), (21, .int .i64 k)], [some (.box [.str x.id, .sl 1 (strRows x.ingots), .int .i64 x.mass])]⟩) (fun _ => True) (by kernel_rfl) ?_ trivial (fun k hk _ => ?_) (fun _ => ?_)
    · exact Wk.weak (ρ := [0]) (φ := []) (by simp [takenS])
    · have w2 : IntKind.i64.wrap ((k : Int) + 1) = (k : Int) + 1 := w64 (by omega) (by omega)
      have hs := takenS_step x.id bs[i].shares hk
      have hin := taken_in hb x.id hi (k := k)
      have hin2 := taken_in hb x.id hi (k := k + 1)
      have hmk := hb.mass _ (List.getElem_mem hi) _ (List.getElem_mem hk)
      rw [hs]
      generalize takenB x.id (bs.take i) = A at *
      generalize takenS x.id (bs[i].shares.take k) = B at *
      simp [Share.rows, Share.cells, hk]
      refine ⟨fun h => Wk.weak (ρ := [0]) (φ := []) ?_, fun h => Wk.weak (ρ := [0]) (φ := []) ?_⟩
      · simp [w2, h]
        rw [w64 (by omega) (by omega)]
        omega
      · simp [w2, h]
    · rw [List.take_length, takenB_step _ _ hi]
      simp
      refine Wk.weak (ρ := [0]) (φ := []) ?_
      simp [w1]
  · rw [List.take_length]
    simp
theorem c_suffice1 (bs : List Bell) (x : Melt) (rows : List (List PV)) (i0 : Nat) (hr : rows[i0]? = some [.sl 5 (Bell.rows bs)]) (hb : BelOk bs) (hx : 1 ≤ x.mass ∧ x.mass ≤ 320000000) :
    HFn Tryz.prog 276 [.agg x.cells, .pe 1 rows i0 0] [] (.bool (decide (x.mass < takenB x.id bs))) [] := by
  have hi : i0 < rows.length := (List.getElem?_eq_some_iff.1 hr).1
  have hx0 : rows[i0] = [.sl 5 (Bell.rows bs)] := (List.getElem?_eq_some_iff.1 hr).2
  have kc := c_leftIn bs x hb hx
  simp only [Melt.cells] at kc
  refine hfn_intro hm Tryz.func276 (by kernel_rfl) rfl (by kernel_rfl) rfl ret0_ok ?_
  simp [Melt.cells, hi, hx0]
  refine CallZ.use0 kc rfl rfl ?_
  simp
  omega
theorem c_suffice (ms : List Melt) (bs : List Bell) (hs : MelOk ms) (hb : BelOk bs) :
    HFn Tryz.prog 202 [.sl 3 (Melt.rows ms), .sl 5 (Bell.rows bs)] [] (.bool (enoughL ms bs)) [] := by
  have := hs.len
  have k := c_ContainsFuncMelt1 276 1 [[.sl 5 (Bell.rows bs)]] 0 0 (fun x => decide (x.mass < takenB x.id bs)) ms (fun x hx => c_suffice1 bs x _ 0 rfl hb (hs.mass x hx)) (by omega)
  refine hfn_intro hm Tryz.func202 (by kernel_rfl) rfl (by kernel_rfl) rfl ret0_ok ?_
  simp
  refine CallZ.use0 k rfl rfl ?_
  simp only [put]
  simp [enoughL, -List.any_eq_true, -Bool.not_eq_true]
theorem c_impl_PossibleMelts (is : List Ingot) (ms : List Melt) (hi : ingotsOk is = true) (hs : meltsOk ms = true) :
    HFn Tryz.prog 200 [.sl 5 (Ingot.rows is), .sl 3 (Melt.rows ms)] [] (.bool (possibleN is ms)) [] := by
  have hI := ingOk_of hi
  have hM := melOk_of hs
  have := hM.len
  refine hfn_intro hm Tryz.func200 (by kernel_rfl) rfl (by kernel_rfl) rfl ret0_ok ?_
  simp
  refine CallZ.use0 (c_impl_ValidIngots is hI.len) rfl rfl ?_
  simp [hi]
  first | refine CallZ.use0 (c_impl_ValidMelts ms (by omega) (fun x hx => by have := hM.ing x hx; omega)) rfl rfl ?_ | refine CallY.use (fun _ => ⟨rfl, c_impl_ValidMelts ms (by omega) (fun x hx => by have := hM.ing x hx; omega)⟩) rfl rfl ?_
  simp [hs]
  first | refine CallZ.use0 (c_possible is ms hI hM) rfl rfl ?_ | refine CallY.use (fun _ => ⟨rfl, c_possible is ms hI hM⟩) rfl rfl ?_
  simp
theorem c_impl_TracedBells (is : List Ingot) (ms : List Melt) (bs : List Bell) (hi : ingotsOk is = true) (hs : meltsOk ms = true) (hb : bellsOk bs = true) :
    HFn Tryz.prog 109 [.sl 5 (Ingot.rows is), .sl 3 (Melt.rows ms), .sl 5 (Bell.rows bs)] [] (.bool (tracedC is ms bs)) [] := by
  have hM := melOk_of hs
  have hB := belOk_of hb
  have := hB.len
  refine hfn_intro hm Tryz.func109 (by kernel_rfl) rfl (by kernel_rfl) rfl ret0_ok ?_
  simp
  refine CallZ.use0 (c_impl_ValidBells bs (by omega) (fun x hx => by have := hB.shr x hx; omega)) rfl rfl ?_
  simp [hb]
  first | refine CallZ.use0 (c_impl_PossibleMelts is ms hi hs) rfl rfl ?_ | refine CallY.use (fun _ => ⟨rfl, c_impl_PossibleMelts is ms hi hs⟩) rfl rfl ?_
  simp
  first | refine CallY.use (fun _ => ⟨rfl, c_haveMelts ms bs hM hB⟩) rfl rfl ?_
  simp
  repeat refine ⟨by grind, ?_⟩
  first | refine CallY.use (fun _ => ⟨rfl, c_suffice ms bs hM hB⟩) rfl rfl ?_
  simp [tracedC]

/-! ### The reference's side -/
/-- One of the first ingots has the name. -/
def seenI (l : List Ingot) (s : List UInt8) (k : Nat) : Bool := (l.take k).any fun y => decide (y.id = s)
theorem seenI_zero (l : List Ingot) (s : List UInt8) : seenI l s 0 = false := by simp [seenI]
theorem seenI_succ (l : List Ingot) (s : List UInt8) {k : Nat} (hk : k < l.length) : seenI l s (k + 1) = (seenI l s k || decide (l[k].id = s)) := by
  unfold seenI
  rw [← List.take_append_getElem hk, List.any_append]
  simp
theorem seenI_all (l : List Ingot) (s : List UInt8) : seenI l s l.length = hasId Ingot.id l s := by
  unfold seenI hasId
  rw [List.take_length]
theorem seenI_none {l : List Ingot} {s : List UInt8} (h : Rising Ingot.id l) {k : Nat} (hk : k < l.length) (e : l[k].id = s) : seenI l s k = false := by
  unfold seenI
  rw [List.any_eq_false]
  intro y hy
  obtain ⟨j, hj, rfl⟩ := List.mem_take_iff_getElem.1 hy
  intro e2
  simp only [decide_eq_true_eq] at e2
  have := rising_inj h (by omega) hk (e2.trans e.symm)
  omega
theorem seenI_ix {l : List Ingot} {s : List UInt8} {k : Nat} (hk : k < l.length) (e : l[k].id = s) (hn : seenI l s k = false) : ixOf Ingot.id l s = k := findI_at hk (by simpa using e) fun j hj hjk => by
  have := List.any_eq_false.1 hn l[j] (List.mem_take_iff_getElem.2 ⟨j, by omega, rfl⟩)
  simpa using this
set_option maxHeartbeats 2000000 in
theorem c_l14Chosen (l : List Ingot) (x : Melt) (rows : List (List PV)) (i0 : Nat) (hr : rows[i0]? = some x.cells) (hl : l.length ≤ 1048576) (hx : x.ingots.length ≤ 1048576) (h : Rising Ingot.id l) :
    HFn Tryz.prog 214 [.sl 5 (Ingot.rows l), .pe 3 rows i0 0] [] (.tup [.sf 0 1, .bool (knownN l x.ingots)]) [some (.arr 1 (intRows (choN l x.ingots)))] := by
  have hi0 : i0 < rows.length := (List.getElem?_eq_some_iff.1 hr).1
  have hx0 : rows[i0] = x.cells := (List.getElem?_eq_some_iff.1 hr).2
  rw [Melt.cells] at hr hx0
  refine hfn_intro hm Tryz.func214 (by kernel_rfl) rfl (by kernel_rfl) rfl (fun _ _ h => h) ?_
  simp
  refine loop_upto hm x.ingots.length (fun i => ⟨[(0, .sl 5 (Ingot.rows l)), (1, .pe 3 rows i0 0), (6, .sf 0 1), (7, .int .i64 i)], [some (.arr 1 (intRows ((ixN l x.ingots).take i)))]⟩) (fun i => ∀ j (h : j < x.ingots.length), j < i → hasId Ingot.id l x.ingots[j] = true) (by kernel_rfl) ?_ (by simp) (fun i hi hI => ?_) (fun hI => ?_)
  · exact (weak_nil (t := 6) (z := 1) rfl).trans (Wk.weak (ρ := [0]) (φ := []) (by simp [intRows]))
  · have w1 : IntKind.i64.wrap ((i : Int) + 1) = (i : Int) + 1 := w64 (by omega) (by omega)
    have hlen : ((ixN l x.ingots).take i).length = i := by rw [List.length_take, ixN_len]; omega
    rw [ixN_take l x.ingots hi]
    generalize (ixN l x.ingots).take i = T at hlen ⊢
    simp [hi0, hx0, strRows_len, hi]
    refine loop_upto hm l.length (fun k => ⟨[(0, .sl 5 (Ingot.rows l)), (1, .pe 3 rows i0 0), (6, .sf 0 1), (7, .int .i64 i), (8, .bool (seenI l x.ingots[i] k)), (9, .int .i64 k)], [some (.arr 1 (intRows (if seenI l x.ingots[i] k = true then T ++ [ixOf Ingot.id l x.ingots[i]] else T)))]⟩) (fun _ => True) (by kernel_rfl) ?_ trivial (fun k hk _ => ?_) (fun _ => ?_)
    · exact Wk.weak (ρ := [0]) (φ := []) (by simp [seenI_zero])
    · have w2 : IntKind.i64.wrap ((k : Int) + 1) = (k : Int) + 1 := w64 (by omega) (by omega)
      rw [seenI_succ l _ hk]
      by_cases e : l[k].id = x.ingots[i]
      · have hnone := seenI_none h hk e
        have hix := seenI_ix hk e hnone
        simp [hi0, hx0, strRows_len, strRows_get, Ingot.rows, Ingot.cells, hi, hk, e, hnone, hix, intRows_len]
        refine ⟨by simp [rowsOne], by omega, by omega, Wk.weak (ρ := [0]) (φ := []) ?_⟩
        simp [w2, intRows_app]
        rfl
      · simp [hi0, hx0, strRows_len, strRows_get, Ingot.rows, Ingot.cells, hi, hk, e]
        refine Wk.weak (ρ := [0]) (φ := []) ?_
        simp [w2]
    · rw [seenI_all]
      simp [Ingot.rows_len]
      refine ⟨fun hn => ?_, fun hn => ⟨upto_next hi hI hn, Wk.weak (ρ := [0]) (φ := []) ?_⟩⟩
      · have hk := known_false hi hn
        refine (weak_nilT (t := 0) 0 1 rfl rfl).trans (Wk.weak (ρ := [1]) (φ := []) ?_)
        simp [choN, hk, intRows]
      · simp [w1, hn]
  · simp [hi0, hx0, strRows_len]
    have hk := known_true hI
    refine Wk.weak (ρ := [0]) (φ := []) ?_
    simp [hk, choN, ← ixN_len l x.ingots]
set_option maxHeartbeats 1000000 in
theorem c_l14Metal (l : List Ingot) (x : Melt) (rows : List (List PV)) (i0 : Nat) (hr : rows[i0]? = some x.cells) (hl : l.length ≤ 1048576) (hx : x.ingots.length ≤ 1048576) (h : Rising Ingot.id l) :
    HFn Tryz.prog 285 [.sl 5 (Ingot.rows l), .pe 3 rows i0 0] [] (.int .i64 (metalN l x.ingots)) [] := by
  have hlen := cho_len l x.ingots
  have hmem : ∀ k ∈ choN l x.ingots, 0 ≤ k ∧ k < l.length := fun k hk => cho_mem hk
  refine hfn_intro hm Tryz.func285 (by kernel_rfl) rfl (by kernel_rfl) rfl ret0_ok ?_
  simp
  refine CallZ.use (c_l14Chosen l x rows i0 hr hl hx h) rfl (.inr ⟨flat_intRows _, trivial⟩) rfl rfl ?_
  unfold metalN
  generalize choN l x.ingots = ks at hlen hmem ⊢
  simp
  refine loop_upto hm ks.length (fun i => ⟨[(0, .sl 5 (Ingot.rows l)), (5, .sf 0 1), (7, .int .i64 (sumA l ks i)), (8, .int .i64 i)], [some (.arr 1 (intRows ks))]⟩) (fun _ => True) (by kernel_rfl) ?_ trivial (fun i hi _ => ?_) (fun _ => ?_)
  · exact Wk.weak (ρ := [0]) (φ := []) (by simp [sumA])
  · have w1 : IntKind.i64.wrap ((i : Int) + 1) = (i : Int) + 1 := w64 (by omega) (by omega)
    obtain ⟨h0, h1⟩ := hmem ks[i] (List.getElem_mem hi)
    have hn : ks[i].toNat < l.length := by omega
    rw [sumA_succ l ks hi, massAt_get l h0 h1]
    simp [intRows_len, intRows_get, hi, Ingot.rows, Ingot.cells, h0, h1, hn]
    refine Wk.weak (ρ := [0]) (φ := []) ?_
    simp [w1]
  · simp [intRows_len]
theorem c_l14Most (l : List Ingot) (x : Melt) (rows : List (List PV)) (i0 : Nat) (hr : rows[i0]? = some x.cells) (hl : IngOk l) (hx : x.ingots.length ≤ 16) :
    HFn Tryz.prog 215 [.sl 5 (Ingot.rows l), .pe 3 rows i0 0] [] (.int .i64 (mostN l x.ingots)) [] := by
  have km := c_l14Metal l x rows i0 hr hl.len (by omega) hl.rise
  obtain ⟨b1, b2⟩ := metal_bound hl.mass hx
  have w1 : IntKind.i64.wrap (metalN l x.ingots * 20000) = metalN l x.ingots * 20000 := w64 (by omega) (by omega)
  have kn := c_l01Div (metalN l x.ingots * 20000) 1000000 ⟨by omega, by omega⟩ (by omega) (by omega)
  have hv : nearV (metalN l x.ingots * 20000) 1000000 = (2 * (metalN l x.ingots * 20000) + 1000000) / (2 * 1000000) := by
    unfold nearV
    rw [if_neg (by omega), Int.tdiv_eq_ediv_of_nonneg (by omega)]
  refine hfn_intro hm Tryz.func215 (by kernel_rfl) rfl (by kernel_rfl) rfl ret0_ok ?_
  simp
  refine CallZ.use0 km rfl rfl ?_
  simp [w1]
  refine CallZ.use0 kn rfl rfl ?_
  simp [mostN]
  exact w64 (by omega) (by omega)
theorem possible_false {l : List Ingot} {ms : List Melt} {i : Nat} (hi : i < ms.length) (h : knownN l ms[i].ingots = false ∨ mostN l ms[i].ingots < ms[i].mass) : possibleN l ms = false := by
  rcases h with h | h
  · have : (ms.any fun x => !knownN l x.ingots) = true := List.any_eq_true.2 ⟨_, List.getElem_mem hi, by simp [h]⟩
    simp only [possibleN, existN, this, Bool.not_true, Bool.false_and]
  · have : (ms.any fun x => decide (mostN l x.ingots < x.mass)) = true := List.any_eq_true.2 ⟨_, List.getElem_mem hi, by simp [h]⟩
    simp only [possibleN, this, Bool.not_true, Bool.and_false]
theorem possible_true {l : List Ingot} {ms : List Melt} (h : ∀ j (hj : j < ms.length), j < ms.length → knownN l ms[j].ingots = true ∧ ms[j].mass ≤ mostN l ms[j].ingots) : possibleN l ms = true := by
  have h1 : (ms.any fun x => !knownN l x.ingots) = false := by
    rw [List.any_eq_false]
    intro y hy
    obtain ⟨j, hj, rfl⟩ := List.getElem_of_mem hy
    simp [(h j hj hj).1]
  have h2 : (ms.any fun x => decide (mostN l x.ingots < x.mass)) = false := by
    rw [List.any_eq_false]
    intro y hy
    obtain ⟨j, hj, rfl⟩ := List.getElem_of_mem hy
    simpa using (h j hj hj).2
  simp only [possibleN, existN, h1, h2, Bool.not_false, Bool.and_true]
set_option maxHeartbeats 1000000 in
theorem c_l14Possible (l : List Ingot) (ms : List Melt) (hl : IngOk l) (hs : MelOk ms) :
    HFn Tryz.prog 126 [.sl 5 (Ingot.rows l), .sl 3 (Melt.rows ms)] [] (.bool (possibleN l ms)) [] := by
  have := hs.len
  refine hfn_intro hm Tryz.func126 (by kernel_rfl) rfl (by kernel_rfl) rfl ret0_ok ?_
  simp
  refine loop_upto hm ms.length (fun i => ⟨[(0, .sl 5 (Ingot.rows l)), (1, .sl 3 (Melt.rows ms)), (5, .int .i64 i)], []⟩) (fun i => ∀ j (h : j < ms.length), j < i → knownN l ms[j].ingots = true ∧ ms[j].mass ≤ mostN l ms[j].ingots) (by kernel_rfl) ?_ (by simp) (fun i hi hI => ?_) (fun hI => ?_)
  · exact Wk.weak (ρ := []) (φ := []) (by simp)
  · have w1 : IntKind.i64.wrap ((i : Int) + 1) = (i : Int) + 1 := w64 (by omega) (by omega)
    have h16 := hs.ing _ (List.getElem_mem hi)
    have hr : (Melt.rows ms)[i]? = some ms[i].cells := by simp [Melt.rows, hi]
    simp [Melt.rows_len, hi]
    refine CallZ.use (c_l14Chosen l ms[i] (Melt.rows ms) i hr hl.len (by omega) hl.rise) rfl (.inr ⟨flat_intRows _, trivial⟩) rfl rfl ?_
    simp [Melt.rows_len, Melt.row_get, Melt.cells, hi]
    repeat refine ⟨by grind, ?_⟩
    refine CallY.use (fun _ => ⟨rfl, c_l14Most l ms[i] (Melt.rows ms) i hr hl h16⟩) rfl rfl ?_
    simp
    repeat refine ⟨by grind, ?_⟩
    refine ⟨fun h => possible_false hi (by grind), fun h1 h2 => ⟨upto_next hi hI ⟨h1, by grind⟩, Wk.weak (ρ := []) (φ := []) ?_⟩⟩
    simp [w1]
  · simp [Melt.rows_len]
    exact possible_true hI
theorem c_spec_PossibleMelts (is : List Ingot) (ms : List Melt) (hi : ingotsOk is = true) (hs : meltsOk ms = true) :
    HFn Tryz.prog 39 [.sl 5 (Ingot.rows is), .sl 3 (Melt.rows ms)] [] (.bool (possibleN is ms)) [] := by
  have hI := ingOk_of hi
  have hM := melOk_of hs
  have := hM.len
  refine hfn_intro hm Tryz.func39 (by kernel_rfl) rfl (by kernel_rfl) rfl ret0_ok ?_
  simp
  refine CallZ.use0 (c_l13Ok is hI.len) rfl rfl ?_
  simp [hi]
  first | refine CallZ.use0 (c_l14Ok ms (by omega) (fun x hx => by have := hM.ing x hx; omega)) rfl rfl ?_ | refine CallY.use (fun _ => ⟨rfl, c_l14Ok ms (by omega) (fun x hx => by have := hM.ing x hx; omega)⟩) rfl rfl ?_
  simp [hs]
  first | refine CallZ.use0 (c_l14Possible is ms hI hM) rfl rfl ?_ | refine CallY.use (fun _ => ⟨rfl, c_l14Possible is ms hI hM⟩) rfl rfl ?_
  simp
theorem c_l18Melt (ms : List Melt) (s : List UInt8) (hl : ms.length ≤ 1048576) :
    HFn Tryz.prog 216 [.sl 3 (Melt.rows ms), .str s] [] (.int .i64 (ixOf Melt.id ms s)) [] := by
  refine hfn_intro hm Tryz.func216 (by kernel_rfl) rfl (by kernel_rfl) rfl ret0_ok ?_
  simp
  refine loop_upto hm ms.length (fun i => ⟨[(0, .sl 3 (Melt.rows ms)), (1, .str s), (5, .int .i64 i)], []⟩) (fun i => ∀ j (h : j < ms.length), j < i → decide (ms[j].id = s) = false) (by kernel_rfl) ?_ (by simp) (fun i hi hI => ?_) (fun hI => ?_)
  · exact Wk.weak (ρ := []) (φ := []) (by simp)
  · have w1 : IntKind.i64.wrap ((i : Int) + 1) = (i : Int) + 1 := w64 (by omega) (by omega)
    simp [Melt.rows_len, Melt.row_get, Melt.cells, hi]
    refine ⟨fun h => (findI_at hi (by simpa using h) hI).symm, fun h => ⟨?_, Wk.weak (ρ := []) (φ := []) ?_⟩⟩
    · simpa using upto_next (p := fun j hj => decide (ms[j].id = s) = false) hi hI (by simpa using h)
    · simp [w1]
  · simp [Melt.rows_len]
    exact (findI_none fun j hj => hI j hj hj).symm
theorem c_l18Known (ms : List Melt) (b : Bell) (rows : List (List PV)) (i0 : Nat) (hr : rows[i0]? = some b.cells) (hl : ms.length ≤ 1048576) (hb : b.shares.length ≤ 1048576) :
    HFn Tryz.prog 127 [.sl 3 (Melt.rows ms), .pe 5 rows i0 0] [] (.bool (haveB ms b)) [] := by
  have hi0 : i0 < rows.length := (List.getElem?_eq_some_iff.1 hr).1
  have hx0 : rows[i0] = b.cells := (List.getElem?_eq_some_iff.1 hr).2
  rw [Bell.cells] at hr hx0
  refine hfn_intro hm Tryz.func127 (by kernel_rfl) rfl (by kernel_rfl) rfl ret0_ok ?_
  simp
  refine loop_upto hm b.shares.length (fun i => ⟨[(0, .sl 3 (Melt.rows ms)), (1, .pe 5 rows i0 0), (5, .int .i64 i)], []⟩) (fun i => ∀ j (h : j < b.shares.length), j < i → hasId Melt.id ms b.shares[j].melt = true) (by kernel_rfl) ?_ (by simp) (fun i hi hI => ?_) (fun hI => ?_)
  · exact Wk.weak (ρ := []) (φ := []) (by simp)
  · have w1 : IntKind.i64.wrap ((i : Int) + 1) = (i : Int) + 1 := w64 (by omega) (by omega)
    have hx := ix_has Melt.id ms b.shares[i].melt
    simp [hi0, hx0, Share.rows, Share.cells, hi]
    refine CallZ.use0 (c_l18Melt ms b.shares[i].melt hl) rfl rfl ?_
    simp
    refine ⟨fun h => ?_, fun h => ⟨upto_next hi hI ?_, Wk.weak (ρ := []) (φ := []) ?_⟩⟩
    · rw [haveB, List.all_eq_false]
      exact ⟨_, List.getElem_mem hi, by rw [← hx]; simpa using h⟩
    · rw [← hx]; simpa using h
    · simp [w1]
  · simp [hi0, hx0, Share.rows]
    exact haveB_true hI
theorem c_l18Ask (ms : List Melt) (bs : List Bell) (hs : meltsOk ms = true) (hb : bellsOk bs = true) :
    HFn Tryz.prog 40 [.sl 3 (Melt.rows ms), .sl 5 (Bell.rows bs)] [] (.int .i64 (if haveL ms bs = true then 0 else 3)) [] := by
  have hM := melOk_of hs
  have hB := belOk_of hb
  have h1 := hM.len
  have h2 := hB.len
  refine hfn_intro hm Tryz.func40 (by kernel_rfl) rfl (by kernel_rfl) rfl ret0_ok ?_
  simp
  first | refine CallZ.use0 (c_l14Ok ms (by omega) (fun x hx => by have := hM.ing x hx; omega)) rfl rfl ?_ | refine CallY.use (fun _ => ⟨rfl, c_l14Ok ms (by omega) (fun x hx => by have := hM.ing x hx; omega)⟩) rfl rfl ?_
  simp [hs]
  first | refine CallZ.use0 (c_l18Ok bs (by omega) (fun x hx => by have := hB.shr x hx; omega)) rfl rfl ?_ | refine CallY.use (fun _ => ⟨rfl, c_l18Ok bs (by omega) (fun x hx => by have := hB.shr x hx; omega)⟩) rfl rfl ?_
  simp [hb]
  refine loop_upto hm bs.length (fun i => ⟨[(0, .sl 3 (Melt.rows ms)), (1, .sl 5 (Bell.rows bs)), (5, .int .i64 i)], []⟩) (fun i => ∀ j (h : j < bs.length), j < i → haveB ms bs[j] = true) (by kernel_rfl) ?_ (by simp) (fun i hi hI => ?_) (fun hI => ?_)
  · exact Wk.weak (ρ := []) (φ := []) (by simp)
  · have w1 : IntKind.i64.wrap ((i : Int) + 1) = (i : Int) + 1 := w64 (by omega) (by omega)
    have h3 := hB.shr _ (List.getElem_mem hi)
    simp [Bell.rows_len, hi]
    refine CallZ.use0 (c_l18Known ms bs[i] (Bell.rows bs) i (by simp [Bell.rows, hi]) (by omega) (by omega)) rfl rfl ?_
    simp
    refine ⟨fun h => ?_, fun h => ⟨upto_next hi hI h, Wk.weak (ρ := []) (φ := []) ?_⟩⟩
    · have : haveL ms bs = false := by
        rw [haveL, List.all_eq_false]
        exact ⟨_, List.getElem_mem hi, by simp [h]⟩
      simp [this]
    · simp [w1]
  · simp [Bell.rows_len]
    simp [haveL_true hI]
set_option maxHeartbeats 2000000 in
theorem c_l18Taken (bs : List Bell) (s : List UInt8) (hb : BelOk bs) :
    HFn Tryz.prog 128 [.sl 5 (Bell.rows bs), .str s] [] (.int .i64 (takenB s bs)) [] := by
  have := hb.len
  refine hfn_intro hm Tryz.func128 (by kernel_rfl) rfl (by kernel_rfl) rfl ret0_ok ?_
  simp
  refine loop_upto hm bs.length (fun i => ⟨[(0, .sl 5 (Bell.rows bs)), (1, .str s), (5, .int .i64 (takenB s (bs.take i))), (6, .int .i64 i)], []⟩) (fun _ => True) (by kernel_rfl) ?_ trivial (fun i hi _ => ?_) (fun _ => ?_)
  · exact Wk.weak (ρ := []) (φ := []) (by simp [takenB])
  · have w1 : IntKind.i64.wrap ((i : Int) + 1) = (i : Int) + 1 := w64 (by omega) (by omega)
    have h4 := hb.shr _ (List.getElem_mem hi)
    simp [Bell.rows_len, hi]
    refine loop_upto hm bs[i].shares.length (fun k => ⟨[(0, .sl 5 (Bell.rows bs)), (1, .str s), (5, .int .i64 (takenB s (bs.take i) + takenS s (bs[i].shares.take k))), (6, .int .i64 i), (7, .int .i64 k)], []⟩) (fun _ => True) (by kernel_rfl) ?_ trivial (fun k hk _ => ?_) (fun _ => ?_)
    · exact Wk.weak (ρ := []) (φ := []) (by simp [takenS])
    · have w2 : IntKind.i64.wrap ((k : Int) + 1) = (k : Int) + 1 := w64 (by omega) (by omega)
      have hs := takenS_step s bs[i].shares hk
      have hin := taken_in hb s hi (k := k)
      have hin2 := taken_in hb s hi (k := k + 1)
      have hmk := hb.mass _ (List.getElem_mem hi) _ (List.getElem_mem hk)
      rw [hs]
      generalize takenB s (bs.take i) = A at *
      generalize takenS s (bs[i].shares.take k) = B at *
      simp [Bell.rows_len, Bell.row_get, Bell.cells, Share.rows, Share.cells, hi, hk]
      refine ⟨fun h => Wk.weak (ρ := []) (φ := []) ?_, fun h => Wk.weak (ρ := []) (φ := []) ?_⟩
      · simp [w2, h]
        rw [w64 (by omega) (by omega)]
        omega
      · simp [w2, h]
    · rw [List.take_length, takenB_step _ _ hi]
      simp [Bell.rows_len, Bell.row_get, Bell.cells, Share.rows_len, hi]
      refine Wk.weak (ρ := []) (φ := []) ?_
      simp [w1]
  · rw [List.take_length]
    simp [Bell.rows_len]
theorem c_l18Enough (ms : List Melt) (bs : List Bell) (hs : MelOk ms) (hb : BelOk bs) :
    HFn Tryz.prog 41 [.sl 3 (Melt.rows ms), .sl 5 (Bell.rows bs)] [] (.bool (enoughL ms bs)) [] := by
  have := hs.len
  refine hfn_intro hm Tryz.func41 (by kernel_rfl) rfl (by kernel_rfl) rfl ret0_ok ?_
  simp
  refine loop_upto hm ms.length (fun i => ⟨[(0, .sl 3 (Melt.rows ms)), (1, .sl 5 (Bell.rows bs)), (5, .int .i64 i)], []⟩) (fun i => ∀ j (h : j < ms.length), j < i → takenB ms[j].id bs ≤ ms[j].mass) (by kernel_rfl) ?_ (by simp) (fun i hi hI => ?_) (fun hI => ?_)
  · exact Wk.weak (ρ := []) (φ := []) (by simp)
  · have w1 : IntKind.i64.wrap ((i : Int) + 1) = (i : Int) + 1 := w64 (by omega) (by omega)
    simp [Melt.rows_len, Melt.row_get, Melt.cells, hi]
    refine CallZ.use0 (c_l18Taken bs ms[i].id hb) rfl rfl ?_
    simp [Melt.rows_len, Melt.row_get, Melt.cells, hi]
    refine ⟨fun h => ?_, fun h => ⟨upto_next hi hI h, Wk.weak (ρ := []) (φ := []) ?_⟩⟩
    · have : (ms.any fun x => decide (x.mass < takenB x.id bs)) = true := List.any_eq_true.2 ⟨_, List.getElem_mem hi, by simpa using h⟩
      simp only [enoughL, this, Bool.not_true]
    · simp [w1]
  · simp [Melt.rows_len]
    have : (ms.any fun x => decide (x.mass < takenB x.id bs)) = false := by
      rw [List.any_eq_false]
      intro y hy
      obtain ⟨j, hj, rfl⟩ := List.getElem_of_mem hy
      simpa using hI j hj hj
    simp only [enoughL, this, Bool.not_false]
theorem c_spec_TracedBells (is : List Ingot) (ms : List Melt) (bs : List Bell) (hi : ingotsOk is = true) (hs : meltsOk ms = true) (hb : bellsOk bs = true) :
    HFn Tryz.prog 9 [.sl 5 (Ingot.rows is), .sl 3 (Melt.rows ms), .sl 5 (Bell.rows bs)] [] (.bool (tracedC is ms bs)) [] := by
  have hM := melOk_of hs
  have hB := belOk_of hb
  refine hfn_intro hm Tryz.func9 (by kernel_rfl) rfl (by kernel_rfl) rfl ret0_ok ?_
  simp
  refine CallZ.use0 (c_spec_PossibleMelts is ms hi hs) rfl rfl ?_
  simp
  refine CallY.use (fun _ => ⟨rfl, c_l18Ask ms bs hs hb⟩) rfl rfl ?_
  simp
  repeat refine ⟨by grind, ?_⟩
  refine CallY.use (fun _ => ⟨rfl, c_l18Enough ms bs hM hB⟩) rfl rfl ?_
  simp [tracedC]
  try grind
end Go.Proofs.YtcjpfjklhhclmaaGreatDoor
