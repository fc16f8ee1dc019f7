/- Contracts: a drum is turned. -/
import Derived.Test.YtoeklljhjhidbaaGreatDoorTa
import Derived.Test.YtoeklljhjhidbaaGreatDoorIa
namespace Go.Proofs.YtoeklljhjhidbaaGreatDoor
open Go Go.Ab
set_option maxRecDepth 100000

def putL (l : List Pin) (p : Pin) : List Pin := l.take (cutG l fun x => cmpPin x p) ++ p :: l.drop (cutG l fun x => cmpPin x p)
def trP (s q : Int) (p : Pin) : Pin := ⟨(p.step + q.tmod s + s).tmod s, p.hammer⟩
def turnCode (d : Drum) : Int := if validDrum d = true then 0 else 1
def turnD (d : Drum) (q : Int) : Drum := if validDrum d = true then ⟨d.steps, d.rest, d.notes, sortP (d.pins.map (trP d.steps q))⟩ else ⟨0, 0, [], []⟩
def InP (l : List Pin) : Prop := l.Pairwise fun x y => pinLt y x = false

theorem pin_tot (x y : Pin) (h1 : pinLt x y = false) (h2 : pinLt y x = false) : x = y := totPin x y (by rw [ltPin]; exact h1) (by rw [ltPin]; exact h2)
theorem pin_ntr (x y z : Pin) (h1 : pinLt x y = false) (h2 : pinLt y z = false) : pinLt x z = false := by
  have := swoPin.ntrans x y z
  rw [ltPin] at this
  exact this h1 h2
theorem pin_asym (x y : Pin) (h : pinLt x y = true) : pinLt y x = false := by
  cases g : pinLt y x with
  | false => rfl
  | true =>
    have h1 := swoPin.trans x y x
    have h2 := swoPin.irrefl x
    rw [ltPin] at h1 h2
    rw [h1 h g] at h2
    cases h2

theorem put_lo (l : List Pin) (p x : Pin) (hx : x ∈ l.take (cutG l fun x => cmpPin x p)) : pinLt x p = true := by
  obtain ⟨i, hi, rfl⟩ := List.getElem_of_mem hx
  rw [List.getElem_take]
  rw [List.length_take] at hi
  have hi' : i < l.findIdx fun x => decide (0 ≤ cmpPin x p) := Nat.lt_of_lt_of_le hi (Nat.min_le_left _ _)
  have := List.not_of_lt_findIdx (p := fun x => decide (0 ≤ cmpPin x p)) (xs := l) (i := i) hi'
  simp only [decide_eq_false_iff_not] at this
  rw [← cmpPin_neg]
  omega
theorem put_hi {l : List Pin} (hs : InP l) (p x : Pin) (hx : x ∈ l.drop (cutG l fun x => cmpPin x p)) : pinLt x p = false := by
  by_cases h : (cutG l fun x => cmpPin x p) < l.length
  · have h0 := List.findIdx_getElem (p := fun x => decide (0 ≤ cmpPin x p)) (xs := l) (w := h)
    have h2 : 0 ≤ cmpPin l[cutG l fun x => cmpPin x p] p := of_decide_eq_true h0
    have h3 := (cmpPin_lt _ _).1 h2
    have hd := List.Pairwise.sublist (List.drop_sublist (cutG l fun x => cmpPin x p) l) hs
    rw [List.drop_eq_getElem_cons h] at hd hx
    rcases List.mem_cons.1 hx with rfl | hx
    · exact h3
    · exact pin_ntr _ _ _ ((List.pairwise_cons.1 hd).1 x hx) h3
  · rw [List.drop_eq_nil_of_le (by omega)] at hx
    cases hx
theorem putL_perm (l : List Pin) (p : Pin) : (putL l p).Perm (p :: l) := by
  unfold putL
  refine List.perm_middle.trans ?_
  rw [List.take_append_drop]
theorem putL_in {l : List Pin} (hs : InP l) (p : Pin) : InP (putL l p) := by
  unfold putL InP
  rw [List.pairwise_append]
  refine ⟨hs.sublist (List.take_sublist _ _), List.pairwise_cons.2 ⟨fun y hy => put_hi hs p y hy, hs.sublist (List.drop_sublist _ _)⟩, fun x hx y hy => ?_⟩
  have h1 := put_lo l p x hx
  rcases List.mem_cons.1 hy with rfl | hy
  · exact pin_asym _ _ h1
  · exact pin_ntr _ _ _ (put_hi hs p y hy) (pin_asym _ _ h1)
theorem puts_perm : ∀ (l acc : List Pin), (l.foldl putL acc).Perm (l ++ acc)
  | [], acc => .refl _
  | p :: l, acc => by
    refine (puts_perm l (putL acc p)).trans ?_
    refine ((putL_perm acc p).append_left l).trans ?_
    exact List.perm_middle
theorem puts_in : ∀ (l : List Pin) {acc : List Pin}, InP acc → InP (l.foldl putL acc)
  | [], _, h => h
  | _ :: l, _, h => puts_in l (putL_in h _)
theorem sortP_in (l : List Pin) : InP (sortP l) := by
  have h := List.pairwise_mergeSort (le := fun x y => !(pinLt y x)) (fun x y z h1 h2 => by
    simp only [Bool.not_eq_true'] at *
    exact pin_ntr _ _ _ h2 h1) (fun x y => by
    cases h : pinLt y x with
    | false => rfl
    | true => simp [pin_asym _ _ h]) l
  exact h.imp fun h => by simpa using h
theorem puts_eq (l : List Pin) : l.foldl putL [] = sortP l := by
  refine List.Perm.eq_of_pairwise (le := fun x y => pinLt y x = false) (fun x y _ _ h1 h2 => pin_tot _ _ h2 h1) (puts_in l List.Pairwise.nil) (sortP_in l) ?_
  refine (puts_perm l []).trans ?_
  rw [List.append_nil]
  exact (List.mergeSort_perm l _).symm

theorem turnD_le (d : Drum) (q : Int) : (turnD d q).notes.length ≤ d.notes.length ∧ (turnD d q).pins.length ≤ d.pins.length := by
  unfold turnD
  split
  · simp [sortP]
  · simp
theorem turn_mod {t q s : Int} (h1 : 1 ≤ s) (h2 : s ≤ 4096) (h3 : 0 ≤ t) : (t + (q.tmod s + s).tmod s).tmod s = (t + q.tmod s + s).tmod s := by
  have b1 := Int.lt_tmod_of_pos q (show 0 < s by omega)
  have b2 := Int.tmod_lt_of_pos q (show 0 < s by omega)
  have e1 : (q.tmod s + s).tmod s = (q.tmod s + s) % s := Int.tmod_eq_emod_of_nonneg (by omega)
  have b3 := Int.emod_nonneg (q.tmod s + s) (show s ≠ 0 by omega)
  have e2 : (t + (q.tmod s + s) % s).tmod s = (t + (q.tmod s + s) % s) % s := Int.tmod_eq_emod_of_nonneg (by omega)
  have e3 : (t + q.tmod s + s).tmod s = (t + q.tmod s + s) % s := Int.tmod_eq_emod_of_nonneg (by omega)
  rw [e1, e2, e3, Int.add_emod_emod, Int.add_assoc]
theorem mid_set {α : Type} (f : α → α) (l : List α) {i : Nat} (h : i < l.length) : ((l.take i).map f ++ l.drop i).set i (f l[i]) = (l.take (i + 1)).map f ++ l.drop (i + 1) := by
  have hl : ((l.take i).map f).length = i := by rw [List.length_map, List.length_take]; omega
  rw [List.set_append_right (h := by omega), hl, Nat.sub_self, List.drop_eq_getElem_cons h, ← List.take_append_getElem h, List.map_append, List.append_assoc]
  rfl
theorem pin_steps {d : Drum} (h : validDrum d = true) (i : Nat) (hi : i < d.pins.length) : 0 ≤ d.pins[i].step ∧ d.pins[i].step < d.steps := by
  have := ((validDrum_iff d).1 h).pins i hi
  simp [pinAtOk, pinIn, pinAt_eq hi] at this
  omega
def midD (d : Drum) (q : Int) (i : Nat) : List Pin := (d.pins.take i).map (trP d.steps q) ++ d.pins.drop i

set_option maxHeartbeats 4000000 in
theorem c_impl_TurnDrum [Go.Ab.Drwn] (d : Drum) (q : Int) (hn : d.notes.length ≤ 1048576) (hp : d.pins.length ≤ 1048576) :
    HFn Tryz.prog 6 [.agg d.cells, .int .i64 q] [] (.tup [(turnD d q).res, .int .i64 (turnCode d)]) (turnD d q).objs := by
  refine hfn_intro hm Tryz.func6 (by kernel_rfl) rfl (by kernel_rfl) rfl (fun _ _ h => h) ?_
  simp [Drum.cells]
  refine CallZ.use0 (c_impl_ValidDrum d hn hp) rfl rfl ?_
  simp
  refine ⟨fun h => ?_, fun h => ?_⟩
  · have hb : turnCode d = 1 := by simp [turnCode, h]
    have hD : turnD d q = ⟨0, 0, [], []⟩ := by simp [turnD, h]
    rw [hD, hb]
    exact weak_nodrum
  have hd := (validDrum_iff d).1 h
  have hs0 := hd.s0
  have hs1 := hd.s1
  have hpl := hd.pl
  have hb : turnCode d = 0 := by simp [turnCode, h]
  have hD : turnD d q = ⟨d.steps, d.rest, d.notes, sortP (d.pins.map (trP d.steps q))⟩ := by simp [turnD, h]
  rw [hb, hD]
  refine CallZ.use (c_copyDrum d hn hp) rfl (.inl rfl) rfl rfl ?_
  simp
  refine loop_upto hm d.pins.length (fun i => ⟨[(1, .int .i64 q), (2, .pb 0 0), (4, .pb 1 0), (6, .pb 4 0), (16, .sf 3 2), (17, .int .i64 d.pins.length), (18, .int .i64 i)], [some (.box [.int .i64 d.steps, .int .i64 d.rest, .sl 1 (intRows d.notes), .sl 2 (Pin.rows d.pins)]), some (.box [.int .i64 0, .int .i64 0, .nils, .nils]), some (.arr 1 (intRows d.notes)), some (.arr 2 (Pin.rows (midD d q i))), some (.box [.int .i64 d.steps, .int .i64 d.rest, .sf 2 1, .sf 3 2])]⟩) (fun _ => True) (by kernel_rfl) ?_ trivial (fun i hi _ => ?_) (fun _ => ?_)
  · refine Wk.weak (ρ := [0, 1, 2, 3, 4]) (φ := []) ?_
    simp [midD, Pin.rows_len]
  · have hml : (midD d q i).length = d.pins.length := by simp [midD]; omega
    have hmi : (midD d q i)[i]'(by omega) = d.pins[i] := by simp [midD, show min i d.pins.length = i by omega]
    have w1 : IntKind.i64.wrap ((i : Int) + 1) = (i : Int) + 1 := w64 (by omega) (by omega)
    have hst := pin_steps h i hi
    have b1 := Int.lt_tmod_of_pos q (show 0 < d.steps by omega)
    have b2 := Int.tmod_lt_of_pos q (show 0 < d.steps by omega)
    have w2 : IntKind.i64.wrap (d.pins[i].step + q.tmod d.steps) = d.pins[i].step + q.tmod d.steps := w64 (by omega) (by omega)
    have w3 : IntKind.i64.wrap (d.pins[i].step + q.tmod d.steps + d.steps) = d.pins[i].step + q.tmod d.steps + d.steps := w64 (by omega) (by omega)
    simp (maxSteps := 2000000) [hi, Pin.rows_len, Pin.row_getE, hml, hmi]
    refine ⟨by omega, Wk.weak (ρ := [0, 1, 2, 3, 4]) (φ := []) ?_⟩
    have hset : (Pin.rows (midD d q i)).set i [.int .i64 ((d.pins[i].step + q.tmod d.steps + d.steps).tmod d.steps), .int .i64 d.pins[i].hammer] = Pin.rows (midD d q (i + 1)) := by
      have := mid_set (trP d.steps q) d.pins hi
      unfold midD
      rw [← this]
      unfold Pin.rows
      rw [List.map_set]
      rfl
    simp (maxSteps := 2000000) [w1, w2, w3, hset]
  · have hfull : midD d q d.pins.length = d.pins.map (trP d.steps q) := by simp [midD]
    rw [hfull]
    simp
    refine CallZ.useK 3 (c_SortFuncPin (d.pins.map (trP d.steps q)) (by simp; omega)) rfl (by simp) rfl (by simp) rfl rfl ?_
    simp
    refine Wk.weak (ρ := [2, 3]) (φ := []) ?_
    simp

theorem c_l28Put0 [Go.Ab.Drwn] (p : Pin) : HFn Tryz.prog 98 [.nils, .agg p.cells] [] (.sf 0 2) [some (.arr 2 (Pin.rows [p]))] := fun A m w vs hA hC hs hargs =>
  c_l28Put [] p (by simp) A m w vs hA hC hs fun i c hc => by
    have hi := (List.getElem?_eq_some_iff.1 hc).1
    have hj : i = 0 ∨ i = 1 := by simp at hi; omega
    rcases hj with rfl | rfl
    · cases hc
      obtain ⟨ao, hv⟩ := (hargs 0 .nils rfl).nilsI
      rw [hv]
      exact .imm (.slE _ _ _)
    · exact hargs 1 c hc
def putsD (d : Drum) (q : Int) (i : Nat) : List Pin := ((d.pins.map (trP d.steps q)).take i).foldl putL []
theorem putsD_len (d : Drum) (q : Int) (i : Nat) (hi : i ≤ d.pins.length) : (putsD d q i).length = i := by
  have := (puts_perm ((d.pins.map (trP d.steps q)).take i) []).length_eq
  simp at this
  unfold putsD
  omega
theorem putsD_succ (d : Drum) (q : Int) {i : Nat} (hi : i < d.pins.length) : putsD d q (i + 1) = putL (putsD d q i) (trP d.steps q d.pins[i]) := by
  unfold putsD
  rw [← List.take_append_getElem (by simpa using hi), List.foldl_append]
  simp
def turnSt (d : Drum) (q : Int) : Nat → St
  | 0 => ⟨[(2, .pb 0 0), (4, .pb 1 0), (6, .pb 3 0), (7, .int .i64 ((q.tmod d.steps + d.steps).tmod d.steps)), (8, .int .i64 0)], [some (.box [.int .i64 d.steps, .int .i64 d.rest, .sl 1 (intRows d.notes), .sl 2 (Pin.rows d.pins)]), some (.box [.int .i64 0, .int .i64 0, .nils, .nils]), some (.arr 1 (intRows d.notes)), some (.box [.int .i64 d.steps, .int .i64 d.rest, .sf 2 1, .nils])]⟩
  | i + 1 => ⟨[(2, .pb 0 0), (4, .pb 1 0), (6, .pb 3 0), (7, .int .i64 ((q.tmod d.steps + d.steps).tmod d.steps)), (8, .int .i64 (i + 1 : Nat))], [some (.box [.int .i64 d.steps, .int .i64 d.rest, .sl 1 (intRows d.notes), .sl 2 (Pin.rows d.pins)]), some (.box [.int .i64 0, .int .i64 0, .nils, .nils]), some (.arr 1 (intRows d.notes)), some (.box [.int .i64 d.steps, .int .i64 d.rest, .sf 2 1, .sf 4 2]), some (.arr 2 (Pin.rows (putsD d q (i + 1))))]⟩

end Go.Proofs.YtoeklljhjhidbaaGreatDoor
