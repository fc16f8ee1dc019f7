/- Contracts: troubles of the metal. No condition. -/
import Derived.Test.YtcjpfjklhhclmaaGreatDoorBg
import Derived.Test.YtcjpfjklhhclmaaGreatDoorTFlat
namespace Go.Proofs.YtcjpfjklhhclmaaGreatDoor
open Go Go.Ab
set_option maxRecDepth 100000

theorem ix_no {α : Type} {id : α → List UInt8} {l : List α} {s : List UInt8} (h : hasId id l s = false) : ixOf id l s = -1 := by
  refine findI_none fun j hj => ?_
  have := List.any_eq_false.1 h l[j] (List.getElem_mem hj)
  simpa using this
theorem sq_nn (d : Int) : 0 ≤ d * d := by
  rw [← Int.natAbs_mul_self]
  exact Int.natCast_nonneg _
/-- What an own list of troubles is. -/
abbrev trO (L : List Trouble) : Option Go.Ab.Obj := some (.arr 3 (Trouble.rows L))
theorem tr_app (L M : List Trouble) : Trouble.rows (L ++ M) = Trouble.rows L ++ Trouble.rows M := by simp [Trouble.rows]
/-- The troubles of each element, one behind the other. -/
def upTo {α : Type} (f : α → List Trouble) (l : List α) (i : Nat) : List Trouble := ((l.take i).map f).flatten
theorem upTo_succ {α : Type} (f : α → List Trouble) (l : List α) {i : Nat} (hi : i < l.length) : upTo f l (i + 1) = upTo f l i ++ f l[i] := by
  unfold upTo
  rw [← List.take_append_getElem hi, List.map_append, List.flatten_append]
  simp [-List.map_take]
theorem upTo_zero {α : Type} (f : α → List Trouble) (l : List α) : upTo f l 0 = [] := by simp [upTo]
theorem upTo_le {α : Type} {f : α → List Trouble} (hf : ∀ x, (f x).length ≤ 1) (l : List α) (i : Nat) : (upTo f l i).length ≤ i := by
  induction i with
  | zero => simp [upTo]
  | succ i ih =>
    by_cases hi : i < l.length
    · rw [upTo_succ f l hi, List.length_append]
      have := hf l[i]
      omega
    · have : upTo f l (i + 1) = upTo f l i := by
        unfold upTo
        rw [List.take_of_length_le (by omega), List.take_of_length_le (by omega)]
      rw [this]
      omega
def txMetal : List UInt8 := [109, 101, 116, 97, 108]
def txLost : List UInt8 := [108, 111, 115, 116]
def txUnknown : List UInt8 := [117, 110, 107, 110, 111, 119, 110]
def txLight : List UInt8 := [108, 105, 103, 104, 116]
/-- The trouble that a hung bell has with its metal. -/
def metalAt (bs : List Bell) (h : Hung) : List Trouble := if hasId Bell.id bs h.bell = true then (match bs[(ixOf Bell.id bs h.bell).toNat]? with
    | some b => if h.mass < b.mass then [⟨2, h.bell, txLight⟩] else []
    | none => []) else [⟨2, h.bell, txUnknown⟩]
theorem metalAt_le (bs : List Bell) (h : Hung) : (metalAt bs h).length ≤ 1 := by
  unfold metalAt
  split
  · split
    · split <;> simp
    · simp
  · simp
def metal0 (c : Carillon) : List Trouble := if tracedC c.ingots c.melts c.bells = true then [] else [⟨1, txMetal, txLost⟩]
def metalL (c : Carillon) : List Trouble := metal0 c ++ upTo (metalAt c.bells) c.hung c.hung.length
theorem metal0_le (c : Carillon) : (metal0 c).length ≤ 1 := by unfold metal0; split <;> simp
theorem metal_le (c : Carillon) (i : Nat) : (metal0 c ++ upTo (metalAt c.bells) c.hung i).length ≤ i + 1 := by
  have h1 := metal0_le c
  have h2 := upTo_le (metalAt_le c.bells) c.hung i
  rw [List.length_append]
  omega
/-- What a valid carillon is. -/
structure CarOk (c : Carillon) : Prop where
  small : c.small
  ing : ingotsOk c.ingots = true
  mel : meltsOk c.melts = true
  bel : bellsOk c.bells = true
  hung : hungsOk c.hung = true
  cham : chamberOk c.chamber = true
  plac : placesOk c.places = true
  gap : 0 ≤ c.gap ∧ c.gap ≤ 5000
  tow : towerOk c.tower = true
  fram : frameOk c.frame = true
  stress : 0 ≤ c.stress ∧ c.stress ≤ 1000000
  bend : 0 ≤ c.bending ∧ c.bending ≤ 1000000
  clav : clavierOk c.clavier = true
  tune : tuneOk c.tune = true
theorem carOk_iff {c : Carillon} (hs : c.small) (h : carOk c = true) : CarOk c := by
  simp only [carOk, Bool.and_eq_true, decide_eq_true_eq] at h
  obtain ⟨⟨⟨⟨⟨⟨h1, h2⟩, h3⟩, ⟨⟨h4, h5⟩, h6⟩, h7⟩, ⟨⟨h8, h9⟩, h10⟩, h11⟩, h12⟩, h13⟩ := h
  exact ⟨hs, h1, h2, h3, h4, h5, h6, h7, h8, h9, h10, h11, h12, h13⟩
theorem CarOk.hl {c : Carillon} (h : CarOk c) : c.hung.length ≤ 16 := (hungs_mem h.hung).1

theorem c_metalT1 (b : Bell) (h : Hung) (rows : List (List PV)) (i0 : Nat) (hr : rows[i0]? = some h.cells) : HFn Tryz.prog 111 [.agg b.cells, .pe 5 rows i0 0] [] (.bool (decide (b.id = h.bell))) [] := by
  have hi : i0 < rows.length := (List.getElem?_eq_some_iff.1 hr).1
  have hx0 : rows[i0] = h.cells := (List.getElem?_eq_some_iff.1 hr).2
  rw [Hung.cells] at hr hx0
  refine hfn_intro hm Tryz.func111 (by kernel_rfl) rfl (by kernel_rfl) rfl ret0_ok ?_
  simp [hi, hx0, Bell.cells]

/-- A bell that is looked for: it is found, or it is not. -/
theorem bell_cases (bs : List Bell) (s : List UInt8) : (hasId Bell.id bs s = false ∧ ixOf Bell.id bs s = -1) ∨ (hasId Bell.id bs s = true ∧ ∃ k : Nat, ixOf Bell.id bs s = k ∧ k < bs.length) := by
  cases h : hasId Bell.id bs s with
  | false => exact .inl ⟨rfl, ix_no h⟩
  | true =>
    obtain ⟨k, h1, h2, _⟩ := has_get h
    exact .inr ⟨rfl, k, h1, h2⟩

set_option maxHeartbeats 8000000 in
theorem c_metalTroubles (c : Carillon) (hc : CarOk c) : HFn Tryz.prog 35 [.agg c.cells] [] (.sf 0 3) [trO (metalL c)] := by
  have hl := hc.hl
  have hb := (belOk_of hc.bel).len
  have hm0 := metal0_le c
  refine hfn_intro hm Tryz.func35 (by kernel_rfl) rfl (by kernel_rfl) rfl (fun _ _ h => h) ?_
  simp [Carillon.cells]
  refine CallZ.use0 (c_impl_TracedBells c.ingots c.melts c.bells hc.ing hc.mel hc.bel) rfl rfl ?_
  cases ht : tracedC c.ingots c.melts c.bells
  · have hm0' : metal0 c = if tracedC c.ingots c.melts c.bells = true then [] else [⟨1, txMetal, txLost⟩] := rfl
    rw [ht] at hm0'
    simp [Hung.rows_len]
    refine ⟨by simp [rowsOne], ?_⟩
    refine loop_upto hm c.hung.length (fun i => ⟨[(1, .pb 0 0), (3, .sf 1 3), (20, .sl 5 (Hung.rows c.hung)), (21, .int .i64 c.hung.length), (22, .int .i64 i)], [some (.box c.cells), trO (metal0 c ++ upTo (metalAt c.bells) c.hung i)]⟩) (fun _ => True) (by kernel_rfl) ?_ trivial (fun i hi _ => ?_) (fun _ => ?_)
    · rw [upTo_zero, List.append_nil, hm0']
      exact Wk.weak (ρ := [0, 2]) (φ := []) (by simp [Carillon.cells, Trouble.rows, Trouble.cells, txMetal, txLost])
    · have w1 : IntKind.i64.wrap ((i : Int) + 1) = (i : Int) + 1 := w64 (by omega) (by omega)
      have hlen := metal_le c i
      have kI : HFn Tryz.prog 110 [.sl 5 (Bell.rows c.bells), .fn 111 [.pe 5 [c.hung[i].cells] 0 0]] [] (.int .i64 (ixOf Bell.id c.bells c.hung[i].bell)) [] :=
        c_IndexFuncBell1 111 5 [c.hung[i].cells] 0 0 (fun b => decide (b.id = c.hung[i].bell)) c.bells (fun b _ => c_metalT1 b c.hung[i] _ 0 rfl) (by omega)
      rw [upTo_succ _ _ hi, ← List.append_assoc]
      generalize metal0 c ++ upTo (metalAt c.bells) c.hung i = T at hlen ⊢
      simp only [Hung.cells] at kI
      simp [Carillon.cells, Hung.rows, Hung.cells, hi]
      refine CallZ.use0 kI rfl rfl ?_
      rcases bell_cases c.bells c.hung[i].bell with ⟨h1, h2⟩ | ⟨h1, k, h2, hk⟩
      · rw [h2]
        simp [Trouble.rows_len]
        refine ⟨by simp [rowsOne], by omega, by omega, Wk.weak (ρ := [0, 1]) (φ := []) ?_⟩
        simp [w1, metalAt, h1, Trouble.rows, Trouble.cells, txUnknown]
      · rw [h2]
        have hge : ¬ ((k : Int) < 0) := by omega
        simp [hge, hk, Bell.rows_len, Bell.row_get, Bell.cells, Trouble.rows_len]
        refine ⟨fun h3 => ⟨by simp [rowsOne], by omega, by omega, Wk.weak (ρ := [0, 1]) (φ := []) ?_⟩, fun h3 => Wk.weak (ρ := [0, 1]) (φ := []) ?_⟩
        · simp [w1, metalAt, h1, h2, hk, h3, Trouble.rows, Trouble.cells, txLight]
        · have h3' : ¬ c.hung[i].mass < c.bells[k].mass := by omega
          simp [w1, metalAt, h1, h2, hk, h3']
    · simp
      refine Wk.weak (ρ := [1]) (φ := []) ?_
      simp [metalL]
  · have hm0' : metal0 c = if tracedC c.ingots c.melts c.bells = true then [] else [⟨1, txMetal, txLost⟩] := rfl
    rw [ht] at hm0'
    simp [Hung.rows_len]
    refine loop_upto hm c.hung.length (fun i => ⟨[(1, .pb 0 0), (3, .sf 1 3), (20, .sl 5 (Hung.rows c.hung)), (21, .int .i64 c.hung.length), (22, .int .i64 i)], [some (.box c.cells), trO (metal0 c ++ upTo (metalAt c.bells) c.hung i)]⟩) (fun _ => True) (by kernel_rfl) ?_ trivial (fun i hi _ => ?_) (fun _ => ?_)
    · rw [upTo_zero, List.append_nil, hm0']
      exact (weak_nil (t := 3) (z := 3) rfl).trans (Wk.weak (ρ := [0, 1]) (φ := []) (by simp [Carillon.cells, Trouble.rows]))
    · have w1 : IntKind.i64.wrap ((i : Int) + 1) = (i : Int) + 1 := w64 (by omega) (by omega)
      have hlen := metal_le c i
      have kI : HFn Tryz.prog 110 [.sl 5 (Bell.rows c.bells), .fn 111 [.pe 5 [c.hung[i].cells] 0 0]] [] (.int .i64 (ixOf Bell.id c.bells c.hung[i].bell)) [] :=
        c_IndexFuncBell1 111 5 [c.hung[i].cells] 0 0 (fun b => decide (b.id = c.hung[i].bell)) c.bells (fun b _ => c_metalT1 b c.hung[i] _ 0 rfl) (by omega)
      rw [upTo_succ _ _ hi, ← List.append_assoc]
      generalize metal0 c ++ upTo (metalAt c.bells) c.hung i = T at hlen ⊢
      simp only [Hung.cells] at kI
      simp [Carillon.cells, Hung.rows, Hung.cells, hi]
      refine CallZ.use0 kI rfl rfl ?_
      rcases bell_cases c.bells c.hung[i].bell with ⟨h1, h2⟩ | ⟨h1, k, h2, hk⟩
      · rw [h2]
        simp [Trouble.rows_len]
        refine ⟨by simp [rowsOne], by omega, by omega, Wk.weak (ρ := [0, 1]) (φ := []) ?_⟩
        simp [w1, metalAt, h1, Trouble.rows, Trouble.cells, txUnknown]
      · rw [h2]
        have hge : ¬ ((k : Int) < 0) := by omega
        simp [hge, hk, Bell.rows_len, Bell.row_get, Bell.cells, Trouble.rows_len]
        refine ⟨fun h3 => ⟨by simp [rowsOne], by omega, by omega, Wk.weak (ρ := [0, 1]) (φ := []) ?_⟩, fun h3 => Wk.weak (ρ := [0, 1]) (φ := []) ?_⟩
        · simp [w1, metalAt, h1, h2, hk, h3, Trouble.rows, Trouble.cells, txLight]
        · have h3' : ¬ c.hung[i].mass < c.bells[k].mass := by omega
          simp [w1, metalAt, h1, h2, hk, h3']
    · simp
      refine Wk.weak (ρ := [1]) (φ := []) ?_
      simp [metalL]

/-! ### The reference's side -/
end Go.Proofs.YtcjpfjklhhclmaaGreatDoor
