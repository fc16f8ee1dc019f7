/- The use of the contract of a function that turns own objects: what a caller's plain state is behind it. No condition. -/
import Derived.Test.YtnidojjahhhaaaaAbw
namespace Go.Ab
variable {P : Program} {A A' : Nat → Prop} {m m' : OMap} {h h' : OFun} {w w' : World} {H : Heap} {fr fr' : Fr} {a : Act}

/-! ### Names that are forgotten -/

def scrubsV (ns : List Nat) (p : PV) : PV := ns.foldl (fun p k => scrubV k p) p
def scrubsF (ns : List Nat) (fr : Fr) : Fr := ns.foldl (fun fr k => scrubF k fr) fr
def scrubsA (ns : List Nat) (p : PV) : PV := ns.foldl (fun p k => scrubA k p) p
def scrubsH (ns : List Nat) (H : Heap) : Heap := ns.foldl (fun H k => H.map (scrubO k)) H
def scrubsO (ns : List Nat) : Obj → Obj
  | .box cs => .box (cs.map (scrubsA ns))
  | o => o
def rem (h : OFun) (ns : List Nat) : OFun := fun k => if k ∈ ns then none else h k

theorem scrubs_slot {t : Nat} : ∀ {ns : List Nat} {fr : Fr}, slot (scrubsF ns fr) t = scrubsV ns (slot fr t)
  | [], _ => rfl
  | k :: ns, fr => by
    show slot (scrubsF ns (scrubF k fr)) t = scrubsV ns (scrubV k (slot fr t))
    rw [scrubs_slot (ns := ns), slot_scrub]

theorem rem_cons {k : Nat} {ns : List Nat} : rem (rem h [k]) ns = rem h (k :: ns) := by
  funext j
  simp only [rem, List.mem_cons, List.not_mem_nil, or_false]
  by_cases h1 : j ∈ ns <;> by_cases h2 : j = k <;> simp [h1, h2]

theorem rem_shaped {k : Nat} : Shaped (some k) m h m (rem h [k]) := fun j o hj ho => by
  have : j ≠ k := fun e => hj (by rw [e])
  exact ⟨rfl, o, by simp [rem, this, ho], SameShape.refl o⟩

theorem scrubsV_rep {v : Value} : ∀ {ns : List Nat} {h : OFun} {p : PV}, RepO A m h w p v → RepO A m (rem h ns) w (scrubsV ns p) v
  | [], h, p, hr => by
    have : rem h [] = h := by funext j; simp [rem]
    rw [this]; exact hr
  | k :: ns, h, p, hr => by
    rw [← rem_cons]
    exact scrubsV_rep (hr.scrubV (fun _ h => h) (fun _ _ => rfl) rem_shaped)

theorem scrubsA_rep {v : Value} : ∀ {ns : List Nat} {h : OFun} {p : PV}, RepO A m h w p v → RepO A m (rem h ns) w (scrubsA ns p) v
  | [], h, p, hr => by
    have : rem h [] = h := by funext j; simp [rem]
    rw [this]; exact hr
  | k :: ns, h, p, hr => by
    rw [← rem_cons]
    exact scrubsA_rep (hr.scrubA (fun _ h => h) (fun _ _ => rfl) rem_shaped)

theorem scrubsH_get {k : Nat} : ∀ {ns : List Nat} {H : Heap}, getO (scrubsH ns H) k = (getO H k).map (scrubsO ns)
  | [], H => by
    show getO H k = _
    cases getO H k with
    | none => rfl
    | some o =>
      cases o with
      | arr _ _ => rfl
      | box cs =>
        have : cs.map (scrubsA []) = cs := (List.map_congr_left fun _ _ => rfl).trans (List.map_id cs)
        simp [scrubsO, this]
  | j :: ns, H => by
    show getO (scrubsH ns (H.map (scrubO j))) k = _
    rw [scrubsH_get (ns := ns)]
    have e : getO (H.map (scrubO j)) k = (getO H k).map (scrubsO [j]) := by
      unfold getO
      rw [List.getElem?_map]
      cases H[k]? with
      | none => rfl
      | some o =>
        cases o with
        | none => rfl
        | some o => cases o <;> rfl
    rw [e]
    cases getO H k with
    | none => rfl
    | some o =>
      cases o with
      | arr _ _ => rfl
      | box cs =>
        show some (Obj.box ((cs.map (scrubsA [j])).map (scrubsA ns))) = some (Obj.box (cs.map (scrubsA (j :: ns))))
        rw [List.map_map]
        rfl

theorem scrubsH_len : ∀ {ns : List Nat} {H : Heap}, (scrubsH ns H).length = H.length
  | [], _ => rfl
  | j :: ns, H => by
    show (scrubsH ns (H.map (scrubO j))).length = _
    rw [scrubsH_len (ns := ns), List.length_map]

/-! ### Objects that go by new numbers -/

def rn (ρ : List Nat) (base k : Nat) : Nat := if k < ρ.length then ρ.getD k 0 else base + (k - ρ.length)
def renA (r : Nat → Nat) : PV → PV
  | .sf k z => .sf (r k) z
  | .so k z lo len => .so (r k) z lo len
  | .pa k z i off => .pa (r k) z i off
  | .pb k off => .pb (r k) off
  | p => p
def renB (r : Nat → Nat) : PV → PV
  | .agg cs => .agg (cs.map (renA r))
  | p => renA r p
def ren (r : Nat → Nat) : PV → PV
  | .tup cs => .tup (cs.map (renB r))
  | p => renB r p
def renO (r : Nat → Nat) : Option Obj → Option Obj
  | some (.box cs) => some (.box (cs.map (renA r)))
  | o => o
def renOb (r : Nat → Nat) : Obj → Obj
  | .box cs => .box (cs.map (renA r))
  | o => o
def setAll (r : Nat → Nat) : Heap → List Nat → Heap → Heap
  | H, k :: ρ, o :: s => setAll r (H.set k (renO r o)) ρ s
  | H, [], s => H ++ s.map (renO r)
  | H, _ :: _, [] => H

/-- A cell, not an aggregate. -/
def cellA : PV → Bool
  | .agg _ | .tup _ | .fn _ _ | .opt _ _ | .own _ | .cp _ _ => false
  | _ => true
def cellB : PV → Bool
  | .agg cs => cs.all cellA
  | p => cellA p
def cellP : PV → Bool
  | .tup cs => cs.all cellB
  | p => cellB p
/-- Neither memory that is only read. -/
def thinA : PV → Bool
  | .sl _ _ | .pe _ _ _ _ => false
  | p => cellA p
def thinB : PV → Bool
  | .agg cs => cs.all thinA
  | p => thinA p
def thinP : PV → Bool
  | .tup cs => cs.all thinB
  | p => thinB p
def cellO : List (Option Obj) → Bool
  | [] => true
  | some (.box cs) :: r => cs.all cellA && cellO r
  | _ :: r => cellO r
def thinO : List (Option Obj) → Prop
  | [] => True
  | some (.arr _ rows) :: r => (∀ x ∈ rows, ∀ c ∈ x, thinA c = true) ∧ thinO r
  | some (.box cs) :: r => cs.all thinA = true ∧ thinO r
  | none :: r => thinO r

theorem cellO_spec : ∀ {Hout : Heap}, cellO Hout = true → ∀ {k : Nat} {cs : List PV}, getO Hout k = some (.box cs) → cs.all cellA = true
  | [], _, k, cs => by simp [getO]
  | none :: r, ha, k, cs => by
    cases k with
    | zero => simp [getO]
    | succ k => simpa [getO] using cellO_spec (Hout := r) ha (k := k) (cs := cs)
  | some (.arr z rows) :: r, ha, k, cs => by
    cases k with
    | zero => simp [getO]
    | succ k => simpa [getO] using cellO_spec (Hout := r) ha (k := k) (cs := cs)
  | some (.box ds) :: r, ha, k, cs => by
    simp only [cellO, Bool.and_eq_true] at ha
    cases k with
    | zero => intro hk; simp [getO] at hk; subst hk; exact ha.1
    | succ k => simpa [getO] using cellO_spec (Hout := r) ha.2 (k := k) (cs := cs)

theorem thinO_arr : ∀ {Hout : Heap}, thinO Hout → ∀ {k z : Nat} {rows : List (List PV)}, getO Hout k = some (.arr z rows) → ∀ x ∈ rows, ∀ c ∈ x, thinA c = true
  | [], _, k, z, rows, hk => by simp [getO] at hk
  | none :: r, ha, k, z, rows, hk => by
    cases k with
    | zero => simp [getO] at hk
    | succ k => exact thinO_arr (Hout := r) ha (k := k) (by simpa [getO] using hk)
  | some (.arr z' rows') :: r, ha, k, z, rows, hk => by
    cases k with
    | zero => simp [getO] at hk; obtain ⟨rfl, rfl⟩ := hk; exact ha.1
    | succ k => exact thinO_arr (Hout := r) ha.2 (k := k) (by simpa [getO] using hk)
  | some (.box cs) :: r, ha, k, z, rows, hk => by
    cases k with
    | zero => simp [getO] at hk
    | succ k => exact thinO_arr (Hout := r) ha.2 (k := k) (by simpa [getO] using hk)

theorem thinO_box : ∀ {Hout : Heap}, thinO Hout → ∀ {k : Nat} {cs : List PV}, getO Hout k = some (.box cs) → cs.all thinA = true
  | [], _, k, cs, hk => by simp [getO] at hk
  | none :: r, ha, k, cs, hk => by
    cases k with
    | zero => simp [getO] at hk
    | succ k => exact thinO_box (Hout := r) ha (k := k) (by simpa [getO] using hk)
  | some (.arr z' rows') :: r, ha, k, cs, hk => by
    cases k with
    | zero => simp [getO] at hk
    | succ k => exact thinO_box (Hout := r) ha.2 (k := k) (by simpa [getO] using hk)
  | some (.box ds) :: r, ha, k, cs, hk => by
    cases k with
    | zero => simp [getO] at hk; subst hk; exact ha.1
    | succ k => exact thinO_box (Hout := r) ha.2 (k := k) (by simpa [getO] using hk)

theorem setAll_len {r : Nat → Nat} : ∀ {ρ : List Nat} {H s : Heap}, ρ.length ≤ s.length → (setAll r H ρ s).length = H.length + (s.length - ρ.length)
  | [], H, s, _ => by simp [setAll]
  | k :: ρ, H, o :: s, hl => by
    simp only [List.length_cons] at hl ⊢
    rw [setAll, setAll_len (by omega), List.length_set]
    omega
  | _ :: _, H, [], hl => by simp at hl

theorem renO_join {r : Nat → Nat} {x : Option (Option Obj)} : ((x.map (renO r)).getD none) = (x.getD none).map (renOb r) := by
  cases x with
  | none => rfl
  | some o =>
    cases o with
    | none => rfl
    | some o => cases o <;> rfl

/-- What stands where, behind the call. -/
theorem setAll_get {r : Nat → Nat} : ∀ {ρ : List Nat} {H s : Heap}, ρ.length ≤ s.length → (∀ k ∈ ρ, k < H.length) → nodupB ρ = true →
    (∀ (i k : Nat), ρ[i]? = some k → getO (setAll r H ρ s) k = (getO s i).map (renOb r)) ∧ (∀ k, k ∉ ρ → k < H.length → getO (setAll r H ρ s) k = getO H k) ∧
      (∀ j, getO (setAll r H ρ s) (H.length + j) = (getO s (ρ.length + j)).map (renOb r))
  | [], H, s, _, _, _ => by
    refine ⟨fun i k h => by simp at h, fun k _ hk => ?_, fun j => ?_⟩
    · simp only [setAll]; exact getO_append_lt hk
    · simp only [setAll, getO, List.length_nil, Nat.zero_add]
      rw [List.getElem?_append_right (by omega), Nat.add_sub_cancel_left, List.getElem?_map, renO_join]
  | k0 :: ρ, H, o :: s, hl, hk, hn => by
    simp only [List.length_cons] at hl
    simp only [nodupB, Bool.and_eq_true, Bool.not_eq_true', List.contains_eq_mem, decide_eq_false_iff_not] at hn
    obtain ⟨i1, i2, i3⟩ := setAll_get (r := r) (ρ := ρ) (H := H.set k0 (renO r o)) (s := s) (by omega) (fun k h => by rw [List.length_set]; exact hk k (by simp [h])) hn.2
    rw [List.length_set] at i2 i3
    refine ⟨fun i k h => ?_, fun k h1 h2 => ?_, fun j => ?_⟩
    · cases i with
      | zero =>
        cases h
        rw [setAll, i2 k0 hn.1 (hk k0 (by simp))]
        unfold getO
        rw [List.getElem?_set_self (hk k0 (by simp))]
        show renO r o = ((some o).getD none).map (renOb r)
        cases o with
        | none => rfl
        | some o => cases o <;> rfl
      | succ i =>
        rw [setAll, i1 i k (by simpa using h)]
        simp [getO]
    · simp only [List.mem_cons, not_or] at h1
      rw [setAll, i2 k h1.2 h2]
      unfold getO
      rw [List.getElem?_set_ne (fun e => h1.1 e.symm)]
    · rw [setAll, i3 j]
      simp [getO, Nat.add_right_comm]
  | _ :: _, H, [], hl, _, _ => by simp at hl

theorem renA_rep {A2 A3 : Nat → Prop} {m2 m3 : OMap} {h2 h3 : OFun} {r : Nat → Nat} (hm : ∀ k o, h2 k = some o → m3 (r k) = m2 k ∧ h3 (r k) = some (renOb r o)) {c : PV} {v : Value} (hc : cellA c = true) (hr : RepO A2 m2 h2 w c v) (hI : RepI A2 w c v → RepI A3 w c v) :
    RepO A3 m3 h3 w (renA r c) v := by
  cases hr with
  | imm hi =>
    have : renA r c = c := by cases c <;> first | rfl | (cases hi)
    rw [this]
    exact .imm (hI hi)
  | sfN k z C ao hk hm' => obtain ⟨e1, e2⟩ := hm k _ hk; exact .sfN (r k) z C ao e2 (e1.trans hm')
  | sf k z C b rows hk hm' => obtain ⟨e1, e2⟩ := hm k _ hk; exact .sf (r k) z C b rows e2 (e1.trans hm')
  | so0 k z C cap ao hk hm' hcap => obtain ⟨e1, e2⟩ := hm k _ hk; exact .so0 (r k) z C cap ao e2 (e1.trans hm') hcap
  | soE k z lo C cap ao rows b hk hm' hlo => obtain ⟨e1, e2⟩ := hm k _ hk; exact .soE (r k) z lo C cap ao rows b e2 (e1.trans hm') hlo
  | so k z lo len C cap b rows hk hm' hl hcap => obtain ⟨e1, e2⟩ := hm k _ hk; exact .so (r k) z lo len C cap b rows e2 (e1.trans hm') hl hcap
  | pa k z i off C b rows hk hm' => obtain ⟨e1, e2⟩ := hm k _ hk; exact .pa (r k) z i off C b rows e2 (e1.trans hm')
  | pb k off C b cs hk hm' => obtain ⟨e1, e2⟩ := hm k _ hk; exact .pb (r k) off C b _ e2 (e1.trans hm')
  | _ => cases hc

end Go.Ab
