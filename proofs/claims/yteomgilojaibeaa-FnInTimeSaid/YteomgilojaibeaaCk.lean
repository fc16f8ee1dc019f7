/- Contracts: the delay of a sequence. -/
import Derived.Test.YteomgilojaibeaaCj
namespace Go.Proofs.Yteomgilojaibeaa
open Go Go.Ab
set_option maxRecDepth 100000

def dueOf (l : List Order) (k : Int) : Int := match l[k.toNat]? with
  | some x => x.due
  | none => 0
def delAt (l : List Order) (order : List Int) (start : Int) (i : Nat) : Int := endAt l order start i - dueOf l (order.getD i 0)
/-- The greatest of the first i delays, but at least -20000. -/
def mxD (l : List Order) (order : List Int) (start : Int) : Nat → Int
  | 0 => -20000
  | i + 1 => max (mxD l order start i) (delAt l order start i)
def delayOf (l : List Order) (order : List Int) (start : Int) : Int := mxD l order start order.length

theorem delAt_le {l : List Order} {order : List Int} {start : Int} (hk : SeqOk l order start) (ho : order.length ≤ 1048576) {i : Nat} (hi : i < order.length) : -10000 ≤ delAt l order start i ∧ delAt l order start i ≤ 1000000000 ∧ 0 ≤ endAt l order start i ∧ endAt l order start i ≤ 1000000000 ∧ 0 ≤ dueOf l order[i] ∧ dueOf l order[i] ≤ 10000 := by
  have h1 := sum_le hk.valid order (i + 1) (by omega)
  have h2 := hk.s0
  have h3 := hk.s1
  have e : order.getD i 0 = order[i] := by simp [hi]
  have h4 : 0 ≤ dueOf l order[i] ∧ dueOf l order[i] ≤ 10000 := by
    unfold dueOf
    split
    · rename_i x hx
      have := valid_days (valid_mem hk.valid (List.mem_of_getElem? hx))
      omega
    · omega
  unfold delAt endAt
  rw [e]
  omega

theorem mxD_le {l : List Order} {order : List Int} {start : Int} (hk : SeqOk l order start) (ho : order.length ≤ 1048576) : ∀ i, i ≤ order.length → -20000 ≤ mxD l order start i ∧ mxD l order start i ≤ 1000000000
  | 0, _ => by simp [mxD]
  | i + 1, h => by
    have h1 := mxD_le hk ho i (by omega)
    have h2 := delAt_le hk ho (i := i) (by omega)
    simp only [mxD]
    omega

theorem endsOf_get {l : List Order} {order : List Int} {start : Int} {i : Nat} (hi : i < order.length) : (endsOf l order start)[i]? = some (endAt l order start i) := by simp [endsOf, hi]

theorem c_l00Max (a b : Int) : HFn Try.prog 49 [.int .i64 a, .int .i64 b] [] (.int .i64 (max a b)) [] := by
  refine hfn_intro hm Try.func49 (by kernel_rfl) rfl (by kernel_rfl) rfl ret0_ok ?_
  simp
  omega

theorem c_impl_delay (l : List Order) (order : List Int) (start : Int) (ho : order.length ≤ 1048576) (hl : l.length ≤ 1048576) (hk : SeqOk l order start) :
    HFn Try.prog 139 [.sl 5 (Order.rows l), .sl 1 (intRows order), .int .i64 start] [] (.int .i64 (delayOf l order start)) [] := by
  refine hfn_intro hm Try.func139 (by kernel_rfl) rfl (by kernel_rfl) rfl ret0_ok ?_
  simp
  refine CallZ.use (c_impl_ends l order start ho hl hk) rfl (.inr ⟨flat_intRows _, trivial⟩) rfl rfl ?_
  simp
  refine loop_upto hm order.length (fun i => ⟨[(0, .sl 5 (Order.rows l)), (1, .sl 1 (intRows order)), (7, .int .i64 (mxD l order start i)), (13, .sf 0 1), (14, .int .i64 order.length), (15, .int .i64 i)], [some (.arr 1 (intRows (endsOf l order start)))]⟩) (fun _ => True) (by kernel_rfl) ?_ trivial (fun i hi _ => ?_) (fun _ => ?_)
  · refine Wk.weak (ρ := [0]) (φ := []) ?_
    simp [mxD, intRows_len, endsOf_len]
  · obtain ⟨g1, g2⟩ := hk.at_ i hi
    have hkl : order[i].toNat < l.length := by omega
    have hd : dueOf l order[i] = l[order[i].toNat].due := by simp [dueOf, hkl]
    have hb := delAt_le hk ho hi
    have hm' := mxD_le hk ho i (by omega)
    have hE := endsOf_get (l := l) (start := start) hi
    have hEl := endsOf_len l order start
    generalize endsOf l order start = E at *
    have hiE : i < E.length := by omega
    have hEi : E[i] = endAt l order start i := by rw [List.getElem?_eq_getElem hiE] at hE; exact Option.some.inj hE
    have hw : IntKind.i64.wrap (endAt l order start i - l[order[i].toNat].due) = delAt l order start i := by
      rw [← hd, w64 (by omega) (by omega)]
      simp [delAt, hi]
    simp [intRows, hi, hiE, hEi, Order.rows, Order.cells, hkl, hw]
    refine ⟨⟨g1, by omega⟩, ?_⟩
    refine Wk.weak (ρ := [0]) (φ := []) ?_
    simp [mxD]
    exact w64 (by omega) (by omega)
  · simp [delayOf]

theorem c_spec_l29Delay (l : List Order) (order : List Int) (start : Int) (ho : order.length ≤ 1048576) (hl : l.length ≤ 1048576) (hk : SeqOk l order start) (hne : ¬ order.length = 0) :
    HFn Try.prog 96 [.sl 5 (Order.rows l), .sl 1 (intRows order), .int .i64 start] [] (.int .i64 (delayOf l order start)) [] := by
  refine hfn_intro hm Try.func96 (by kernel_rfl) rfl (by kernel_rfl) rfl ret0_ok ?_
  simp
  refine CallZ.use (c_spec_l29Ends l order start ho hl hk) rfl (.inr ⟨flat_intRows _, trivial⟩) rfl rfl ?_
  have facts : ∀ i (hi : i < order.length), ∃ hkl : order[i].toNat < l.length, (0 ≤ order[i] ∧ order[i] < (l.length : Int)) ∧ IntKind.i64.wrap (endAt l order start i - l[order[i].toNat].due) = delAt l order start i := fun i hi => by
    obtain ⟨g1, g2⟩ := hk.at_ i hi
    have hkl : order[i].toNat < l.length := by omega
    have hd : dueOf l order[i] = l[order[i].toNat].due := by simp [dueOf, hkl]
    have hb := delAt_le hk ho hi
    refine ⟨hkl, ⟨g1, by omega⟩, ?_⟩
    rw [← hd, w64 (by omega) (by omega)]
    simp [delAt, hi]
  have hE0 := fun i (hi : i < order.length) => endsOf_get (l := l) (start := start) hi
  have hEl := endsOf_len l order start
  generalize endsOf l order start = E at *
  have hEi : ∀ i (hi : i < order.length) (hiE : i < E.length), E[i] = endAt l order start i := fun i hi hiE => by
    have := hE0 i hi
    rw [List.getElem?_eq_getElem hiE] at this
    exact Option.some.inj this
  have h00 : 0 < order.length := by omega
  obtain ⟨hkl0, ⟨g1, g2⟩, hw0⟩ := facts 0 h00
  have hE00 := hEi 0 h00 (by omega)
  have hEl0 : 0 < E.length := by omega
  simp [intRows, Order.rows, Order.cells, h00, hEl0, hE00, hkl0, hw0]
  refine ⟨⟨g1, g2⟩, ?_⟩
  refine loop_upto hm (order.length - 1) (fun i => ⟨[(0, .sl 5 (Order.rows l)), (1, .sl 1 (intRows order)), (7, .sf 0 1), (8, .int .i64 (mxD l order start (i + 1))), (9, .int .i64 (i + 1 : Nat))], [some (.arr 1 (intRows E))]⟩) (fun _ => True) (by kernel_rfl) ?_ trivial (fun i hi _ => ?_) (fun _ => ?_)
  · refine Wk.weak (ρ := [0]) (φ := []) ?_
    have := delAt_le hk ho h00
    simp [mxD, intRows, Order.rows]
    omega
  · have hi' : i + 1 < order.length := by omega
    obtain ⟨hkl, ⟨g1, g2⟩, hw⟩ := facts (i + 1) hi'
    have hEe := hEi (i + 1) hi' (by omega)
    have hEl' : i + 1 < E.length := by omega
    have hi2 : (i : Int) + 1 < order.length := by omega
    have hi3 : (i : Int) + 1 < E.length := by omega
    have hi4 : (0 : Int) ≤ (i : Int) + 1 := by omega
    simp [intRows, Order.rows, Order.cells, hi', hEl', hEe, hkl, hw, hi2, hi3, hi4]
    refine ⟨⟨g1, g2⟩, CallZ.use0 (c_l00Max _ _) rfl rfl ?_⟩
    simp
    refine Wk.weak (ρ := [0]) (φ := []) ?_
    simp [mxD]
    exact w64 (by omega) (by omega)
  · have e : order.length - 1 + 1 = order.length := by omega
    have e2 : ¬ (((order.length - 1 : Nat) : Int) + 1 < order.length) := by omega
    simp [delayOf, e, intRows]

/-- What DelayOf hands back. -/
def delayCode (l : List Order) (order : List Int) (start : Int) : Int := if seqCode l order start = 0 then (if order.length = 0 then 6 else 0) else seqCode l order start
def delayR (l : List Order) (order : List Int) (start : Int) : PV := .tup [.int .i64 (if seqCode l order start = 0 then (if order.length = 0 then 0 else delayOf l order start) else 0), .int .i64 (delayCode l order start)]

theorem c_spec_DelayOf (l : List Order) (order : List Int) (start : Int) (ho : order.length ≤ 1048576) (hl : l.length ≤ 1048576) :
    HFn Try.prog 94 [.sl 5 (Order.rows l), .sl 1 (intRows order), .int .i64 start] [] (delayR l order start) [] := by
  refine hfn_intro hm Try.func94 (by kernel_rfl) rfl (by kernel_rfl) rfl ret0_ok ?_
  simp
  refine CallZ.use0 (c_l29Ask l order start hl ho) rfl rfl ?_
  simp
  refine ⟨fun h => by simp [delayR, delayCode, h], fun h => ?_⟩
  simp [intRows_len]
  refine ⟨fun h0 => by subst h0; simp [delayR, delayCode, h], fun h0 => ?_⟩
  refine CallZ.use0 (c_spec_l29Delay l order start ho hl (seqOk_of h) (by simpa using h0)) rfl rfl ?_
  simp [delayR, delayCode, h, h0]

end Go.Proofs.Yteomgilojaibeaa
