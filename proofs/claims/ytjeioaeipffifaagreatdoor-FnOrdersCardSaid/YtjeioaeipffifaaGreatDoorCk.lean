/- Contracts: the delay of a sequence. -/
import Derived.Test.YtjeioaeipffifaaGreatDoorCj
namespace Go.Proofs.YtjeioaeipffifaaGreatDoor
open Go Go.Ab
set_option maxRecDepth 100000

def dueOf (l : List Order) (k : Int) : Int := match l[k.toNat]? with
  | some x => x.due
  | none => 0
def delAt (l : List Order) (order : List Int) (start : Int) (i : Nat) : Int := endAt l order start i - dueOf l (order.getD i 0)
/-- The greatest of the first i delays, but at least -20000. -/
def mxD (l : List Order) (order : List Int) (start : Int) : Nat → Int
  | 0 => -20000
  | i + 1 => max (mxD l order start i) (delAt l order start i)
def delayOf (l : List Order) (order : List Int) (start : Int) : Int := mxD l order start order.length

theorem delAt_le {l : List Order} {order : List Int} {start : Int} (hk : SeqOk l order start) (ho : order.length ≤ 1048576) {i : Nat} (hi : i < order.length) : -10000 ≤ delAt l order start i ∧ delAt l order start i ≤ 1000000000 ∧ 0 ≤ endAt l order start i ∧ endAt l order start i ≤ 1000000000 ∧ 0 ≤ dueOf l order[i] ∧ dueOf l order[i] ≤ 10000 := by
  have h1 := sum_le hk.valid order (i + 1) (by omega)
  have h2 := hk.s0
  have h3 := hk.s1
  have e : order.getD i 0 = order[i] := by simp [hi]
  have h4 : 0 ≤ dueOf l order[i] ∧ dueOf l order[i] ≤ 10000 := by
    unfold dueOf
    split
    · rename_i x hx
      have := valid_days (valid_mem hk.valid (List.mem_of_getElem? hx))
      omega
    · omega
  unfold delAt endAt
  rw [e]
  omega

theorem mxD_le {l : List Order} {order : List Int} {start : Int} (hk : SeqOk l order start) (ho : order.length ≤ 1048576) : ∀ i, i ≤ order.length → -20000 ≤ mxD l order start i ∧ mxD l order start i ≤ 1000000000
  | 0, _ => by simp [mxD]
  | i + 1, h => by
    have h1 := mxD_le hk ho i (by omega)
    have h2 := delAt_le hk ho (i := i) (by omega)
    simp only [mxD]
    omega

theorem endsOf_get {l : List Order} {order : List Int} {start : Int} {i : Nat} (hi : i < order.length) : (endsOf l order start)[i]? = some (endAt l order start i) := by simp [endsOf, hi]

theorem c_impl_delay (l : List Order) (order : List Int) (start : Int) (ho : order.length ≤ 1048576) (hl : l.length ≤ 1048576) (hk : SeqOk l order start) :
    HFn Tryz.prog 56 [.sl 5 (Order.rows l), .sl 1 (intRows order), .int .i64 start] [] (.int .i64 (delayOf l order start)) [] := by
  refine hfn_intro hm Tryz.func56 (by kernel_rfl) rfl (by kernel_rfl) rfl ret0_ok ?_
  simp
  refine CallZ.use (c_impl_ends l order start ho hl hk) rfl (.inr ⟨flat_intRows _, trivial⟩) rfl rfl ?_
  simp
  refine loop_upto hm order.length (fun i => ⟨[(0, .sl 5 (Order.rows l)), (1, .sl 1 (intRows order)), (7, .int .i64 (mxD l order start i)), (13, .sf 0 1), (14, .int .i64 order.length), (15, .int .i64 i)], [some (.arr 1 (intRows (endsOf l order start)))]⟩) (fun _ => True) (by kernel_rfl) ?_ trivial (fun i hi _ => ?_) (fun _ => ?_)
  · refine Wk.weak (ρ := [0]) (φ := []) ?_
    simp [mxD, intRows_len, endsOf_len]
  · obtain ⟨g1, g2⟩ := hk.at_ i hi
    have hkl : order[i].toNat < l.length := by omega
    have hd : dueOf l order[i] = l[order[i].toNat].due := by simp [dueOf, hkl]
    have hb := delAt_le hk ho hi
    have hm' := mxD_le hk ho i (by omega)
    have hE := endsOf_get (l := l) (start := start) hi
    have hEl := endsOf_len l order start
    generalize endsOf l order start = E at *
    have hiE : i < E.length := by omega
    have hEi : E[i] = endAt l order start i := by rw [List.getElem?_eq_getElem hiE] at hE; exact Option.some.inj hE
    have hw : IntKind.i64.wrap (endAt l order start i - l[order[i].toNat].due) = delAt l order start i := by
      rw [← hd, w64 (by omega) (by omega)]
      simp [delAt, hi]
    simp [intRows, hi, hiE, hEi, Order.rows, Order.cells, hkl, hw]
    refine ⟨⟨g1, by omega⟩, ?_⟩
    refine Wk.weak (ρ := [0]) (φ := []) ?_
    simp [mxD]
    exact w64 (by omega) (by omega)
  · simp [delayOf]

/-- What DelayOf hands back. -/
def delayCode (l : List Order) (order : List Int) (start : Int) : Int := if seqCode l order start = 0 then (if order.length = 0 then 6 else 0) else seqCode l order start
def delayR (l : List Order) (order : List Int) (start : Int) : PV := .tup [.int .i64 (if seqCode l order start = 0 then (if order.length = 0 then 0 else delayOf l order start) else 0), .int .i64 (delayCode l order start)]

theorem c_impl_DelayOf (l : List Order) (order : List Int) (start : Int) (ho : order.length ≤ 1048576) (hl : l.length ≤ 1048576) :
    HFn Tryz.prog 17 [.sl 5 (Order.rows l), .sl 1 (intRows order), .int .i64 start] [] (delayR l order start) [] := by
  refine hfn_intro hm Tryz.func17 (by kernel_rfl) rfl (by kernel_rfl) rfl ret0_ok ?_
  simp
  refine CallZ.use0 (c_sequenced l order start hl ho) rfl rfl ?_
  simp
  refine ⟨fun h => by simp [delayR, delayCode, h], fun h => ?_⟩
  simp [intRows_len]
  refine ⟨fun h0 => by subst h0; simp [delayR, delayCode, h], fun h0 => ?_⟩
  refine CallZ.use0 (c_impl_delay l order start ho hl (seqOk_of h)) rfl rfl ?_
  simp [delayR, delayCode, h, h0]

end Go.Proofs.YtjeioaeipffifaaGreatDoor
