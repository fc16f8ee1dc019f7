/- Contracts: the delay of a sequence. -/
import Derived.Test.YtnfjkfjbhdlphaaGreatCj
namespace Go.Proofs.YtnfjkfjbhdlphaaGreat
open Go Go.Ab
set_option maxRecDepth 100000

def dueOf (l : List Order) (k : Int) : Int := match l[k.toNat]? with
  | some x => x.due
  | none => 0
def delAt (l : List Order) (order : List Int) (start : Int) (i : Nat) : Int := endAt l order start i - dueOf l (order.getD i 0)
/-- The greatest of the first i delays, but at least -20000. -/
def mxD (l : List Order) (order : List Int) (start : Int) : Nat → Int
  | 0 => -20000
  | i + 1 => max (mxD l order start i) (delAt l order start i)
def delayOf (l : List Order) (order : List Int) (start : Int) : Int := mxD l order start order.length

theorem delAt_le {l : List Order} {order : List Int} {start : Int} (hk : SeqOk l order start) (ho : order.length ≤ 1048576) {i : Nat} (hi : i < order.length) : -10000 ≤ delAt l order start i ∧ delAt l order start i ≤ 1000000000 ∧ 0 ≤ endAt l order start i ∧ endAt l order start i ≤ 1000000000 ∧ 0 ≤ dueOf l order[i] ∧ dueOf l order[i] ≤ 10000 := by
  have h1 := sum_le hk.valid order (i + 1) (by omega)
  have h2 := hk.s0
  have h3 := hk.s1
  have e : order.getD i 0 = order[i] := by simp [hi]
  have h4 : 0 ≤ dueOf l order[i] ∧ dueOf l order[i] ≤ 10000 := by
    unfold dueOf
    split
    · rename_i x hx
      have := valid_days (valid_mem hk.valid (List.mem_of_getElem? hx))
      omega
    · omega
  unfold delAt endAt
  rw [e]
  omega

theorem mxD_le {l : List Order} {order : List Int} {start : Int} (hk : SeqOk l order start) (ho : order.length ≤ 1048576) : ∀ i, i ≤ order.length → -20000 ≤ mxD l order start i ∧ mxD l order start i ≤ 1000000000
  | 0, _ => by simp [mxD]
  | i + 1, h => by
    have h1 := mxD_le hk ho i (by omega)
    have h2 := delAt_le hk ho (i := i) (by omega)
    simp only [mxD]
    omega

theorem endsOf_get {l : List Order} {order : List Int} {start : Int} {i : Nat} (hi : i < order.length) : (endsOf l order start)[i]? = some (endAt l order start i) := by simp [endsOf, hi]

/-- What DelayOf hands back. -/
def delayCode (l : List Order) (order : List Int) (start : Int) : Int := if seqCode l order start = 0 then (if order.length = 0 then 6 else 0) else seqCode l order start
def delayR (l : List Order) (order : List Int) (start : Int) : PV := .tup [.int .i64 (if seqCode l order start = 0 then (if order.length = 0 then 0 else delayOf l order start) else 0), .int .i64 (delayCode l order start)]

end Go.Proofs.YtnfjkfjbhdlphaaGreat
