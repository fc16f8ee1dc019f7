/- Contracts: equal lists of records and of orders; valid records. -/
import Derived.Test.YtnfjkfjbhdlphaaGreatCf
import Derived.Test.YtnfjkfjbhdlphaaGreatTRecord
namespace Go.Proofs.YtnfjkfjbhdlphaaGreat
open Go Go.Ab
set_option maxRecDepth 100000

/-! ### The same records -/

theorem c_impl_SameRecords (a b : List Record) (ha : a.length ≤ 9223372036854775807) : HFn Tryz.prog 36 [.sl 3 (Record.rows a), .sl 3 (Record.rows b)] [] (.bool (decide (a = b))) [] := by
  refine hfn_intro hm Tryz.func36 (by kernel_rfl) rfl (by kernel_rfl) rfl ret0_ok ?_
  simp
  refine CallZ.use0 (c_EqualRecord a b ha) rfl rfl ?_
  simp

theorem c_spec_SameRecords (a b : List Record) (ha : a.length ≤ 9223372036854775807) : HFn Tryz.prog 22 [.sl 3 (Record.rows a), .sl 3 (Record.rows b)] [] (.bool (decide (a = b))) [] := by
  refine hfn_intro hm Tryz.func22 (by kernel_rfl) rfl (by kernel_rfl) rfl ret0_ok ?_
  simp [Record.rows]
  refine ⟨fun h => ?_, fun h => ?_⟩
  · exact fun e => h (by rw [e])
  · refine loop_upto hm a.length (fun i => ⟨[(0, .sl 3 (Record.rows a)), (1, .sl 3 (Record.rows b)), (5, .int .i64 i)], []⟩) (fun i => a.take i = b.take i) (by kernel_rfl) ?_ (by simp) (fun i hi hI => ?_) (fun hI => ?_)
    · exact Wk.weak (ρ := []) (φ := []) (by simp [Record.rows])
    · have hl : a.length = b.length := by omega
      have ea := List.getElem?_eq_getElem hi
      have hi' : i < b.length := by omega
      have eb := List.getElem?_eq_getElem hi'
      simp [Record.rows, Record.cells, hi, hi']
      refine ⟨fun h e => ?_, fun q0 q1 q2 => ⟨take_succ_eq hI ea eb (Record.eq_iff.2 ⟨q0, q1, q2⟩), ?_⟩⟩
      · subst e; simp at h
      · refine Wk.weak (ρ := []) (φ := []) ?_
        simp
        exact w64 (by omega) (by omega)
    · simp [Record.rows]
      exact eq_of_take hI (by omega)

/-! ### The same orders -/

theorem c_impl_SameOrders (a b : List Order) (ha : a.length ≤ 9223372036854775807) : HFn Tryz.prog 35 [.sl 5 (Order.rows a), .sl 5 (Order.rows b)] [] (.bool (decide (a = b))) [] := by
  refine hfn_intro hm Tryz.func35 (by kernel_rfl) rfl (by kernel_rfl) rfl ret0_ok ?_
  simp
  refine CallZ.use0 (c_EqualOrder a b ha) rfl rfl ?_
  simp

theorem c_spec_SameOrders (a b : List Order) (ha : a.length ≤ 9223372036854775807) : HFn Tryz.prog 21 [.sl 5 (Order.rows a), .sl 5 (Order.rows b)] [] (.bool (decide (a = b))) [] := by
  refine hfn_intro hm Tryz.func21 (by kernel_rfl) rfl (by kernel_rfl) rfl ret0_ok ?_
  simp [Order.rows]
  refine ⟨fun h => ?_, fun h => ?_⟩
  · exact fun e => h (by rw [e])
  · refine loop_upto hm a.length (fun i => ⟨[(0, .sl 5 (Order.rows a)), (1, .sl 5 (Order.rows b)), (5, .int .i64 i)], []⟩) (fun i => a.take i = b.take i) (by kernel_rfl) ?_ (by simp) (fun i hi hI => ?_) (fun hI => ?_)
    · exact Wk.weak (ρ := []) (φ := []) (by simp [Order.rows])
    · have hl : a.length = b.length := by omega
      have ea := List.getElem?_eq_getElem hi
      have hi' : i < b.length := by omega
      have eb := List.getElem?_eq_getElem hi'
      simp [Order.rows, Order.cells, hi, hi']
      refine ⟨fun h e => ?_, fun q0 q1 q2 q3 q4 => ⟨take_succ_eq hI ea eb (Order.eq_iff.2 ⟨q0, q1, q2, q3, q4⟩), ?_⟩⟩
      · subst e; simp at h
      · refine Wk.weak (ρ := []) (φ := []) ?_
        simp
        exact w64 (by omega) (by omega)
    · simp [Order.rows]
      exact eq_of_take hI (by omega)

/-! ### Valid records -/

def remarkB (b : UInt8) : Bool := decide ((32 : Int) ≤ b.toNat) && decide ((b.toNat : Int) ≤ 126)
def isRemark (s : List UInt8) : Bool := decide ((s.length : Int) ≤ 60) && s.all remarkB

theorem c_isRemark1 (b : UInt8) : HFn Tryz.prog 237 [.int .u8 b.toNat] [] (.bool (!remarkB b)) [] := by
  refine hfn_intro hm Tryz.func237 (by kernel_rfl) rfl (by kernel_rfl) rfl ret0_ok ?_
  simp [remarkB]
  congr 1 <;> rw [← decide_not] <;> simp

theorem c_IndexFuncB (f : Nat) (p : UInt8 → Bool) (hf : ∀ b : UInt8, HFn Tryz.prog f [.int .u8 b.toNat] [] (.bool (p b)) []) (s : List UInt8) (hs : s.length ≤ 9223372036854775807) :
    HFn Tryz.prog 243 [.sl 1 (bytesV s), .fn f []] [] (.int .i64 (findI p s)) [] := by
  refine hfn_intro hm Tryz.func243 (by kernel_rfl) rfl (by kernel_rfl) rfl ret0_ok ?_
  simp [bytesV]
  refine loop_upto hm s.length (fun i => ⟨[(0, .sl 1 (bytesV s)), (1, .fn f []), (7, .int .i64 s.length), (8, .int .i64 i)], []⟩) (fun i => ∀ j (h : j < s.length), j < i → p s[j] = false) (by kernel_rfl) ?_ (by simp) (fun i hi hI => ?_) (fun hI => ?_)
  · exact Wk.weak (ρ := []) (φ := []) (by simp [bytesV])
  · simp [bytesV, hi]
    refine CallZ.use0 (hf _) rfl rfl ?_
    simp
    refine ⟨fun h => (findI_at hi h hI).symm, fun h => ⟨fun j hj hji => ?_, ?_⟩⟩
    · by_cases e : j = i
      · subst e; exact h
      · exact hI j hj (by omega)
    · refine Wk.weak (ρ := []) (φ := []) ?_
      simp
      exact w64 (by omega) (by omega)
  · simp [bytesV]
    exact (findI_none fun j hj => hI j hj hj).symm

theorem c_ContainsFuncB (f : Nat) (p : UInt8 → Bool) (hf : ∀ b : UInt8, HFn Tryz.prog f [.int .u8 b.toNat] [] (.bool (p b)) []) (s : List UInt8) (hs : s.length ≤ 9223372036854775807) :
    HFn Tryz.prog 236 [.sl 1 (bytesV s), .fn f []] [] (.bool (s.any p)) [] := by
  refine hfn_intro hm Tryz.func236 (by kernel_rfl) rfl (by kernel_rfl) rfl ret0_ok ?_
  simp
  refine CallZ.use0 (c_IndexFuncB f p hf s hs) rfl rfl ?_
  simp
  exact findI_any

theorem c_isRemark (s : List UInt8) (hs : s.length ≤ 9223372036854775807) : HFn Tryz.prog 211 [.str s] [] (.bool (isRemark s)) [] := by
  refine hfn_intro hm Tryz.func211 (by kernel_rfl) rfl (by kernel_rfl) rfl ret0_ok ?_
  simp
  refine CallY.use (fun _ => ⟨rfl, c_ContainsFuncB _ _ c_isRemark1 s hs⟩) rfl rfl ?_
  simp [isRemark]
  rw [List.all_eq_not_any_not]

theorem c_l30Words (s : List UInt8) (hs : s.length ≤ 9223372036854775807) : HFn Tryz.prog 233 [.str s] [] (.bool (isRemark s)) [] := by
  refine hfn_intro hm Tryz.func233 (by kernel_rfl) rfl (by kernel_rfl) rfl ret0_ok ?_
  simp
  refine loop_upto hm s.length (fun i => ⟨[(0, .str s), (3, .int .i64 i)], []⟩) (fun i => ∀ j (h : j < s.length), j < i → remarkB s[j] = true) (by kernel_rfl) ?_ (by simp) (fun i hi hI => ?_) (fun hI => ?_)
  · exact Wk.weak (ρ := []) (φ := []) (by simp)
  · simp [hi]
    have hr : remarkB s[i] = true ↔ (32 : Int) ≤ s[i].toNat ∧ (s[i].toNat : Int) ≤ 126 := by simp [remarkB]
    refine ⟨fun h => ?_, fun h4 h5 => ⟨fun j hj hji => ?_, ?_⟩⟩
    · have h0 : ¬ remarkB s[i] = true := by rw [hr]; omega
      have h1 : s.all remarkB = false := by
        rw [← Bool.not_eq_true, List.all_eq_true]
        exact fun hc => h0 (hc _ (List.getElem_mem hi))
      simp [isRemark, h1]
    · by_cases e : j = i
      · subst e; exact hr.2 ⟨h4, h5⟩
      · exact hI j hj (by omega)
    · refine Wk.weak (ρ := []) (φ := []) ?_
      simp
      exact w64 (by omega) (by omega)
  · simp
    have : s.all remarkB = true := List.all_eq_true.2 fun x hx => by
      obtain ⟨j, hj, rfl⟩ := List.getElem_of_mem hx
      exact hI j hj hj
    simp [isRemark, this]

def validRecord (r : Record) : Bool :=
  if r.kind = 1 then isName r.key && isRemark r.text
  else if r.kind = 2 then isName r.key && decide (r.text = [])
  else decide (r.kind = 3) && decide (r.key = []) && decide (r.text = [])

theorem c_impl_ValidRecord (r : Record) (hr : r.wf) : HFn Tryz.prog 157 [.agg r.cells] [] (.bool (validRecord r)) [] := by
  refine hfn_intro hm Tryz.func157 (by kernel_rfl) rfl (by kernel_rfl) rfl ret0_ok ?_
  simp [Record.cells]
  refine ⟨fun h => ?_, fun h1 => ⟨fun h => ?_, fun h2 => ?_⟩⟩
  · refine CallZ.use0 (c_impl_IsName _) rfl rfl ?_
    simp
    refine CallY.use (fun _ => ⟨rfl, c_isRemark _ hr.2.2.2⟩) rfl rfl ?_
    simp [validRecord, h]
  · refine CallZ.use0 (c_impl_IsName _) rfl rfl ?_
    simp [validRecord, h]
  · simp [validRecord, h1, h2]
    exact fun a b => ⟨a, b⟩

theorem c_l30One (x : Record) (hr : x.wf) (rows : List (List PV)) (i : Nat) (h : rows[i]? = some x.cells) : HFn Tryz.prog 209 [.pe 3 rows i 0] [] (.bool (validRecord x)) [] := by
  have hi : i < rows.length := (List.getElem?_eq_some_iff.1 h).1
  have hx : rows[i] = x.cells := by rw [List.getElem?_eq_getElem hi] at h; exact Option.some.inj h
  refine hfn_intro hm Tryz.func209 (by kernel_rfl) rfl (by kernel_rfl) rfl ret0_ok ?_
  rw [Record.cells] at h hx
  simp [hi, hx]
  refine ⟨fun h1 => ?_, fun h1 => ⟨fun h2 => ?_, fun h2 => ⟨fun a b => ⟨a, b⟩, ?_⟩⟩⟩
  · refine CallZ.use0 (c_spec_l01Name _) rfl rfl ?_
    simp [hi, hx]
    first
      | refine CallY.use (fun _ => ⟨rfl, c_l30Words _ hr.2.2.2⟩) rfl rfl ?_
      | refine ⟨by intros; simp [*], CallY.use (fun _ => ⟨rfl, c_l30Words _ hr.2.2.2⟩) rfl rfl ?_⟩
    simp [validRecord, h1]
  · refine CallZ.use0 (c_spec_l01Name _) rfl rfl ?_
    simp [hi, hx, validRecord, h2]
  · simp [validRecord, h1, h2]

end Go.Proofs.YtnfjkfjbhdlphaaGreat
