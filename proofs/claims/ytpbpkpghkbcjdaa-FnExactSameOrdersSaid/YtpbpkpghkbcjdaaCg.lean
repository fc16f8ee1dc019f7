/- Contracts: equal lists of records and of orders; valid records. -/
import Derived.Test.YtpbpkpghkbcjdaaCf
import Derived.Test.YtpbpkpghkbcjdaaTRecord
namespace Go.Proofs.Ytpbpkpghkbcjdaa
open Go Go.Ab
set_option maxRecDepth 100000

/-! ### The same records -/

theorem c_impl_SameRecords (a b : List Record) (ha : a.length ≤ 9223372036854775807) : HFn Try.prog 28 [.sl 3 (Record.rows a), .sl 3 (Record.rows b)] [] (.bool (decide (a = b))) [] := by
  refine hfn_intro hm Try.func28 (by kernel_rfl) rfl (by kernel_rfl) rfl ret0_ok ?_
  simp
  refine CallZ.use0 (c_EqualRecord a b ha) rfl rfl ?_
  simp

theorem c_spec_SameRecords (a b : List Record) (ha : a.length ≤ 9223372036854775807) : HFn Try.prog 26 [.sl 3 (Record.rows a), .sl 3 (Record.rows b)] [] (.bool (decide (a = b))) [] := by
  refine hfn_intro hm Try.func26 (by kernel_rfl) rfl (by kernel_rfl) rfl ret0_ok ?_
  simp [Record.rows]
  refine ⟨fun h => ?_, fun h => ?_⟩
  · exact fun e => h (by rw [e])
  · refine loop_upto hm a.length (fun i => ⟨[(0, .sl 3 (Record.rows a)), (1, .sl 3 (Record.rows b)), (5, .int .i64 i)], []⟩) (fun i => a.take i = b.take i) (by kernel_rfl) ?_ (by simp) (fun i hi hI => ?_) (fun hI => ?_)
    · exact Wk.weak (ρ := []) (φ := []) (by simp [Record.rows])
    · have hl : a.length = b.length := by omega
      have ea := List.getElem?_eq_getElem hi
      have hi' : i < b.length := by omega
      have eb := List.getElem?_eq_getElem hi'
      simp [Record.rows, Record.cells, hi, hi']
      refine ⟨fun h e => ?_, fun q0 q1 q2 => ⟨take_succ_eq hI ea eb (Record.eq_iff.2 ⟨q0, q1, q2⟩), ?_⟩⟩
      · subst e; simp at h
      · refine Wk.weak (ρ := []) (φ := []) ?_
        simp [Record.rows]
        exact w64 (by omega) (by omega)
    · simp [Record.rows]
      exact eq_of_take hI (by omega)

theorem c_law_SameRecords (a b : List Record) (ha : a.length ≤ 9223372036854775807) (hb : b.length ≤ 9223372036854775807) (wa : ∀ x ∈ a, x.wf) (wb : ∀ x ∈ b, x.wf) :
    HFn Try.prog 7 [.sl 3 (Record.rows a), .sl 3 (Record.rows b)] [] (.bool true) [] := by
  refine hfn_intro hm Try.func7 (by kernel_rfl) rfl (by kernel_rfl) rfl ret0_ok ?_
  simp
  refine CallZ.use0 (c_szRecordS a 1048576 (by omega) ha wa) rfl rfl ?_
  simp
  intro h1
  have h1' := szR_ge h1
  have e1 : szR (Record.szS a) 1048576 = ((1048576 - Record.szS a : Nat) : Int) := by rw [szR_pos h1']; omega
  rw [e1]
  refine CallZ.use0 (c_szRecordS b _ (by omega) hb wb) rfl rfl ?_
  simp
  intro h2
  have h2' := szR_ge h2
  have la : a.length ≤ 1048576 := by unfold Record.szS at h1'; omega
  have lb : b.length ≤ 1048576 := by unfold Record.szS at h2'; omega
  refine CallZ.use (c_toRecordS a la) rfl (.inr ⟨Record.flat _, trivial⟩) rfl rfl ?_
  simp
  refine CallZ.use (c_toRecordS b lb) rfl (.inr ⟨Record.flat _, trivial⟩) rfl rfl ?_
  simp
  refine CallZ.use0 (c_spec_SameRecords a b ha) rfl rfl ?_
  simp
  refine CallZ.use (c_toRecordS a la) rfl (.inr ⟨Record.flat _, trivial⟩) rfl rfl ?_
  simp
  refine CallZ.use (c_toRecordS b lb) rfl (.inr ⟨Record.flat _, trivial⟩) rfl rfl ?_
  simp
  refine CallZ.use0 (c_impl_SameRecords a b ha) rfl rfl ?_
  simp
  refine CallZ.use (c_toRecordS a la) rfl (.inr ⟨Record.flat _, trivial⟩) rfl rfl ?_
  simp
  refine CallZ.use0 (c_eqRecordS a a ha) rfl rfl ?_
  simp
  refine CallZ.use (c_toRecordS b lb) rfl (.inr ⟨Record.flat _, trivial⟩) rfl rfl ?_
  simp
  refine CallZ.use0 (c_eqRecordS b b hb) rfl rfl ?_
  simp

theorem l_FnExactSameRecords (pargs : List PV) (h : fitsAll [.one (.slc [.int .i64, .str, .str]), .one (.slc [.int .i64, .str, .str])] pargs) : HFn Try.prog 7 pargs [] (.bool true) [] := by
  obtain ⟨p, q, rfl, h1, h2⟩ := fitsAll_cons h
  obtain ⟨p2, q2, rfl, h3, h4⟩ := fitsAll_cons h2
  obtain rfl := fitsAll_nil h4
  obtain ⟨r1, rfl, l1, f1⟩ := fits_slc h1
  obtain ⟨r2, rfl, l2, f2⟩ := fits_slc h3
  obtain ⟨a, rfl, wa⟩ := Record.fitsS f1
  obtain ⟨b, rfl, wb⟩ := Record.fitsS f2
  rw [Record.rows_len] at l1 l2
  exact c_law_SameRecords a b l1 l2 wa wb
/-! ### The same orders -/

theorem c_impl_SameOrders (a b : List Order) (ha : a.length ≤ 9223372036854775807) : HFn Try.prog 37 [.sl 5 (Order.rows a), .sl 5 (Order.rows b)] [] (.bool (decide (a = b))) [] := by
  refine hfn_intro hm Try.func37 (by kernel_rfl) rfl (by kernel_rfl) rfl ret0_ok ?_
  simp
  refine CallZ.use0 (c_EqualOrder a b ha) rfl rfl ?_
  simp

theorem c_spec_SameOrders (a b : List Order) (ha : a.length ≤ 9223372036854775807) : HFn Try.prog 35 [.sl 5 (Order.rows a), .sl 5 (Order.rows b)] [] (.bool (decide (a = b))) [] := by
  refine hfn_intro hm Try.func35 (by kernel_rfl) rfl (by kernel_rfl) rfl ret0_ok ?_
  simp [Order.rows]
  refine ⟨fun h => ?_, fun h => ?_⟩
  · exact fun e => h (by rw [e])
  · refine loop_upto hm a.length (fun i => ⟨[(0, .sl 5 (Order.rows a)), (1, .sl 5 (Order.rows b)), (5, .int .i64 i)], []⟩) (fun i => a.take i = b.take i) (by kernel_rfl) ?_ (by simp) (fun i hi hI => ?_) (fun hI => ?_)
    · exact Wk.weak (ρ := []) (φ := []) (by simp [Order.rows])
    · have hl : a.length = b.length := by omega
      have ea := List.getElem?_eq_getElem hi
      have hi' : i < b.length := by omega
      have eb := List.getElem?_eq_getElem hi'
      simp [Order.rows, Order.cells, hi, hi']
      refine ⟨fun h e => ?_, fun q0 q1 q2 q3 q4 => ⟨take_succ_eq hI ea eb (Order.eq_iff.2 ⟨q0, q1, q2, q3, q4⟩), ?_⟩⟩
      · subst e; simp at h
      · refine Wk.weak (ρ := []) (φ := []) ?_
        simp [Order.rows]
        exact w64 (by omega) (by omega)
    · simp [Order.rows]
      exact eq_of_take hI (by omega)

theorem c_law_SameOrders (a b : List Order) (ha : a.length ≤ 9223372036854775807) (hb : b.length ≤ 9223372036854775807) (wa : ∀ x ∈ a, x.wf) (wb : ∀ x ∈ b, x.wf) :
    HFn Try.prog 9 [.sl 5 (Order.rows a), .sl 5 (Order.rows b)] [] (.bool true) [] := by
  refine hfn_intro hm Try.func9 (by kernel_rfl) rfl (by kernel_rfl) rfl ret0_ok ?_
  simp
  refine CallZ.use0 (c_szOrderS a 1048576 (by omega) ha wa) rfl rfl ?_
  simp
  intro h1
  have h1' := szR_ge h1
  have e1 : szR (Order.szS a) 1048576 = ((1048576 - Order.szS a : Nat) : Int) := by rw [szR_pos h1']; omega
  rw [e1]
  refine CallZ.use0 (c_szOrderS b _ (by omega) hb wb) rfl rfl ?_
  simp
  intro h2
  have h2' := szR_ge h2
  have la : a.length ≤ 1048576 := by unfold Order.szS at h1'; omega
  have lb : b.length ≤ 1048576 := by unfold Order.szS at h2'; omega
  refine CallZ.use (c_toOrderS a la) rfl (.inr ⟨Order.flat _, trivial⟩) rfl rfl ?_
  simp
  refine CallZ.use (c_toOrderS b lb) rfl (.inr ⟨Order.flat _, trivial⟩) rfl rfl ?_
  simp
  refine CallZ.use0 (c_spec_SameOrders a b ha) rfl rfl ?_
  simp
  refine CallZ.use (c_toOrderS a la) rfl (.inr ⟨Order.flat _, trivial⟩) rfl rfl ?_
  simp
  refine CallZ.use (c_toOrderS b lb) rfl (.inr ⟨Order.flat _, trivial⟩) rfl rfl ?_
  simp
  refine CallZ.use0 (c_impl_SameOrders a b ha) rfl rfl ?_
  simp
  refine CallZ.use (c_toOrderS a la) rfl (.inr ⟨Order.flat _, trivial⟩) rfl rfl ?_
  simp
  refine CallZ.use0 (c_eqOrderS a a ha) rfl rfl ?_
  simp
  refine CallZ.use (c_toOrderS b lb) rfl (.inr ⟨Order.flat _, trivial⟩) rfl rfl ?_
  simp
  refine CallZ.use0 (c_eqOrderS b b hb) rfl rfl ?_
  simp

theorem l_FnExactSameOrders (pargs : List PV) (h : fitsAll [.one (.slc [.str, .int .i64, .int .i64, .int .i64, .int .i64]), .one (.slc [.str, .int .i64, .int .i64, .int .i64, .int .i64])] pargs) : HFn Try.prog 9 pargs [] (.bool true) [] := by
  obtain ⟨p, q, rfl, h1, h2⟩ := fitsAll_cons h
  obtain ⟨p2, q2, rfl, h3, h4⟩ := fitsAll_cons h2
  obtain rfl := fitsAll_nil h4
  obtain ⟨r1, rfl, l1, f1⟩ := fits_slc h1
  obtain ⟨r2, rfl, l2, f2⟩ := fits_slc h3
  obtain ⟨a, rfl, wa⟩ := Order.fitsS f1
  obtain ⟨b, rfl, wb⟩ := Order.fitsS f2
  rw [Order.rows_len] at l1 l2
  exact c_law_SameOrders a b l1 l2 wa wb
/-! ### Valid records -/

def remarkB (b : UInt8) : Bool := decide ((32 : Int) ≤ b.toNat) && decide ((b.toNat : Int) ≤ 126)
def isRemark (s : List UInt8) : Bool := decide ((s.length : Int) ≤ 60) && s.all remarkB

theorem c_isRemark1 (b : UInt8) : HFn Try.prog 63 [.int .u8 b.toNat] [] (.bool (!remarkB b)) [] := by
  refine hfn_intro hm Try.func63 (by kernel_rfl) rfl (by kernel_rfl) rfl ret0_ok ?_
  simp [remarkB]
  congr 1 <;> rw [← decide_not] <;> simp

theorem c_IndexFuncB (f : Nat) (p : UInt8 → Bool) (hf : ∀ b : UInt8, HFn Try.prog f [.int .u8 b.toNat] [] (.bool (p b)) []) (s : List UInt8) (hs : s.length ≤ 9223372036854775807) :
    HFn Try.prog 66 [.sl 1 (bytesV s), .fn f []] [] (.int .i64 (findI p s)) [] := by
  refine hfn_intro hm Try.func66 (by kernel_rfl) rfl (by kernel_rfl) rfl ret0_ok ?_
  simp [bytesV]
  refine loop_upto hm s.length (fun i => ⟨[(0, .sl 1 (bytesV s)), (1, .fn f []), (7, .int .i64 s.length), (8, .int .i64 i)], []⟩) (fun i => ∀ j (h : j < s.length), j < i → p s[j] = false) (by kernel_rfl) ?_ (by simp) (fun i hi hI => ?_) (fun hI => ?_)
  · exact Wk.weak (ρ := []) (φ := []) (by simp [bytesV])
  · simp [bytesV, hi]
    refine CallZ.use0 (hf _) rfl rfl ?_
    simp
    refine ⟨fun h => (findI_at hi h hI).symm, fun h => ⟨fun j hj hji => ?_, ?_⟩⟩
    · by_cases e : j = i
      · subst e; exact h
      · exact hI j hj (by omega)
    · refine Wk.weak (ρ := []) (φ := []) ?_
      simp
      exact w64 (by omega) (by omega)
  · simp [bytesV]
    exact (findI_none fun j hj => hI j hj hj).symm

theorem c_ContainsFuncB (f : Nat) (p : UInt8 → Bool) (hf : ∀ b : UInt8, HFn Try.prog f [.int .u8 b.toNat] [] (.bool (p b)) []) (s : List UInt8) (hs : s.length ≤ 9223372036854775807) :
    HFn Try.prog 62 [.sl 1 (bytesV s), .fn f []] [] (.bool (s.any p)) [] := by
  refine hfn_intro hm Try.func62 (by kernel_rfl) rfl (by kernel_rfl) rfl ret0_ok ?_
  simp
  refine CallZ.use0 (c_IndexFuncB f p hf s hs) rfl rfl ?_
  simp
  exact findI_any

theorem c_isRemark (s : List UInt8) (hs : s.length ≤ 9223372036854775807) : HFn Try.prog 51 [.str s] [] (.bool (isRemark s)) [] := by
  refine hfn_intro hm Try.func51 (by kernel_rfl) rfl (by kernel_rfl) rfl ret0_ok ?_
  simp
  refine CallY.use (fun _ => ⟨rfl, c_ContainsFuncB _ _ c_isRemark1 s hs⟩) rfl rfl ?_
  simp [isRemark]
  rw [List.all_eq_not_any_not]

theorem c_l30Words (s : List UInt8) (hs : s.length ≤ 9223372036854775807) : HFn Try.prog 61 [.str s] [] (.bool (isRemark s)) [] := by
  refine hfn_intro hm Try.func61 (by kernel_rfl) rfl (by kernel_rfl) rfl ret0_ok ?_
  simp
  refine loop_upto hm s.length (fun i => ⟨[(0, .str s), (3, .int .i64 i)], []⟩) (fun i => ∀ j (h : j < s.length), j < i → remarkB s[j] = true) (by kernel_rfl) ?_ (by simp) (fun i hi hI => ?_) (fun hI => ?_)
  · exact Wk.weak (ρ := []) (φ := []) (by simp)
  · simp [hi]
    have hr : remarkB s[i] = true ↔ (32 : Int) ≤ s[i].toNat ∧ (s[i].toNat : Int) ≤ 126 := by simp [remarkB]
    refine ⟨fun h => ?_, fun h4 h5 => ⟨fun j hj hji => ?_, ?_⟩⟩
    · have h0 : ¬ remarkB s[i] = true := by rw [hr]; omega
      have h1 : s.all remarkB = false := by
        rw [← Bool.not_eq_true, List.all_eq_true]
        exact fun hc => h0 (hc _ (List.getElem_mem hi))
      simp [isRemark, h1]
    · by_cases e : j = i
      · subst e; exact hr.2 ⟨h4, h5⟩
      · exact hI j hj (by omega)
    · refine Wk.weak (ρ := []) (φ := []) ?_
      simp
      exact w64 (by omega) (by omega)
  · simp
    have : s.all remarkB = true := List.all_eq_true.2 fun x hx => by
      obtain ⟨j, hj, rfl⟩ := List.getElem_of_mem hx
      exact hI j hj hj
    simp [isRemark, this]

def validRecord (r : Record) : Bool :=
  if r.kind = 1 then isName r.key && isRemark r.text
  else if r.kind = 2 then isName r.key && decide (r.text = [])
  else decide (r.kind = 3) && decide (r.key = []) && decide (r.text = [])

theorem c_impl_ValidRecord (r : Record) (hr : r.wf) : HFn Try.prog 33 [.agg r.cells] [] (.bool (validRecord r)) [] := by
  refine hfn_intro hm Try.func33 (by kernel_rfl) rfl (by kernel_rfl) rfl ret0_ok ?_
  simp [Record.cells]
  refine ⟨fun h => ?_, fun h1 => ⟨fun h => ?_, fun h2 => ?_⟩⟩
  · refine CallZ.use0 (c_impl_IsName _) rfl rfl ?_
    simp
    refine CallY.use (fun _ => ⟨rfl, c_isRemark _ hr.2.2.2⟩) rfl rfl ?_
    simp [validRecord, h]
  · refine CallZ.use0 (c_impl_IsName _) rfl rfl ?_
    simp [validRecord, h]
  · simp [validRecord, h1, h2]
    exact fun a b => ⟨a, b⟩

theorem c_l30One (x : Record) (hr : x.wf) (rows : List (List PV)) (i : Nat) (h : rows[i]? = some x.cells) : HFn Try.prog 49 [.pe 3 rows i 0] [] (.bool (validRecord x)) [] := by
  have hi : i < rows.length := (List.getElem?_eq_some_iff.1 h).1
  have hx : rows[i] = x.cells := by rw [List.getElem?_eq_getElem hi] at h; exact Option.some.inj h
  refine hfn_intro hm Try.func49 (by kernel_rfl) rfl (by kernel_rfl) rfl ret0_ok ?_
  rw [Record.cells] at h hx
  simp [hi, hx]
  refine ⟨fun h1 => ?_, fun h1 => ⟨fun h2 => ?_, fun h2 => ⟨fun a b => ⟨a, b⟩, ?_⟩⟩⟩
  · refine CallZ.use0 (c_spec_l01Name _) rfl rfl ?_
    simp [hi, hx, h]
    first
      | refine CallY.use (fun _ => ⟨rfl, c_l30Words _ hr.2.2.2⟩) rfl rfl ?_
      | refine ⟨by intros; simp [*], CallY.use (fun _ => ⟨rfl, c_l30Words _ hr.2.2.2⟩) rfl rfl ?_⟩
    simp [validRecord, h1]
  · refine CallZ.use0 (c_spec_l01Name _) rfl rfl ?_
    simp [hi, hx, h, validRecord, h2]
  · simp [validRecord, h1, h2]

theorem c_spec_ValidRecord (r : Record) (hr : r.wf) : HFn Try.prog 31 [.agg r.cells] [] (.bool (validRecord r)) [] := by
  refine hfn_intro hm Try.func31 (by kernel_rfl) rfl (by kernel_rfl) rfl ret0_ok ?_
  simp [Record.cells]
  refine CallZ.use0 (c_l30One r hr _ _ rfl) rfl rfl ?_
  simp

theorem c_law_ValidRecord (x : Record) (hx : x.wf) : HFn Try.prog 8 [.agg x.cells] [] (.bool true) [] := by
  refine hfn_intro hm Try.func8 (by kernel_rfl) rfl (by kernel_rfl) rfl ret0_ok ?_
  simp [Record.cells]
  refine CallZ.use0 (c_szRecord x 1048576 (by omega) hx) rfl rfl ?_
  simp
  intro _
  refine CallZ.use0 (c_toRecord x) rfl rfl ?_
  simp [Record.cells]
  refine CallZ.use0 (c_spec_ValidRecord x hx) rfl rfl ?_
  simp
  refine CallZ.use0 (c_toRecord x) rfl rfl ?_
  simp [Record.cells]
  refine CallZ.use0 (c_impl_ValidRecord x hx) rfl rfl ?_
  simp

theorem l_FnExactValidRecord (pargs : List PV) (h : fitsAll [.agg [.int .i64, .str, .str]] pargs) : HFn Try.prog 8 pargs [] (.bool true) [] := by
  obtain ⟨p, q, rfl, ⟨cs, rfl, h0⟩, hz⟩ := fitsAll_cons h
  obtain rfl := fitsAll_nil hz
  obtain ⟨x, rfl, hx⟩ := Record.fits h0
  exact c_law_ValidRecord x hx
end Go.Proofs.Ytpbpkpghkbcjdaa
