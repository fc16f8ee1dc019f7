/- Contracts: check values, the text of a ledger, ledgers saved by the reference. No condition. -/
import Derived.Test.YtmdablalfmcgnaaGreatDoorJi
import Derived.Test.YtmdablalfmcgnaaGreatDoorOi
-- from Ya
namespace Go.Proofs.YtmdablalfmcgnaaGreatDoor
open Go Go.Ab
set_option maxRecDepth 100000

/-! ### The check value tells bytes apart -/
def St16 (x : Int) : Prop := 0 ≤ x ∧ x ≤ 65535
theorem bv64 {n : Nat} (h : n < 18446744073709551616) : (BitVec.ofInt 64 (n : Int)).toNat = n := by
  rw [BitVec.toNat_ofInt]
  simp
  omega
theorem crcA_nat {x : Nat} (h : x ≤ 65535) : crcA (x : Int) = ((2 * x : Nat) : Int) := by
  have e : crcA (x : Int) = IntKind.i64.wrap ((x : Int) * 2) := rfl
  rw [e, w64 (by omega) (by omega)]
  omega
theorem crcX_nat {y : Nat} (h : y < 131072) : crcX (y : Int) = (((y &&& 65535) ^^^ 4129 : Nat) : Int) := by
  have e : crcX (y : Int) = IntKind.i64.wrap (BitVec.ofInt 64 (IntKind.i64.wrap (BitVec.ofInt 64 (y : Int) &&& BitVec.ofInt 64 ((65535 : Nat) : Int)).toNat) ^^^ BitVec.ofInt 64 ((4129 : Nat) : Int)).toNat := rfl
  have hlt : y &&& 65535 < 65536 := Nat.and_lt_two_pow _ (n := 16) (by decide)
  have hx : (y &&& 65535) ^^^ 4129 < 65536 := Nat.xor_lt_two_pow (n := 16) hlt (by decide)
  have e1 : (BitVec.ofInt 64 (y : Int) &&& BitVec.ofInt 64 ((65535 : Nat) : Int)).toNat = y &&& 65535 := by rw [BitVec.toNat_and, bv64 (by omega), bv64 (by omega)]
  rw [e, e1, w64 (n := ((y &&& 65535 : Nat) : Int)) (by omega) (by omega), BitVec.toNat_xor, bv64 (by omega), bv64 (by omega), w64 (by omega) (by omega)]
theorem crcBit_nat {x : Nat} (h : x ≤ 65535) : crcBit (x : Int) = ((if x < 32768 then 2 * x else ((2 * x) &&& 65535) ^^^ 4129 : Nat) : Int) := by
  unfold crcBit
  rw [crcA_nat h]
  by_cases h2 : x < 32768
  · rw [if_neg (by omega), if_pos h2]
  · rw [if_pos (by omega), if_neg h2, crcX_nat (by omega)]
theorem xor_cancel {a b c : Nat} (h : a ^^^ b = a ^^^ c) : b = c := by
  have := congrArg (a ^^^ ·) h
  simpa [← Nat.xor_assoc] using this
theorem and16 (y : Nat) : y &&& 65535 = y % 65536 := Nat.and_two_pow_sub_one_eq_mod y 16
theorem crcBit_inj {x y : Int} (hx : St16 x) (hy : St16 y) (h : crcBit x = crcBit y) : x = y := by
  obtain ⟨X, rfl⟩ : ∃ X : Nat, x = X := ⟨x.toNat, by have := hx.1; omega⟩
  obtain ⟨Y, rfl⟩ : ∃ Y : Nat, y = Y := ⟨y.toNat, by have := hy.1; omega⟩
  obtain ⟨_, hx⟩ := hx
  obtain ⟨_, hy⟩ := hy
  rw [crcBit_nat (by omega), crcBit_nat (by omega), and16, and16] at h
  have odd : ∀ n : Nat, n % 2 = 0 → (n ^^^ 4129) % 2 = 1 := fun n hn => by
    have := Nat.xor_mod_two_pow (a := n) (b := 4129) (n := 1)
    rw [show (2 : Nat) ^ 1 = 2 from rfl, hn] at this
    rw [this]
    rfl
  split at h <;> split at h
  · omega
  · have := odd (2 * Y % 65536) (by omega)
    omega
  · have := odd (2 * X % 65536) (by omega)
    omega
  · have h' : 4129 ^^^ (2 * X % 65536) = 4129 ^^^ (2 * Y % 65536) := by
      rw [Nat.xor_comm 4129 (2 * X % 65536), Nat.xor_comm 4129 (2 * Y % 65536)]
      omega
    have := xor_cancel h'
    omega
theorem crcBit_st {x : Int} (hx : St16 x) : St16 (crcBit x) := by
  obtain ⟨X, rfl⟩ : ∃ X : Nat, x = X := ⟨x.toNat, by have := hx.1; omega⟩
  obtain ⟨_, hx⟩ := hx
  rw [crcBit_nat (by omega), and16]
  have hx : 2 * X % 65536 ^^^ 4129 < 65536 := Nat.xor_lt_two_pow (n := 16) (by omega) (by decide)
  unfold St16
  split <;> omega
theorem crcBits_st {x : Int} : ∀ {n : Nat}, St16 x → St16 (crcBits n x)
  | 0, h => h
  | n + 1, h => by
    rw [crcBits_succ]
    exact crcBit_st (crcBits_st (n := n) h)
theorem crcBits_inj {x y : Int} : ∀ {n : Nat}, St16 x → St16 y → crcBits n x = crcBits n y → x = y
  | 0, _, _, h => h
  | n + 1, hx, hy, h => by
    rw [crcBits_succ, crcBits_succ] at h
    exact crcBits_inj (n := n) hx hy (crcBit_inj (crcBits_st hx) (crcBits_st hy) h)
theorem crcIn_nat {x : Nat} (h : x ≤ 65535) (b : UInt8) : crcIn (x : Int) b = ((x ^^^ (b.toNat * 256) : Nat) : Int) := by
  have hb := b.toNat_lt
  have e : crcIn (x : Int) b = IntKind.i64.wrap (BitVec.ofInt 64 (x : Int) ^^^ BitVec.ofInt 64 (IntKind.i64.wrap (IntKind.i64.wrap b.toNat * 256))).toNat := rfl
  have e2 : IntKind.i64.wrap (IntKind.i64.wrap (b.toNat : Int) * 256) = ((b.toNat * 256 : Nat) : Int) := by
    rw [w64 (n := (b.toNat : Int)) (by omega) (by omega), w64 (by omega) (by omega)]
    omega
  have hx : x ^^^ (b.toNat * 256) < 65536 := Nat.xor_lt_two_pow (n := 16) (by omega) (by omega)
  rw [e, e2, BitVec.toNat_xor, bv64 (by omega), bv64 (by omega), w64 (by omega) (by omega)]
theorem crcIn_st {x : Int} (hx : St16 x) (b : UInt8) : St16 (crcIn x b) := by
  obtain ⟨X, rfl⟩ : ∃ X : Nat, x = X := ⟨x.toNat, by have := hx.1; omega⟩
  obtain ⟨_, hx⟩ := hx
  have hb := b.toNat_lt
  rw [crcIn_nat (by omega)]
  have hx : X ^^^ (b.toNat * 256) < 65536 := Nat.xor_lt_two_pow (n := 16) (by omega) (by omega)
  exact ⟨by omega, by omega⟩
theorem crcByte_st {x : Int} (hx : St16 x) (b : UInt8) : St16 (crcByte x b) := crcBits_st (crcIn_st hx b)
theorem crcByte_inj {x y : Int} (hx : St16 x) (hy : St16 y) {b : UInt8} (h : crcByte x b = crcByte y b) : x = y := by
  have h1 := crcBits_inj (crcIn_st hx b) (crcIn_st hy b) h
  obtain ⟨X, rfl⟩ : ∃ X : Nat, x = X := ⟨x.toNat, by have := hx.1; omega⟩
  obtain ⟨Y, rfl⟩ : ∃ Y : Nat, y = Y := ⟨y.toNat, by have := hy.1; omega⟩
  obtain ⟨_, hx⟩ := hx
  obtain ⟨_, hy⟩ := hy
  rw [crcIn_nat (by omega), crcIn_nat (by omega)] at h1
  have h2 : b.toNat * 256 ^^^ X = b.toNat * 256 ^^^ Y := by rw [Nat.xor_comm _ X, Nat.xor_comm _ Y]; omega
  rw [xor_cancel h2]
theorem crcByte_tell {x : Int} (hx : St16 x) {b c : UInt8} (h : crcByte x b = crcByte x c) : b = c := by
  have h1 := crcBits_inj (crcIn_st hx b) (crcIn_st hx c) h
  obtain ⟨X, rfl⟩ : ∃ X : Nat, x = X := ⟨x.toNat, by have := hx.1; omega⟩
  obtain ⟨_, hx⟩ := hx
  rw [crcIn_nat (by omega), crcIn_nat (by omega)] at h1
  have h2 := xor_cancel (Int.ofNat.inj h1)
  exact UInt8.toNat_inj.1 (by omega)
theorem crcL_st : ∀ {l : List UInt8} {x : Int}, St16 x → St16 (crcL l x)
  | [], _, h => h
  | b :: l, _, h => crcL_st (l := l) (crcByte_st h b)
theorem crcL_inj : ∀ {l : List UInt8} {x y : Int}, St16 x → St16 y → crcL l x = crcL l y → x = y
  | [], _, _, _, _, h => h
  | b :: l, _, _, hx, hy, h => crcByte_inj hx hy (crcL_inj (l := l) (crcByte_st hx b) (crcByte_st hy b) h)
/-- Texts that are unlike at one byte have unlike check values. -/
theorem crcL_tell {a r : List UInt8} {b c : UInt8} {x : Int} (hx : St16 x) (h : crcL (a ++ b :: r) x = crcL (a ++ c :: r) x) : b = c := by
  unfold crcL at h
  rw [List.foldl_append, List.foldl_append, List.foldl_cons, List.foldl_cons] at h
  have ha : St16 (a.foldl crcByte x) := crcL_st (l := a) hx
  exact crcByte_tell ha (crcL_inj (l := r) (crcByte_st ha b) (crcByte_st ha c) h)
end Go.Proofs.YtmdablalfmcgnaaGreatDoor
-- from Yc
namespace Go.Proofs.YtmdablalfmcgnaaGreatDoor
open Go Go.Ab
set_option maxRecDepth 100000

/-- The lines of records behind a check value. -/
def ledL : List Record → Int → List (List UInt8)
  | [], _ => []
  | r :: l, c => (Lib.itoa (crc16 (recTx r) c) ++ 32 :: recTx r) :: ledL l (crc16 (recTx r) c)
def ledT (l : List Record) (c : Int) : List UInt8 := (ledL l c).flatMap fun x => x ++ [10]
theorem ledL_len : ∀ (l : List Record) (c : Int), (ledL l c).length = l.length
  | [], _ => rfl
  | r :: l, c => by simp [ledL, ledL_len l]
theorem ledL_take : ∀ (l : List Record) (c : Int) (k : Nat), (ledL l c).take k = ledL (l.take k) c
  | [], _, _ => by simp [ledL]
  | r :: l, c, 0 => by simp [ledL]
  | r :: l, c, k + 1 => by simp [ledL, ledL_take l]

theorem crc16_st (s : List UInt8) (c : Int) : St16 (crc16 s c) := by
  unfold crc16
  split
  · rename_i h
    exact crcL_st h
  · exact ⟨by omega, by omega⟩
theorem ledger_mem {l : List Record} (h : ledgerOk l = true) : ∀ r ∈ l, validRecord r = true := fun r hr => by
  obtain ⟨i, hi, rfl⟩ := List.getElem_of_mem hr
  have := ((ledgerOk_iff.1 h).2 i hi).1
  rwa [recAt_eq hi] at this

theorem recTx_len {r : Record} (h1 : r.key.length ≤ 70) (h2 : r.text.length ≤ 70) : (recTx r).length ≤ 150 := by
  unfold recTx
  split
  · simp [wSet]; omega
  · split
    · simp [wDrop]; omega
    · simp [wUndo]
theorem c_l30Line (x : Record) (h1 : x.key.length ≤ 70) (h2 : x.text.length ≤ 70) (rows : List (List PV)) (i : Nat) (h : rows[i]? = some x.cells) : HFn Tryz.prog 106 [.pe 3 rows i 0] [] (.str (recTx x)) [] := by
  have hi : i < rows.length := (List.getElem?_eq_some_iff.1 h).1
  have hx : rows[i] = x.cells := by rw [List.getElem?_eq_getElem hi] at h; exact Option.some.inj h
  refine hfn_intro hm Tryz.func106 (by kernel_rfl) rfl (by kernel_rfl) rfl ret0_ok ?_
  simp [hi, hx, Record.cells]
  refine ⟨fun g => ⟨by omega, by omega, by omega, by simp [recTx, g, wSet]⟩, fun g => ⟨fun g2 => ⟨by omega, by simp [recTx, g2, wDrop]⟩, fun g2 => by simp [recTx, g, g2, wUndo]⟩⟩

/-- The check value behind records. -/
def lastC (l : List Record) (c : Int) : Int := l.foldl (fun c r => crc16 (recTx r) c) c
theorem lastC_succ {l : List Record} {i : Nat} (hi : i < l.length) (c : Int) : lastC (l.take (i + 1)) c = crc16 (recTx l[i]) (lastC (l.take i) c) := by
  unfold lastC
  rw [← List.take_append_getElem hi, List.foldl_append]
  rfl
theorem ledL_snoc : ∀ (l : List Record) (r : Record) (c : Int), ledL (l ++ [r]) c = ledL l c ++ [Lib.itoa (crc16 (recTx r) (lastC l c)) ++ 32 :: recTx r]
  | [], _, _ => rfl
  | x :: l, r, c => by simp [ledL, ledL_snoc l, lastC]
theorem ledT_succ {l : List Record} {i : Nat} (hi : i < l.length) (c : Int) : ledT (l.take (i + 1)) c = ledT (l.take i) c ++ (Lib.itoa (lastC (l.take (i + 1)) c) ++ [32] ++ recTx l[i] ++ [10]) := by
  rw [lastC_succ hi]
  unfold ledT
  rw [← List.take_append_getElem hi, ledL_snoc, List.flatMap_append]
  simp
theorem itoa_st {v : Int} (h : St16 v) : (Lib.itoa v).length ≤ 5 := by
  obtain ⟨h1, h2⟩ := h
  rcases Int.lt_or_le 0 v with g | g
  · rw [itoa_pos g, List.length_reverse]
    exact revDig_len20 5 _ (by omega)
  · have : v = 0 := by omega
    subst this
    rw [itoa_zero]
    simp
def Short (l : List Record) : Prop := ∀ r ∈ l, r.key.length ≤ 70 ∧ r.text.length ≤ 70 ∧ 0 ≤ r.kind ∧ r.kind ≤ 9
theorem Short.wf {l : List Record} (h : Short l) : ∀ r ∈ l, r.wf := fun r hr => by
  have := h r hr
  unfold Record.wf
  omega
theorem ledT_len {l : List Record} (h : Short l) (c : Int) : ∀ i, i ≤ l.length → (ledT (l.take i) c).length ≤ i * 157
  | 0, _ => by simp [ledT, ledL]
  | i + 1, hi => by
    have ih := ledT_len h c i (by omega)
    have h1 := recTx_len (h _ (List.getElem_mem (show i < l.length by omega))).1 (h _ (List.getElem_mem (show i < l.length by omega))).2.1
    have h2 := itoa_st (crc16_st (recTx l[i]) (lastC (l.take i) c))
    rw [ledT_succ (by omega), lastC_succ (by omega)]
    simp only [List.length_append, List.length_cons, List.length_nil]
    omega
theorem c_l30Save (l : List Record) (hl : l.length ≤ 1000) (hs : Short l) : HFn Tryz.prog 62 [.sl 3 (Record.rows l)] [] (.str (ledT l 65535)) [] := by
  refine hfn_intro hm Tryz.func62 (by kernel_rfl) rfl (by kernel_rfl) rfl ret0_ok ?_
  simp
  refine loop_upto hm l.length (fun i => ⟨[(0, .sl 3 (Record.rows l)), (3, .str (ledT (l.take i) 65535)), (4, .int .i64 (lastC (l.take i) 65535)), (5, .int .i64 i)], []⟩) (fun _ => True) (by kernel_rfl) ?_ trivial (fun i hi _ => ?_) (fun _ => ?_)
  · exact Wk.weak (ρ := []) (φ := []) (by simp [ledT, ledL, lastC])
  · have w1 : IntKind.i64.wrap ((i : Int) + 1) = (i : Int) + 1 := w64 (by omega) (by omega)
    have hr := hs _ (List.getElem_mem hi)
    have h1 := recTx_len hr.1 hr.2.1
    have h2 := itoa_st (crc16_st (recTx l[i]) (lastC (l.take i) 65535))
    have h3 := ledT_len hs 65535 i (by omega)
    have hc := c_spec_Crc16 (recTx l[i]) (lastC (l.take i) 65535) (by omega)
    have hd := c_l01Dec (crc16 (recTx l[i]) (lastC (l.take i) 65535)) (crc16_I64 _ _)
    have hn := ledT_succ hi 65535
    rw [lastC_succ hi] at hn
    rw [lastC_succ hi, hn]
    generalize crc16 (recTx l[i]) (lastC (l.take i) 65535) = v at *
    simp [hi, Record.rows_len]
    refine CallZ.use0 (c_l30Line l[i] hr.1 hr.2.1 (Record.rows l) i (by simp [Record.rows, hi])) rfl rfl ?_
    simp
    refine CallZ.use0 hc rfl rfl ?_
    simp
    refine CallZ.use0 hd rfl rfl ?_
    simp
    refine ⟨by omega, by omega, by omega, by omega, Wk.weak (ρ := []) (φ := []) ?_⟩
    simp [w1]
  · simp [Record.rows_len]

def saveT (l : List Record) : List UInt8 := if ledgerOk l = true then ledT l 65535 else []
def saveC (l : List Record) : Int := if ledgerOk l = true then 0 else 1
theorem c_spec_SaveLedger (l : List Record) (hl : l.length ≤ 1000) (hs : Short l) : HFn Tryz.prog 19 [.sl 3 (Record.rows l)] [] (.tup [.str (saveT l), .int .i64 (saveC l)]) [] := by
  refine hfn_intro hm Tryz.func19 (by kernel_rfl) rfl (by kernel_rfl) rfl ret0_ok ?_
  simp
  refine CallZ.use0 (c_l30Ok l (by omega) hs.wf) rfl rfl ?_
  simp
  refine ⟨fun h => by simp [saveT, saveC, h], fun h => ?_⟩
  refine CallZ.use0 (c_l30Save l hl hs) rfl rfl ?_
  simp [saveT, saveC, h]
end Go.Proofs.YtmdablalfmcgnaaGreatDoor
