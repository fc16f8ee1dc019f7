/- Contracts: the law on damaged ledgers. No condition. -/
import Derived.Test.YtmdablalfmcgnaaGreatDoorYd
namespace Go.Ab
variable {P : Program}
@[simp] theorem strip_sb {k z n : Nat} : strip (.sb k z n) = .sb k z n := rfl
@[simp] theorem okp_sb {k z n : Nat} : okp (.sb k z n) = True := rfl
/-- Bytes of strings are wanted as own variables. -/
theorem weak_cv (S : St) : Weak S ⟨(cvS, .ef 0) :: S.fr, S.H⟩ := fun x n a w A m hI => ⟨A, m, hI.moved, hI.sub, hI.aok, hI.conc, hI.own, fun t => by
  simp only [slot]
  cases e : cvS == t with
  | true => exact .imm (.ef 0 _)
  | false => exact hI.fr t, hI.sz, hI.df⟩
theorem hfn_intro_cv (hm : P.follows .mixedOrders = true) {f : FuncId} {fn : Func} {c : Code} {args : List PV} {Hin : Heap} {res : PV} {Hout : Heap} {Q : Exit → St → Prop} (hf : P.funcs[f]? = some fn) (hname : (fn.name == "runtime.NumGoroutine") = false)
    (hb : fn.body = some c) (hok : funOk fn c = true) (hn0 : Nat.ble args.length fn.ntmps = true) (hQ : ∀ e S, Q e S → RetOk P fn.results.toList res Hout e S) (h : awp P fn.ntmps c ⟨(cvS, .ef 0) :: argFr 0 args, Hin⟩ Q) : HFn P f args Hin res Hout := by
  have hok' := hok
  simp only [funOk, Bool.and_eq_true] at hok'
  refine MFn.hfn (kp := []) (body_run hm hf hname hb hok hn0 trivial hQ ?_)
  have : argFr 0 args ++ ghF fn.ntmps [] = argFr 0 args := by simp [ghF]
  rw [this]
  exact AWP.weak (weak_cv _) (awp_sound hm c _ Q hok'.1 h)
end Go.Ab
namespace Go.Proofs.YtmdablalfmcgnaaGreatDoor
open Go Go.Ab
set_option maxRecDepth 100000

set_option maxHeartbeats 4000000 in
theorem c_law_Damage (code more : List Int) (hc : ∀ c ∈ code, 0 ≤ c ∧ c < 256) (hm' : ∀ c ∈ more, 0 ≤ c ∧ c < 256) (hl : code.length ≤ 9223372036854775807) :
    HFn Tryz.prog 4 [.sl 1 (byteRows code), .sl 1 (byteRows more)] [] (.bool true) [] := by
  refine hfn_intro_cv hm Tryz.func4 (by kernel_rfl) rfl (by kernel_rfl) rfl ret0_ok ?_
  simp
  refine CallZ.use0 (c_b10Long code) rfl rfl ?_
  simp
  refine CallY.use (fun _ => ⟨rfl, c_b10Long more⟩) rfl rfl ?_
  simp
  intro _ _
  refine CallZ.useG [] [] [] (c_DrawSaveLedger code hc hl) (by simp) rfl (by simp) rfl (fun x _ => ⟨rfl, rfl, rfl, .inl rfl⟩) (fun L hL => ?_)
  obtain ⟨hL1, hL2⟩ := hL
  simp
  refine CallZ.use0 (c_spec_SaveLedger L (by omega) hL2) rfl rfl ?_
  by_cases hv : ledgerOk L = true
  · have e1 : saveT L = ledT L 65535 := if_pos hv
    have e2 : saveC L = 0 := if_pos hv
    have hlen := ledT_len hL2 65535 L.length (Nat.le_refl _)
    rw [List.take_length] at hlen
    have hpart := salv_part hv
    have hload := fun A B b b' => load_changed hv (A := A) (B := B) (b := b) (b' := b')
    rw [e1, e2]
    generalize ledT L 65535 = F at *
    simp
    intro hne
    have hpos : 0 < F.length := List.length_pos_iff.2 hne
    refine CallZ.use0 (c_b10Wide more hm' 0 (by omega) F.length (by omega)) rfl rfl ?_
    obtain ⟨p1, p2⟩ := b10W_le more hm' 0 F.length (by omega)
    generalize b10W more 0 F.length = at0 at p1 p2 ⊢
    obtain ⟨n, rfl⟩ : ∃ n : Nat, at0 = n := ⟨at0.toNat, by omega⟩
    have hn : n < F.length := by omega
    simp [hn]
    refine ⟨by omega, ?_⟩
    refine CallZ.use0 (c_b10At more hm' 2 (by omega) 255) rfl rfl ?_
    obtain ⟨x1, x2⟩ := b10V_le more hm' 2 255 (by omega)
    generalize b10V more 2 255 = x at x1 x2 ⊢
    have w1 : IntKind.i64.wrap (1 + x) = 1 + x := w64 (by omega) (by omega)
    have w2 : IntKind.u8.wrap (1 + x) = 1 + x := by
      have : IntKind.u8.wrap (1 + x) = (1 + x) % 256 := rfl
      omega
    obtain ⟨b', hb', hne'⟩ : ∃ b' : UInt8, IntKind.u8.wrap (((((F[n].toNat : Nat) : Int) % 2 ^ IntKind.u8.bits).toNat ^^^ ((1 + x) % 2 ^ IntKind.u8.bits).toNat : Nat) : Int) = (b'.toNat : Int) ∧ F[n] ≠ b' := by
      have h8 : (2 : Int) ^ IntKind.u8.bits = 256 := rfl
      have ha := F[n].toNat_lt
      obtain ⟨y, hy⟩ : ∃ y : Nat, 1 + x = y := ⟨(1 + x).toNat, by omega⟩
      have hlt : F[n].toNat ^^^ y < 256 := Nat.xor_lt_two_pow (n := 8) (by omega) (by omega)
      have e1 : ((F[n].toNat : Int) % 256).toNat = F[n].toNat := by omega
      have e2 : ((y : Int) % 256).toNat = y := by omega
      rw [h8, hy, e1, e2]
      refine ⟨UInt8.ofNat (F[n].toNat ^^^ y), ?_, fun e => ?_⟩
      · have e3 : IntKind.u8.wrap ((F[n].toNat ^^^ y : Nat) : Int) = ((F[n].toNat ^^^ y : Nat) : Int) % 256 := rfl
        rw [e3, UInt8.toNat_ofNat']
        omega
      · have e4 := congrArg UInt8.toNat e
        rw [UInt8.toNat_ofNat', Nat.mod_eq_of_lt hlt] at e4
        have e5 : F[n].toNat ^^^ 0 = F[n].toNat ^^^ y := by rw [Nat.xor_zero]; exact e4
        have := xor_cancel e5
        omega
    have hF : F = F.take n ++ F[n] :: F.drop (n + 1) := by
      rw [List.getElem_cons_drop, List.take_append_drop]
    obtain ⟨G, hG⟩ : ∃ G, G = F.take n ++ b' :: F.drop (n + 1) := ⟨_, rfl⟩
    have hGl : G.length = F.length := by
      rw [hG]
      simp only [List.length_append, List.length_cons, List.length_take, List.length_drop]
      omega
    have hcells : List.take n (List.map (fun b : UInt8 => PV.int IntKind.u8 (b.toNat : Int)) F) ++ PV.int IntKind.u8 (b'.toNat : Int) :: List.drop (n + 1) (List.map (fun b : UInt8 => PV.int IntKind.u8 (b.toNat : Int)) F) = G.map fun b => PV.int IntKind.u8 (b.toNat : Int) := by
      rw [hG]
      simp
    have hrows : rowsB 1 F.length (G.map fun b => PV.int IntKind.u8 (b.toNat : Int)) = bytesV G := by
      unfold rowsB bytesV
      apply List.ext_getElem
      · simp [hGl]
      · intro i h1 h2
        have hi : i < G.length := by simpa using h2
        simp
        rw [List.drop_eq_getElem_cons (by simpa using hi)]
        simp
    have hload := hload _ _ _ _ hF hne'
    rw [← hG] at hload
    simp [w1, w2, hb']
    rw [hcells, hrows]
    refine ⟨hn, by omega, ⟨by omega, fun y hy => ?_, fun y hy => ?_⟩, byteC_all G, ?_⟩
    · obtain ⟨b, _, rfl⟩ := List.mem_map.1 (List.mem_of_mem_take hy)
      rfl
    · obtain ⟨b, _, rfl⟩ := List.mem_map.1 (List.mem_of_mem_drop hy)
      rfl
    rw [byteV_all]
    have hLf : F.length ≤ 1048576 := by omega
    have kL := c_impl_LoadLedger G (by omega)
    have kS := c_impl_SalvageLedger (F.take n) (by rw [List.length_take]; omega)
    obtain ⟨q1, q2⟩ := hpart n
    rw [q1] at kS
    have hX : (loadR G).2 = 0 → (loadR G).1.length ≠ L.length ∧ (F[n] = 10 ∨ b' = 10) := fun h => by
      unfold loadR at h ⊢
      split at h
      · rename_i g1
        split at h
        · rename_i g2
          rw [if_pos g1, if_pos g2]
          exact hload g2
        · rename_i g2
          exact (g2 h).elim
      · cases h
    have hXl := loadR_len (s := G) (by omega)
    obtain ⟨K, hK⟩ : ∃ K, K = (F.take n).count 10 := ⟨_, rfl⟩
    rw [← hK] at kS q2
    have q3 : ¬ L.length < K := by omega
    have hLK : (L.take K).length = K := by rw [List.length_take]; omega
    have hpr : Record.rows (L.take K) = (Record.rows L).take K := by simp [Record.rows]
    have e10 : ∀ b : UInt8, ((b.toNat : Int) = 10) ↔ b = 10 := fun b => u8_eq (n := 10) (by omega)
    generalize (loadR G).1 = X at *
    generalize (loadR G).2 = C at *
    have k1 := c_impl_SameRecords X L (by omega)
    have k2 := c_impl_SameRecords (L.take K) (L.take K) (by omega)
    refine CallZ.use kL rfl (.inr ⟨Record.flat _, trivial⟩) rfl rfl ?_
    simp
    refine ⟨by omega, ?_⟩
    refine CallZ.use kS rfl (.inr ⟨Record.flat _, trivial⟩) rfl rfl ?_
    have hcnt : ∀ i (hi : i < F.length), (F.take (i + 1)).count 10 = (F.take i).count 10 + if F[i] = 10 then 1 else 0 := fun i hi => by
      rw [← List.take_append_getElem hi, List.count_append]
      by_cases e : F[i] = 10
      · simp [e]
      · simp [e]
    by_cases hC : C = 0
    · obtain ⟨x3, x4⟩ := hX hC
      have hne2 : ¬ X = L := fun e => x3 (by rw [e])
      simp [hC]
      refine CallY.use (fun _ => ⟨rfl, k1⟩) rfl rfl ?_
      have hGn : G[n]? = some b' := by
        rw [hG, List.getElem?_append_right (by rw [List.length_take]; omega), List.length_take, Nat.min_eq_left (by omega), Nat.sub_self]
        rfl
      by_cases h10 : F[n] = 10
      · simp [hne2, hn, h10, Record.rows_len, hLK, q2, q3, ← hpr]
        refine CallY.use (fun _ => ⟨rfl, k2⟩) rfl rfl ?_
        simp
        refine loop_upto hm n (fun i => ⟨[(6, .str F), (9, .int .i64 n), (12, .sf 0 3), (13, .int .i64 ((F.take i).count 10)), (14, .int .i64 i)], [some (.arr 3 (Record.rows (L.take K)))]⟩) (fun _ => True) (by kernel_rfl) ?_ trivial (fun i hi _ => ?_) (fun _ => ?_)
        · refine Wk.weak (ρ := [3]) (φ := []) ?_
          simp
        · have w3 : IntKind.i64.wrap ((i : Int) + 1) = (i : Int) + 1 := w64 (by omega) (by omega)
          have hiF : i < F.length := by omega
          have hcl : (F.take i).count 10 ≤ (F.take i).length := List.count_le_length
          rw [List.length_take] at hcl
          have w4 : IntKind.i64.wrap (((F.take i).count 10 : Int) + 1) = ((F.take i).count 10 : Int) + 1 := w64 (by omega) (by omega)
          have h1 := hcnt i hiF
          simp [show (i : Int) < n by omega, hiF, e10]
          refine ⟨fun g => ?_, fun g => ?_⟩
          · rw [if_pos g] at h1
            refine Wk.weak (ρ := [0]) (φ := []) ?_
            simp [w3, w4, h1]
          · rw [if_neg g] at h1
            refine Wk.weak (ρ := [0]) (φ := []) ?_
            simp [w3, h1]
        · simp [Record.rows_len, hLK, ← hK]
      · have h11 := x4.resolve_left h10
        simp [hne2, hn, e10, h10, hGn, h11, Record.rows_len, hLK, q2, q3, ← hpr]
        refine ⟨by omega, ?_⟩
        refine CallY.use (fun _ => ⟨rfl, k2⟩) rfl rfl ?_
        simp
        refine loop_upto hm n (fun i => ⟨[(6, .str F), (9, .int .i64 n), (12, .sf 0 3), (13, .int .i64 ((F.take i).count 10)), (14, .int .i64 i)], [some (.arr 3 (Record.rows (L.take K)))]⟩) (fun _ => True) (by kernel_rfl) ?_ trivial (fun i hi _ => ?_) (fun _ => ?_)
        · refine Wk.weak (ρ := [3]) (φ := []) ?_
          simp
        · have w3 : IntKind.i64.wrap ((i : Int) + 1) = (i : Int) + 1 := w64 (by omega) (by omega)
          have hiF : i < F.length := by omega
          have hcl : (F.take i).count 10 ≤ (F.take i).length := List.count_le_length
          rw [List.length_take] at hcl
          have w4 : IntKind.i64.wrap (((F.take i).count 10 : Int) + 1) = ((F.take i).count 10 : Int) + 1 := w64 (by omega) (by omega)
          have h1 := hcnt i hiF
          simp [show (i : Int) < n by omega, hiF, e10]
          refine ⟨fun g => ?_, fun g => ?_⟩
          · rw [if_pos g] at h1
            refine Wk.weak (ρ := [0]) (φ := []) ?_
            simp [w3, w4, h1]
          · rw [if_neg g] at h1
            refine Wk.weak (ρ := [0]) (φ := []) ?_
            simp [w3, h1]
        · simp [Record.rows_len, hLK, ← hK]
    · simp [hC]
      refine CallY.use (res := .bool false) (fun h => by cases h) rfl rfl ?_
      simp [hn, e10, Record.rows_len, hLK, q2, q3, ← hpr]
      refine CallY.use (fun _ => ⟨rfl, k2⟩) rfl rfl ?_
      simp
      refine loop_upto hm n (fun i => ⟨[(6, .str F), (9, .int .i64 n), (12, .sf 0 3), (13, .int .i64 ((F.take i).count 10)), (14, .int .i64 i)], [some (.arr 3 (Record.rows (L.take K)))]⟩) (fun _ => True) (by kernel_rfl) ?_ trivial (fun i hi _ => ?_) (fun _ => ?_)
      · refine Wk.weak (ρ := [3]) (φ := []) ?_
        simp
      · have w3 : IntKind.i64.wrap ((i : Int) + 1) = (i : Int) + 1 := w64 (by omega) (by omega)
        have hiF : i < F.length := by omega
        have hcl : (F.take i).count 10 ≤ (F.take i).length := List.count_le_length
        rw [List.length_take] at hcl
        have w4 : IntKind.i64.wrap (((F.take i).count 10 : Int) + 1) = ((F.take i).count 10 : Int) + 1 := w64 (by omega) (by omega)
        have h1 := hcnt i hiF
        simp [show (i : Int) < n by omega, hiF, e10]
        refine ⟨fun g => ?_, fun g => ?_⟩
        · rw [if_pos g] at h1
          refine Wk.weak (ρ := [0]) (φ := []) ?_
          simp [w3, w4, h1]
        · rw [if_neg g] at h1
          refine Wk.weak (ρ := [0]) (φ := []) ?_
          simp [w3, h1]
      · simp [Record.rows_len, hLK, ← hK]
  · have e1 : saveT L = [] := if_neg hv
    have e2 : saveC L = 1 := if_neg hv
    rw [e1, e2]
    simp

theorem l_FnDamage (pargs : List PV) (h : fitsAll [.one (.slc [.int .u8]), .one (.slc [.int .u8])] pargs) : HFn Tryz.prog 4 pargs [] (.bool true) [] := by
  obtain ⟨p0, r0, rfl, f0, z0⟩ := fitsAll_cons h
  obtain ⟨p1, r1, rfl, f1, z1⟩ := fitsAll_cons z0
  obtain rfl := fitsAll_nil z1
  obtain ⟨rows0, rfl, g0, y0⟩ := fits_slc f0
  obtain ⟨code, rfl, wc⟩ := fits_bytes y0
  obtain ⟨rows1, rfl, g1, y1⟩ := fits_slc f1
  obtain ⟨more, rfl, wm⟩ := fits_bytes y1
  exact c_law_Damage code more wc wm (by simpa [byteRows] using g0)
end Go.Proofs.YtmdablalfmcgnaaGreatDoor
