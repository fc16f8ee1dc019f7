/- strings.Builder at this program, in memory: copyCheck, WriteString. No condition.; The program's SaveLedger: a strings.Builder filled line by line. -/
import Derived.Lib.Builder
import Derived.Lib.AppendStr
import Derived.Lib.Strings
import Derived.Lib.Walk
import Derived.Laws.Externs
import Derived.Test.YtmdablalfmcgnaaGreatDoorBa
import Derived.Test.YtmdablalfmcgnaaGreatDoorTy
import Derived.Test.YtmdablalfmcgnaaGreatDoorYa
import Derived.Test.YtmdablalfmcgnaaGreatDoorKd
import Derived.Test.YtmdablalfmcgnaaGreatDoorSw
-- from Be
namespace Go.Proofs.YtmdablalfmcgnaaGreatDoor
open Go Go.Ab Go.RowKit
set_option maxRecDepth 100000

theorem tB : Tryz.prog.underlying 79 = some (.pointer 81) := by kernel_rfl
theorem tU : Tryz.prog.underlying 176 = some .unsafePointer := by kernel_rfl
theorem infoB : ∃ j : TypeInfo, Tryz.prog.info? 81 = some j ∧ j.size = 2 := by
  have h : (Tryz.prog.info? 81).map (fun i => TypeInfo.size i) = some 2 := by kernel_rfl
  exact Option.map_eq_some_iff.1 h
theorem liesB : liesAt Tryz.prog Tryz.prog.depth 81 (2 / Tryz.prog.cellsOf 81) 0 81 1 = true := by kernel_rfl

set_option maxHeartbeats 1000000 in
theorem m_copyCheck_used (b : Nat) (w : World) (h0 : w.cell? ⟨b, 0, none⟩ = some (.pointer (some ⟨b, 0, none⟩))) :
    Calls Tryz.prog 92 #[.pointer (some ⟨b, 0, none⟩)] w fun e w' => e = .returned (.tuple #[]) ∧ w' = w := by
  obtain ⟨j, hj, _⟩ := infoB
  go_enter Tryz.func92, Tryz.ntmps92
  go_wp2
  rw [Lib.run_neq_ptr_same w _ tB hj]
  go_wp2
  go_end0
  exact ⟨rfl, rfl⟩

set_option maxHeartbeats 1000000 in
theorem m_copyCheck_fresh (b : Nat) (w : World) (h0 : w.cell? ⟨b, 0, none⟩ = some (.pointer none)) (hsh : w.shape? b = some (81, 2)) (hfz : w.frozen? ⟨b, 0, none⟩ = false) :
    Calls Tryz.prog 92 #[.pointer (some ⟨b, 0, none⟩)] w fun e w' => e = .returned (.tuple #[]) ∧ w' = w.setCell ⟨b, 0, none⟩ (.pointer (some ⟨b, 0, none⟩)) := by
  obtain ⟨j, hj, hjs⟩ := infoB
  go_enter Tryz.func92, Tryz.ntmps92
  go_wp2
  rw [Lib.run_to_unsafe w ⟨b, 0, none⟩ tB tU hj (by rw [hjs]; decide) hsh (Nat.zero_lt_succ 1)]
  simp only [Result.andThen]
  rw [Oper.upon_value]
  go_wp2
  rw [run_callFunc_extern Tryz.func134 (by kernel_rfl) (by kernel_rfl) (by kernel_rfl) (e := Extern.AbiNoEscape.same) (by kernel_rfl)]
  rw [Lib.run_noEscape]
  simp only [Result.andThen]
  rw [Oper.upon_value]
  go_wp2
  rw [Lib.run_from_unsafe w ⟨b, 0, none⟩ tU tB hj hsh liesB]
  simp only [Result.andThen]
  rw [Oper.upon_value]
  go_wp2
  go_end0
  exact ⟨rfl, rfl⟩

/-- Behind copyCheck the builder is used; its bytes are as they were. -/
theorem m_copyCheck (B b : Nat) (bs : List Value) (w : World) (h : Lib.IsBuilder 81 5 B b bs w) :
    Calls Tryz.prog 92 #[.pointer (some ⟨b, 0, none⟩)] w fun e w' => e = .returned (.tuple #[]) ∧ Lib.BuilderAt 81 5 B b (.pointer (some ⟨b, 0, none⟩)) bs w' ∧ Below B w w' := by
  rcases h with h | h
  · refine (m_copyCheck_fresh b w h.cell0 h.shape h.frozen0).mono fun e w' ⟨he, hw⟩ => ?_
    subst hw
    exact ⟨he, h.used _, (Below.refl B w).setCell (p := ⟨b, 0, none⟩) h.1 _⟩
  · refine (m_copyCheck_used b w h.cell0).mono fun e w' ⟨he, hw⟩ => ?_
    subst hw
    exact ⟨he, h, Below.refl B _⟩

theorem infoU : ∃ i : TypeInfo, Tryz.prog.info? 5 = some i ∧ i.zero = some (.int .u8 0) ∧ i.size = 1 ∧ i.bytes = 1 := by
  have h : (Tryz.prog.info? 5).map (fun i => (TypeInfo.zero i, TypeInfo.size i, TypeInfo.bytes i)) = some (some (.int .u8 0), 1, 1) := by kernel_rfl
  obtain ⟨i, h1, h2⟩ := Option.map_eq_some_iff.1 h
  simp only [Prod.mk.injEq] at h2
  exact ⟨i, h1, h2.1, h2.2.1, h2.2.2⟩
theorem tS : Tryz.prog.underlying 22 = some (.slice 5) := by kernel_rfl
theorem tStr : Tryz.prog.underlying 9 = some .string := by kernel_rfl

set_option maxHeartbeats 2000000 in
theorem m_WriteString (B b : Nat) (bs : List Value) (s : ByteArray) (w : World) (h : Lib.IsBuilder 81 5 B b bs w) (hlen : bs.length + s.size ≤ 140737488355328) (hBw : B ≤ w.heap.size) :
    Calls Tryz.prog 46 #[.pointer (some ⟨b, 0, none⟩), .string s] w fun e w' => e = .returned (.tuple #[.int .i64 s.size, .nilIface]) ∧ Lib.BuilderAt 81 5 B b (.pointer (some ⟨b, 0, none⟩)) (bs ++ Lib.strCells s) w' ∧ Below B w w' := by
  obtain ⟨i0, hi, hz0, hz1, hz2⟩ := infoU
  have hcc := m_copyCheck B b bs w h
  go_enter Tryz.func46, Tryz.ntmps46
  go_wp2_with (go_at_call 92; refine hcc.mono ?_)
  rintro e w1 ⟨rfl, h1, hb1⟩
  obtain ⟨hB, v, hbk, hown, hne⟩ := h1
  have c0 : w1.cell? ⟨b, 0, none⟩ = some (.pointer (some ⟨b, 0, none⟩)) := by rw [Lib.cell_of_heap hbk]; rfl
  have c1 : w1.cell? ⟨b, 1, none⟩ = some v := by rw [Lib.cell_of_heap hbk]; rfl
  have hsz1 := hb1.size
  have hm : bs.length + s.size ≤ maxLen := by unfold maxLen; omega
  have hlt : b < w1.heap.size := (Array.getElem?_eq_some_iff.1 hbk).1
  go_wp2_with (at_builtin; refine Lib.wpList_append_own_string _ rfl _ _ 22 9 rfl B 5 i0 tS tStr hi hz0 hz1 hz2 _ _ _ rfl hown s rfl hm (by omega) (by omega) ?_)
  intro v' w2 hown' hgrow _
  have hb2 : w2.heap[b]? = some (.cells #[.pointer (some ⟨b, 0, none⟩), v] 81 (0, 0)) := by
    rw [hgrow.block b hlt fun e => hne e.symm]
    exact hbk
  obtain ⟨ao, n', cap, rfl⟩ : ∃ ao n' cap, v' = .slice ao n' cap := by
    rcases hown'.2 with ⟨hv, _⟩ | ⟨g, cap, cur, hv, _⟩
    · exact ⟨_, _, _, hv⟩
    · exact ⟨_, _, _, hv⟩
  have d1 : w2.cell? ⟨b, 1, none⟩ = some v := by rw [Lib.cell_of_heap hb2]; rfl
  have f1 : w2.frozen? ⟨b, 1, none⟩ = false := Lib.frozen_of_heap hb2 1
  go_wp2
  go_ret2
  refine ⟨rfl, ?_, ?_⟩
  · exact Lib.BuilderAt.put hB hb2 (by simpa [Lib.strCells_length] using hown') (by decide)
  · exact (hb1.grown hgrow (by omega) fun k hk => (hown.lt k hk).1).setCell (p := ⟨b, 1, none⟩) hB _
end Go.Proofs.YtmdablalfmcgnaaGreatDoor
-- from Yf
namespace Go.Ab
variable {P : Program} {A A' B : Nat → Prop} {m m' : OMap} {h h' : OFun} {w w' : World} {fr : Fr} {a : Act} {x y : Ctx} {n : Nat} {S S1 : St}

/-- Values in which no memory stands. -/
def pureP : PV → Bool
  | .int _ _ | .bool _ | .str _ | .raw _ | .top => true
  | _ => false
theorem RepO.pure {p : PV} {v : Value} (hp : pureP p = true) (hr : RepO A m h w p v) : RepO A' m' h' w' p v := by
  cases p <;> simp only [pureP, Bool.false_eq_true] at hp
  case int => cases hr with | imm hi => cases hi; exact .imm (.int _ _)
  case bool => cases hr with | imm hi => cases hi; exact .imm (.bool _)
  case str => cases hr with | imm hi => cases hi; exact .imm (.str _ _ ‹_›)
  case raw => cases hr with | imm hi => cases hi; exact .imm (.raw _)
  case top => exact .imm (.top _)
theorem slot_pure {t : Nat} : ∀ {fr : Fr}, fr.all (fun q => pureP q.2) = true → pureP (slot fr t) = true
  | [], _ => rfl
  | (i, p) :: r, hp => by
    simp only [List.all_cons, Bool.and_eq_true] at hp
    show pureP (bif i == t then p else slot r t) = true
    cases i == t with
    | true => exact hp.1
    | false => exact slot_pure hp.2
/-- A frame without memory stands over any world. -/
theorem Inv.base (hI : Inv x n ⟨fr, []⟩ a w A m) (hp : fr.all (fun q => pureP q.2) = true) (hg : y.gh = x.gh) (hm : Moved y.M0 y.w0 w') (hA : AOk B w') (hB : ∀ b, B b → y.A0 b ∨ y.M0 b ∨ y.w0.heap.size ≤ b) : Inv y n ⟨fr, []⟩ a w' B fun _ => none :=
  ⟨hm, hB, hA, ⟨fun k o hk => by simp [getO] at hk, fun k k' o o' b C C' hk => by simp [getO] at hk⟩, fun b ⟨k, o, C, hk, _⟩ => by simp [getO] at hk, fun t => by
    have := (hI.fr t).pure (A' := B) (m' := fun _ => none) (h' := getO ([] : Heap)) (w' := w') (slot_pure hp)
    rwa [show look y n a t = look x n a t by unfold look; rw [hg]], hI.sz, hI.df⟩
/-- More is known of a slot. -/
theorem Inv.know (hI : Inv x n S a w A m) {d : Nat} {p : PV} (hr : RepO A m (getO S.H) w p (look x n a d)) : Inv x n ⟨put S.fr (some d) p, S.H⟩ a w A m :=
  ⟨hI.moved, hI.sub, hI.aok, hI.conc, hI.own, fun t => by
    rw [slot_put]
    split
    · rename_i e; rw [e]; exact hr
    · exact hI.fr t, hI.sz, hI.df⟩
/-- A piece of code in front of another. -/
theorem piece (hm : P.follows .mixedOrders = true) {c d : Code} {Q : Exit → Act → World → Prop} (hok : codeOk n c = true) (hI : Inv x n S a w A m) (h : awp P n c S (thenQ (fun S' => Weak S' S1) fun _ _ => False))
    (hrest : ∀ a' w' A' m', Inv x n S1 a' w' A' m' → d.wp P Q a' w') : c.wp P (Exit.then (d.wp P Q) Q) a w := by
  refine wp_mono (awp_sound hm c S _ hok h x a w A m hI) fun e a' w' ⟨S', A', m', hq, hI'⟩ => ?_
  cases e with
  | normal =>
    obtain ⟨A'', m'', hI''⟩ := hq _ _ _ _ _ _ hI'
    exact hrest _ _ _ _ hI''
  | _ => exact hq.elim
theorem bool_look {t : Nat} {c : Bool} (hI : Inv x n S a w A m) (hs : slot S.fr t = .bool c) (ht : t < n) : a.tmps.getD t undef = .bool c := by
  have := hI.fr t
  rw [hs, look_lt ht] at this
  exact this.bool
theorem str_look {t : Nat} {s : List UInt8} (hI : Inv x n S a w A m) (hs : slot S.fr t = .str s) (ht : t < n) : ∃ b : ByteArray, a.tmps.getD t undef = .string b ∧ b.data.toList = s := by
  have := hI.fr t
  rw [hs, look_lt ht] at this
  generalize a.tmps.getD t undef = v at *
  cases this with
  | imm hi => cases hi with | str _ b h => exact ⟨b, rfl, h⟩
theorem raw_look {t : Nat} {v : Value} (hI : Inv x n S a w A m) (hs : slot S.fr t = .raw v) : look x n a t = v := by
  have := hI.fr t
  rw [hs] at this
  cases this with
  | imm hi => cases hi; rfl
end Go.Ab

namespace Go.Proofs.YtmdablalfmcgnaaGreatDoor
open Go Go.Ab
set_option maxRecDepth 100000

theorem short_of {l : List Record} (h : ledgerOk l = true) : l.length ≤ 32 ∧ Short l := by
  refine ⟨by simp only [ledgerOk, Bool.and_eq_true, decide_eq_true_eq] at h; exact h.1, fun r hr => ?_⟩
  have := ledger_mem h r hr
  unfold validRecord at this
  have hn : ∀ s, isName s = true → s.length ≤ 10 := fun s hs => by simp only [isName, Bool.and_eq_true, decide_eq_true_eq] at hs; omega
  have hk : ∀ s, isRemark s = true → s.length ≤ 60 := fun s hs => by simp only [isRemark, Bool.and_eq_true, decide_eq_true_eq] at hs; omega
  split at this
  · rename_i h1
    simp only [Bool.and_eq_true] at this
    have := hn _ this.1
    have := hk _ (by assumption : _ ∧ _).2
    omega
  · split at this
    · simp only [Bool.and_eq_true, decide_eq_true_eq] at this
      have h1 := hn _ this.1
      rw [this.2]
      simp
      omega
    · simp only [Bool.and_eq_true, decide_eq_true_eq] at this
      rw [this.2, this.1.2]
      simp
      omega
noncomputable def saveBody : Code := match Tryz.f10.body with
  | some (.seq _ (.seq _ (.seq _ (.seq _ (.seq (.seq _ (.block _ (.loop c))) _))))) => c
  | _ => .skip


theorem builder_moved {T e : TypeId} {B b : Nat} {bs : List Value} {w w' : World} (hm : Moved (fun _ => False) w w') (h : Lib.IsBuilder T e B b bs w) : Lib.IsBuilder T e B b bs w' := by
  have key : ∀ p, Lib.BuilderAt T e B b p bs w → Lib.BuilderAt T e B b p bs w' := fun p ⟨hB, v, hb, hown, hne⟩ => by
    have lt : ∀ q c, w.heap[q]? = some c → w'.heap[q]? = some c := fun q c hq => by rw [hm.block q (Array.getElem?_eq_some_iff.1 hq).1 fun h => h]; exact hq
    refine ⟨hB, v, lt _ _ hb, ⟨hown.1, ?_⟩, hne⟩
    rcases hown.2 with h | ⟨g, cap, cur, hv, hg, hgb, hr⟩
    · exact .inl h
    · exact .inr ⟨g, cap, cur, hv, hg, lt _ _ hgb, hr⟩
  exact h.imp (key _) (key _)

theorem moved_over {w0 w w' : World} {b : Nat} (hm : Moved (fun _ => False) w0 w) (hb : RowKit.Below b w w') (h : w0.heap.size ≤ b) : Moved (fun _ => False) w0 w' :=
  ⟨hb.os.trans hm.os, hb.tape.trans hm.tape, hb.output.trans hm.output, Nat.le_trans hm.size hb.size, fun q hq hn => (hb.block q (Nat.lt_of_lt_of_le hq h)).trans (hm.block q hq hn), fun hd => absurd hd (by decide)⟩

/-- What stands in the loop of SaveLedger: the builder's block is b. -/
def saveFr (l : List Record) (v0 : Value) (b i : Nat) : Fr := [(0, .raw v0), (4, .raw (.pointer (some ⟨b, 0, none⟩))), (5, .int .i64 (lastC (l.take i) 65535)), (11, .raw v0), (12, .int .i64 l.length), (13, .int .i64 i)]
def SI (l : List Record) (w0 : World) (A0 : Nat → Prop) (v0 : Value) (b i : Nat) (a : Act) (w : World) : Prop :=
  Inv ⟨w0, A0, fun _ => False, fun _ => undef⟩ 31 ⟨saveFr l v0 b i, []⟩ a w A0 (fun _ => none) ∧ Lib.IsBuilder 81 5 b b (Lib.byteCells (ledT (l.take i) 65535)) w ∧ b < w.heap.size

set_option maxHeartbeats 4000000 in
theorem save_rounds {l : List Record} (hl : ledgerOk l = true) {w0 : World} {A0 : Nat → Prop} {v0 : Value} {b : Nat} {Q : Exit → Act → World → Prop} (hA0 : AOk A0 w0) (hb : w0.heap.size ≤ b) (hv0 : RepI A0 w0 (.sl 3 (Record.rows l)) v0)
    (hex : ∀ a w, SI l w0 A0 v0 b l.length a w → Q (.exit 0) a w) : ∀ (k i : Nat) (a : Act) (w : World), l.length < k + i → i ≤ l.length → SI l w0 A0 v0 b i a w → Code.rounds Tryz.prog saveBody Q k a w
  | 0, i, a, w, hk, hi, _ => absurd hk (by omega)
  | k + 1, i, a, w, hk, hi, ⟨hI, hB, hbs⟩ => by
    obtain ⟨h32, hs⟩ := short_of hl
    rw [rounds_succ]
    have hv : RepI A0 w (.sl 3 (Record.rows l)) v0 := hv0.mono (fun _ h => h) fun q hq => hI.moved.block q (hA0.lt q hq) fun h => h
    have hJ : Inv ⟨w, A0, fun _ => False, fun _ => undef⟩ 31 ⟨saveFr l v0 b i, []⟩ a w A0 (fun _ => none) := hI.base rfl rfl (.refl _ _) hI.aok fun b hb => .inl hb
    refine wp_seq ?_
    refine piece hm (S1 := ⟨(14, .bool (decide (i < l.length))) :: saveFr l v0 b i, []⟩) (by kernel_rfl) hJ ?_ fun a1 w1 A1 m1 hI1 => ?_
    · simp [saveFr]
      refine Wk.weak (ρ := []) (φ := []) ?_
      simp
    have hm1 := hI1.moved
    have hAw : AOk A0 w1 := hI.aok.mono (fun q hq => Nat.lt_of_lt_of_le (hI.aok.lt q hq) hm1.size) (fun _ h => h) fun q hq => hm1.block q (hI.aok.lt q hq) fun h => h
    have hv1 : RepI A0 w1 (.sl 3 (Record.rows l)) v0 := hv.mono (fun _ h => h) fun q hq => hm1.block q (hI.aok.lt q hq) fun h => h
    have hB1 := builder_moved hm1 hB
    have hJ1 : Inv ⟨w1, A0, fun _ => False, fun _ => undef⟩ 31 ⟨(14, .bool (decide (i < l.length))) :: saveFr l v0 b i, []⟩ a1 w1 A0 (fun _ => none) := hI1.base rfl rfl (.refl _ _) hAw fun b hb => .inl hb
    refine wp_seq (wp_cond_split (t := decide (i < l.length)) ?_ (fun ht => wp_skip ?_) fun ht => wp_exit ?_)
    · exact bool_look hJ1 rfl (by decide)
    rotate_left
    · have hil : i = l.length := by have := of_decide_eq_false ht; omega
      subst hil
      refine hex a1 w1 ⟨(hI1.base (y := ⟨w0, A0, fun _ => False, fun _ => undef⟩) rfl rfl (hI.moved.trans hm1) hAw fun b hb => .inl hb).frame fun t => ?_, hB1, Nat.lt_of_lt_of_le hbs hm1.size⟩
      by_cases e : t = 14
      · subst e; exact .inl rfl
      · exact .inr (by show _ = (bif 14 == t then _ else _); rw [show (14 == t) = false by simpa using fun h => e h.symm]; rfl)
    have hi' : i < l.length := of_decide_eq_true ht
    have h11 : Go.Ab.look ⟨w1, A0, fun _ => False, fun _ => undef⟩ 31 a1 11 = v0 := raw_look hJ1 rfl
    have hK1 := hJ1.know (d := 11) (p := .sl 3 (Record.rows l)) (by rw [h11]; exact .imm hv1)
    refine wp_seq (wp_block (wp_seq ?_))
    refine region_pin (d := 11) (v0 := v0) (K := fun S' => Weak S' ⟨(7, .pb 0 0) :: saveFr l v0 b i, [some (.box l[i].cells)]⟩) (by kernel_rfl) rfl (by decide) hK1 h11 ?_ fun S2 a2 w2 A2 m2 hW2 hI2 => ?_
    · simp [saveFr, hi', Record.rows_len, Record.row_get, Record.cells]
      exact Wk.weak (ρ := [0]) (φ := []) (by simp)
    obtain ⟨A3, m3, hI3⟩ := hW2 _ _ _ _ _ _ hI2
    have hr := hs _ (List.getElem_mem hi')
    have t1 := recTx_len hr.1 hr.2.1
    have t2 := itoa_st (crc16_st (recTx l[i]) (lastC (l.take i) 65535))
    have t3 := ledT_len hs 65535 i (by omega)
    have hT : HFn Tryz.prog 45 [.agg [.int .i64 l[i].kind, .str l[i].key, .str l[i].text]] [] (.str (recTx l[i])) [] := c_recordText l[i] (by omega) (by omega)
    have hC := c_impl_Crc16 (recTx l[i]) (lastC (l.take i) 65535) (by omega)
    have hD := c_Decimal (crc16 (recTx l[i]) (lastC (l.take i) 65535)) (crc16_I64 _ _)
    have hn := ledT_succ hi' 65535
    rw [lastC_succ hi'] at hn
    have hn5 := lastC_succ hi' 65535
    refine wp_seq ?_
    refine piece hm (S1 := ⟨[(7, .pb 0 0), (0, .raw v0), (4, .raw (.pointer (some ⟨b, 0, none⟩))), (5, .int .i64 (crc16 (recTx l[i]) (lastC (l.take i) 65535))), (11, .raw v0), (12, .int .i64 l.length), (13, .int .i64 i)], [some (.box [.int .i64 l[i].kind, .str l[i].key, .str l[i].text])]⟩) (by kernel_rfl) hI3 ?_ fun a4 w4 A4 m4 hI4 => ?_
    · simp [saveFr, Record.cells]
      refine CallZ.use0 hT rfl rfl ?_
      simp
      refine CallZ.use0 hC rfl rfl ?_
      simp
      exact Wk.weak (ρ := [0]) (φ := []) (by simp)
    refine region_tail (T := 7) hm (by kernel_rfl) (fun f => rfl) hI4 (K := fun S' => Weak S' ⟨[(0, .raw v0), (4, .raw (.pointer (some ⟨b, 0, none⟩))), (5, .int .i64 (crc16 (recTx l[i]) (lastC (l.take i) 65535))), (11, .raw v0), (12, .int .i64 l.length), (13, .int .i64 i), (27, .str (Lib.itoa (crc16 (recTx l[i]) (lastC (l.take i) 65535)) ++ [32] ++ recTx l[i] ++ [10]))], []⟩) ?_ fun S5 a5 w5 A5 m5 hW5 hI5 => ?_
    · simp
      refine CallZ.use0 hD rfl rfl ?_
      simp
      refine ⟨by omega, ?_⟩
      refine CallZ.use0 hT rfl rfl ?_
      simp
      refine ⟨by omega, by omega, Wk.weak (ρ := []) (φ := []) ?_⟩
      simp
    obtain ⟨A6, m6, hI6⟩ := hW5 _ _ _ _ _ _ hI5
    have hm6 := hI6.moved
    have hB6 := builder_moved hm6 hB1
    have hbs6 : b < w5.heap.size := Nat.lt_of_lt_of_le hbs (Nat.le_trans hm1.size hm6.size)
    obtain ⟨bt, hbt, hbl⟩ := str_look hI6 (t := 27) rfl (by decide)
    have h4 := raw_look hI6 (t := 4) rfl
    rw [look_lt (by decide)] at h4
    have hlb : (ledT (l.take i) 65535).length ≤ 6000 := by omega
    refine wpList_hand (R := fun v w' => Lib.BuilderAt 81 5 b b (.pointer (some ⟨b, 0, none⟩)) (Lib.byteCells (ledT (l.take i) 65535) ++ Lib.strCells bt) w' ∧ RowKit.Below b w5 w') rfl (yields_call (xs := [_, _]) (ts := _) rfl rfl ?_) fun v w7 ⟨hB7, hb7⟩ => ?_
    · have hargs : (([.tmp 4, .tmp 27] : List Operand).map a5.eval).toArray ++ (#[] : Array Value) = #[.pointer (some ⟨b, 0, none⟩), .string bt] := by
        show #[a5.tmps.getD 4 undef, a5.tmps.getD 27 undef] = _
        rw [h4, hbt]
      have hsz : bt.size = bt.data.toList.length := by rw [Array.length_toList]; rfl
      show CallS Tryz.prog 46 ((([.tmp 4, .tmp 27] : List Operand).map a5.eval).toArray ++ (#[] : Array Value)) w5 _
      rw [hargs]
      unfold CallS
      rw [enters Tryz.func46 (by kernel_rfl) rfl]
      refine ⟨rfl, (m_WriteString b b _ bt w5 hB6 ?_ (Nat.le_of_lt hbs6)).mono fun e w' ⟨he, h1, h2⟩ => ⟨_, he, h1, h2⟩⟩
      rw [Lib.byteCells_length, hsz, hbl]
      simp
      omega
    · refine ⟨rfl, ?_⟩
      have hA7 : AOk A0 w7 := hAw.mono (fun q hq => Nat.lt_of_lt_of_le (Nat.lt_of_lt_of_le (hAw.lt q hq) hm6.size) hb7.size) (fun _ h => h) fun q hq => (hb7.block q (Nat.lt_of_lt_of_le (hA0.lt q hq) hb)).trans (hm6.block q (hAw.lt q hq) fun h => h)
      have hm7 : Moved (fun _ => False) w0 w7 := moved_over ((hI.moved.trans hm1).trans hm6) hb7 hb
      have hI7 := (hI6.val (d := some 28) (p := .top) (v := v) (by decide) (.imm (.top _))).base (y := ⟨w7, A0, fun _ => False, fun _ => undef⟩) rfl rfl (.refl _ _) hA7 fun b hb => .inl hb
      have hB7' : Lib.IsBuilder 81 5 b b (Lib.byteCells (ledT (l.take (i + 1)) 65535)) w7 := by
        rw [hn]
        refine .inr ?_
        have e : Lib.byteCells (ledT (l.take i) 65535) ++ Lib.strCells bt = Lib.byteCells (ledT (l.take i) 65535 ++ bt.data.toList) := by simp [Lib.byteCells, Lib.strCells]
        rw [e, hbl] at hB7
        exact hB7
      refine wp_mono (awp_sound hm _ _ (thenQ (fun S' => Weak S' ⟨saveFr l v0 b (i + 1), []⟩) fun _ _ => False) (by kernel_rfl) ?_ _ _ _ _ _ hI7) fun e a8 w8 ⟨S8, A8, m8, hq, hI8⟩ => ?_
      · simp [saveFr]
        have w1 : IntKind.i64.wrap ((i : Int) + 1) = (i : Int) + 1 := w64 (by omega) (by omega)
        refine Wk.weak (ρ := []) (φ := []) ?_
        simp [hn5, w1]
      cases e with
      | normal =>
        obtain ⟨A9, m9, hI9⟩ := hq _ _ _ _ _ _ hI8
        have hm9 := hI9.moved
        refine save_rounds hl hA0 hb hv0 hex k (i + 1) a8 w8 (by omega) (by omega) ⟨hI9.base rfl rfl (hm7.trans hm9) (hA7.mono (fun q hq => Nat.lt_of_lt_of_le (hA7.lt q hq) hm9.size) (fun _ h => h) fun q hq => hm9.block q (hA7.lt q hq) fun h => h) fun b hb => .inl hb, builder_moved hm9 hB7', ?_⟩
        exact Nat.lt_of_lt_of_le hbs6 (Nat.le_trans hb7.size hm9.size)
      | _ => exact hq.elim

/-- The end of a function that hands back plain values. -/
theorem fin_ret {P : Program} {fn : Func} {n : Nat} {fr : Fr} {w0 w : World} {A0 : Nat → Prop} {gh : Nat → Value} {a : Act} {m : OMap} {res : PV} (hI : Inv ⟨w0, A0, fun _ => False, gh⟩ n ⟨fr, []⟩ a w A0 m) (hn : fn.results.toList.all (resLt n) = true) (hr : retOks P ⟨fr, []⟩ fn.results.toList) (hres : retV P ⟨fr, []⟩ fn.results.toList = res) (hp : noOwn res = true) :
    bodyPost P fn (PlainPost A0 w0 res) .ret a w := by
  obtain ⟨v, hv, hrep⟩ := ret_run (P := P) hI.conc rfl hI.opnd rfl hn hr
  rw [hres] at hrep
  exact ⟨hI.df, v, hv, v, rfl, hI.moved, (noOwn_rep (H := []) hp hrep).1⟩

/-- Where a function of one argument begins. -/
theorem enter_one {N : Nat} {A : Nat → Prop} {w : World} {v0 : Value} (hA : AOk A w) (hn : 1 ≤ N) : Inv ⟨w, A, fun _ => False, fun _ => undef⟩ N ⟨[(0, .raw v0)], []⟩ { tmps := #[v0] ++ Array.replicate (N - (#[v0] : Array Value).size) undef, defers := [] } w A (fun _ => none) := by
  refine ⟨.refl _ _, fun b hb => .inl hb, hA, ⟨fun k o hk => by simp [getO] at hk, fun k k' o o' b C C' hk => by simp [getO] at hk⟩, fun b ⟨k, o, C, hk, _⟩ => by simp [getO] at hk, fun t => ?_, by simp; omega, rfl⟩
  cases t with
  | zero =>
    rw [show Go.Ab.look ⟨w, A, fun _ => False, fun _ => undef⟩ N { tmps := #[v0] ++ Array.replicate (N - (#[v0] : Array Value).size) undef, defers := [] } 0 = v0 by
      rw [look_lt (by omega)]
      simp [Array.getD_eq_getD_getElem?, Array.getElem?_append]]
    exact .imm (.raw _)
  | succ t => exact .imm (.top _)

set_option maxHeartbeats 400000 in
theorem c_impl_SaveLedger (l : List Record) (hl : l.length ≤ 1048576) (hw : ∀ x ∈ l, x.wf) : HFn Tryz.prog 10 [.sl 3 (Record.rows l)] [] (.tup [.str (saveT l), .int .i64 (saveC l)]) [] :=
  hfn_of_calls Tryz.func10 (by kernel_rfl) rfl rfl fun A w vs hA hsz hargs => by
    obtain ⟨v0, rfl⟩ : ∃ v0, vs = #[v0] := Array.size_eq_one_iff.1 hsz
    have hv : RepI A w (.sl 3 (Record.rows l)) v0 := hargs 0 _ rfl
    have hI : Inv ⟨w, A, fun _ => False, fun _ => undef⟩ 31 _ _ w A (fun _ => none) := enter_one (v0 := v0) hA (by decide)
    refine calls_of_wp Tryz.func10 rfl ?_
    refine wp_seq ?_
    refine piece hm (S1 := ⟨[(2, .str []), (3, .int .i64 0), (0, .raw v0)], []⟩) (by kernel_rfl) hI ?_ fun a1 w1 A1 m1 hI1 => ?_
    · simp
      exact Wk.weak (ρ := []) (φ := []) (by simp)
    have hm1 := hI1.moved
    have hA1 : AOk A w1 := hA.mono (fun q hq => Nat.lt_of_lt_of_le (hA.lt q hq) hm1.size) (fun _ h => h) fun q hq => hm1.block q (hA.lt q hq) fun h => h
    have hv1 : RepI A w1 (.sl 3 (Record.rows l)) v0 := hv.mono (fun _ h => h) fun q hq => hm1.block q (hA.lt q hq) fun h => h
    have hJ1 : Inv ⟨w, A, fun _ => False, fun _ => undef⟩ 31 ⟨[(2, .str []), (3, .int .i64 0), (0, .raw v0)], []⟩ a1 w1 A (fun _ => none) := hI1.base rfl rfl hm1 hA1 fun b hb => .inl hb
    have h10 := raw_look hJ1 (t := 0) rfl
    have hK1 := hJ1.know (d := 0) (p := .sl 3 (Record.rows l)) (by rw [h10]; exact .imm hv1)
    refine wp_seq (wp_seq ?_)
    refine region_pin (d := 0) (v0 := v0) (K := fun S' => Weak S' ⟨[(10, .bool (!ledgerOk l)), (2, .str []), (3, .int .i64 0), (0, .raw v0)], []⟩) (by kernel_rfl) rfl (by decide) hK1 h10 ?_ fun S2 a2 w2 A2 m2 hW2 hI2 => ?_
    · simp
      refine CallZ.use0 (c_impl_ValidLedger l hl hw) rfl rfl ?_
      simp
      exact Wk.weak (ρ := []) (φ := []) (by simp)
    obtain ⟨A3, m3, hI3⟩ := hW2 _ _ _ _ _ _ hI2
    have hm3 := hI3.moved
    have hA3 : AOk A w2 := hA.mono (fun q hq => Nat.lt_of_lt_of_le (hA.lt q hq) hm3.size) (fun _ h => h) fun q hq => hm3.block q (hA.lt q hq) fun h => h
    have hJ3 := hI3.base (y := ⟨w, A, fun _ => False, fun _ => undef⟩) rfl rfl hm3 hA3 fun b hb => .inl hb
    refine wp_cond_split (t := !ledgerOk l) (bool_look hJ3 rfl (by decide)) (fun ht => ?_) fun ht => wp_skip ?_
    · have ht' : ledgerOk l = false := by simpa using ht
      refine wp_seq ?_
      refine piece hm (S1 := ⟨[(2, .str []), (3, .int .i64 1)], []⟩) (by kernel_rfl) hJ3 ?_ fun a4 w4 A4 m4 hI4 => ?_
      · simp
        exact Wk.weak (ρ := []) (φ := []) (by simp)
      have hm4 := hI4.moved
      refine wp_ret (fin_ret (hI4.base rfl rfl hm4 (hA.mono (fun q hq => Nat.lt_of_lt_of_le (hA.lt q hq) hm4.size) (fun _ h => h) fun q hq => hm4.block q (hA.lt q hq) fun h => h) fun b hb => .inl hb) (by kernel_rfl) ?_ ?_ rfl)
      · exact ⟨trivial, trivial, trivial⟩
      · simp [saveT, saveC, ht']
    have ht' : ledgerOk l = true := by simpa using ht
    refine wp_seq (wp_region_list ?_)
    refine wpList_hand (R := fun v w' => v = .pointer (some ⟨w2.heap.size, 0, none⟩) ∧ w' = w2.alloc (.cells #[.pointer none, .slice none 0 0] 81)) rfl (yields_value ?_ ⟨rfl, rfl⟩) fun v w4 ⟨hv4, hw4⟩ => ?_
    · have hz : ∀ w, (zeroValue 81).run Tryz.prog w = .ok (.agg #[.pointer none, .slice none 0 0]) w := fun w => by kernel_rfl
      simp [execOp, Instr.alloc, hz, newVar, newRow, Value.cells]
    subst hv4
    subst hw4
    have keep : ∀ w', Moved (fun _ => False) w w' → AOk A w' := fun w' hm => hA.mono (fun q hq => Nat.lt_of_lt_of_le (hA.lt q hq) hm.size) (fun _ h => h) fun q hq => hm.block q (hA.lt q hq) fun h => h
    have keepV : ∀ w', Moved (fun _ => False) w w' → RepI A w' (.sl 3 (Record.rows l)) v0 := fun w' hm => hv.mono (fun _ h => h) fun q hq => hm.block q (hA.lt q hq) fun h => h
    have hB4 := Lib.fresh_isBuilder 81 5 w2
    have hbs : w2.heap.size < (w2.alloc (.cells #[.pointer none, .slice none 0 0] 81)).heap.size := by simp
    have hm4 : Moved (fun _ => False) w (w2.alloc (.cells #[.pointer none, .slice none 0 0] 81)) := hm3.trans (moved_alloc w2 _)
    generalize w2.alloc (.cells #[.pointer none, .slice none 0 0] 81) = w4 at hB4 hbs hm4 ⊢
    have hI4 := (hJ3.val (d := some 4) (p := .raw (.pointer (some ⟨w2.heap.size, 0, none⟩))) (by decide) (.imm (.raw _))).base (y := ⟨w4, A, fun _ => False, fun _ => undef⟩) rfl rfl (.refl _ _) (keep _ hm4) fun b hb => .inl hb
    have hb2 : w.heap.size ≤ w2.heap.size := hm3.size
    generalize w2.heap.size = b at hI4 hB4 hbs hb2 ⊢
    show Code.wp _ _ _ _ _
    refine wp_seq ?_
    refine piece hm (S1 := ⟨[(5, .int .i64 65535), (4, .raw (.pointer (some ⟨b, 0, none⟩))), (0, .raw v0)], []⟩) (by kernel_rfl) hI4 ?_ fun a5 w5 A5 m5 hI5 => ?_
    · simp
      exact Wk.weak (ρ := []) (φ := []) (by simp)
    refine wp_seq (wp_seq (wp_region_list ?_))
    refine list_first (K := fun S' => Weak S' ⟨[(11, .raw v0), (5, .int .i64 65535), (4, .raw (.pointer (some ⟨b, 0, none⟩))), (0, .raw v0)], []⟩) (by kernel_rfl) rfl hI5 ?_ fun v S6 A6 m6 w6 hW6 hI6 => ?_
    · simp
      exact Wk.weak (ρ := []) (φ := []) (by simp)
    obtain ⟨A7, m7, hI7⟩ := hW6 _ _ _ _ _ _ hI6
    have hm7 := hI7.moved
    have hJ7 := hI7.base (y := ⟨w4, A, fun _ => False, fun _ => undef⟩) rfl rfl hm7 (keep _ (hm4.trans hm7)) fun b hb => .inl hb
    have h11 := raw_look hJ7 (t := 11) rfl
    have hK7 := hJ7.know (d := 11) (p := .sl 3 (Record.rows l)) (by rw [h11]; exact .imm (keepV _ (hm4.trans hm7)))
    refine list_pin (d := 11) (v0 := v0) (K := fun S' => Weak S' ⟨saveFr l v0 b 0, []⟩) (by kernel_rfl) (by kernel_rfl) rfl (by decide) hK7 h11 ?_ fun S8 a8 w8 A8 m8 hW8 hI8 => ?_
    · simp [Record.rows_len]
      exact Wk.weak (ρ := []) (φ := []) (by simp [saveFr, lastC])
    obtain ⟨A9, m9, hI9⟩ := hW8 _ _ _ _ _ _ hI8
    have hm9 := hI9.moved
    have hSI : SI l w A v0 b 0 a8 w8 := ⟨hI9.base rfl rfl (hm4.trans hm9) (keep _ (hm4.trans hm9)) fun b hb => .inl hb, by simpa [ledT, ledL, Lib.byteCells] using builder_moved hm9 hB4, Nat.lt_of_lt_of_le hbs hm9.size⟩
    refine wp_block (wp_loop_rounds (l.length + 1) (save_rounds ht' hA hb2 hv (fun a10 w10 h10 => ?_) _ 0 _ _ (by omega) (by omega) hSI))
    obtain ⟨hI10, hB10, hbs10⟩ := h10
    rw [List.take_length] at hB10
    simp only [Exit.inBlock, if_true]
    show Code.wp _ _ _ _ _
    refine wp_seq (wp_region_list ?_)
    have h4 := raw_look hI10 (t := 4) rfl
    rw [look_lt (by decide)] at h4
    refine wpList_hand (R := fun v w' => v = .string ⟨(ledT l 65535).toArray⟩ ∧ RowKit.Below b w10 w') rfl (yields_call (xs := [_]) (ts := _) rfl rfl ?_) fun v w11 ⟨hv11, hb11⟩ => ?_
    · show CallS Tryz.prog 48 #[a10.tmps.getD 4 undef] w10 _
      rw [h4]
      unfold CallS
      rw [enters Tryz.func48 (by kernel_rfl) rfl]
      exact ⟨rfl, (Tryz.Builder_String_any b b (ledT l 65535) w10 hB10 (Nat.le_of_lt hbs10)).mono fun e w' ⟨he, h2⟩ => ⟨_, he, rfl, h2⟩⟩
    subst hv11
    have hm11 : Moved (fun _ => False) w w11 := moved_over hI10.moved hb11 hb2
    have hI11 := (hI10.val (d := some 30) (p := .str (ledT l 65535)) (v := .string ⟨(ledT l 65535).toArray⟩) (by decide) (.imm (.str _ _ (by simp)))).base (y := ⟨w, A, fun _ => False, fun _ => undef⟩) rfl rfl hm11 (keep _ hm11) fun b hb => .inl hb
    refine ops_sound (K := fun S' => Weak S' ⟨[(2, .str (ledT l 65535)), (3, .int .i64 0)], []⟩) (by kernel_rfl) (fun S12 a12 w12 A12 m12 hW12 hI12 => ?_) _ false _ _ _ _ _ (by kernel_rfl) hI11 ?_
    · obtain ⟨A13, m13, hI13⟩ := hW12 _ _ _ _ _ _ hI12
      have hm13 := hI13.moved
      show Code.wp _ _ _ _ _
      refine wp_ret (fin_ret (hI13.base rfl rfl hm13 (keep _ hm13) fun b hb => .inl hb) (by kernel_rfl) ⟨trivial, trivial, trivial⟩ ?_ rfl)
      simp [saveT, saveC, ht']
    · simp
      exact Wk.weak (ρ := []) (φ := []) (by simp)
end Go.Proofs.YtmdablalfmcgnaaGreatDoor
