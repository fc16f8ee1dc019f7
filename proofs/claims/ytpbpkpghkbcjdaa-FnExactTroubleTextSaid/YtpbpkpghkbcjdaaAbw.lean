/- Whole functions: their contracts out of the plain run; the use of a contract in a plain run. No condition. -/
import Derived.Test.YtpbpkpghkbcjdaaAbv
namespace Go.Ab
variable {P : Program} {A A' : Nat → Prop} {m m' : OMap} {h h' : OFun} {w w' : World} {H : Heap} {fr fr' : Fr} {a : Act}

def argFr : Nat → List PV → Fr
  | _, [] => []
  | i, p :: r => (i, p) :: argFr (i + 1) r

theorem slot_argFr : ∀ {args : List PV} {i t : Nat}, slot (argFr i args) t = if i ≤ t then args.getD (t - i) .top else .top
  | [], i, t => by simp [argFr, slot]
  | p :: r, i, t => by
    simp only [argFr, slot]
    cases e : i == t with
    | true =>
      have : i = t := by simpa using e
      subst this
      simp
    | false =>
      have hne : i ≠ t := by simpa using e
      rw [cond_false, slot_argFr (args := r)]
      by_cases h : i ≤ t
      · rw [if_pos h, if_pos (by omega), show t - i = (t - (i + 1)) + 1 by omega]
        rfl
      · rw [if_neg h, if_neg (by omega)]

/-- What a function hands back. -/
def retV1 (P : Program) (S : St) : ResultVar → PV
  | .tmp t => slot S.fr t
  | .cell x t => loadV S.H (aggT P t) (sizeT P t) (ev S.fr (.tmp x))
def retOk1 (P : Program) (S : St) : ResultVar → Prop
  | .tmp _ => True
  | .cell x t => vok P S.fr S.H (.load t (.tmp x)) ∧ isPtr (ev S.fr (.tmp x))
def retOks (P : Program) (S : St) : List ResultVar → Prop
  | [] => True
  | r :: s => retOk1 P S r ∧ retOks P S s
def retV (P : Program) (S : St) : List ResultVar → PV
  | [r] => retV1 P S r
  | rs => .tup (rs.map (retV1 P S))

def readR (tmps : Array Value) : ResultVar → Sem Value
  | .tmp t => pure (tmps.getD t undef)
  | .cell x t => do loadVar t (← asAddr (tmps.getD x undef))

theorem results_eq (fn : Func) (tmps : Array Value) : results fn tmps = (do
    let vs ← fn.results.mapM (readR tmps)
    pure (if h : vs.size = 1 then vs[0] else .tuple vs)) := by
  unfold results
  congr 1

theorem ret1_run (hC : ConcO A m (getO H) w) {S : St} (hS : S.H = H) (hO : Opnd A m (getO H) w S.fr a) {r : ResultVar} (hr : retOk1 P S r) :
    ∃ v, (readR a.tmps r).run P w = .ok v w ∧ RepO A m (getO H) w (retV1 P S r) v := by
  subst hS
  cases r with
  | tmp t => exact ⟨_, rfl, hO.rep t⟩
  | cell x t =>
    obtain ⟨⟨h1, h2, h3, h4⟩, hp⟩ := hr
    have hx := hO.ev h1
    obtain ⟨b, o, hv⟩ := hx.ptr hp
    obtain ⟨u, hu, hrep⟩ := loadV_rep (P := P) hC getO_sub h2 h3 hx h4
    have hv' : a.tmps.getD x undef = .pointer (some ⟨b, o, none⟩) := hv
    refine ⟨u, ?_, hrep⟩
    rw [hv] at hu
    simp only [Instr.loadAt, Instr.sureAddr, Sem.run_bind, Sem.run_pure, Result.andThen_ok] at hu
    simp only [readR, hv', asAddr, Sem.run_bind, Sem.run_pure, Result.andThen_ok, hu]

theorem ret_run (hC : ConcO A m (getO H) w) {S : St} (hS : S.H = H) (hO : Opnd A m (getO H) w S.fr a) {fn : Func} {rs : List ResultVar} (hrs : fn.results.toList = rs) (hr : retOks P S rs) : ∃ v, (results fn a.tmps).run P w = .ok v w ∧ RepO A m (getO H) w (retV P S rs) v := by
  have key : ∀ (rs : List ResultVar), retOks P S rs → ∃ vs : List Value, vs.length = rs.length ∧ (rs.mapM (readR a.tmps)).run P w = .ok vs w ∧ ∀ i c, (rs.map (retV1 P S))[i]? = some c → RepO A m (getO H) w c (vs.toArray.getD i undef) := by
    intro rs
    induction rs with
    | nil => exact fun _ => ⟨[], rfl, rfl, by simp⟩
    | cons r s ih =>
      intro hr
      obtain ⟨v, hv, hrep⟩ := ret1_run hC hS hO hr.1
      obtain ⟨vs, hl, hvs, hreps⟩ := ih hr.2
      refine ⟨v :: vs, by simp [hl], ?_, fun i c hc => ?_⟩
      · simp only [List.mapM_cons, Sem.run_bind, hv, Result.andThen_ok, hvs, Sem.run_pure]
      · cases i with
        | zero => cases hc; simpa using hrep
        | succ i =>
          have := hreps i c (by simpa using hc)
          simpa [Array.getD_eq_getD_getElem?] using this
  obtain ⟨vs, hl, hvs, hreps⟩ := key rs hr
  have hm : (fn.results.mapM (readR a.tmps)).run P w = .ok vs.toArray w := by
    rw [Array.mapM_eq_mapM_toList, hrs]
    simp [hvs]
  refine ⟨if h : vs.toArray.size = 1 then vs.toArray[0] else .tuple vs.toArray, ?_, ?_⟩
  · rw [results_eq, Sem.run_bind, hm]
    rfl
  · by_cases h1 : vs.toArray.size = 1
    · rw [dif_pos h1]
      have h1' : vs.length = 1 := by simpa using h1
      obtain ⟨r, rfl⟩ : ∃ r, rs = [r] := List.length_eq_one_iff.1 (by omega)
      have := hreps 0 _ rfl
      obtain ⟨v, rfl⟩ := List.length_eq_one_iff.1 h1'
      simpa [retV] using this
    · rw [dif_neg h1]
      have h1' : rs.length ≠ 1 := by
        intro e
        exact h1 (by simp [hl, e])
      have e : retV P S rs = .tup (rs.map (retV1 P S)) := by
        unfold retV
        split
        · simp at h1'
        · rfl
      rw [e]
      exact .tup _ _ (by simp [hl]) hreps

/-- The end of a function. -/
def RetOk (P : Program) (rs : List ResultVar) (res : PV) (Hout : Heap) : Exit → St → Prop
  | .normal, S | .ret, S => retOks P S rs ∧ Weak ⟨[(0, retV P S rs)], S.H⟩ ⟨[(0, res)], Hout⟩
  | _, _ => False

theorem hfn_intro (hm : P.follows .mixedOrders = true) {f : FuncId} {fn : Func} {c : Code} {args : List PV} {Hin : Heap} {res : PV} {Hout : Heap} {Q : Exit → St → Prop} (hf : P.funcs[f]? = some fn) (hname : (fn.name == "runtime.NumGoroutine") = false)
    (hb : fn.body = some c) (hok : codeOk fn.ntmps c = true) (hn0 : Nat.ble args.length fn.ntmps = true) (hQ : ∀ e S, Q e S → RetOk P fn.results.toList res Hout e S) (hawp : awp P fn.ntmps c ⟨argFr 0 args, Hin⟩ Q) : HFn P f args Hin res Hout := by
  have hn := Nat.le_of_ble_eq_true hn0
  intro A m w vs hA hC hvs hargs
  have hname' : fn.name ≠ "runtime.NumGoroutine" := by simpa using hname
  have hcall : (callFunc f vs).run P w = .ok (.enter f vs) w := by simp [callFunc, hf, hname', hb]
  unfold CallS
  rw [hcall]
  refine ⟨rfl, calls_of_wp hf hb ?_⟩
  have hI : Inv ⟨w, A, OwnB m (getO Hin)⟩ fn.ntmps ⟨argFr 0 args, Hin⟩ { tmps := vs ++ Array.replicate (fn.ntmps - vs.size) undef, defers := [] } w A m := by
    refine ⟨.refl _ _, fun b hb => .inl hb, hA, hC, fun b hb => .inl hb, fun t => ?_, by simp; omega, rfl⟩
    rw [slot_argFr, if_pos (Nat.zero_le _), Nat.sub_zero]
    cases ht : args[t]? with
    | none =>
      rw [List.getD_eq_getElem?_getD, ht]
      exact .topI _
    | some p =>
      have hlt : t < vs.size := by rw [hvs]; exact (List.getElem?_eq_some_iff.1 ht).1
      have := hargs t p ht
      rw [List.getD_eq_getElem?_getD, ht]
      simpa [Array.getD_eq_getD_getElem?, Array.getElem?_append, hlt] using this
  refine wp_mono (awp_sound hm c _ Q hok hawp _ _ _ _ _ hI) fun e a' w' ⟨S', A', m', hq, hI'⟩ => ?_
  have fin : retOks P S' fn.results.toList ∧ Weak ⟨[(0, retV P S' fn.results.toList)], S'.H⟩ ⟨[(0, res)], Hout⟩ → a'.defers = [] ∧ ∃ v, (results fn a'.tmps).run P w' = .ok v w' ∧
      ∃ v_1 A'_1 m'_1, Ending.returned v = Ending.returned v_1 ∧ Came A m (getO Hin) w res (getO Hout) v_1 w' A'_1 m'_1 := fun ⟨hr, hw⟩ => by
    obtain ⟨v, hv, hrep⟩ := ret_run (P := P) hI'.conc rfl hI'.opnd rfl hr
    refine ⟨hI'.df, v, hv, ?_⟩
    have hI1 : Inv ⟨w, A, OwnB m (getO Hin)⟩ 1 ⟨[(0, retV P S' fn.results.toList)], S'.H⟩ { tmps := #[v], defers := [] } w' A' m' := by
      refine ⟨hI'.moved, hI'.sub, hI'.aok, hI'.conc, hI'.own, fun t => ?_, rfl, rfl⟩
      cases t with
      | zero => exact hrep
      | succ t => exact .topI _
    obtain ⟨A'', m'', hI2⟩ := hw _ _ _ _ _ _ hI1
    exact ⟨v, A'', m'', rfl, ⟨hI2.moved, hI2.sub, hI2.aok, hI2.conc, hI2.own, hI2.fr 0⟩⟩
  have hq' := hQ e S' hq
  cases e with
  | normal => exact fin hq'
  | ret => exact fin hq'
  | _ => exact hq'.elim

/-- The end of a function that hands back nothing own. -/
def ret0 (P : Program) (rs : List ResultVar) (res : PV) : Exit → St → Prop
  | .normal, S | .ret, S => retOks P S rs ∧ wkV S.H [] [] [] (retV P S rs) res
  | _, _ => False

theorem ret0_ok {rs : List ResultVar} {res : PV} (e : Exit) (S : St) (h : ret0 P rs res e S) : RetOk P rs res [] e S := by
  cases e with
  | normal => exact ⟨h.1, Wk.weak (ρ := []) (φ := []) ⟨rfl, ⟨h.2, trivial⟩, trivial⟩⟩
  | ret => exact ⟨h.1, Wk.weak (ρ := []) (φ := []) ⟨rfl, ⟨h.2, trivial⟩, trivial⟩⟩
  | _ => exact h.elim

/-- The end of a function, by renaming. -/
def retN (ρ φ : List Nat) (P : Program) (rs : List ResultVar) (res : PV) (Hout : Heap) : Exit → St → Prop
  | .normal, S | .ret, S => retOks P S rs ∧ Wk ρ φ ⟨[(0, retV P S rs)], S.H⟩ ⟨[(0, res)], Hout⟩
  | _, _ => False

theorem retN_ok {ρ φ : List Nat} {rs : List ResultVar} {res : PV} {Hout : Heap} (e : Exit) (S : St) (h : retN ρ φ P rs res Hout e S) : RetOk P rs res Hout e S := by
  cases e with
  | normal => exact ⟨h.1, h.2.weak⟩
  | ret => exact ⟨h.1, h.2.weak⟩
  | _ => exact h.elim

/-! ### The use of a contract -/
section use
variable {q own c : Bool} {f : FuncId} {args args' : List PV} {d : Option Nat} {S : St} {K : St → Prop} {res : PV} {Hout : Heap}

theorem CallZ.use (hf : HFn P f args' [] res Hout) (h1 : (own || (flatP res)) = true) (h2 : own = true ∨ flatO Hout) (h3 : whole Hout.length res = true) (h4 : arrO Hout = true) (hK : K ⟨put S.fr d (shift S.H.length res), S.H ++ Hout⟩) :
    CallZ P q f args' true own args d S K := by
  refine .inl ⟨rfl, res, Hout, hf, ?_, h3, h4, hK⟩
  simp only [Bool.or_eq_true] at h1
  rcases h1 with h1 | h1
  · exact .inl h1
  · exact h2.imp id fun h => ⟨h1, h⟩

/-- Nothing own is handed back. -/
theorem CallZ.use0 (hf : HFn P f args' [] res []) (h1 : (own || flatP res) = true) (h3 : whole 0 res = true) (hK : K ⟨put S.fr d res, S.H⟩) : CallZ P q f args' true own args d S K := by
  refine CallZ.use hf h1 (.inr trivial) h3 rfl ?_
  rw [shift_id h3, List.append_nil]
  exact hK

theorem CallY.use {ok : Bool} (hf : c = true → ok = true ∧ HFn P f args' [] res []) (h1 : (own || flatP res) = true) (h3 : whole 0 res = true) (hK : K ⟨put S.fr d (.opt c res), S.H⟩) : CallY P f args' ok own c d S K :=
  ⟨res, hf, by simpa using h1, h3, hK⟩
end use

section eqs
variable {rs : List ResultVar} {res : PV} {Hout : Heap}
@[simp] theorem ret0_normal : ret0 P rs res .normal ⟨fr, H⟩ = (retOks P ⟨fr, H⟩ rs ∧ wkV H [] [] [] (retV P ⟨fr, H⟩ rs) res) := rfl
@[simp] theorem ret0_ret : ret0 P rs res .ret ⟨fr, H⟩ = (retOks P ⟨fr, H⟩ rs ∧ wkV H [] [] [] (retV P ⟨fr, H⟩ rs) res) := rfl
@[simp] theorem retN_normal {ρ φ : List Nat} : retN ρ φ P rs res Hout .normal ⟨fr, H⟩ = (retOks P ⟨fr, H⟩ rs ∧ Wk ρ φ ⟨[(0, retV P ⟨fr, H⟩ rs)], H⟩ ⟨[(0, res)], Hout⟩) := rfl
@[simp] theorem retN_ret {ρ φ : List Nat} : retN ρ φ P rs res Hout .ret ⟨fr, H⟩ = (retOks P ⟨fr, H⟩ rs ∧ Wk ρ φ ⟨[(0, retV P ⟨fr, H⟩ rs)], H⟩ ⟨[(0, res)], Hout⟩) := rfl
@[simp] theorem Wk_eq {ρ φ : List Nat} {fr fr' : Fr} {H H' : Heap} : Wk ρ φ ⟨fr, H⟩ ⟨fr', H'⟩ = (nodupB (ρ ++ φ) = true ∧ wkF H ρ φ H' fr fr' ∧ wkH H ρ φ H' ρ H') := rfl
end eqs
attribute [simp] argFr retV1 retOk1 retOks retV wkL wkT wkF wkH nodupB

theorem w64 {n : Int} (h1 : -9223372036854775808 ≤ n) (h2 : n ≤ 9223372036854775807) : IntKind.i64.wrap n = n := by
  rw [IntKind.wrap_i64]
  omega

section wkeqs
variable {H H' : Heap} {ρ φ : List Nat} {p q : PV}
@[simp] theorem wkA_top : wkA H ρ φ H' p .top = True := by cases p <;> rfl
@[simp] theorem wkB_top : wkB H ρ φ H' p .top = True := by cases p <;> rfl
@[simp] theorem wkA_int {k k' : IntKind} {n n' : Int} : wkA H ρ φ H' (.int k n) (.int k' n') = (k = k' ∧ n = n') := by simp [wkA, noOwnA]
@[simp] theorem wkA_bool {b b' : Bool} : wkA H ρ φ H' (.bool b) (.bool b') = (b = b') := by simp [wkA, noOwnA]
@[simp] theorem wkA_str {s s' : List UInt8} : wkA H ρ φ H' (.str s) (.str s') = (s = s') := by simp [wkA, noOwnA]
@[simp] theorem wkA_sl {z z' : Nat} {r r' : List (List PV)} : wkA H ρ φ H' (.sl z r) (.sl z' r') = (z = z' ∧ r = r') := by simp [wkA, noOwnA]
@[simp] theorem wkA_raw {v v' : Value} : wkA H ρ φ H' (.raw v) (.raw v') = (v = v') := by simp [wkA, noOwnA]
@[simp] theorem wkA_pe {z z' : Nat} {r r' : List (List PV)} {i i' o o' : Nat} : wkA H ρ φ H' (.pe z r i o) (.pe z' r' i' o') = (z = z' ∧ r = r' ∧ i = i' ∧ o = o') := by simp [wkA, noOwnA]
@[simp] theorem wkA_nils : wkA H ρ φ H' .nils .nils = True := by simp [wkA, noOwnA]
@[simp] theorem wkB_int {k : IntKind} {n : Int} : wkB H ρ φ H' (.int k n) q = wkA H ρ φ H' (.int k n) q := by cases q <;> rfl
@[simp] theorem wkV_int {k : IntKind} {n : Int} : wkV H ρ φ H' (.int k n) q = wkA H ρ φ H' (.int k n) q := by cases q <;> rfl
@[simp] theorem wkB_bool {b : Bool} : wkB H ρ φ H' (.bool b) q = wkA H ρ φ H' (.bool b) q := by cases q <;> rfl
@[simp] theorem wkV_bool {b : Bool} : wkV H ρ φ H' (.bool b) q = wkA H ρ φ H' (.bool b) q := by cases q <;> rfl
@[simp] theorem wkB_str {s : List UInt8} : wkB H ρ φ H' (.str s) q = wkA H ρ φ H' (.str s) q := by cases q <;> rfl
@[simp] theorem wkV_str {s : List UInt8} : wkV H ρ φ H' (.str s) q = wkA H ρ φ H' (.str s) q := by cases q <;> rfl
@[simp] theorem wkB_nils  : wkB H ρ φ H' .nils q = wkA H ρ φ H' .nils q := by cases q <;> rfl
@[simp] theorem wkV_nils  : wkV H ρ φ H' .nils q = wkA H ρ φ H' .nils q := by cases q <;> rfl
@[simp] theorem wkB_sl {z : Nat} {r : List (List PV)} : wkB H ρ φ H' (.sl z r) q = wkA H ρ φ H' (.sl z r) q := by cases q <;> rfl
@[simp] theorem wkV_sl {z : Nat} {r : List (List PV)} : wkV H ρ φ H' (.sl z r) q = wkA H ρ φ H' (.sl z r) q := by cases q <;> rfl
@[simp] theorem wkB_pe {z : Nat} {r : List (List PV)} {i o : Nat} : wkB H ρ φ H' (.pe z r i o) q = wkA H ρ φ H' (.pe z r i o) q := by cases q <;> rfl
@[simp] theorem wkV_pe {z : Nat} {r : List (List PV)} {i o : Nat} : wkV H ρ φ H' (.pe z r i o) q = wkA H ρ φ H' (.pe z r i o) q := by cases q <;> rfl
@[simp] theorem wkB_sf {k z : Nat} : wkB H ρ φ H' (.sf k z) q = wkA H ρ φ H' (.sf k z) q := by cases q <;> rfl
@[simp] theorem wkV_sf {k z : Nat} : wkV H ρ φ H' (.sf k z) q = wkA H ρ φ H' (.sf k z) q := by cases q <;> rfl
@[simp] theorem wkB_so {k z l n : Nat} : wkB H ρ φ H' (.so k z l n) q = wkA H ρ φ H' (.so k z l n) q := by cases q <;> rfl
@[simp] theorem wkV_so {k z l n : Nat} : wkV H ρ φ H' (.so k z l n) q = wkA H ρ φ H' (.so k z l n) q := by cases q <;> rfl
@[simp] theorem wkB_pa {k z i o : Nat} : wkB H ρ φ H' (.pa k z i o) q = wkA H ρ φ H' (.pa k z i o) q := by cases q <;> rfl
@[simp] theorem wkV_pa {k z i o : Nat} : wkV H ρ φ H' (.pa k z i o) q = wkA H ρ φ H' (.pa k z i o) q := by cases q <;> rfl
@[simp] theorem wkB_pb {k o : Nat} : wkB H ρ φ H' (.pb k o) q = wkA H ρ φ H' (.pb k o) q := by cases q <;> rfl
@[simp] theorem wkV_pb {k o : Nat} : wkV H ρ φ H' (.pb k o) q = wkA H ρ φ H' (.pb k o) q := by cases q <;> rfl
@[simp] theorem wkB_raw {v : Value} : wkB H ρ φ H' (.raw v) q = wkA H ρ φ H' (.raw v) q := by cases q <;> rfl
@[simp] theorem wkV_raw {v : Value} : wkV H ρ φ H' (.raw v) q = wkA H ρ φ H' (.raw v) q := by cases q <;> rfl
@[simp] theorem wkA_sf {k z k' z' : Nat} : wkA H ρ φ H' (.sf k z) (.sf k' z') = (ρ[k']? = some k ∧ z = z' ∧ isArr H' k' z) := rfl
@[simp] theorem wkA_so {k z l n k' z' l' n' : Nat} : wkA H ρ φ H' (.so k z l n) (.so k' z' l' n') = (ρ[k']? = some k ∧ z = z' ∧ l = l' ∧ n = n' ∧ isArr H' k' z) := rfl
@[simp] theorem wkA_pa {k z l n k' z' l' n' : Nat} : wkA H ρ φ H' (.pa k z l n) (.pa k' z' l' n') = (ρ[k']? = some k ∧ z = z' ∧ l = l' ∧ n = n' ∧ isArr H' k' z) := rfl
@[simp] theorem wkA_pb {k o k' o' : Nat} : wkA H ρ φ H' (.pb k o) (.pb k' o') = (ρ[k']? = some k ∧ o = o' ∧ isBox H' k') := rfl
@[simp] theorem wkA_frz {k z z' : Nat} {rows : List (List PV)} : wkA H ρ φ H' (.sf k z) (.sl z' rows) = (k ∈ φ ∧ H[k]? = some (some (.arr z rows)) ∧ z = z') := rfl
@[simp] theorem wkB_agg {cs ds : List PV} : wkB H ρ φ H' (.agg cs) (.agg ds) = wkL H ρ φ H' cs ds := rfl
@[simp] theorem wkV_agg {cs ds : List PV} : wkV H ρ φ H' (.agg cs) (.agg ds) = wkL H ρ φ H' cs ds := rfl
@[simp] theorem wkV_tup {cs ds : List PV} : wkV H ρ φ H' (.tup cs) (.tup ds) = wkT H ρ φ H' cs ds := rfl
@[simp] theorem wkV_fn {f g : Nat} {cs ds : List PV} : wkV H ρ φ H' (.fn f cs) (.fn g ds) = (f = g ∧ wkL H ρ φ H' cs ds) := rfl
@[simp] theorem wkV_opt {c : Bool} : wkV H ρ φ H' (.opt c p) q = (c = true ∧ wkA H ρ φ H' p q) := rfl
@[simp] theorem wkO_none {x : Option (Option Obj)} : wkO H ρ φ H' x none = True := by unfold wkO; split <;> simp_all
@[simp] theorem wkO_arr {z z' : Nat} {rows rows' : List (List PV)} : wkO H ρ φ H' (some (some (.arr z rows))) (some (.arr z' rows')) = (z = z' ∧ rows = rows') := rfl
@[simp] theorem wkO_box {cs ds : List PV} : wkO H ρ φ H' (some (some (.box cs))) (some (.box ds)) = wkL H ρ φ H' cs ds := rfl
end wkeqs
end Go.Ab
