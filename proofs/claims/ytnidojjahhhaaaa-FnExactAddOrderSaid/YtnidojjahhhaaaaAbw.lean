/- Whole functions: their contracts out of the plain run; the use of a contract in a plain run. No condition. -/
import Derived.Test.YtnidojjahhhaaaaAbv
namespace Go.Ab
variable {P : Program} {A A' : Nat → Prop} {m m' : OMap} {h h' : OFun} {w w' : World} {H : Heap} {fr fr' : Fr} {a : Act}

def argFr : Nat → List PV → Fr
  | _, [] => []
  | i, p :: r => (i, p) :: argFr (i + 1) r

theorem slot_argFr : ∀ {args : List PV} {i t : Nat}, slot (argFr i args) t = if i ≤ t then args.getD (t - i) .top else .top
  | [], i, t => by simp [argFr, slot]
  | p :: r, i, t => by
    simp only [argFr, slot]
    cases e : i == t with
    | true =>
      have : i = t := by simpa using e
      subst this
      simp
    | false =>
      have hne : i ≠ t := by simpa using e
      rw [cond_false, slot_argFr (args := r)]
      by_cases h : i ≤ t
      · rw [if_pos h, if_pos (by omega), show t - i = (t - (i + 1)) + 1 by omega]
        rfl
      · rw [if_neg h, if_neg (by omega)]

/-- What a function hands back. -/
def retV1 (P : Program) (S : St) : ResultVar → PV
  | .tmp t => slot S.fr t
  | .cell x t => loadV S.H (aggT P t) (sizeT P t) (ev S.fr (.tmp x))
def retOk1 (P : Program) (S : St) : ResultVar → Prop
  | .tmp _ => True
  | .cell x t => vok P S.fr S.H (.load t (.tmp x)) ∧ isPtr (ev S.fr (.tmp x))
def retOks (P : Program) (S : St) : List ResultVar → Prop
  | [] => True
  | r :: s => retOk1 P S r ∧ retOks P S s
def retV (P : Program) (S : St) : List ResultVar → PV
  | [r] => retV1 P S r
  | rs => .tup (rs.map (retV1 P S))

def readR (tmps : Array Value) : ResultVar → Sem Value
  | .tmp t => pure (tmps.getD t undef)
  | .cell x t => do loadVar t (← asAddr (tmps.getD x undef))

theorem results_eq (fn : Func) (tmps : Array Value) : results fn tmps = (do
    let vs ← fn.results.mapM (readR tmps)
    pure (if h : vs.size = 1 then vs[0] else .tuple vs)) := by
  unfold results
  congr 1

def resLt (n : Nat) : ResultVar → Bool
  | .tmp t => decide (t < n)
  | .cell x _ => decide (x < n)

theorem ret1_run {n : Nat} (hC : ConcO A m (getO H) w) {S : St} (hS : S.H = H) (hO : Opnd A m (getO H) w (cutF n S.fr) a) {r : ResultVar} (hn : resLt n r = true) (hr : retOk1 P S r) :
    ∃ v, (readR a.tmps r).run P w = .ok v w ∧ RepO A m (getO H) w (retV1 P S r) v := by
  subst hS
  cases r with
  | tmp t =>
    have := hO.rep t
    rw [slot_cut, if_pos (by simpa [resLt] using hn)] at this
    exact ⟨_, rfl, this⟩
  | cell x t =>
    obtain ⟨⟨h1, h2, h3, h4⟩, hp⟩ := hr
    have hg : Agree S.fr (cutF n S.fr) [.tmp x] := agree_cut (by simpa [opdLt, resLt] using hn)
    have hx := hO.ev (x := .tmp x) (by rw [hg.ok (by simp)]; exact h1)
    rw [hg.ev (by simp)] at hx
    obtain ⟨b, o, hv⟩ := hx.ptr hp
    obtain ⟨u, hu, hrep⟩ := loadV_rep (P := P) hC getO_sub h2 h3 hx h4
    have hv' : a.tmps.getD x undef = .pointer (some ⟨b, o, none⟩) := hv
    refine ⟨u, ?_, hrep⟩
    rw [hv] at hu
    simp only [Instr.loadAt, Instr.sureAddr, Sem.run_bind, Sem.run_pure, Result.andThen_ok] at hu
    simp only [readR, hv', asAddr, Sem.run_bind, Sem.run_pure, Result.andThen_ok, hu]

theorem ret_run {n : Nat} (hC : ConcO A m (getO H) w) {S : St} (hS : S.H = H) (hO : Opnd A m (getO H) w (cutF n S.fr) a) {fn : Func} {rs : List ResultVar} (hrs : fn.results.toList = rs) (hn : rs.all (resLt n) = true) (hr : retOks P S rs) :
    ∃ v, (results fn a.tmps).run P w = .ok v w ∧ RepO A m (getO H) w (retV P S rs) v := by
  have key : ∀ (rs : List ResultVar), rs.all (resLt n) = true → retOks P S rs → ∃ vs : List Value, vs.length = rs.length ∧ (rs.mapM (readR a.tmps)).run P w = .ok vs w ∧ ∀ i c, (rs.map (retV1 P S))[i]? = some c → RepO A m (getO H) w c (vs.toArray.getD i undef) := by
    intro rs
    induction rs with
    | nil => exact fun _ _ => ⟨[], rfl, rfl, by simp⟩
    | cons r s ih =>
      intro hn hr
      simp only [List.all_cons, Bool.and_eq_true] at hn
      obtain ⟨v, hv, hrep⟩ := ret1_run hC hS hO hn.1 hr.1
      obtain ⟨vs, hl, hvs, hreps⟩ := ih hn.2 hr.2
      refine ⟨v :: vs, by simp [hl], ?_, fun i c hc => ?_⟩
      · simp only [List.mapM_cons, Sem.run_bind, hv, Result.andThen_ok, hvs, Sem.run_pure]
      · cases i with
        | zero => cases hc; simpa using hrep
        | succ i =>
          have := hreps i c (by simpa using hc)
          simpa [Array.getD_eq_getD_getElem?] using this
  obtain ⟨vs, hl, hvs, hreps⟩ := key rs hn hr
  have hm : (fn.results.mapM (readR a.tmps)).run P w = .ok vs.toArray w := by
    rw [Array.mapM_eq_mapM_toList, hrs]
    simp [hvs]
  refine ⟨if h : vs.toArray.size = 1 then vs.toArray[0] else .tuple vs.toArray, ?_, ?_⟩
  · rw [results_eq, Sem.run_bind, hm]
    rfl
  · by_cases h1 : vs.toArray.size = 1
    · rw [dif_pos h1]
      have h1' : vs.length = 1 := by simpa using h1
      obtain ⟨r, rfl⟩ : ∃ r, rs = [r] := List.length_eq_one_iff.1 (by omega)
      have := hreps 0 _ rfl
      obtain ⟨v, rfl⟩ := List.length_eq_one_iff.1 h1'
      simpa [retV] using this
    · rw [dif_neg h1]
      have h1' : rs.length ≠ 1 := by
        intro e
        exact h1 (by simp [hl, e])
      have e : retV P S rs = .tup (rs.map (retV1 P S)) := by
        unfold retV
        split
        · simp at h1'
        · rfl
      rw [e]
      exact .tup _ _ (by simp [hl]) hreps

/-- What is asked of a function's text. -/
def funOk (fn : Func) (c : Code) : Bool := codeOk fn.ntmps c && fn.results.toList.all (resLt fn.ntmps)

/-- The own objects that are kept in mind: slots from k on. -/
def ghF : Nat → List Nat → Fr
  | _, [] => []
  | k, i :: r => (k, .own i) :: ghF (k + 1) r
/-- The same, at the end of a run. -/
def ghK (fr : Fr) : Nat → Nat → List Nat → Fr
  | _, _, [] => []
  | n, k, _ :: r => (k, slot fr n) :: ghK fr (n + 1) (k + 1) r
/-- The kept objects have the shape that they had. -/
def shK (Hin Hout : Heap) : List Nat → Prop
  | [] => True
  | i :: r => (∃ o o', Hin[i]? = some (some o) ∧ Hout[i]? = some (some o') ∧ SameShape o o') ∧ shK Hin Hout r

/-- The end of a function. -/
def RetOkM (P : Program) (n : Nat) (rs : List ResultVar) (kp : List Nat) (res : PV) (Hout : Heap) : Exit → St → Prop
  | .normal, S | .ret, S => retOks P S rs ∧ Weak ⟨(0, retV P S rs) :: ghK S.fr n 1 kp, S.H⟩ ⟨(0, res) :: ghF 1 kp, Hout⟩
  | _, _ => False

/-- What a kept object is remembered by. -/
def ghV (m : OMap) (k : Nat) : Value := match m k with
  | some (ob, C) => ownV ob C
  | none => undef

theorem getO_get {k : Nat} {o : Obj} (hk : getO H k = some o) : H[k]? = some (some o) := by
  unfold getO at hk
  cases e : H[k]? with
  | none => rw [e] at hk; cases hk
  | some y => rw [e] at hk; simp only [Option.getD_some] at hk; rw [hk]

theorem ghF_slot : ∀ {kp : List Nat} {k t : Nat}, slot (ghF k kp) t = if k ≤ t ∧ t < k + kp.length then .own (kp.getD (t - k) 0) else .top
  | [], k, t => by
    rw [if_neg (by simp only [List.length_nil]; omega)]
    rfl
  | i :: r, k, t => by
    simp only [ghF, slot, ghF_slot (kp := r)]
    by_cases h : k = t
    · subst h; simp
    · have : (k == t) = false := by simpa using h
      rw [this, cond_false]
      by_cases h2 : k ≤ t ∧ t < k + (i :: r).length
      · rw [if_pos h2, if_pos (by simp only [List.length_cons] at h2; omega), show t - k = (t - (k + 1)) + 1 by omega]
        rfl
      · rw [if_neg h2, if_neg (by simp only [List.length_cons] at h2; omega)]

theorem ghK_slot {fr : Fr} : ∀ {kp : List Nat} {n k t : Nat}, slot (ghK fr n k kp) t = if k ≤ t ∧ t < k + kp.length then slot fr (n + (t - k)) else .top
  | [], n, k, t => by
    rw [if_neg (by simp only [List.length_nil]; omega)]
    rfl
  | i :: r, n, k, t => by
    simp only [ghK, slot, ghK_slot (kp := r)]
    by_cases h : k = t
    · subst h; simp
    · have : (k == t) = false := by simpa using h
      rw [this, cond_false]
      by_cases h2 : k ≤ t ∧ t < k + (i :: r).length
      · rw [if_pos h2, if_pos (by simp only [List.length_cons] at h2; omega), show n + 1 + (t - (k + 1)) = n + (t - k) by omega]
      · rw [if_neg h2, if_neg (by simp only [List.length_cons] at h2; omega)]

theorem shK_mem {Hin Hout : Heap} : ∀ {kp : List Nat}, shK Hin Hout kp → ∀ i ∈ kp, ∃ o o', getO Hin i = some o ∧ getO Hout i = some o' ∧ SameShape o o'
  | [], _, i, hi => by simp at hi
  | j :: r, h, i, hi => by
    rcases List.mem_cons.1 hi with rfl | hi
    · obtain ⟨o, o', h1, h2, h3⟩ := h.1
      exact ⟨o, o', getO_of h1, getO_of h2, h3⟩
    · exact shK_mem h.2 i hi

theorem RepO.ownI {A : Nat → Prop} {m : OMap} {h : OFun} {w : World} {k : Nat} {ob : Option Nat} {C : Nat} (r : RepO A m h w (.own k) (ownV ob C)) : m k = some (ob, C) := by
  generalize hv : ownV ob C = v at r
  cases r with
  | imm hi => cases hi
  | own _ C' ob' o hk hm =>
    rw [hm]
    unfold ownV at hv
    cases ob <;> cases ob' <;> simp_all

/-- The end of a function. -/
def RetOk (P : Program) (rs : List ResultVar) (res : PV) (Hout : Heap) : Exit → St → Prop
  | .normal, S | .ret, S => retOks P S rs ∧ Weak ⟨[(0, retV P S rs)], S.H⟩ ⟨[(0, res)], Hout⟩
  | _, _ => False

/-- From the run of the body, the kept objects remembered, to what lies behind the call. -/
theorem body_run (hm : P.follows .mixedOrders = true) {f : FuncId} {fn : Func} {c : Code} {args : List PV} {Hin : Heap} {kp : List Nat} {res : PV} {Hout : Heap} {Q : Exit → St → Prop} (hf : P.funcs[f]? = some fn) (hname : (fn.name == "runtime.NumGoroutine") = false)
    (hb : fn.body = some c) (hok : funOk fn c = true) (hn0 : Nat.ble args.length fn.ntmps = true) (hsh : shK Hin Hout kp) (hQ : ∀ e S, Q e S → RetOkM P fn.ntmps fn.results.toList kp res Hout e S) (hawp : AWP P fn.ntmps c ⟨argFr 0 args ++ ghF fn.ntmps kp, Hin⟩ Q) : MFn P f args Hin kp res Hout := by
  have hn := Nat.le_of_ble_eq_true hn0
  simp only [funOk, Bool.and_eq_true] at hok
  intro A m w vs hA hC hvs hargs
  have hname' : fn.name ≠ "runtime.NumGoroutine" := by simpa using hname
  have hcall : (callFunc f vs).run P w = .ok (.enter f vs) w := by simp [callFunc, hf, hname', hb]
  unfold CallS
  rw [hcall]
  refine ⟨rfl, calls_of_wp hf hb ?_⟩
  have slot_app : ∀ (x y : Fr) (t : Nat), slot (x ++ y) t = .top ∨ slot (x ++ y) t = slot x t ∨ (slot (x ++ y) t = slot y t ∧ ∀ q ∈ x, q.1 ≠ t) := by
    intro x y t
    induction x with
    | nil => exact .inr (.inr ⟨rfl, by simp⟩)
    | cons p r ih =>
      obtain ⟨i, p⟩ := p
      simp only [List.cons_append, slot]
      cases e : i == t with
      | true => exact .inr (.inl rfl)
      | false =>
        have hne : i ≠ t := by simpa using e
        simp only [cond_false]
        rcases ih with h | h | ⟨h, h'⟩
        · exact .inl h
        · exact .inr (.inl h)
        · refine .inr (.inr ⟨h, fun q hq => ?_⟩)
          rcases List.mem_cons.1 hq with rfl | hq
          · exact hne
          · exact h' q hq
  let x : Ctx := ⟨w, A, OwnB m (getO Hin), fun t => ghV m (kp.getD (t - fn.ntmps) 0)⟩
  have hI : Inv x fn.ntmps ⟨argFr 0 args ++ ghF fn.ntmps kp, Hin⟩ { tmps := vs ++ Array.replicate (fn.ntmps - vs.size) undef, defers := [] } w A m := by
    refine ⟨.refl _ _, fun b hb => .inl hb, hA, hC, fun b hb => .inl hb, fun t => ?_, by simp; omega, rfl⟩
    have hargt : RepO A m (getO Hin) w (slot (argFr 0 args) t) (look x fn.ntmps { tmps := vs ++ Array.replicate (fn.ntmps - vs.size) undef, defers := [] } t) := by
      rw [slot_argFr, if_pos (Nat.zero_le _), Nat.sub_zero]
      cases ht : args[t]? with
      | none =>
        rw [List.getD_eq_getElem?_getD, ht]
        exact .topI _
      | some p =>
        have hlt : t < vs.size := by rw [hvs]; exact (List.getElem?_eq_some_iff.1 ht).1
        have := hargs t p ht
        rw [List.getD_eq_getElem?_getD, ht, look_lt (by omega)]
        simpa [Array.getD_eq_getD_getElem?, Array.getElem?_append, hlt] using this
    rcases slot_app (argFr 0 args) (ghF fn.ntmps kp) t with h | h | ⟨h, _⟩
    · rw [h]; exact .topI _
    · rw [h]; exact hargt
    · rw [h, ghF_slot]
      split
      · rename_i ht
        have hlook : look x fn.ntmps { tmps := vs ++ Array.replicate (fn.ntmps - vs.size) undef, defers := [] } t = ghV m (kp.getD (t - fn.ntmps) 0) := by
          unfold look
          rw [if_neg (by omega)]
        rw [hlook]
        have hmem : kp.getD (t - fn.ntmps) 0 ∈ kp := by
          rw [List.getD_eq_getElem?_getD, List.getElem?_eq_getElem (by omega)]
          exact List.getElem_mem _
        obtain ⟨o, _, h1, _, _⟩ := shK_mem hsh _ hmem
        obtain ⟨ob, C, hm', _⟩ := hC.at_ _ o h1
        unfold ghV
        rw [hm']
        exact .own _ C ob o h1 hm'
      · exact .topI _
  refine wp_mono (hawp _ _ _ _ _ hI) fun e a' w' ⟨S', A', m', hq, hI'⟩ => ?_
  have fin : retOks P S' fn.results.toList ∧ Weak ⟨(0, retV P S' fn.results.toList) :: ghK S'.fr fn.ntmps 1 kp, S'.H⟩ ⟨(0, res) :: ghF 1 kp, Hout⟩ → a'.defers = [] ∧ ∃ v, (results fn a'.tmps).run P w' = .ok v w' ∧
      ∃ v_1 A'_1 m'_1, Ending.returned v = Ending.returned v_1 ∧ Came A m (getO Hin) w res (getO Hout) v_1 w' A'_1 m'_1 ∧ ∀ k, k ∈ kp → m'_1 k = m k ∧ ∃ o o', getO Hin k = some o ∧ getO Hout k = some o' ∧ SameShape o o' := fun ⟨hr, hw⟩ => by
    obtain ⟨v, hv, hrep⟩ := ret_run (P := P) hI'.conc rfl hI'.opnd rfl hok.2 hr
    refine ⟨hI'.df, v, hv, ?_⟩
    let y : Ctx := ⟨w, A, OwnB m (getO Hin), fun t => ghV m (kp.getD (t - 1) 0)⟩
    have hI1 : Inv y 1 ⟨(0, retV P S' fn.results.toList) :: ghK S'.fr fn.ntmps 1 kp, S'.H⟩ { tmps := #[v], defers := [] } w' A' m' := by
      refine ⟨hI'.moved, hI'.sub, hI'.aok, hI'.conc, hI'.own, fun t => ?_, rfl, rfl⟩
      cases t with
      | zero => exact hrep
      | succ t =>
        simp only [slot]
        have e : (0 == t + 1) = false := by simp
        rw [e, cond_false, ghK_slot]
        split
        · rename_i ht
          have h1 := hI'.fr (fn.ntmps + (t + 1 - 1))
          have h2 : look x fn.ntmps a' (fn.ntmps + (t + 1 - 1)) = look y 1 { tmps := #[v], defers := [] } (t + 1) := by
            unfold look
            rw [if_neg (by omega), if_neg (by omega)]
            show ghV m (kp.getD (fn.ntmps + (t + 1 - 1) - fn.ntmps) 0) = ghV m (kp.getD (t + 1 - 1) 0)
            congr 2
            omega
          rw [← h2]
          exact h1
        · exact .topI _
    obtain ⟨A'', m'', hI2⟩ := hw _ _ _ _ _ _ hI1
    refine ⟨v, A'', m'', rfl, ⟨hI2.moved, hI2.sub, hI2.aok, hI2.conc, hI2.own, hI2.fr 0⟩, fun k hk => ⟨?_, shK_mem hsh k hk⟩⟩
    obtain ⟨i, hi⟩ := List.mem_iff_getElem?.1 hk
    have hil : i < kp.length := (List.getElem?_eq_some_iff.1 hi).1
    have h3 := hI2.fr (i + 1)
    simp only [slot] at h3
    have e : (0 == i + 1) = false := by simp
    rw [e, cond_false, ghF_slot, if_pos (by omega)] at h3
    have hkk : kp.getD (i + 1 - 1) 0 = k := by
      rw [Nat.add_sub_cancel, List.getD_eq_getElem?_getD, hi]
      rfl
    have hl : look y 1 { tmps := #[v], defers := [] } (i + 1) = ghV m k := by
      unfold look
      rw [if_neg (by omega)]
      show ghV m (kp.getD (i + 1 - 1) 0) = _
      rw [hkk]
    rw [hl, hkk] at h3
    obtain ⟨o, _, h1, _, _⟩ := shK_mem hsh k hk
    obtain ⟨ob, C, hm', _⟩ := hC.at_ _ o h1
    unfold ghV at h3
    rw [hm'] at h3
    rw [h3.ownI, hm']
  have hq' := hQ e S' hq
  cases e with
  | normal => exact fin hq'
  | ret => exact fin hq'
  | _ => exact hq'.elim

theorem MFn.hfn {f : FuncId} {args : List PV} {Hin : Heap} {kp : List Nat} {res : PV} {Hout : Heap} (h : MFn P f args Hin kp res Hout) : HFn P f args Hin res Hout := fun A m w vs hA hC hvs hargs => by
  refine (h A m w vs hA hC hvs hargs).mono fun e w' ⟨v, A', m', h1, h2, _⟩ => ⟨v, A', m', h1, h2⟩

theorem hfn_intro (hm : P.follows .mixedOrders = true) {f : FuncId} {fn : Func} {c : Code} {args : List PV} {Hin : Heap} {res : PV} {Hout : Heap} {Q : Exit → St → Prop} (hf : P.funcs[f]? = some fn) (hname : (fn.name == "runtime.NumGoroutine") = false)
    (hb : fn.body = some c) (hok : funOk fn c = true) (hn0 : Nat.ble args.length fn.ntmps = true) (hQ : ∀ e S, Q e S → RetOk P fn.results.toList res Hout e S) (hawp : awp P fn.ntmps c ⟨argFr 0 args, Hin⟩ Q) : HFn P f args Hin res Hout := by
  have hok' := hok
  simp only [funOk, Bool.and_eq_true] at hok'
  refine MFn.hfn (kp := []) (body_run hm hf hname hb hok hn0 trivial hQ (awp_sound hm c _ Q hok'.1 ?_))
  simpa [ghF] using hawp

theorem mfn_intro (kp : List Nat) (hm : P.follows .mixedOrders = true) {f : FuncId} {fn : Func} {c : Code} {args : List PV} {Hin : Heap} {res : PV} {Hout : Heap} {Q : Exit → St → Prop} (hf : P.funcs[f]? = some fn) (hname : (fn.name == "runtime.NumGoroutine") = false)
    (hb : fn.body = some c) (hok : funOk fn c = true) (hn0 : Nat.ble args.length fn.ntmps = true) (hQ : ∀ e S, Q e S → RetOkM P fn.ntmps fn.results.toList kp res Hout e S) (hsh : shK Hin Hout kp) (hawp : awp P fn.ntmps c ⟨argFr 0 args ++ ghF fn.ntmps kp, Hin⟩ Q) : MFn P f args Hin kp res Hout :=
  have hok' : codeOk fn.ntmps c = true := by simp only [funOk, Bool.and_eq_true] at hok; exact hok.1
  body_run hm hf hname hb hok hn0 hsh hQ (awp_sound hm c _ Q hok' hawp)

/-- The end of a function that turns own objects, by renaming. -/
def retM (ρ φ : List Nat) (P : Program) (n : Nat) (rs : List ResultVar) (kp : List Nat) (res : PV) (Hout : Heap) : Exit → St → Prop
  | .normal, S | .ret, S => retOks P S rs ∧ Wk ρ φ ⟨(0, retV P S rs) :: ghK S.fr n 1 kp, S.H⟩ ⟨(0, res) :: ghF 1 kp, Hout⟩
  | _, _ => False

theorem retM_ok {ρ φ : List Nat} {n : Nat} {rs : List ResultVar} {kp : List Nat} {res : PV} {Hout : Heap} (e : Exit) (S : St) (h : retM ρ φ P n rs kp res Hout e S) : RetOkM P n rs kp res Hout e S := by
  cases e with
  | normal => exact ⟨h.1, h.2.weak⟩
  | ret => exact ⟨h.1, h.2.weak⟩
  | _ => exact h.elim

/-- The end of a function that hands back nothing own. -/
def ret0 (P : Program) (rs : List ResultVar) (res : PV) : Exit → St → Prop
  | .normal, S | .ret, S => retOks P S rs ∧ wkV S.H [] [] [] (retV P S rs) res
  | _, _ => False

theorem ret0_ok {rs : List ResultVar} {res : PV} (e : Exit) (S : St) (h : ret0 P rs res e S) : RetOk P rs res [] e S := by
  cases e with
  | normal => exact ⟨h.1, Wk.weak (ρ := []) (φ := []) ⟨rfl, ⟨h.2, trivial⟩, trivial⟩⟩
  | ret => exact ⟨h.1, Wk.weak (ρ := []) (φ := []) ⟨rfl, ⟨h.2, trivial⟩, trivial⟩⟩
  | _ => exact h.elim

/-- The end of a function, by renaming. -/
def retN (ρ φ : List Nat) (P : Program) (rs : List ResultVar) (res : PV) (Hout : Heap) : Exit → St → Prop
  | .normal, S | .ret, S => retOks P S rs ∧ Wk ρ φ ⟨[(0, retV P S rs)], S.H⟩ ⟨[(0, res)], Hout⟩
  | _, _ => False

theorem retN_ok {ρ φ : List Nat} {rs : List ResultVar} {res : PV} {Hout : Heap} (e : Exit) (S : St) (h : retN ρ φ P rs res Hout e S) : RetOk P rs res Hout e S := by
  cases e with
  | normal => exact ⟨h.1, h.2.weak⟩
  | ret => exact ⟨h.1, h.2.weak⟩
  | _ => exact h.elim

/-! ### The use of a contract -/
section use
variable {q own c : Bool} {f : FuncId} {args args' : List PV} {d : Option Nat} {S : St} {K : St → Prop} {res : PV} {Hout : Heap}

theorem CallZ.use (hf : HFn P f args' [] res Hout) (h1 : (own || (flatP res)) = true) (h2 : own = true ∨ flatO Hout) (h3 : whole Hout.length res = true) (h4 : arrO Hout = true) (hK : K ⟨put S.fr d (shift S.H.length res), S.H ++ Hout⟩) :
    CallZ P q f args' true own args d S K := by
  refine .inl ⟨rfl, res, Hout, hf, ?_, h3, h4, hK⟩
  simp only [Bool.or_eq_true] at h1
  rcases h1 with h1 | h1
  · exact .inl h1
  · exact h2.imp id fun h => ⟨h1, h⟩

/-- Nothing own is handed back. -/
theorem CallZ.use0 (hf : HFn P f args' [] res []) (h1 : (own || flatP res) = true) (h3 : whole 0 res = true) (hK : K ⟨put S.fr d res, S.H⟩) : CallZ P q f args' true own args d S K := by
  refine CallZ.use hf h1 (.inr trivial) h3 rfl ?_
  rw [shift_id h3, List.append_nil]
  exact hK

theorem CallY.use {ok : Bool} (hf : c = true → ok = true ∧ HFn P f args' [] res []) (h1 : (own || flatP res) = true) (h3 : whole 0 res = true) (hK : K ⟨put S.fr d (.opt c res), S.H⟩) : CallY P f args' ok own c d S K :=
  ⟨res, hf, by simpa using h1, h3, hK⟩
end use

section eqs
variable {rs : List ResultVar} {res : PV} {Hout : Heap}
@[simp] theorem ret0_normal : ret0 P rs res .normal ⟨fr, H⟩ = (retOks P ⟨fr, H⟩ rs ∧ wkV H [] [] [] (retV P ⟨fr, H⟩ rs) res) := rfl
@[simp] theorem ret0_ret : ret0 P rs res .ret ⟨fr, H⟩ = (retOks P ⟨fr, H⟩ rs ∧ wkV H [] [] [] (retV P ⟨fr, H⟩ rs) res) := rfl
@[simp] theorem retN_normal {ρ φ : List Nat} : retN ρ φ P rs res Hout .normal ⟨fr, H⟩ = (retOks P ⟨fr, H⟩ rs ∧ Wk ρ φ ⟨[(0, retV P ⟨fr, H⟩ rs)], H⟩ ⟨[(0, res)], Hout⟩) := rfl
@[simp] theorem retN_ret {ρ φ : List Nat} : retN ρ φ P rs res Hout .ret ⟨fr, H⟩ = (retOks P ⟨fr, H⟩ rs ∧ Wk ρ φ ⟨[(0, retV P ⟨fr, H⟩ rs)], H⟩ ⟨[(0, res)], Hout⟩) := rfl
@[simp] theorem retM_normal {ρ φ : List Nat} {n : Nat} {kp : List Nat} : retM ρ φ P n rs kp res Hout .normal ⟨fr, H⟩ = (retOks P ⟨fr, H⟩ rs ∧ Wk ρ φ ⟨(0, retV P ⟨fr, H⟩ rs) :: ghK fr n 1 kp, H⟩ ⟨(0, res) :: ghF 1 kp, Hout⟩) := rfl
@[simp] theorem retM_ret {ρ φ : List Nat} {n : Nat} {kp : List Nat} : retM ρ φ P n rs kp res Hout .ret ⟨fr, H⟩ = (retOks P ⟨fr, H⟩ rs ∧ Wk ρ φ ⟨(0, retV P ⟨fr, H⟩ rs) :: ghK fr n 1 kp, H⟩ ⟨(0, res) :: ghF 1 kp, Hout⟩) := rfl
@[simp] theorem Wk_eq {ρ φ : List Nat} {fr fr' : Fr} {H H' : Heap} : Wk ρ φ ⟨fr, H⟩ ⟨fr', H'⟩ = (nodupB (ρ ++ φ) = true ∧ wkF H ρ φ H' fr fr' ∧ wkH H ρ φ H' ρ H') := rfl
end eqs
attribute [simp] ghF ghK shK SameShape argFr retV1 retOk1 retOks retV wkL wkT wkF wkH nodupB

theorem w64 {n : Int} (h1 : -9223372036854775808 ≤ n) (h2 : n ≤ 9223372036854775807) : IntKind.i64.wrap n = n := by
  rw [IntKind.wrap_i64]
  omega

section wkeqs
variable {H H' : Heap} {ρ φ : List Nat} {p q : PV}
@[simp] theorem wkA_top : wkA H ρ φ H' p .top = True := by cases p <;> rfl
@[simp] theorem wkB_top : wkB H ρ φ H' p .top = True := by cases p <;> rfl
@[simp] theorem wkA_int {k k' : IntKind} {n n' : Int} : wkA H ρ φ H' (.int k n) (.int k' n') = (k = k' ∧ n = n') := by simp [wkA, noOwnA]
@[simp] theorem wkA_bool {b b' : Bool} : wkA H ρ φ H' (.bool b) (.bool b') = (b = b') := by simp [wkA, noOwnA]
@[simp] theorem wkA_str {s s' : List UInt8} : wkA H ρ φ H' (.str s) (.str s') = (s = s') := by simp [wkA, noOwnA]
@[simp] theorem wkA_sl {z z' : Nat} {r r' : List (List PV)} : wkA H ρ φ H' (.sl z r) (.sl z' r') = (z = z' ∧ r = r') := by simp [wkA, noOwnA]
@[simp] theorem wkA_raw {v v' : Value} : wkA H ρ φ H' (.raw v) (.raw v') = (v = v') := by simp [wkA, noOwnA]
@[simp] theorem wkA_pe {z z' : Nat} {r r' : List (List PV)} {i i' o o' : Nat} : wkA H ρ φ H' (.pe z r i o) (.pe z' r' i' o') = (z = z' ∧ r = r' ∧ i = i' ∧ o = o') := by simp [wkA, noOwnA]
@[simp] theorem wkA_nils : wkA H ρ φ H' .nils .nils = True := by simp [wkA, noOwnA]
@[simp] theorem wkB_int {k : IntKind} {n : Int} : wkB H ρ φ H' (.int k n) q = wkA H ρ φ H' (.int k n) q := by cases q <;> rfl
@[simp] theorem wkV_int {k : IntKind} {n : Int} : wkV H ρ φ H' (.int k n) q = wkA H ρ φ H' (.int k n) q := by cases q <;> rfl
@[simp] theorem wkB_bool {b : Bool} : wkB H ρ φ H' (.bool b) q = wkA H ρ φ H' (.bool b) q := by cases q <;> rfl
@[simp] theorem wkV_bool {b : Bool} : wkV H ρ φ H' (.bool b) q = wkA H ρ φ H' (.bool b) q := by cases q <;> rfl
@[simp] theorem wkB_str {s : List UInt8} : wkB H ρ φ H' (.str s) q = wkA H ρ φ H' (.str s) q := by cases q <;> rfl
@[simp] theorem wkV_str {s : List UInt8} : wkV H ρ φ H' (.str s) q = wkA H ρ φ H' (.str s) q := by cases q <;> rfl
@[simp] theorem wkB_nils  : wkB H ρ φ H' .nils q = wkA H ρ φ H' .nils q := by cases q <;> rfl
@[simp] theorem wkV_nils  : wkV H ρ φ H' .nils q = wkA H ρ φ H' .nils q := by cases q <;> rfl
@[simp] theorem wkB_sl {z : Nat} {r : List (List PV)} : wkB H ρ φ H' (.sl z r) q = wkA H ρ φ H' (.sl z r) q := by cases q <;> rfl
@[simp] theorem wkV_sl {z : Nat} {r : List (List PV)} : wkV H ρ φ H' (.sl z r) q = wkA H ρ φ H' (.sl z r) q := by cases q <;> rfl
@[simp] theorem wkB_pe {z : Nat} {r : List (List PV)} {i o : Nat} : wkB H ρ φ H' (.pe z r i o) q = wkA H ρ φ H' (.pe z r i o) q := by cases q <;> rfl
@[simp] theorem wkV_pe {z : Nat} {r : List (List PV)} {i o : Nat} : wkV H ρ φ H' (.pe z r i o) q = wkA H ρ φ H' (.pe z r i o) q := by cases q <;> rfl
@[simp] theorem wkB_sf {k z : Nat} : wkB H ρ φ H' (.sf k z) q = wkA H ρ φ H' (.sf k z) q := by cases q <;> rfl
@[simp] theorem wkV_sf {k z : Nat} : wkV H ρ φ H' (.sf k z) q = wkA H ρ φ H' (.sf k z) q := by cases q <;> rfl
@[simp] theorem wkB_so {k z l n : Nat} : wkB H ρ φ H' (.so k z l n) q = wkA H ρ φ H' (.so k z l n) q := by cases q <;> rfl
@[simp] theorem wkV_so {k z l n : Nat} : wkV H ρ φ H' (.so k z l n) q = wkA H ρ φ H' (.so k z l n) q := by cases q <;> rfl
@[simp] theorem wkB_pa {k z i o : Nat} : wkB H ρ φ H' (.pa k z i o) q = wkA H ρ φ H' (.pa k z i o) q := by cases q <;> rfl
@[simp] theorem wkV_pa {k z i o : Nat} : wkV H ρ φ H' (.pa k z i o) q = wkA H ρ φ H' (.pa k z i o) q := by cases q <;> rfl
@[simp] theorem wkB_pb {k o : Nat} : wkB H ρ φ H' (.pb k o) q = wkA H ρ φ H' (.pb k o) q := by cases q <;> rfl
@[simp] theorem wkV_pb {k o : Nat} : wkV H ρ φ H' (.pb k o) q = wkA H ρ φ H' (.pb k o) q := by cases q <;> rfl
@[simp] theorem wkB_own {k : Nat} : wkB H ρ φ H' (.own k) q = wkA H ρ φ H' (.own k) q := by cases q <;> rfl
@[simp] theorem wkV_own {k : Nat} : wkV H ρ φ H' (.own k) q = wkA H ρ φ H' (.own k) q := by cases q <;> rfl
@[simp] theorem wkB_cp {k C : Nat} : wkB H ρ φ H' (.cp k C) q = wkA H ρ φ H' (.cp k C) q := by cases q <;> rfl
@[simp] theorem wkV_cp {k C : Nat} : wkV H ρ φ H' (.cp k C) q = wkA H ρ φ H' (.cp k C) q := by cases q <;> rfl
@[simp] theorem wkA_cp {k k' C C' : Nat} : wkA H ρ φ H' (.cp k C) (.cp k' C') = (ρ[k']? = some k ∧ C = C' ∧ ∃ o, H'[k']? = some (some o)) := rfl
@[simp] theorem wkA_own {k k' : Nat} : wkA H ρ φ H' (.own k) (.own k') = (ρ[k']? = some k ∧ ∃ o, H'[k']? = some (some o)) := rfl
@[simp] theorem wkB_raw {v : Value} : wkB H ρ φ H' (.raw v) q = wkA H ρ φ H' (.raw v) q := by cases q <;> rfl
@[simp] theorem wkV_raw {v : Value} : wkV H ρ φ H' (.raw v) q = wkA H ρ φ H' (.raw v) q := by cases q <;> rfl
@[simp] theorem wkA_sf {k z k' z' : Nat} : wkA H ρ φ H' (.sf k z) (.sf k' z') = (ρ[k']? = some k ∧ z = z' ∧ isArr H' k' z) := rfl
@[simp] theorem wkA_so {k z l n k' z' l' n' : Nat} : wkA H ρ φ H' (.so k z l n) (.so k' z' l' n') = (ρ[k']? = some k ∧ z = z' ∧ l = l' ∧ n = n' ∧ isArr H' k' z) := rfl
@[simp] theorem wkA_pa {k z l n k' z' l' n' : Nat} : wkA H ρ φ H' (.pa k z l n) (.pa k' z' l' n') = (ρ[k']? = some k ∧ z = z' ∧ l = l' ∧ n = n' ∧ isArr H' k' z) := rfl
@[simp] theorem wkA_pb {k o k' o' : Nat} : wkA H ρ φ H' (.pb k o) (.pb k' o') = (ρ[k']? = some k ∧ o = o' ∧ isBox H' k') := rfl
@[simp] theorem wkA_frz {k z z' : Nat} {rows : List (List PV)} : wkA H ρ φ H' (.sf k z) (.sl z' rows) = (k ∈ φ ∧ H[k]? = some (some (.arr z rows)) ∧ z = z') := rfl
@[simp] theorem wkB_agg {cs ds : List PV} : wkB H ρ φ H' (.agg cs) (.agg ds) = wkL H ρ φ H' cs ds := rfl
@[simp] theorem wkV_agg {cs ds : List PV} : wkV H ρ φ H' (.agg cs) (.agg ds) = wkL H ρ φ H' cs ds := rfl
@[simp] theorem wkV_tup {cs ds : List PV} : wkV H ρ φ H' (.tup cs) (.tup ds) = wkT H ρ φ H' cs ds := rfl
@[simp] theorem wkV_fn {f g : Nat} {cs ds : List PV} : wkV H ρ φ H' (.fn f cs) (.fn g ds) = (f = g ∧ wkL H ρ φ H' cs ds) := rfl
@[simp] theorem wkV_opt {c : Bool} : wkV H ρ φ H' (.opt c p) q = (c = true ∧ wkA H ρ φ H' p q) := rfl
@[simp] theorem wkO_none {x : Option (Option Obj)} : wkO H ρ φ H' x none = True := by unfold wkO; split <;> simp_all
@[simp] theorem wkO_arr {z z' : Nat} {rows rows' : List (List PV)} : wkO H ρ φ H' (some (some (.arr z rows))) (some (.arr z' rows')) = (z = z' ∧ rows = rows') := rfl
@[simp] theorem wkO_box {cs ds : List PV} : wkO H ρ φ H' (some (some (.box cs))) (some (.box ds)) = wkL H ρ φ H' cs ds := rfl
end wkeqs
end Go.Ab
