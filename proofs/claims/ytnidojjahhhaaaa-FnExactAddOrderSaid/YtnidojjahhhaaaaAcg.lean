/- Own objects of which the room is known; parts of own objects that become whole. No condition. -/
import Derived.Test.YtnidojjahhhaaaaAcc
namespace Go.Ab
variable {P : Program} {A A' : Nat → Prop} {m m' : OMap} {h h' : OFun} {w w' : World} {H : Heap} {fr fr' : Fr} {a : Act}

theorem updM_same {k : Nat} {x : Option Nat × Nat} (hm : m k = some x) : updM m k x = m := by
  funext j
  unfold updM
  split
  · rename_i e; rw [e, hm]
  · rfl

/-- An own object is looked at with other rows; other names of it are forgotten. -/
theorem inv_look {x : Ctx} {n : Nat} {S : St} (hI : Inv x n S a w A m) {k z : Nat} {rows rows' : List (List PV)} {ob : Option Nat} {C : Nat} (hk : getO S.H k = some (.arr z rows)) (hm : m k = some (ob, C))
    (ho : ∀ h', ObjAt A m h' w (.arr z rows') ob C) {fr' : Fr} (hfr : ∀ t, RepO A m (turnO (getO S.H) k (.arr z rows')) w (slot fr' t) (look x n a t)) :
    Inv x n ⟨fr', (S.H.map (scrubO k)).set k (some (.arr z rows'))⟩ a w A m := by
  have hc := conc_turn (o' := .arr z rows') (ob' := ob) (C' := C) (w' := w) hI.aok hI.conc hk hm (Nat.le_refl _) (fun _ _ _ => rfl) (fun _ hb => .inl hb) (by rw [updM_same hm]; exact ho _)
  rw [updM_same hm] at hc
  have hg := getO_turn (o := .arr z rows') (getO_lt hk)
  refine ⟨hI.moved, hI.sub, hI.aok, by show ConcO A m (getO _) w; rw [hg]; exact hc, fun b ⟨j, o, C', hj, hmj⟩ => ?_, fun t => by show RepO A m (getO _) w _ _; rw [hg]; exact hfr t, hI.sz, hI.df⟩
  have hj : getO ((S.H.map (scrubO k)).set k (some (.arr z rows'))) j = some o := hj
  rw [hg] at hj
  by_cases e : j = k
  · subst e; exact hI.own b ⟨j, _, C', hk, hmj⟩
  · simp only [turnO, if_neg e] at hj
    obtain ⟨y, hy, _⟩ := scrubO_some hj
    exact hI.own b ⟨j, y, C', hy, hmj⟩

theorem scrub_keep {k : Nat} {o' : Obj} {p : PV} {v : Value} {ob : Option Nat} {C : Nat} (hm : m k = some (ob, C)) (hr : RepO A m h w p v) : RepO A m (turnO h k o') w (scrubV k p) v := by
  have hsh := shaped_turn (m := m) (h := h) (k := k) (o' := o') (x := (ob, C))
  rw [updM_same hm] at hsh
  exact hr.scrubV (fun _ h => h) (fun _ _ => rfl) hsh

/-- A part that begins with its object becomes the whole of it. -/
theorem weak_cut {S : St} {t k z len : Nat} {rows : List (List PV)} (hk : S.H[k]? = some (some (.arr z rows))) (ht : slot S.fr t = .so k z 0 len) (hl : len ≤ rows.length) :
    Weak S ⟨(t, .sf k z) :: scrubF k S.fr, (S.H.map (scrubO k)).set k (some (.arr z (rows.take len)))⟩ := fun x n a w A m hI => by
  have hk' : getO S.H k = some (.arr z rows) := by simp [getO, hk]
  have hr := hI.fr t
  rw [ht] at hr
  obtain ⟨rows', ob, C, cap, hk2, hm, hv⟩ := hr.soI
  obtain rfl : rows' = rows := by rw [hk'] at hk2; cases hk2; rfl
  have hlt : (rows'.take len).length = len := by rw [List.length_take]; omega
  refine ⟨A, m, inv_look hI hk' hm (fun h' => ?_) fun t' => ?_⟩
  · obtain ⟨ob', C', hm', ho⟩ := hI.conc.at_ k _ hk'
    rw [hm] at hm'
    cases hm'
    cases ob with
    | none => obtain ⟨rfl, rfl⟩ := ho; exact ⟨by simp, rfl⟩
    | some b =>
      obtain ⟨g1, g2, g3, g4, g5, cur, e, q1, q2, q3⟩ := ho
      have key : ∀ (i : Nat) (r : List PV), (rows'.take len)[i]? = some r → rows'[i]? = some r := fun i r hr => by
        rw [List.getElem?_take] at hr
        split at hr
        · exact hr
        · cases hr
      exact ⟨g1, g2, by omega, g4, fun i r hr => g5 i r (key i r hr), cur, e, q1, q2, fun i j r c hr hc => q3 i j r c (key i r hr) hc⟩
  · simp only [slot]
    cases e : t == t' with
    | true =>
      have : t = t' := by simpa using e
      subst this
      show RepO A m _ w (.sf k z) _
      rcases hv with ⟨rfl, ao, hao, h0⟩ | ⟨b, rfl, hao, _, hcap⟩
      · obtain ⟨rfl, rfl, rfl⟩ := h0 rfl
        rw [hao]
        exact .sfN k z C ao (by simp [turnO]) hm
      · rw [hao, Nat.zero_mul]
        obtain rfl : cap = C := by omega
        have := RepO.sf (A := A) (m := m) (w := w) (h := turnO (getO S.H) k (.arr z (rows'.take len))) k z cap b (rows'.take len) (by simp [turnO]) hm
        rw [hlt] at this
        exact this
    | false =>
      simp only [cond_false]
      rw [slot_scrub]
      exact scrub_keep hm (hI.fr t')

/-- A whole own object that has room for C rows: the room's rows are told of. -/
theorem weak_room {S : St} {t k z C : Nat} {rows : List (List PV)} (hk : S.H[k]? = some (some (.arr z rows))) (ht : slot S.fr t = .sf k z) (hc : slot S.fr (capS k) = .cp k C) (hne : capS k ≠ t) (hrows : rows ≠ []) :
    Weak S ⟨(t, .so k z 0 rows.length) :: (capS k, .cp k C) :: scrubF k S.fr, (S.H.map (scrubO k)).set k (some (.arr z (rows ++ List.replicate (C - rows.length) (List.replicate z .top))))⟩ := fun x n a w A m hI => by
  have hk' : getO S.H k = some (.arr z rows) := by simp [getO, hk]
  have hr := hI.fr t
  rw [ht] at hr
  have hcp := hI.fr (capS k)
  rw [hc] at hcp
  obtain ⟨ob, hm⟩ : ∃ ob, m k = some (ob, C) := by
    cases hcp with
    | imm hi => cases hi
    | cp _ _ ob o' _ _ hm => exact ⟨ob, hm⟩
  obtain ⟨ob', C', hm', ho⟩ := hI.conc.at_ k _ hk'
  rw [hm] at hm'
  cases hm'
  cases ob with
  | none => exact absurd ho.1 hrows
  | some b =>
    obtain ⟨g1, g2, g3, g4, g5, cur, e, q1, q2, q3⟩ := ho
    have hrow : ∀ (i : Nat) (r : List PV), (rows ++ List.replicate (C - rows.length) (List.replicate z PV.top))[i]? = some r → rows[i]? = some r ∨ (i < C ∧ r = List.replicate z .top) := fun i r hr => by
      rw [List.getElem?_append] at hr
      split at hr
      · exact .inl hr
      · rw [List.getElem?_replicate] at hr
        split at hr
        · cases hr; exact .inr ⟨by omega, rfl⟩
        · cases hr
    refine ⟨A, m, inv_look hI hk' hm (fun h' => ?_) fun t' => ?_⟩
    · refine ⟨g1, g2, by simp; omega, g4, fun i r hr => ?_, cur, e, q1, q2, fun i j r c hr hc => ?_⟩
      · rcases hrow i r hr with h1 | ⟨_, rfl⟩
        · exact g5 i r h1
        · simp
      · rcases hrow i r hr with h1 | ⟨hi, rfl⟩
        · exact q3 i j r c h1 hc
        · have hj : j < z := by have := (List.getElem?_eq_some_iff.1 hc).1; simpa using this
          have hq : i * z + j < cur.size := by rw [q2]; exact fits_row hi hj
          rw [List.getElem?_replicate, if_pos hj] at hc
          cases hc
          exact ⟨cur[i * z + j], by simp [hq], .top _⟩
    · simp only [slot]
      cases e1 : t == t' with
      | true =>
        have : t = t' := by simpa using e1
        subst this
        show RepO A m _ w (.so k z 0 rows.length) _
        generalize hv : look x n a t = v at hr
        cases hr with
        | imm hi => cases hi
        | sfN _ _ C' ao hk2 hm2 => rw [hm] at hm2; cases hm2
        | sf _ _ C' b' rows' hk2 hm2 =>
          rw [hm] at hm2
          cases hm2
          obtain rfl : rows' = rows := by rw [hk'] at hk2; cases hk2; rfl
          have := RepO.so (A := A) (m := m) (w := w) (h := turnO (getO S.H) k (.arr z (rows' ++ List.replicate (C - rows'.length) (List.replicate z PV.top)))) k z 0 rows'.length C C b (rows' ++ List.replicate (C - rows'.length) (List.replicate z PV.top)) (by simp [turnO]) hm (by simp) (by omega)
          rw [Nat.zero_mul] at this
          exact this
      | false =>
        simp only [cond_false]
        cases e2 : capS k == t' with
        | true =>
          have : capS k = t' := by simpa using e2
          subst this
          exact .cp k C (some b) _ _ (by simp [turnO]; rfl) hm
        | false =>
          simp only [cond_false]
          rw [slot_scrub]
          exact scrub_keep hm (hI.fr t')

theorem AWP.weak {n : Nat} {c : Code} {S S' : St} {Q : Exit → St → Prop} (hw : Weak S S') (h : AWP P n c S' Q) : AWP P n c S Q := fun x a w A m hI => by
  obtain ⟨A', m', hI'⟩ := hw x n a w A m hI
  exact h x a w A' m' hI'

/-- The room of an own object is kept in mind. -/
theorem AWP.cap {n : Nat} {c : Code} {fr : Fr} {H : Heap} {Q : Exit → St → Prop} {k z : Nat} {rows : List (List PV)} (hk : H[k]? = some (some (.arr z rows))) (h : ∀ C, rows.length ≤ C → C ≤ 9223372036854775807 → AWP P n c ⟨(capS k, .cp k C) :: fr, H⟩ Q) : AWP P n c ⟨fr, H⟩ Q := fun x a w A m hI => by
  have hk' : getO H k = some (.arr z rows) := by simp [getO, hk]
  obtain ⟨ob, C, hm, ho⟩ := hI.conc.at_ k _ hk'
  have hle : rows.length ≤ C ∧ C ≤ 9223372036854775807 := by
    cases ob with
    | none => obtain ⟨rfl, rfl⟩ := ho; exact ⟨Nat.le_refl _, by omega⟩
    | some b => have h4 := ho.2.2.2.1; unfold maxLen at h4; exact ⟨ho.2.2.1, h4⟩
  refine h C hle.1 hle.2 x a w A m ⟨hI.moved, hI.sub, hI.aok, hI.conc, hI.own, fun t => ?_, hI.sz, hI.df⟩
  simp only [slot]
  cases e : capS k == t with
  | true => exact .cp k C ob _ _ hk' hm
  | false => exact hI.fr t

/-- Calls of f may turn own objects in regions that are drawn. -/
theorem weak_ef (S : St) (f : Nat) : Weak S ⟨(effS, .ef f) :: S.fr, S.H⟩ := fun x n a w A m hI => ⟨A, m, hI.moved, hI.sub, hI.aok, hI.conc, hI.own, fun t => by
  simp only [slot]
  cases e : effS == t with
  | true => exact .imm (.ef f _)
  | false => exact hI.fr t, hI.sz, hI.df⟩

theorem hfn_intro_ef (e : Nat) (hm : P.follows .mixedOrders = true) {f : FuncId} {fn : Func} {c : Code} {args : List PV} {Hin : Heap} {res : PV} {Hout : Heap} {Q : Exit → St → Prop} (hf : P.funcs[f]? = some fn) (hname : (fn.name == "runtime.NumGoroutine") = false)
    (hb : fn.body = some c) (hok : funOk fn c = true) (hn0 : Nat.ble args.length fn.ntmps = true) (hQ : ∀ e S, Q e S → RetOk P fn.results.toList res Hout e S) (h : awp P fn.ntmps c ⟨(effS, .ef e) :: argFr 0 args, Hin⟩ Q) : HFn P f args Hin res Hout := by
  have hok' := hok
  simp only [funOk, Bool.and_eq_true] at hok'
  refine MFn.hfn (kp := []) (body_run hm hf hname hb hok hn0 trivial hQ ?_)
  have : argFr 0 args ++ ghF fn.ntmps [] = argFr 0 args := by simp [ghF]
  rw [this]
  exact AWP.weak (weak_ef _ e) (awp_sound hm c _ Q hok'.1 h)

/-- A function that turns own objects, the room of the first one kept in mind. -/
theorem mfn_intro_cap (hm : P.follows .mixedOrders = true) {f : FuncId} {fn : Func} {c : Code} {args : List PV} {Hin : Heap} {res : PV} {Hout : Heap} {Q : Exit → St → Prop} {z : Nat} {rows : List (List PV)} (hf : P.funcs[f]? = some fn) (hname : (fn.name == "runtime.NumGoroutine") = false)
    (hb : fn.body = some c) (hok : funOk fn c = true) (hn0 : Nat.ble args.length fn.ntmps = true) (hQ : ∀ e S, Q e S → RetOkM P fn.ntmps fn.results.toList [] res Hout e S) (hk : Hin[0]? = some (some (.arr z rows)))
    (h : ∀ C, rows.length ≤ C → C ≤ 9223372036854775807 → AWP P fn.ntmps c ⟨(capS 0, .cp 0 C) :: argFr 0 args, Hin⟩ Q) : MFn P f args Hin [] res Hout := by
  refine body_run hm hf hname hb hok hn0 trivial hQ ?_
  have : argFr 0 args ++ ghF fn.ntmps [] = argFr 0 args := by simp [ghF]
  rw [this]
  exact AWP.cap hk h

@[simp] theorem RetOkM_ret {n : Nat} {rs : List ResultVar} {res : PV} {Hout : Heap} : RetOkM P n rs [] res Hout .ret ⟨fr, H⟩ = (retOks P ⟨fr, H⟩ rs ∧ Weak ⟨[(0, retV P ⟨fr, H⟩ rs)], H⟩ ⟨[(0, res)], Hout⟩) := rfl
@[simp] theorem RetOkM_normal {n : Nat} {rs : List ResultVar} {res : PV} {Hout : Heap} : RetOkM P n rs [] res Hout .normal ⟨fr, H⟩ = (retOks P ⟨fr, H⟩ rs ∧ Weak ⟨[(0, retV P ⟨fr, H⟩ rs)], H⟩ ⟨[(0, res)], Hout⟩) := rfl

/-- Parts of a list, as delete and insert lay them. -/
theorem del_rows {α : Type} (rows : List α) (i j : Nat) (hij : i < j) (hj : j ≤ rows.length) (x : List α) :
    ((rows.take i ++ ((rows.drop j).take (rows.length - j) ++ rows.drop (i + (rows.length - j)))).take (i + (rows.length - j)) ++ x).take (i + (rows.length - j)) = rows.take i ++ rows.drop j := by
  have e : (rows.drop j).take (rows.length - j) = rows.drop j := List.take_of_length_le (by simp)
  have hl : (rows.take i ++ rows.drop j).length = i + (rows.length - j) := by simp; omega
  rw [e, ← List.append_assoc, List.take_left' hl, List.take_left' hl]

theorem take_len_add {α : Type} (A X : List α) (k : Nat) : (A ++ X).take (A.length + k) = A ++ X.take k := by simp [List.take_append, List.take_of_length_le]
theorem drop_len_add {α : Type} (A X : List α) (k : Nat) : (A ++ X).drop (A.length + k) = X.drop k := by simp

theorem ins_room {α : Type} (A B V T D : List α) (hT : V.length ≤ T.length) :
    let L := (A ++ (B ++ T)).take (A.length + V.length) ++ (((A ++ (B ++ T)).drop A.length |>.take (B.length + V.length)).take B.length ++ D)
    (L.take A.length ++ (V.take (B.length + V.length) ++ L.drop (A.length + V.length))).take (A.length + B.length + V.length) = A ++ (V ++ B) := by
  intro L
  have e1 : L = A ++ ((B ++ T).take V.length ++ (B ++ D)) := by
    show _ ++ _ = _
    rw [take_len_add, List.drop_left' rfl, take_len_add, List.take_left' rfl, List.append_assoc]
  have e2 : ((B ++ T).take V.length).length = V.length := by simp; omega
  rw [e1, List.take_left' rfl, drop_len_add, List.drop_left' e2, List.take_of_length_le (by omega : V.length ≤ B.length + V.length), ← List.append_assoc, ← List.append_assoc, ← List.append_assoc, List.take_left' (by simp; omega)]

theorem ins_grow {α : Type} (A B V Z : List α) (hZ : Z.length = B.length + V.length) :
    let L := A ++ (V.take (B.length + V.length) ++ (A ++ Z).drop (A.length + V.length))
    L.take (A.length + V.length) ++ ((((A ++ B).drop A.length).take B.length).take B.length ++ L.drop (A.length + V.length + B.length)) = A ++ (V ++ B) := by
  intro L
  have e1 : L = A ++ (V ++ Z.drop V.length) := by
    show _ ++ _ = _
    rw [drop_len_add, List.take_of_length_le (by omega)]
  have e2 : (Z.drop V.length).length = B.length := by simp; omega
  rw [e1, take_len_add, List.take_left' rfl, List.drop_left' rfl, List.take_length, List.take_length, Nat.add_assoc, drop_len_add, drop_len_add, List.drop_of_length_le (by omega), List.append_nil, List.append_assoc]

end Go.Ab
