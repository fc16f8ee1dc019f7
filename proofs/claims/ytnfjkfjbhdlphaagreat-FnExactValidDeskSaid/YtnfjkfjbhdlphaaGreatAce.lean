/- '==' of structs that hold structs. No condition. -/
import Derived.Test.YtnfjkfjbhdlphaaGreatAcd
namespace Go.Ab
variable {P : Program} {t : TypeId}

/-- The fields of a struct: of one cell each, or structs of such fields. -/
inductive FK where
  | one (k : Nat)
  | sub (ks : List Nat)
def FK.ks : FK → List Nat
  | .one k => [k]
  | .sub ks => ks
def fieldsOk2 (P : Program) : List FK → Nat → List Field → Prop
  | [], _, [] => True
  | .one k :: r, i, f :: fs => f.offset = i ∧ f.name ≠ "_" ∧ knownT P f.type = true ∧ aggT P f.type = false ∧ (match k with
    | 1 => (kindT P f.type).isSome = true
    | 2 => P.underlying f.type = some .bool
    | 3 => strT P f.type = true
    | _ => False) ∧ fieldsOk2 P r (i + 1) fs
  | .sub ks :: r, i, f :: fs => f.offset = i ∧ f.name ≠ "_" ∧ aggT P f.type = true ∧ sizeT P f.type = ks.length ∧ 0 < ks.length ∧ P.stoodInHeld f.type = false ∧ (∃ fs' : Array Field, P.underlying f.type = some (.struct fs') ∧ fieldsOk P ks 0 fs'.toList) ∧ fieldsOk2 P r (i + ks.length) fs
  | _, _, _ => False

theorem cellsEq_app : ∀ (a b c d : List PV), a.length = b.length → cellsEq (a ++ c) (b ++ d) = (cellsEq a b && cellsEq c d)
  | [], [], _, _, _ => by simp [cellsEq]
  | x :: a, y :: b, c, d, h => by
    have := cellsEq_app a b c d (by simpa using h)
    simp [cellsEq, this, Bool.and_assoc]
  | [], _ :: _, _, _, h => by simp at h
  | _ :: _, [], _, _, h => by simp at h
theorem cellsCmp_app : ∀ (a b c d : List PV), a.length = b.length → cellsCmp (a ++ c) (b ++ d) → cellsCmp a b ∧ cellsCmp c d
  | [], [], _, _, _, h => ⟨trivial, h⟩
  | x :: a, y :: b, c, d, h, hc => by
    have := cellsCmp_app a b c d (by simpa using h) hc.2
    exact ⟨⟨hc.1, this.1⟩, this.2⟩
  | [], _ :: _, _, _, h, _ => by simp at h
  | _ :: _, [], _, _, h, _ => by simp at h
theorem cellsCmp_len : ∀ (a b : List PV), cellsCmp a b → a.length = b.length
  | [], [], _ => rfl
  | _ :: a, _ :: b, h => by simp [cellsCmp_len a b h.2]
  | [], _ :: _, h => h.elim
  | _ :: _, [], h => h.elim

theorem part_agg {us : Array Value} {f o n : Nat} (w : World) (hk : ∃ d, P.underlying f = some d) (ha : aggT P f = true) (hs : sizeT P f = n) (hn : 0 < n) : (part f us o).run P w = .ok (.agg (us.extract o (o + n))) w := by
  obtain ⟨d, hd⟩ := hk
  have hag := aggT_spec (P := P) (w0 := w) hd
  have hsz := sizeT_spec (P := P) (t := f) (by omega) w
  rw [hs] at hsz
  simp only [part, Sem.run_bind, hag, ha, Result.andThen_ok, if_true, hsz]
  rfl

theorem cellsEq_run2 {d : Nat} {us vs : Array Value} {cs0 ds0 : List PV} (w : World) (hu : us.size = cs0.length) (hv : vs.size = ds0.length) (hc : ∀ i c, cs0[i]? = some c → cellIs c (us.getD i undef)) (hd : ∀ i c, ds0[i]? = some c → cellIs c (vs.getD i undef)) :
    ∀ (ks : List FK) (i : Nat) (fs : List Field) (cs ds : List PV), fieldsOk2 P ks i fs → cs0.drop i = cs → ds0.drop i = ds → cs.map kindC = (ks.map FK.ks).flatten → cellsCmp cs ds → (Op.eqFields (d + 2) us vs fs).run P w = .ok (cellsEq cs ds) w
  | [], _, [], cs, ds, _, _, _, hk, hcmp => by
    cases cs with
    | cons c cs => cases hk
    | nil =>
      cases ds with
      | cons _ _ => exact hcmp.elim
      | nil => rfl
  | .one k :: ks, i, f :: fs, cs, ds, hf, h1, h2, hk, hcmp => by
    obtain ⟨f1, f2, f3, f4, f5, f6⟩ := hf
    simp only [List.map_cons, List.flatten_cons, FK.ks, List.cons_append, List.nil_append] at hk
    cases cs with
    | nil => cases hk
    | cons c cs =>
    cases ds with
    | nil => exact hcmp.elim
    | cons e ds =>
    simp only [List.map_cons, List.cons.injEq] at hk
    have gc : cs0[i]? = some c := by have := congrArg List.head? h1; simpa [List.head?_drop] using this
    have ge : ds0[i]? = some e := by have := congrArg List.head? h2; simpa [List.head?_drop] using this
    have rest := cellsEq_run2 (d := d) w hu hv hc hd ks (i + 1) fs cs ds f6 (by have := congrArg List.tail h1; simpa [List.tail_drop] using this) (by have := congrArg List.tail h2; simpa [List.tail_drop] using this) hk.2 hcmp.2
    have one := cellsEq_run (P := P) (d := d + 1) (us := us) (vs := vs) (cs0 := cs0.take (i + 1)) (ds0 := ds0.take (i + 1)) w
    have hil : i < us.size := by rw [hu]; exact (List.getElem?_eq_some_iff.1 gc).1
    have hil' : i < vs.size := by rw [hv]; exact (List.getElem?_eq_some_iff.1 ge).1
    have ic := hc i c gc
    have ie := hd i e ge
    obtain ⟨dd, hdd⟩ := knownT_spec f3
    have hag := aggT_spec (P := P) (w0 := w) hdd
    have p1 : (part f.type us f.offset).run P w = .ok us[i] w := by
      simp only [part, Sem.run_bind, hag, f4, Result.andThen_ok, Bool.false_eq_true, if_false, f1]
      simp [hil]
    have p2 : (part f.type vs f.offset).run P w = .ok vs[i] w := by
      simp only [part, Sem.run_bind, hag, f4, Result.andThen_ok, Bool.false_eq_true, if_false, f1]
      simp [hil']
    have eu : us.getD i undef = us[i] := by simp [Array.getD_eq_getD_getElem?, hil]
    have ev : vs.getD i undef = vs[i] := by simp [Array.getD_eq_getD_getElem?, hil']
    rw [eu] at ic
    rw [ev] at ie
    have one : (Op.equalIn (d + 2) f.type us[i] vs[i]).run P w = .ok (cellEq c e) w := by
      obtain ⟨hk1, _⟩ := hk
      have hcm := hcmp.1
      cases c <;> cases e <;> simp only [cellCmp] at hcm <;> simp only [cellIs] at ic ie <;> simp only [kindC] at hk1 <;> subst hk1
      case int.int j a j' b =>
        subst hcm
        obtain ⟨kk, hkk⟩ := Option.isSome_iff_exists.1 f5
        rw [ic, ie, run_equalIn_int w (d + 1) f.type j kk a b (kindT_spec hkk)]
        simp only [cellEq]
        congr 1
      case bool.bool a b =>
        rw [ic, ie, run_equalIn_bool' w (d + 1) f.type a b f5]
        rfl
      case str.str a b =>
        obtain ⟨b1, e1, rfl⟩ := ic
        obtain ⟨b2, e2, rfl⟩ := ie
        rw [e1, e2, run_equalIn_string w (d + 1) f.type b1 b2 (strT_spec f5)]
        simp only [cellEq, toList_data, beq_list]
    simp only [Op.eqFields, f2, ne_eq, not_false_eq_true, if_true, Sem.run_bind, p1, p2, one, Result.andThen_ok, cellsEq]
    cases cellEq c e with
    | true => simpa using rest
    | false => simp
  | .sub kk :: ks, i, f :: fs, cs, ds, hf, h1, h2, hk, hcmp => by
    obtain ⟨f1, f2, f3, f4, f5, f6, ⟨fs', f7, f8⟩, f9⟩ := hf
    simp only [List.map_cons, List.flatten_cons, FK.ks] at hk
    have hlen := cellsCmp_len _ _ hcmp
    have hle : kk.length ≤ cs.length := by have := congrArg List.length hk; simp at this; omega
    have ec : cs = cs.take kk.length ++ cs.drop kk.length := (List.take_append_drop _ _).symm
    have ed : ds = ds.take kk.length ++ ds.drop kk.length := (List.take_append_drop _ _).symm
    have hl2 : (cs.take kk.length).length = (ds.take kk.length).length := by simp [hlen]
    have hcm2 : cellsCmp (cs.take kk.length ++ cs.drop kk.length) (ds.take kk.length ++ ds.drop kk.length) := by rw [← ec, ← ed]; exact hcmp
    obtain ⟨c1, c2⟩ := cellsCmp_app _ _ _ _ hl2 hcm2
    have hk1 : (cs.take kk.length).map kindC = kk := by
      rw [List.map_take, hk]
      simp
    have hk2 : (cs.drop kk.length).map kindC = (ks.map FK.ks).flatten := by
      rw [List.map_drop, hk]
      simp
    have rest := cellsEq_run2 (d := d) w hu hv hc hd ks (i + kk.length) fs (cs.drop kk.length) (ds.drop kk.length) f9 (by rw [← h1, List.drop_drop]) (by rw [← h2, List.drop_drop]) hk2 c2
    have hcl : cs0.length - i = cs.length := by rw [← h1]; simp
    have hdl : ds0.length - i = ds.length := by rw [← h2]; simp
    have p1 := part_agg (P := P) (us := us) (o := f.offset) w ⟨_, f7⟩ f3 f4 f5
    have p2 := part_agg (P := P) (us := vs) (o := f.offset) w ⟨_, f7⟩ f3 f4 f5
    rw [f1] at p1 p2
    have szu : (us.extract i (i + kk.length)).size = (cs.take kk.length).length := by simp; omega
    have szv : (vs.extract i (i + kk.length)).size = (ds.take kk.length).length := by simp; omega
    have gu : ∀ j c, (cs.take kk.length)[j]? = some c → cellIs c ((us.extract i (i + kk.length)).getD j undef) := fun j c hj => by
      have hjl : j < kk.length := by have := (List.getElem?_eq_some_iff.1 hj).1; rw [List.length_take] at this; omega
      rw [List.getElem?_take_of_lt hjl, ← h1, List.getElem?_drop] at hj
      have := hc (i + j) c hj
      have hlt := (List.getElem?_eq_some_iff.1 hj).1
      simp only [Array.getD_eq_getD_getElem?] at this ⊢
      rw [Array.getElem?_eq_getElem (by omega)] at this
      rw [Array.getElem?_extract_of_lt (by omega)]
      exact this
    have gv : ∀ j c, (ds.take kk.length)[j]? = some c → cellIs c ((vs.extract i (i + kk.length)).getD j undef) := fun j c hj => by
      have hjl : j < kk.length := by have := (List.getElem?_eq_some_iff.1 hj).1; rw [List.length_take] at this; omega
      rw [List.getElem?_take_of_lt hjl, ← h2, List.getElem?_drop] at hj
      have := hd (i + j) c hj
      have hlt := (List.getElem?_eq_some_iff.1 hj).1
      simp only [Array.getD_eq_getD_getElem?] at this ⊢
      rw [Array.getElem?_eq_getElem (by omega)] at this
      rw [Array.getElem?_extract_of_lt (by omega)]
      exact this
    have hf : P.fieldsOf f.type = fs' := by simp [Program.fieldsOf, f7]
    have sub : (Op.equalIn (d + 2) f.type (.agg (us.extract i (i + kk.length))) (.agg (vs.extract i (i + kk.length)))).run P w = .ok (cellsEq (cs.take kk.length) (ds.take kk.length)) w := by
      rw [run_equalIn_struct w (d + 1) f.type _ _ (by rw [hf]; exact f7) f6, hf]
      exact cellsEq_run (d := d) w szu szv gu gv kk 0 fs'.toList _ _ f8 rfl rfl hk1 c1
    have e : cellsEq cs ds = (cellsEq (cs.take kk.length) (ds.take kk.length) && cellsEq (cs.drop kk.length) (ds.drop kk.length)) := by
      conv => lhs; rw [ec, ed]
      exact cellsEq_app _ _ _ _ hl2
    rw [e]
    simp only [Op.eqFields, f1, f2, ne_eq, not_false_eq_true, if_true, Sem.run_bind, p1, p2, sub, Result.andThen_ok]
    cases cellsEq (cs.take kk.length) (ds.take kk.length) with
    | true => simpa using rest
    | false => simp
  | [], _, _ :: _, _, _, hf, _, _, _, _ => hf.elim
  | .one _ :: _, _, [], _, _, hf, _, _, _, _ => hf.elim
  | .sub _ :: _, _, [], _, _, hf, _, _, _, _ => hf.elim

theorem eqT_struct2 {fs : Array Field} {ks : List FK} {kl : List Nat} (hu : P.underlying t = some (.struct fs)) (hp : P.stoodInHeld t = false) (hg : P.eqGuardType P.depth t = false) (h : fieldsOk2 P ks 0 fs.toList) (hk : (ks.map FK.ks).flatten = kl) : EqT P t kl := fun op x y w cs ds us vs hk' h1 h2 hcmp hc hd => by
  have hf : P.fieldsOf t = fs := by simp [Program.fieldsOf, hu]
  refine ⟨run_eqGuard_agg w op t x y us vs hg, ?_⟩
  rw [run_equalIn_struct w 9999 t us vs (by rw [hf]; exact hu) hp, hf]
  exact cellsEq_run2 (d := 9997) w h1 h2 hc hd ks 0 fs.toList cs ds h rfl rfl (hk'.trans hk.symm) hcmp
end Go.Ab
