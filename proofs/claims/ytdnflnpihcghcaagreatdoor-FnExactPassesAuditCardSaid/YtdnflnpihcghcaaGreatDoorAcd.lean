/- Facts on types, each out of the type's row. No condition. -/
import Derived.Test.YtdnflnpihcghcaaGreatDoorKb
import Derived.Laws.StructEq
namespace Go.Ab
variable {P : Program} {t : TypeId} {i : TypeInfo} {b : Nat}

/-- What the walks ask of a type of one cell. -/
abbrev TyOne (P : Program) (t : TypeId) (b : Nat) (k : Option IntKind) (e : Option TypeId) (s : Bool) : Prop :=
  knownT P t = true ∧ aggT P t = false ∧ sizeT P t = 1 ∧ bytesT P t = b ∧ kindT P t = k ∧ elemT P t = e ∧ strT P t = s
/-- That its zero value is this. -/
abbrev TyZ (P : Program) (t : TypeId) (cs : List PV) : Prop := zokT P t = true ∧ zeroT P t = some cs
/-- What they ask of a struct. -/
abbrev TyAgg (P : Program) (t : TypeId) (n b : Nat) : Prop := knownT P t = true ∧ aggT P t = true ∧ sizeT P t = n ∧ bytesT P t = b ∧ elemT P t = none ∧ strT P t = false ∧ kindT P t = none

theorem tyOne_int {k : IntKind} (hi : P.info? t = some i) (hu : P.underlying t = some (.int k)) (h1 : i.size = 1) (h2 : i.bytes = b) : TyOne P t b (some k) none false := by
  refine ⟨?_, ?_, ?_, ?_, ?_, ?_, ?_⟩ <;> simp [knownT, aggT, sizeT, bytesT, kindT, elemT, strT, hi, hu, h1, h2]
theorem tyOne_str (hi : P.info? t = some i) (hu : P.underlying t = some .string) (h1 : i.size = 1) (h2 : i.bytes = b) : TyOne P t b none none true := by
  refine ⟨?_, ?_, ?_, ?_, ?_, ?_, ?_⟩ <;> simp [knownT, aggT, sizeT, bytesT, kindT, elemT, strT, hi, hu, h1, h2]
theorem tyOne_bool (hi : P.info? t = some i) (hu : P.underlying t = some .bool) (h1 : i.size = 1) (h2 : i.bytes = b) : TyOne P t b none none false := by
  refine ⟨?_, ?_, ?_, ?_, ?_, ?_, ?_⟩ <;> simp [knownT, aggT, sizeT, bytesT, kindT, elemT, strT, hi, hu, h1, h2]
theorem tyOne_slice {e : TypeId} (hi : P.info? t = some i) (hu : P.underlying t = some (.slice e)) (h1 : i.size = 1) (h2 : i.bytes = b) : TyOne P t b none (some e) false := by
  refine ⟨?_, ?_, ?_, ?_, ?_, ?_, ?_⟩ <;> simp [knownT, aggT, sizeT, bytesT, kindT, elemT, strT, hi, hu, h1, h2]
theorem tyOne_pointer {e : TypeId} (hi : P.info? t = some i) (hu : P.underlying t = some (.pointer e)) (h1 : i.size = 1) (h2 : i.bytes = b) : TyOne P t b none none false := by
  refine ⟨?_, ?_, ?_, ?_, ?_, ?_, ?_⟩ <;> simp [knownT, aggT, sizeT, bytesT, kindT, elemT, strT, hi, hu, h1, h2]
theorem tyOne_func {ps rs : Array TypeId} {v : Bool} (hi : P.info? t = some i) (hu : P.underlying t = some (.func ps rs v)) (h1 : i.size = 1) (h2 : i.bytes = b) : TyOne P t b none none false := by
  refine ⟨?_, ?_, ?_, ?_, ?_, ?_, ?_⟩ <;> simp [knownT, aggT, sizeT, bytesT, kindT, elemT, strT, hi, hu, h1, h2]
theorem tyAgg_struct {fs : Array Field} {n : Nat} (hi : P.info? t = some i) (hu : P.underlying t = some (.struct fs)) (h1 : i.size = n) (h2 : i.bytes = b) : TyAgg P t n b := by
  refine ⟨?_, ?_, ?_, ?_, ?_, ?_, ?_⟩ <;> simp [knownT, aggT, sizeT, bytesT, kindT, elemT, strT, hi, hu, h1, h2]
theorem tyAgg_array {k e n : Nat} (hi : P.info? t = some i) (hu : P.underlying t = some (.array k e)) (h1 : i.size = n) (h2 : i.bytes = b) : TyAgg P t n b := by
  refine ⟨?_, ?_, ?_, ?_, ?_, ?_, ?_⟩ <;> simp [knownT, aggT, sizeT, bytesT, kindT, elemT, strT, hi, hu, h1, h2]

theorem arrOf {k e : Nat} (hu : P.underlying t = some (.array k e)) : arrT P t = some (k, e) := by
  unfold arrT
  rw [hu]

theorem tyZ {v : Value} {cs : List PV} (hi : P.info? t = some i) (hz : i.zero = some v) (hv : flatV (ofV v) = cs) (hl : cs.length = i.size) (ho : cs.all oneC = true) : TyZ P t cs := by
  have h : zeroT P t = some cs := by simp [zeroT, hi, hz, hv]
  refine ⟨?_, h⟩
  simp [zokT, h, sizeT, hi, hl]
  simpa using ho

theorem structOf {fs : Array Field} (hu : P.underlying t = some (.struct fs)) (h : ∀ f ∈ fs.toList, (P.info? f.type).isSome = true) : structT P t = true := by
  unfold structT
  rw [hu]
  simp only [Array.all_eq_true_iff_forall_mem]
  exact fun f hf => h f (by simpa using hf)

theorem fldOf {fs : Array Field} {f n o : Nat} {x : Field} {a : Bool} (hu : P.underlying t = some (.struct fs)) (hx : fs[f]? = some x) (ho : x.offset = o) (hk : knownT P x.type = true) (ha : aggT P x.type = a) (hn : sizeT P x.type = n) : fldT P t f = some (o, a, n) := by
  subst ho
  unfold fldT
  rw [hu]
  simp [hx, hk, ha, hn]

/-! ### '==' of structs -/

/-- The fields of a struct, each of one cell, of these makes. -/
def fieldsOk (P : Program) : List Nat → Nat → List Field → Prop
  | [], _, [] => True
  | k :: ks, i, f :: fs => f.offset = i ∧ f.name ≠ "_" ∧ knownT P f.type = true ∧ aggT P f.type = false ∧ (match k with
    | 1 => (kindT P f.type).isSome = true
    | 2 => P.underlying f.type = some .bool
    | 3 => strT P f.type = true
    | _ => False) ∧ fieldsOk P ks (i + 1) fs
  | _, _, _ => False

theorem cellsEq_run {d : Nat} {us vs : Array Value} {cs0 ds0 : List PV} (w : World) (hu : us.size = cs0.length) (hv : vs.size = ds0.length) (hc : ∀ i c, cs0[i]? = some c → cellIs c (us.getD i undef)) (hd : ∀ i c, ds0[i]? = some c → cellIs c (vs.getD i undef)) :
    ∀ (ks : List Nat) (i : Nat) (fs : List Field) (cs ds : List PV), fieldsOk P ks i fs → cs0.drop i = cs → ds0.drop i = ds → cs.map kindC = ks → cellsCmp cs ds → (Op.eqFields (d + 1) us vs fs).run P w = .ok (cellsEq cs ds) w
  | [], _, [], cs, ds, _, _, _, hk, hcmp => by
    cases cs with
    | cons c cs => cases hk
    | nil =>
      cases ds with
      | cons _ _ => exact hcmp.elim
      | nil => rfl
  | k :: ks, i, f :: fs, cs, ds, hf, h1, h2, hk, hcmp => by
    obtain ⟨f1, f2, f3, f4, f5, f6⟩ := hf
    cases cs with
    | nil => cases hk
    | cons c cs =>
    cases ds with
    | nil => exact hcmp.elim
    | cons e ds =>
    simp only [List.map_cons, List.cons.injEq] at hk
    have gc : cs0[i]? = some c := by have := congrArg List.head? h1; simpa [List.head?_drop] using this
    have ge : ds0[i]? = some e := by have := congrArg List.head? h2; simpa [List.head?_drop] using this
    have hil : i < us.size := by rw [hu]; exact (List.getElem?_eq_some_iff.1 gc).1
    have hil' : i < vs.size := by rw [hv]; exact (List.getElem?_eq_some_iff.1 ge).1
    have ic := hc i c gc
    have ie := hd i e ge
    obtain ⟨dd, hdd⟩ := knownT_spec f3
    have hag := aggT_spec (P := P) (w0 := w) hdd
    have p1 : (part f.type us f.offset).run P w = .ok us[i] w := by
      simp only [part, Sem.run_bind, hag, f4, Result.andThen_ok, Bool.false_eq_true, if_false, f1]
      simp [hil]
    have p2 : (part f.type vs f.offset).run P w = .ok vs[i] w := by
      simp only [part, Sem.run_bind, hag, f4, Result.andThen_ok, Bool.false_eq_true, if_false, f1]
      simp [hil']
    have rest := cellsEq_run (d := d) w hu hv hc hd ks (i + 1) fs cs ds f6 (by have := congrArg List.tail h1; simpa [List.tail_drop] using this) (by have := congrArg List.tail h2; simpa [List.tail_drop] using this) hk.2 hcmp.2
    have eu : us.getD i undef = us[i] := by simp [Array.getD_eq_getD_getElem?, hil]
    have ev : vs.getD i undef = vs[i] := by simp [Array.getD_eq_getD_getElem?, hil']
    rw [eu] at ic
    rw [ev] at ie
    have one : (Op.equalIn (d + 1) f.type us[i] vs[i]).run P w = .ok (cellEq c e) w := by
      obtain ⟨hk1, _⟩ := hk
      have hcm := hcmp.1
      cases c <;> cases e <;> simp only [cellCmp] at hcm <;> simp only [cellIs] at ic ie <;> simp only [kindC] at hk1 <;> subst hk1
      case int.int j a j' b =>
        subst hcm
        obtain ⟨kk, hkk⟩ := Option.isSome_iff_exists.1 f5
        rw [ic, ie, run_equalIn_int w d f.type j kk a b (kindT_spec hkk)]
        simp only [cellEq]
        congr 1
      case bool.bool a b =>
        rw [ic, ie, run_equalIn_bool' w d f.type a b f5]
        rfl
      case str.str a b =>
        obtain ⟨b1, e1, rfl⟩ := ic
        obtain ⟨b2, e2, rfl⟩ := ie
        rw [e1, e2, run_equalIn_string w d f.type b1 b2 (strT_spec f5)]
        simp only [cellEq, toList_data, beq_list]
    simp only [Op.eqFields, f2, ne_eq, not_false_eq_true, if_true, Sem.run_bind, p1, p2, one, Result.andThen_ok, cellsEq]
    cases cellEq c e with
    | true => simpa using rest
    | false => simp
  | [], _, _ :: _, _, _, hf, _, _, _, _ => hf.elim
  | _ :: _, _, [], _, _, hf, _, _, _, _ => hf.elim

theorem eqT_struct {fs : Array Field} {ks : List Nat} (hu : P.underlying t = some (.struct fs)) (hp : P.stoodInHeld t = false) (hg : P.eqGuardType P.depth t = false) (h : fieldsOk P ks 0 fs.toList) : EqT P t ks := fun op x y w cs ds us vs hk h1 h2 hcmp hc hd => by
  have hf : P.fieldsOf t = fs := by simp [Program.fieldsOf, hu]
  refine ⟨run_eqGuard_agg w op t x y us vs hg, ?_⟩
  rw [run_equalIn_struct w 9999 t us vs (by rw [hf]; exact hu) hp, hf]
  exact cellsEq_run (d := 9998) w h1 h2 hc hd ks 0 fs.toList cs ds h rfl rfl hk hcmp
end Go.Ab
