/- The operations that come up in whatever order: one relation for all of them, and that it hangs on the operands alone. No condition. -/
import Derived.Test.YtpbpkpghkbcjdaaAbp
namespace Go.Ab
variable {P : Program} {A A' : Nat → Prop} {m m' : OMap} {h h' : OFun} {w w' : World} {H : Heap} {fr fr' : Fr} {a : Act}

/-- Operation op, in the plain state (fr, H), yields pv and the new own objects 'new' (under the numbers from k0 on), and turns nothing else. -/
inductive PreStep (P : Program) (fr : Fr) (H : Heap) (k0 : Nat) : Op → PV → List (Option Obj) → Prop
  | quiet {op : Op} (h : vok P fr H op) : PreStep P fr H k0 op (vop P fr H op) []
  | alloc {t : TypeId} {cs : List PV} (hz : zeroT P t = some cs) (h1 : cs.all oneC = true) : PreStep P fr H k0 (.alloc t) (.pb k0 0) [some (.box cs)]
  | box {t : TypeId} {x : Operand} (hx : okv fr x) (h1 : (flatV (ev fr x)).all oneC = true) : PreStep P fr H k0 (.box t x) (.pb k0 0) [some (.box (flatV (ev fr x)))]
  | buildSlice {t e : TypeId} {n : Nat} {ps : List (Nat × Operand)} (he : elemT P t = some e) (hz : 0 < sizeT P e) (hn : n = ps.length) (hb : n * sizeT P e ≤ 16777216) (hzero : (zeroT P e).isSome = true) (hk : rowsOkV fr (sizeT P e) 0 ps) :
      PreStep P fr H k0 (.buildSlice t n ps.toArray) (bif n == 0 then .nils else .sf k0 (sizeT P e)) (bif n == 0 then [] else [some (.arr (sizeT P e) (rowsV fr ps))])
  | makeSlice {t e : TypeId} {l c : Operand} {zs : List PV} (he : elemT P t = some e) (hzs : zeroT P e = some zs) (hzl : zs.length = sizeT P e) (hno : zs.all noOwnA = true) (hone : zs.all oneC = true)
      (h1 : okv fr l) (h2 : okv fr c) (i1 : isInt (ev fr l)) (i2 : isInt (ev fr c)) (b0 : 0 ≤ intV (ev fr l)) (b1 : intV (ev fr l) ≤ intV (ev fr c))
      (b2 : bytesT P e * intV (ev fr c) ≤ 140737488355328) (b3 : intV (ev fr c) ≤ 9223372036854775807) :
      PreStep P fr H k0 (.makeSlice t l c) (.sf k0 (sizeT P e)) [some (.arr (sizeT P e) (List.replicate (intV (ev fr l)).toNat zs))]
  | append {s x : Operand} {t t' e : TypeId} (ht : (elemT P t').isSome = true ∨ strT P t' = true) (hs : okv fr s) (hx : okv fr x) (hev : ev fr s = .nils) (he : elemT P t = some e) (hz : 0 < sizeT P e) (hzok : zokT P e = true)
      (hsrc : srcOk H (sizeT P e) (ev fr x)) (hone : rowsOne (srcRows H (ev fr x))) (hb : (srcRows H (ev fr x)).length * bytesT P e ≤ 140737488355328) (h63 : (srcRows H (ev fr x)).length ≤ 9223372036854775807) :
      PreStep P fr H k0 (.call { callee := .builtin .append, args := #[s, x], argTypes := #[t, t'] }) (.sf k0 (sizeT P e)) [some (.arr (sizeT P e) (srcRows H (ev fr x)))]
  | call {y : Operand} {xs : List Operand} {ts : Array TypeId} {f : FuncId} {caps args : List PV} {res : PV} {Hout : Heap} (hy : okv fr y) (hxs : okvs fr xs) (hev : ev fr y = .fn f caps) (hargs : args = xs.map (ev fr) ++ caps)
      (hf : HFn P f (args.map (imm H)) [] res Hout) (hno : (args.map (imm H)).all noOwn = true) (hbox : args.all (boxOk H) = true) (hfl : args.all noOwn = true ∨ flatP res = true ∧ flatO Hout)
      (hwh : whole Hout.length res = true) (harr : arrO Hout = true) : PreStep P fr H k0 (.call { callee := .value y, args := xs.toArray, argTypes := ts }) (shift k0 res) Hout

theorem elemT_isSome {t : TypeId} (h : (elemT P t).isSome = true ∨ strT P t = true) : (∃ e', P.underlying t = some (.slice e')) ∨ P.underlying t = some .string := by
  rcases h with h | h
  · obtain ⟨e, he⟩ := Option.isSome_iff_exists.1 h
    exact .inl ⟨e, elemT_spec he⟩
  · exact .inr (strT_spec h)

theorem qsem_append {o : Oper} {k0 : Nat} {s x : Operand} {t t' e : TypeId} (ho : o.op = .call { callee := .builtin .append, args := #[s, x], argTypes := #[t, t'] }) (ht : (elemT P t').isSome = true ∨ strT P t' = true) (hs : okv fr s) (hx : okv fr x)
    (hev : ev fr s = .nils) (he : elemT P t = some e) (hz : 0 < sizeT P e) (hzok : zokT P e = true) (hsrc : srcOk H (sizeT P e) (ev fr x)) (hone : rowsOne (srcRows H (ev fr x)))
    (hb : (srcRows H (ev fr x)).length * bytesT P e ≤ 140737488355328) (h63 : (srcRows H (ev fr x)).length ≤ 9223372036854775807) :
    QSem P o fr H k0 (.sf k0 (sizeT P e)) [some (.arr (sizeT P e) (srcRows H (ev fr x)))] := fun A m h w a hA hC hsub hO hk => by
  have hk0 : h k0 = none := by simpa using hk 0 (by simp)
  obtain ⟨news, hsr⟩ := src_rep (P := P) hsub hC hz (elemT_isSome ht) (hO.ev hx) hsrc hone
  have hrs := hO.ev hs
  rw [hev] at hrs
  obtain ⟨ao, hao⟩ := hrs.nilsI
  obtain ⟨v, w', m', hrun, hN, hr⟩ := append_new (ty := o.type) hA hC hk0 he hzok hsr ao hb h63
  refine yields_value (exec_append ho (by rw [hao]; exact hrun)) ⟨A, m', ?_⟩
  rw [addO_one]
  exact ⟨hN, hr⟩

theorem pre_sem {o : Oper} {k0 : Nat} {pv : PV} {new : List (Option Obj)} (hp : PreStep P fr H k0 o.op pv new) : QSem P o fr H k0 pv new := by
  generalize ho : o.op = op at hp
  cases hp with
  | quiet hv => subst ho; exact qsem_quiet hv
  | alloc hz h1 => exact qsem_alloc ho hz h1
  | box hx h1 => exact qsem_box ho hx h1
  | buildSlice he hz hn hb hzero hk => exact qsem_buildSlice ho he hz hn hb hzero hk
  | makeSlice he hzs hzl hno hone h1 h2 i1 i2 b0 b1 b2 b3 => exact qsem_makeSlice ho he hzs hzl hno hone h1 h2 i1 i2 b0 b1 b2 b3
  | append ht hs hx hev he hz hzok hsrc hone hb h63 => exact qsem_append ho ht hs hx hev he hz hzok hsrc hone hb h63
  | call hy hxs hev hargs hf hno hbox hfl hwh harr => exact qsem_call ho hy hxs hev hargs hf hno hbox hfl hwh harr

/-! ### It hangs on the operands alone -/

/-- fr and fr' hold the same in the slots that these operands name. -/
def Agree (fr fr' : Fr) (xs : List Operand) : Prop := ∀ t, .tmp t ∈ xs → slot fr t = slot fr' t

theorem Agree.ev {xs : List Operand} (hg : Agree fr fr' xs) {x : Operand} (hx : x ∈ xs) : ev fr' x = ev fr x := by
  cases x with
  | tmp t => simp only [Ab.ev, hg t hx]
  | _ => rfl
theorem Agree.ok {xs : List Operand} (hg : Agree fr fr' xs) {x : Operand} (hx : x ∈ xs) : okv fr' x = okv fr x := by
  cases x with
  | tmp t => simp only [okv, hg t hx]
  | _ => rfl
theorem Agree.sub {xs ys : List Operand} (hg : Agree fr fr' xs) (h : ∀ x ∈ ys, x ∈ xs) : Agree fr fr' ys := fun t ht => hg t (h _ ht)

theorem Agree.oks {xs : List Operand} (hg : Agree fr fr' xs) : ∀ {ys : List Operand}, (∀ x ∈ ys, x ∈ xs) → okvs fr ys → okvs fr' ys
  | [], _, _ => trivial
  | y :: ys, h, hk => ⟨by rw [hg.ok (h y (by simp))]; exact hk.1, Agree.oks hg (fun x hx => h x (by simp [hx])) hk.2⟩

theorem Agree.evs {xs : List Operand} (hg : Agree fr fr' xs) {ys : List Operand} (h : ∀ x ∈ ys, x ∈ xs) : ys.map (Ab.ev fr') = ys.map (Ab.ev fr) := List.map_congr_left fun y hy => hg.ev (h y hy)

theorem Agree.rowsV {xs : List Operand} (hg : Agree fr fr' xs) {ps : List (Nat × Operand)} (h : ∀ x ∈ ps, x.2 ∈ xs) : Ab.rowsV fr' ps = Ab.rowsV fr ps := List.map_congr_left fun y hy => by rw [hg.ev (h y hy)]

theorem Agree.rowsOkV {xs : List Operand} (hg : Agree fr fr' xs) {z : Nat} : ∀ {ps : List (Nat × Operand)} {n : Nat}, (∀ x ∈ ps, x.2 ∈ xs) → Ab.rowsOkV fr z n ps → Ab.rowsOkV fr' z n ps
  | [], _, _, _ => trivial
  | (i, x) :: ps, n, h, hk => by
    have e1 := hg.ev (h (i, x) (by simp))
    have e2 := hg.ok (h (i, x) (by simp))
    simp only at e1 e2
    refine ⟨hk.1, by rw [e2]; exact hk.2.1, by rw [e1]; exact hk.2.2.1, by rw [e1]; exact hk.2.2.2.1, by rw [e1]; exact hk.2.2.2.2.1, Agree.rowsOkV hg (fun x hx => h x (by simp [hx])) hk.2.2.2.2.2⟩

theorem Agree.buildV {xs : List Operand} (hg : Agree fr fr' xs) {t : TypeId} : ∀ {ps : List (Nat × Operand)} {cs : List PV}, (∀ x ∈ ps, x.2 ∈ xs) → Ab.buildV P fr' t ps cs = Ab.buildV P fr t ps cs
  | [], _, _ => rfl
  | (i, x) :: ps, cs, h => by
    have e1 := hg.ev (h (i, x) (by simp))
    simp only at e1
    simp only [Ab.buildV, e1]
    exact Agree.buildV hg fun x hx => h x (by simp [hx])

theorem Agree.buildOk {xs : List Operand} (hg : Agree fr fr' xs) {t : TypeId} {n : Nat} : ∀ {ps : List (Nat × Operand)}, (∀ x ∈ ps, x.2 ∈ xs) → Ab.buildOk P fr t n ps → Ab.buildOk P fr' t n ps
  | [], _, _ => trivial
  | (i, x) :: ps, h, hk => by
    have e1 := hg.ev (h (i, x) (by simp))
    have e2 := hg.ok (h (i, x) (by simp))
    simp only at e1 e2
    refine ⟨by rw [e2]; exact hk.1, by rw [e1]; exact hk.2.1, by rw [e1]; exact hk.2.2.1, by rw [e1]; exact hk.2.2.2.1, Agree.buildOk hg (fun x hx => h x (by simp [hx])) hk.2.2.2.2⟩

theorem Agree.bound {xs : List Operand} (hg : Agree fr fr' xs) {x : Option Operand} (h : ∀ y, x = some y → y ∈ xs) (d : Nat) : Ab.bound fr' d x = Ab.bound fr d x := by
  cases x with
  | none => rfl
  | some y => simp only [Ab.bound, hg.ev (h y rfl)]
theorem Agree.boundOk {xs : List Operand} (hg : Agree fr fr' xs) {x : Option Operand} (h : ∀ y, x = some y → y ∈ xs) : Ab.boundOk fr' x = Ab.boundOk fr x := by
  cases x with
  | none => rfl
  | some y => simp only [Ab.boundOk, hg.ev (h y rfl), hg.ok (h y rfl)]

theorem quiet_congr {op : Op} (hg : Agree fr fr' op.operands.toList) (hv : vok P fr H op) : vok P fr' H op ∧ vop P fr' H op = vop P fr H op := by
  cases op <;> try exact hv.elim
  case move x => have e := hg.ev (x := x) (by simp [Op.operands]); have k := hg.ok (x := x) (by simp [Op.operands]); simp only [vok, vop, e, k] at *; exact ⟨hv, trivial⟩
  case assign x => have e := hg.ev (x := x) (by simp [Op.operands]); have k := hg.ok (x := x) (by simp [Op.operands]); simp only [vok, vop, e, k] at *; exact ⟨hv, trivial⟩
  case nilCheck x => have e := hg.ev (x := x) (by simp [Op.operands]); have k := hg.ok (x := x) (by simp [Op.operands]); simp only [vok, vop, e, k] at *; exact ⟨hv, trivial⟩
  case pick x y z =>
    have e1 := hg.ev (x := x) (by simp [Op.operands]); have k1 := hg.ok (x := x) (by simp [Op.operands])
    have e2 := hg.ev (x := y) (by simp [Op.operands]); have k2 := hg.ok (x := y) (by simp [Op.operands])
    have e3 := hg.ev (x := z) (by simp [Op.operands]); have k3 := hg.ok (x := z) (by simp [Op.operands])
    simp only [vok, vop, e1, e2, e3, k1, k2, k3] at *; exact ⟨hv, trivial⟩
  case load t x => have e := hg.ev (x := x) (by simp [Op.operands]); have k := hg.ok (x := x) (by simp [Op.operands]); simp only [vok, vop, e, k] at *; exact ⟨hv, trivial⟩
  case binOp op t x y u =>
    have e1 := hg.ev (x := x) (by simp [Op.operands]); have k1 := hg.ok (x := x) (by simp [Op.operands])
    have e2 := hg.ev (x := y) (by simp [Op.operands]); have k2 := hg.ok (x := y) (by simp [Op.operands])
    simp only [vok, vop, e1, e2, k1, k2] at *; exact ⟨hv, trivial⟩
  case unOp op t x => have e := hg.ev (x := x) (by simp [Op.operands]); have k := hg.ok (x := x) (by simp [Op.operands]); simp only [vok, vop, e, k] at *; exact ⟨hv, trivial⟩
  case convert s t x => have e := hg.ev (x := x) (by simp [Op.operands]); have k := hg.ok (x := x) (by simp [Op.operands]); simp only [vok, vop, e, k] at *; exact ⟨hv, trivial⟩
  case fieldAddr t x f => have e := hg.ev (x := x) (by simp [Op.operands]); have k := hg.ok (x := x) (by simp [Op.operands]); simp only [vok, vop, e, k] at *; exact ⟨hv, trivial⟩
  case field t x f => have e := hg.ev (x := x) (by simp [Op.operands]); have k := hg.ok (x := x) (by simp [Op.operands]); simp only [vok, vop, e, k] at *; exact ⟨hv, trivial⟩
  case extract x i => have e := hg.ev (x := x) (by simp [Op.operands]); have k := hg.ok (x := x) (by simp [Op.operands]); simp only [vok, vop, e, k] at *; exact ⟨hv, trivial⟩
  case indexAddr t x y =>
    have e1 := hg.ev (x := x) (by simp [Op.operands]); have k1 := hg.ok (x := x) (by simp [Op.operands])
    have e2 := hg.ev (x := y) (by simp [Op.operands]); have k2 := hg.ok (x := y) (by simp [Op.operands])
    simp only [vok, vop, e1, e2, k1, k2] at *; exact ⟨hv, trivial⟩
  case index t x y =>
    have e1 := hg.ev (x := x) (by simp [Op.operands]); have k1 := hg.ok (x := x) (by simp [Op.operands])
    have e2 := hg.ev (x := y) (by simp [Op.operands]); have k2 := hg.ok (x := y) (by simp [Op.operands])
    simp only [vok, vop, e1, e2, k1, k2] at *; exact ⟨hv, trivial⟩
  case slice t x l hi mx =>
    have e1 := hg.ev (x := x) (by simp [Op.operands]); have k1 := hg.ok (x := x) (by simp [Op.operands])
    have hl : ∀ y, l = some y → y ∈ (Op.slice t x l hi mx).operands.toList := fun y e => by subst e; simp [Op.operands]
    have hh : ∀ y, hi = some y → y ∈ (Op.slice t x l hi mx).operands.toList := fun y e => by subst e; simp [Op.operands]
    have e2 := hg.bound hl 0
    have e3 := hg.bound hh (lenV H (ev fr x))
    have e4 := hg.boundOk hl
    have e5 := hg.boundOk hh
    simp only [vok, vop, e1, k1, e2, e3, e4, e5] at *
    exact ⟨hv, trivial⟩
  case build t ps =>
    have hm : ∀ x ∈ ps.toList, x.2 ∈ (Op.build t ps).operands.toList := fun x hx => by simp only [Op.operands, List.mem_map]; exact ⟨x, hx, rfl⟩
    obtain ⟨cs, h1, h2, h3, h4⟩ := hv
    exact ⟨⟨cs, h1, h2, h3, hg.buildOk hm h4⟩, by simp only [vop, hg.buildV hm]⟩
  case makeFunc f first caps =>
    cases f <;> try exact hv.elim
    rename_i f
    have hm : ∀ x ∈ caps.toList, x ∈ (Op.makeFunc (.func f) first caps).operands.toList := fun x hx => by simp [Op.operands]; exact .inr (by simpa using hx)
    obtain ⟨h1, h2⟩ := hv
    exact ⟨⟨h1, hg.oks hm h2⟩, by simp only [vop, hg.evs hm]⟩
  case call c =>
    simp only [vok, vop] at hv ⊢
    cases hl : isLen c with
    | none => rw [hl] at hv; exact hv.elim
    | some xt =>
      obtain ⟨x, t⟩ := xt
      have hm : x ∈ (Op.call c).operands.toList := by
        obtain ⟨callee, args, argTypes⟩ := c
        unfold isLen at hl
        simp only at hl
        split at hl
        · simp only [Option.some.injEq, Prod.mk.injEq] at hl
          obtain ⟨rfl, rfl⟩ := hl
          rename_i e1 e2
          simp [Op.operands, Call.operands, e1]
        · cases hl
      have e := hg.ev hm
      have k := hg.ok hm
      rw [hl] at hv
      simp only [e, k]
      exact ⟨hv, trivial⟩

theorem pre_congr {k0 : Nat} {op : Op} {pv : PV} {new : List (Option Obj)} (hg : Agree fr fr' op.operands.toList) (hp : PreStep P fr H k0 op pv new) : PreStep P fr' H k0 op pv new := by
  cases hp with
  | quiet hv =>
    obtain ⟨h1, h2⟩ := quiet_congr hg hv
    rw [← h2]
    exact .quiet h1
  | alloc hz h1 => exact .alloc hz h1
  | @box t x hx h1 =>
    have e := hg.ev (x := x) (by simp [Op.operands]); have k := hg.ok (x := x) (by simp [Op.operands])
    rw [← e]
    exact .box (by rw [k]; exact hx) (by rw [e]; exact h1)
  | @buildSlice t e n ps he hz hn hb hzero hk =>
    have hm : ∀ x ∈ ps, x.2 ∈ (Op.buildSlice t n ps.toArray).operands.toList := fun x hx => by simp only [Op.operands, List.mem_map]; exact ⟨x, hx, rfl⟩
    rw [← hg.rowsV hm]
    exact .buildSlice he hz hn hb hzero (hg.rowsOkV hm hk)
  | @makeSlice t e l c zs he hzs hzl hno hone h1 h2 i1 i2 b0 b1 b2 b3 =>
    have e1 := hg.ev (x := l) (by simp [Op.operands]); have k1 := hg.ok (x := l) (by simp [Op.operands])
    have e2 := hg.ev (x := c) (by simp [Op.operands]); have k2 := hg.ok (x := c) (by simp [Op.operands])
    rw [← e1]
    exact .makeSlice he hzs hzl hno hone (by rw [k1]; exact h1) (by rw [k2]; exact h2) (by rw [e1]; exact i1) (by rw [e2]; exact i2) (by rw [e1]; exact b0) (by rw [e1, e2]; exact b1) (by rw [e2]; exact b2) (by rw [e2]; exact b3)
  | @append s x t t' e ht hs hx hev he hz hzok hsrc hone hb h63 =>
    have e1 := hg.ev (x := s) (by simp [Op.operands, Call.operands]); have k1 := hg.ok (x := s) (by simp [Op.operands, Call.operands])
    have e2 := hg.ev (x := x) (by simp [Op.operands, Call.operands]); have k2 := hg.ok (x := x) (by simp [Op.operands, Call.operands])
    rw [← e2]
    exact .append ht (by rw [k1]; exact hs) (by rw [k2]; exact hx) (by rw [e1]; exact hev) he hz hzok (by rw [e2]; exact hsrc) (by rw [e2]; exact hone) (by rw [e2]; exact hb) (by rw [e2]; exact h63)
  | @call y xs ts f caps args res Hout hy hxs hev hargs hf hno hbox hfl hwh harr =>
    have hm : ∀ x ∈ xs, x ∈ (Op.call { callee := .value y, args := xs.toArray, argTypes := ts }).operands.toList := fun x hx => by simp [Op.operands, Call.operands, hx]
    have e1 := hg.ev (x := y) (by simp [Op.operands, Call.operands]); have k1 := hg.ok (x := y) (by simp [Op.operands, Call.operands])
    exact .call (by rw [k1]; exact hy) (hg.oks hm hxs) (by rw [e1]; exact hev) (by rw [hg.evs hm]; exact hargs) hf hno hbox hfl hwh harr

end Go.Ab
