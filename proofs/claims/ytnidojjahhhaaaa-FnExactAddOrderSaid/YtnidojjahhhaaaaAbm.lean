/- The operations that come up in whatever order: one relation for all of them, and that it hangs on the operands alone. No condition. -/
import Derived.Test.YtnidojjahhhaaaaAbp
import Derived.Lib.ConvBytes
import Derived.Laws.BytesArg
namespace Go.Ab
variable {P : Program} {A A' : Nat → Prop} {m m' : OMap} {h h' : OFun} {w w' : World} {H : Heap} {fr fr' : Fr} {a : Act}

/-- Operation op, in the plain state (fr, H), yields pv and the new own objects 'new' (under the numbers from k0 on), and turns nothing else. -/
inductive PreStep (P : Program) (fr : Fr) (H : Heap) (k0 : Nat) : Op → PV → List (Option Obj) → Prop
  | quiet {op : Op} (h : vok P fr H op) : PreStep P fr H k0 op (vop P fr H op) []
  | alloc {t : TypeId} {cs : List PV} (hz : zeroT P t = some cs) (h1 : cs.all oneC = true) : PreStep P fr H k0 (.alloc t) (.pb k0 0) [some (.box cs)]
  | box {t : TypeId} {x : Operand} (hx : okv fr x) (h1 : (flatV (ev fr x)).all oneC = true) : PreStep P fr H k0 (.box t x) (.pb k0 0) [some (.box (flatV (ev fr x)))]
  | buildSlice {t e : TypeId} {n : Nat} {ps : List (Nat × Operand)} (he : elemT P t = some e) (hz : 0 < sizeT P e) (hn : n = ps.length) (hb : n * sizeT P e ≤ 16777216) (hzero : (zeroT P e).isSome = true) (hk : rowsOkV fr (sizeT P e) 0 ps) :
      PreStep P fr H k0 (.buildSlice t n ps.toArray) (bif n == 0 then .nils else .sf k0 (sizeT P e)) (bif n == 0 then [] else [some (.arr (sizeT P e) (rowsV fr ps))])
  | makeSlice {t e : TypeId} {l c : Operand} {zs : List PV} (he : elemT P t = some e) (hzs : zeroT P e = some zs) (hzl : zs.length = sizeT P e) (hno : zs.all noOwnA = true) (hone : zs.all oneC = true)
      (h1 : okv fr l) (h2 : okv fr c) (i1 : isInt (ev fr l)) (i2 : isInt (ev fr c)) (b0 : 0 ≤ intV (ev fr l)) (b1 : intV (ev fr l) ≤ intV (ev fr c))
      (b2 : bytesT P e * intV (ev fr c) ≤ 140737488355328) (b3 : intV (ev fr c) ≤ 9223372036854775807) :
      PreStep P fr H k0 (.makeSlice t l c) (.sf k0 (sizeT P e)) [some (.arr (sizeT P e) (List.replicate (intV (ev fr l)).toNat zs))]
  | bytes {s t e : TypeId} {x : Operand} {l : List UInt8} (hx : okv fr x) (hev : ev fr x = .str l) (hs : strT P s = true) (he : elemT P t = some e) (hk : kindT P e = some .u8) : PreStep P fr H k0 (.convert s t x) (.sl 1 (bytesV l)) []
  | text {s t e : TypeId} {x : Operand} (hx : okv fr x) (hn : ∀ l, ev fr x ≠ .str l) (he : elemT P s = some e) (hk : kindT P e = some .u8) (ht : strT P t = true) (hsrc : srcOk H 1 (ev fr x)) (hb : ∀ r ∈ srcRows H (ev fr x), byteC r = true) :
      PreStep P fr H k0 (.convert s t x) (.str ((srcRows H (ev fr x)).map byteV)) []
  | append {s x : Operand} {t t' e : TypeId} (ht : (elemT P t').isSome = true ∨ strT P t' = true) (hs : okv fr s) (hx : okv fr x) (hev : ev fr s = .nils) (he : elemT P t = some e) (hz : 0 < sizeT P e) (hzok : zokT P e = true)
      (hsrc : srcOk H (sizeT P e) (ev fr x)) (hone : rowsOne (srcRows H (ev fr x))) (hb : (srcRows H (ev fr x)).length * bytesT P e ≤ 140737488355328) (h63 : (srcRows H (ev fr x)).length ≤ 9223372036854775807) :
      PreStep P fr H k0 (.call { callee := .builtin .append, args := #[s, x], argTypes := #[t, t'] }) (.sf k0 (sizeT P e)) [some (.arr (sizeT P e) (srcRows H (ev fr x)))]
  | call {y : Operand} {xs : List Operand} {ts : Array TypeId} {f : FuncId} {caps args : List PV} {res : PV} {Hout : Heap} (hy : okv fr y) (hxs : okvs fr xs) (hev : ev fr y = .fn f caps) (hargs : args = xs.map (ev fr) ++ caps)
      (hf : HFn P f (args.map (imm H)) [] res Hout) (hno : (args.map (imm H)).all noOwn = true) (hbox : args.all (boxOk H) = true) (hfl : args.all noOwn = true ∨ flatP res = true ∧ flatO Hout)
      (hwh : whole Hout.length res = true) (harr : arrO Hout = true) : PreStep P fr H k0 (.call { callee := .value y, args := xs.toArray, argTypes := ts }) (shift k0 res) Hout

theorem elemT_isSome {t : TypeId} (h : (elemT P t).isSome = true ∨ strT P t = true) : (∃ e', P.underlying t = some (.slice e')) ∨ P.underlying t = some .string := by
  rcases h with h | h
  · obtain ⟨e, he⟩ := Option.isSome_iff_exists.1 h
    exact .inl ⟨e, elemT_spec he⟩
  · exact .inr (strT_spec h)

theorem qsem_append {o : Oper} {k0 : Nat} {s x : Operand} {t t' e : TypeId} (ho : o.op = .call { callee := .builtin .append, args := #[s, x], argTypes := #[t, t'] }) (ht : (elemT P t').isSome = true ∨ strT P t' = true) (hs : okv fr s) (hx : okv fr x)
    (hev : ev fr s = .nils) (he : elemT P t = some e) (hz : 0 < sizeT P e) (hzok : zokT P e = true) (hsrc : srcOk H (sizeT P e) (ev fr x)) (hone : rowsOne (srcRows H (ev fr x)))
    (hb : (srcRows H (ev fr x)).length * bytesT P e ≤ 140737488355328) (h63 : (srcRows H (ev fr x)).length ≤ 9223372036854775807) :
    QSem P o fr H k0 (.sf k0 (sizeT P e)) [some (.arr (sizeT P e) (srcRows H (ev fr x)))] := fun A m h w a hA hC hsub hO hk => by
  have hk0 : h k0 = none := by simpa using hk 0 (by simp)
  obtain ⟨news, hsr⟩ := src_rep (P := P) hsub hC hz (elemT_isSome ht) (hO.ev hx) hsrc hone
  have hrs := hO.ev hs
  rw [hev] at hrs
  obtain ⟨ao, hao⟩ := hrs.nilsI
  obtain ⟨v, w', m', hrun, hN, hr⟩ := append_new (ty := o.type) hA hC hk0 he hzok hsr ao hb h63
  refine yields_value (exec_append ho (by rw [hao]; exact hrun)) ⟨A, m', ?_⟩
  rw [addO_one]
  exact ⟨hN, hr⟩

theorem qsem_bytes {o : Oper} {k0 : Nat} {s t e : TypeId} {x : Operand} {l : List UInt8} (ho : o.op = .convert s t x) (hx : okv fr x) (hev : ev fr x = .str l) (hs : strT P s = true) (he : elemT P t = some e) (hk : kindT P e = some .u8) :
    QSem P o fr H k0 (.sl 1 (bytesV l)) [] := fun A m h w a hA hC _ hO _ => by
  have hr := hO.ev hx
  rw [hev] at hr
  obtain ⟨b, hb, rfl⟩ := hr.str
  have hrun := Lib.run_convert_string_bytes (P := P) w s t e b (strT_spec hs) (elemT_spec he) (kindT_spec hk)
  have hl : b.data.toList.length = b.size := by simp
  have hold : ∀ j, j < w.heap.size → (Lib.bytesWorld w e b).heap[j]? = w.heap[j]? := fun j hj => Lib.bytesWorld_at_old w e b j hj
  have hsz := Lib.bytesWorld_size w e b
  have hmv : Moved (fun _ => False) w (Lib.bytesWorld w e b) := ⟨rfl, rfl, rfl, by omega, fun j hj _ => hold j hj⟩
  refine yields_value (v := .slice (some ⟨w.heap.size, 0, none⟩) b.size (grownCap w b.size 0 e)) (w' := Lib.bytesWorld w e b) ?_ ⟨fun j => A j ∨ j = w.heap.size, m, ?_, ?_⟩
  · simp only [execOp, ho, hb, Sem.run_bind, hrun, Result.andThen_ok]
    rfl
  · rw [addO_nil]
    refine ⟨hmv, fun _ h => .inl h, fun j hj => hj.imp id fun e => by omega, fun j hj => ?_, ⟨fun k o hk => ?_, hC.inj⟩, Shaped.refl _ _ _, fun j hj => .inl hj⟩
    · rcases hj with hj | hj
      · have := hA j hj; omega
      · omega
    · obtain ⟨ob, C, hm, hob⟩ := hC.at_ k o hk
      refine ⟨ob, C, hm, hob.mono (fun _ h => .inl h) (fun j hj => hold j (hA j hj)) (Shaped.refl _ _ _) hmv.size fun j hj => ?_⟩
      have hlt := hC.lt ⟨k, o, C, hk, by rw [hm, hj]⟩
      exact ⟨fun h => h.elim hlt.2 fun e => by omega, hold j hlt.1⟩
  · rw [addO_nil]
    have hlen : (bytesV b.data.toList).length = b.size := by simp [bytesV]
    have hrow : ∀ (i : Nat) (r : List PV), (bytesV b.data.toList)[i]? = some r → i < b.size ∧ r = [.int .u8 ((b.data.toList.getD i 0).toNat : Nat)] := fun i r hr => by
      simp only [bytesV, List.getElem?_map] at hr
      cases hi : b.data.toList[i]? with
      | none => rw [hi] at hr; cases hr
      | some y =>
        rw [hi] at hr
        cases hr
        exact ⟨by rw [← hl]; exact (List.getElem?_eq_some_iff.1 hi).1, by rw [List.getD_eq_getElem?_getD, hi]; rfl⟩
    have := RepI.sl (A := fun j => A j ∨ j = w.heap.size) (w := Lib.bytesWorld w e b) 1 (bytesV b.data.toList) w.heap.size 0 (grownCap w b.size 0 e) (fun i _ => .int .u8 (b.data.toList.getD i 0).toNat) (.inr rfl) (by rw [hlen]; exact grownCap_ge _ _ _ _)
      (fun i r hr => by rw [(hrow i r hr).2]; rfl)
      (fun i j r c hr hc => by
        obtain ⟨h1, rfl⟩ := hrow i r hr
        cases j with
        | zero => rw [Nat.zero_add, Nat.mul_one, Nat.add_zero]; exact Lib.bytesWorld_cell w e b i h1
        | succ j => simp at hc)
      (fun i j r c hr hc => by
        obtain ⟨h1, rfl⟩ := hrow i r hr
        cases j with
        | zero => cases hc; exact .int _ _
        | succ j => simp at hc)
    rw [hlen] at this
    exact .imm this

theorem byteC_spec {r : List PV} (h : byteC r = true) : r = [.int .u8 ((byteV r).toNat : Nat)] := by
  unfold byteC at h
  split at h
  · rename_i n
    simp only [Bool.and_eq_true, decide_eq_true_eq] at h
    have : ((UInt8.ofNat n.toNat).toNat : Int) = n := by
      rw [UInt8.toNat_ofNat']
      have : n.toNat % 2 ^ 8 = n.toNat := Nat.mod_eq_of_lt (by omega)
      omega
    simp only [byteV, this]
  · cases h

theorem qsem_text {o : Oper} {k0 : Nat} {s t e : TypeId} {x : Operand} (ho : o.op = .convert s t x) (hx : okv fr x) (hn : ∀ l, ev fr x ≠ .str l) (he : elemT P s = some e) (hk : kindT P e = some .u8) (ht : strT P t = true) (hsrc : srcOk H 1 (ev fr x))
    (hb : ∀ r ∈ srcRows H (ev fr x), byteC r = true) : QSem P o fr H k0 (.str ((srcRows H (ev fr x)).map byteV)) [] := fun A m h w a hA hC hs hO _ => by
  have hr := hO.ev hx
  have hone : rowsOne (srcRows H (ev fr x)) := fun r hr => by rw [byteC_spec (hb r hr)]; rfl
  obtain ⟨news, hsr⟩ := src_rep (P := P) (tx := s) hs hC (by decide) (.inl ⟨e, elemT_spec he⟩) hr hsrc hone
  have hslice : ∃ ao n cap, a.eval x = .slice ao n cap := by
    cases hev : ev fr x <;> simp only [hev, srcOk] at hsrc <;> rw [hev] at hr
    case nils => obtain ⟨ao, h0⟩ := hr.nilsI; exact ⟨ao, 0, 0, h0⟩
    case str l => exact absurd hev (hn l)
    case sl z rows =>
      generalize a.eval x = v at hr
      cases hr with
      | imm hi => cases hi with
        | slE => exact ⟨_, _, _, rfl⟩
        | sl => exact ⟨_, _, _, rfl⟩
    case sf k z =>
      generalize a.eval x = v at hr
      cases hr with
      | imm hi => cases hi
      | sfN => exact ⟨_, _, _, rfl⟩
      | sf => exact ⟨_, _, _, rfl⟩
    case so k z lo len =>
      generalize a.eval x = v at hr
      cases hr with
      | imm hi => cases hi
      | so0 => exact ⟨_, _, _, rfl⟩
      | soE => exact ⟨_, _, _, rfl⟩
      | so => exact ⟨_, _, _, rfl⟩
  have hrun : ∃ u, (convert s t (a.eval x)).run P w = .ok (.string u) w ∧ u.data.toList = (srcRows H (ev fr x)).map byteV := by
    have hnl : news.length = (srcRows H (ev fr x)).length := by rw [hsr.src.newsLen, Nat.mul_one]
    obtain ⟨ao, n, cap, hav⟩ := hslice
    have hnews : news = ((srcRows H (ev fr x)).map fun r => ((byteV r).toNat : Int)).map (Value.int .u8) := by
      refine List.ext_getElem? fun j => ?_
      cases hj : (srcRows H (ev fr x))[j]? with
      | none =>
        have : (srcRows H (ev fr x)).length ≤ j := List.getElem?_eq_none_iff.1 hj
        rw [List.getElem?_eq_none (by omega), List.getElem?_eq_none (by simpa using this)]
      | some r =>
        have hby := byteC_spec (hb r (List.mem_of_getElem? hj))
        have hj' := hj
        rw [hby] at hj'
        obtain ⟨u, hu, hru⟩ := hsr.rep j 0 _ _ hj' rfl
        rw [Nat.mul_one, Nat.add_zero] at hu
        cases hru
        rw [hu]
        simp [hj]
    have hlen : n = (srcRows H (ev fr x)).length := by
      have := hsr.src.len w
      rw [hav] at this
      have e : (Builtin.lenOf (.slice ao n cap)).run P w = .ok n w := rfl
      rw [e] at this
      injection this
    rw [hav, run_convert_bytes_string w s t e ao n cap (elemT_spec he) (kindT_spec hk) (strT_spec ht)]
    cases ao with
    | none =>
      have hcells := hsr.src.cells
      rw [hav, Builtin.firstCells, Sem.run_pure] at hcells
      have h0 : news = [] := by
        injection hcells with h1
        have := congrArg Array.toList h1
        simpa using this.symm
      have h0' : srcRows H (ev fr x) = [] := List.eq_nil_of_length_eq_zero (by rw [← hnl, h0]; rfl)
      exact ⟨ByteArray.empty, by simp [Conv.bytesToString], by rw [h0']; rfl⟩
    | some ad =>
      have hcells := hsr.src.cells
      rw [hav, Builtin.firstCells, Nat.mul_one, ← hlen, hnews] at hcells
      refine ⟨_, run_bytesToString w ad n cap _ hcells, ?_⟩
      rw [foldl_push_bytes]
      simp only [ByteArray.empty, ByteArray.emptyWithCapacity, Array.toList_append, List.map_map]
      show [] ++ _ = _
      rw [List.nil_append]
      exact List.map_congr_left fun r _ => by simp
  obtain ⟨u, hu, hul⟩ := hrun
  refine yields_value (v := .string u) (w' := w) ?_ ⟨A, m, ?_, ?_⟩
  · simp only [execOp, ho, Sem.run_bind, hu, Result.andThen_ok]
    rfl
  · rw [addO_nil]
    exact .refl hA hC
  · exact .imm (.str _ u hul)

theorem pre_sem {o : Oper} {k0 : Nat} {pv : PV} {new : List (Option Obj)} (hp : PreStep P fr H k0 o.op pv new) : QSem P o fr H k0 pv new := by
  generalize ho : o.op = op at hp
  cases hp with
  | quiet hv => subst ho; exact qsem_quiet hv
  | alloc hz h1 => exact qsem_alloc ho hz h1
  | box hx h1 => exact qsem_box ho hx h1
  | buildSlice he hz hn hb hzero hk => exact qsem_buildSlice ho he hz hn hb hzero hk
  | makeSlice he hzs hzl hno hone h1 h2 i1 i2 b0 b1 b2 b3 => exact qsem_makeSlice ho he hzs hzl hno hone h1 h2 i1 i2 b0 b1 b2 b3
  | bytes hx hev hs he hk => exact qsem_bytes ho hx hev hs he hk
  | text hx hn he hk ht hsrc hb => exact qsem_text ho hx hn he hk ht hsrc hb
  | append ht hs hx hev he hz hzok hsrc hone hb h63 => exact qsem_append ho ht hs hx hev he hz hzok hsrc hone hb h63
  | call hy hxs hev hargs hf hno hbox hfl hwh harr => exact qsem_call ho hy hxs hev hargs hf hno hbox hfl hwh harr

/-! ### It hangs on the operands alone -/

/-- fr and fr' hold the same in the slots that these operands name. -/
def Agree (fr fr' : Fr) (xs : List Operand) : Prop := ∀ t, .tmp t ∈ xs → slot fr t = slot fr' t

/-- What the operands look at lies in the frame's own slots. -/
theorem agree_cut {n : Nat} {xs : List Operand} (h : xs.all (opdLt n) = true) : Agree fr (cutF n fr) xs := fun t ht => by
  have := List.all_eq_true.1 h _ ht
  rw [slot_cut, if_pos (by simpa [opdLt] using this)]

theorem Agree.ev {xs : List Operand} (hg : Agree fr fr' xs) {x : Operand} (hx : x ∈ xs) : ev fr' x = ev fr x := by
  cases x with
  | tmp t => simp only [Ab.ev, hg t hx]
  | _ => rfl
theorem Agree.ok {xs : List Operand} (hg : Agree fr fr' xs) {x : Operand} (hx : x ∈ xs) : okv fr' x = okv fr x := by
  cases x with
  | tmp t => simp only [okv, hg t hx]
  | _ => rfl
theorem Agree.sub {xs ys : List Operand} (hg : Agree fr fr' xs) (h : ∀ x ∈ ys, x ∈ xs) : Agree fr fr' ys := fun t ht => hg t (h _ ht)

theorem Agree.oks {xs : List Operand} (hg : Agree fr fr' xs) : ∀ {ys : List Operand}, (∀ x ∈ ys, x ∈ xs) → okvs fr ys → okvs fr' ys
  | [], _, _ => trivial
  | y :: ys, h, hk => ⟨by rw [hg.ok (h y (by simp))]; exact hk.1, Agree.oks hg (fun x hx => h x (by simp [hx])) hk.2⟩

theorem Agree.evs {xs : List Operand} (hg : Agree fr fr' xs) {ys : List Operand} (h : ∀ x ∈ ys, x ∈ xs) : ys.map (Ab.ev fr') = ys.map (Ab.ev fr) := List.map_congr_left fun y hy => hg.ev (h y hy)

theorem Agree.rowsV {xs : List Operand} (hg : Agree fr fr' xs) {ps : List (Nat × Operand)} (h : ∀ x ∈ ps, x.2 ∈ xs) : Ab.rowsV fr' ps = Ab.rowsV fr ps := List.map_congr_left fun y hy => by rw [hg.ev (h y hy)]

theorem Agree.rowsOkV {xs : List Operand} (hg : Agree fr fr' xs) {z : Nat} : ∀ {ps : List (Nat × Operand)} {n : Nat}, (∀ x ∈ ps, x.2 ∈ xs) → Ab.rowsOkV fr z n ps → Ab.rowsOkV fr' z n ps
  | [], _, _, _ => trivial
  | (i, x) :: ps, n, h, hk => by
    have e1 := hg.ev (h (i, x) (by simp))
    have e2 := hg.ok (h (i, x) (by simp))
    simp only at e1 e2
    refine ⟨hk.1, by rw [e2]; exact hk.2.1, by rw [e1]; exact hk.2.2.1, by rw [e1]; exact hk.2.2.2.1, by rw [e1]; exact hk.2.2.2.2.1, Agree.rowsOkV hg (fun x hx => h x (by simp [hx])) hk.2.2.2.2.2⟩

theorem Agree.buildV {xs : List Operand} (hg : Agree fr fr' xs) {t : TypeId} : ∀ {ps : List (Nat × Operand)} {cs : List PV}, (∀ x ∈ ps, x.2 ∈ xs) → Ab.buildV P fr' t ps cs = Ab.buildV P fr t ps cs
  | [], _, _ => rfl
  | (i, x) :: ps, cs, h => by
    have e1 := hg.ev (h (i, x) (by simp))
    simp only at e1
    simp only [Ab.buildV, e1]
    exact Agree.buildV hg fun x hx => h x (by simp [hx])

theorem Agree.buildOk {xs : List Operand} (hg : Agree fr fr' xs) {t : TypeId} {n : Nat} : ∀ {ps : List (Nat × Operand)}, (∀ x ∈ ps, x.2 ∈ xs) → Ab.buildOk P fr t n ps → Ab.buildOk P fr' t n ps
  | [], _, _ => trivial
  | (i, x) :: ps, h, hk => by
    have e1 := hg.ev (h (i, x) (by simp))
    have e2 := hg.ok (h (i, x) (by simp))
    simp only at e1 e2
    refine ⟨by rw [e2]; exact hk.1, by rw [e1]; exact hk.2.1, by rw [e1]; exact hk.2.2.1, by rw [e1]; exact hk.2.2.2.1, Agree.buildOk hg (fun x hx => h x (by simp [hx])) hk.2.2.2.2⟩

theorem Agree.bound {xs : List Operand} (hg : Agree fr fr' xs) {x : Option Operand} (h : ∀ y, x = some y → y ∈ xs) (d : Nat) : Ab.bound fr' d x = Ab.bound fr d x := by
  cases x with
  | none => rfl
  | some y => simp only [Ab.bound, hg.ev (h y rfl)]
theorem Agree.boundOk {xs : List Operand} (hg : Agree fr fr' xs) {x : Option Operand} (h : ∀ y, x = some y → y ∈ xs) : Ab.boundOk fr' x = Ab.boundOk fr x := by
  cases x with
  | none => rfl
  | some y => simp only [Ab.boundOk, hg.ev (h y rfl), hg.ok (h y rfl)]

theorem quiet_congr {op : Op} (hg : Agree fr fr' op.operands.toList) (hv : vok P fr H op) : vok P fr' H op ∧ vop P fr' H op = vop P fr H op := by
  cases op <;> try exact hv.elim
  case move x => have e := hg.ev (x := x) (by simp [Op.operands]); have k := hg.ok (x := x) (by simp [Op.operands]); simp only [vok, vop, e, k] at *; exact ⟨hv, trivial⟩
  case assign x => have e := hg.ev (x := x) (by simp [Op.operands]); have k := hg.ok (x := x) (by simp [Op.operands]); simp only [vok, vop, e, k] at *; exact ⟨hv, trivial⟩
  case nilCheck x => have e := hg.ev (x := x) (by simp [Op.operands]); have k := hg.ok (x := x) (by simp [Op.operands]); simp only [vok, vop, e, k] at *; exact ⟨hv, trivial⟩
  case pick x y z =>
    have e1 := hg.ev (x := x) (by simp [Op.operands]); have k1 := hg.ok (x := x) (by simp [Op.operands])
    have e2 := hg.ev (x := y) (by simp [Op.operands]); have k2 := hg.ok (x := y) (by simp [Op.operands])
    have e3 := hg.ev (x := z) (by simp [Op.operands]); have k3 := hg.ok (x := z) (by simp [Op.operands])
    simp only [vok, vop, e1, e2, e3, k1, k2, k3] at *; exact ⟨hv, trivial⟩
  case load t x => have e := hg.ev (x := x) (by simp [Op.operands]); have k := hg.ok (x := x) (by simp [Op.operands]); simp only [vok, vop, e, k] at *; exact ⟨hv, trivial⟩
  case binOp op t x y u =>
    have e1 := hg.ev (x := x) (by simp [Op.operands]); have k1 := hg.ok (x := x) (by simp [Op.operands])
    have e2 := hg.ev (x := y) (by simp [Op.operands]); have k2 := hg.ok (x := y) (by simp [Op.operands])
    simp only [vok, vop, e1, e2, k1, k2] at *; exact ⟨hv, trivial⟩
  case unOp op t x => have e := hg.ev (x := x) (by simp [Op.operands]); have k := hg.ok (x := x) (by simp [Op.operands]); simp only [vok, vop, e, k] at *; exact ⟨hv, trivial⟩
  case convert s t x => have e := hg.ev (x := x) (by simp [Op.operands]); have k := hg.ok (x := x) (by simp [Op.operands]); simp only [vok, vop, e, k] at *; exact ⟨hv, trivial⟩
  case fieldAddr t x f => have e := hg.ev (x := x) (by simp [Op.operands]); have k := hg.ok (x := x) (by simp [Op.operands]); simp only [vok, vop, e, k] at *; exact ⟨hv, trivial⟩
  case field t x f => have e := hg.ev (x := x) (by simp [Op.operands]); have k := hg.ok (x := x) (by simp [Op.operands]); simp only [vok, vop, e, k] at *; exact ⟨hv, trivial⟩
  case extract x i => have e := hg.ev (x := x) (by simp [Op.operands]); have k := hg.ok (x := x) (by simp [Op.operands]); simp only [vok, vop, e, k] at *; exact ⟨hv, trivial⟩
  case indexAddr t x y =>
    have e1 := hg.ev (x := x) (by simp [Op.operands]); have k1 := hg.ok (x := x) (by simp [Op.operands])
    have e2 := hg.ev (x := y) (by simp [Op.operands]); have k2 := hg.ok (x := y) (by simp [Op.operands])
    simp only [vok, vop, e1, e2, k1, k2] at *; exact ⟨hv, trivial⟩
  case index t x y =>
    have e1 := hg.ev (x := x) (by simp [Op.operands]); have k1 := hg.ok (x := x) (by simp [Op.operands])
    have e2 := hg.ev (x := y) (by simp [Op.operands]); have k2 := hg.ok (x := y) (by simp [Op.operands])
    simp only [vok, vop, e1, e2, k1, k2] at *; exact ⟨hv, trivial⟩
  case slice t x l hi mx =>
    have e1 := hg.ev (x := x) (by simp [Op.operands]); have k1 := hg.ok (x := x) (by simp [Op.operands])
    have hl : ∀ y, l = some y → y ∈ (Op.slice t x l hi mx).operands.toList := fun y e => by subst e; simp [Op.operands]
    have hh : ∀ y, hi = some y → y ∈ (Op.slice t x l hi mx).operands.toList := fun y e => by subst e; simp [Op.operands]
    have hm : ∀ y, mx = some y → y ∈ (Op.slice t x l hi mx).operands.toList := fun y e => by subst e; simp [Op.operands]
    have e2 := hg.bound hl 0
    have e3 := hg.bound hh (lenV H (ev fr x))
    have e4 := hg.boundOk hl
    have e5 := hg.boundOk hh
    have e6 := hg.bound hm (roomV H (ev fr x))
    have e7 := hg.boundOk hm
    simp only [vok, vop, e1, k1, e2, e3, e4, e5, e6, e7] at *
    exact ⟨hv, trivial⟩
  case build t ps =>
    have hm : ∀ x ∈ ps.toList, x.2 ∈ (Op.build t ps).operands.toList := fun x hx => by simp only [Op.operands, List.mem_map]; exact ⟨x, hx, rfl⟩
    obtain ⟨cs, h1, h2, h3, h4⟩ := hv
    exact ⟨⟨cs, h1, h2, h3, hg.buildOk hm h4⟩, by simp only [vop, hg.buildV hm]⟩
  case makeFunc f first caps =>
    cases f <;> try exact hv.elim
    rename_i f
    have hm : ∀ x ∈ caps.toList, x ∈ (Op.makeFunc (.func f) first caps).operands.toList := fun x hx => by simp [Op.operands]; exact .inr (by simpa using hx)
    obtain ⟨h1, h2⟩ := hv
    exact ⟨⟨h1, hg.oks hm h2⟩, by simp only [vop, hg.evs hm]⟩
  case call c =>
    simp only [vok, vop] at hv ⊢
    cases hl : isLen c with
    | none =>
      rw [hl] at hv
      simp only at hv
      cases hmm : isMM c with
      | none => rw [hmm] at hv; exact hv.elim
      | some bxy =>
        obtain ⟨b, x, y⟩ := bxy
        have hm : x ∈ (Op.call c).operands.toList ∧ y ∈ (Op.call c).operands.toList := by
          obtain ⟨callee, args, argTypes⟩ := c
          unfold isMM at hmm
          simp only at hmm
          split at hmm
          · rename_i e1
            simp only [Option.some.injEq, Prod.mk.injEq] at hmm
            obtain ⟨_, rfl, rfl⟩ := hmm
            simp only [Op.operands, Call.operands, Array.toList_append, List.mem_append, e1]
            simp
          · rename_i e1
            simp only [Option.some.injEq, Prod.mk.injEq] at hmm
            obtain ⟨_, rfl, rfl⟩ := hmm
            simp only [Op.operands, Call.operands, Array.toList_append, List.mem_append, e1]
            simp
          · cases hmm
        rw [hmm] at hv
        simp only [hg.ev hm.1, hg.ev hm.2, hg.ok hm.1, hg.ok hm.2]
        exact ⟨hv, trivial⟩
    | some xt =>
      obtain ⟨x, t⟩ := xt
      have hm : x ∈ (Op.call c).operands.toList := by
        obtain ⟨callee, args, argTypes⟩ := c
        unfold isLen at hl
        simp only at hl
        split at hl
        · simp only [Option.some.injEq, Prod.mk.injEq] at hl
          obtain ⟨rfl, rfl⟩ := hl
          rename_i e1 e2
          simp [Op.operands, Call.operands, e1]
        · cases hl
      have e := hg.ev hm
      have k := hg.ok hm
      rw [hl] at hv
      simp only [e, k]
      exact ⟨hv, trivial⟩

theorem pre_congr {k0 : Nat} {op : Op} {pv : PV} {new : List (Option Obj)} (hg : Agree fr fr' op.operands.toList) (hp : PreStep P fr H k0 op pv new) : PreStep P fr' H k0 op pv new := by
  cases hp with
  | quiet hv =>
    obtain ⟨h1, h2⟩ := quiet_congr hg hv
    rw [← h2]
    exact .quiet h1
  | alloc hz h1 => exact .alloc hz h1
  | @box t x hx h1 =>
    have e := hg.ev (x := x) (by simp [Op.operands]); have k := hg.ok (x := x) (by simp [Op.operands])
    rw [← e]
    exact .box (by rw [k]; exact hx) (by rw [e]; exact h1)
  | @buildSlice t e n ps he hz hn hb hzero hk =>
    have hm : ∀ x ∈ ps, x.2 ∈ (Op.buildSlice t n ps.toArray).operands.toList := fun x hx => by simp only [Op.operands, List.mem_map]; exact ⟨x, hx, rfl⟩
    rw [← hg.rowsV hm]
    exact .buildSlice he hz hn hb hzero (hg.rowsOkV hm hk)
  | @makeSlice t e l c zs he hzs hzl hno hone h1 h2 i1 i2 b0 b1 b2 b3 =>
    have e1 := hg.ev (x := l) (by simp [Op.operands]); have k1 := hg.ok (x := l) (by simp [Op.operands])
    have e2 := hg.ev (x := c) (by simp [Op.operands]); have k2 := hg.ok (x := c) (by simp [Op.operands])
    rw [← e1]
    exact .makeSlice he hzs hzl hno hone (by rw [k1]; exact h1) (by rw [k2]; exact h2) (by rw [e1]; exact i1) (by rw [e2]; exact i2) (by rw [e1]; exact b0) (by rw [e1, e2]; exact b1) (by rw [e2]; exact b2) (by rw [e2]; exact b3)
  | @bytes s t e x l hx hev hs he hk =>
    have e1 := hg.ev (x := x) (by simp [Op.operands]); have k1 := hg.ok (x := x) (by simp [Op.operands])
    exact .bytes (by rw [k1]; exact hx) (by rw [e1]; exact hev) hs he hk
  | @text s t e x hx hn he hk ht hsrc hb =>
    have e1 := hg.ev (x := x) (by simp [Op.operands]); have k1 := hg.ok (x := x) (by simp [Op.operands])
    rw [← e1]
    exact .text (by rw [k1]; exact hx) (by rw [e1]; exact hn) he hk ht (by rw [e1]; exact hsrc) (by rw [e1]; exact hb)
  | @append s x t t' e ht hs hx hev he hz hzok hsrc hone hb h63 =>
    have e1 := hg.ev (x := s) (by simp [Op.operands, Call.operands]); have k1 := hg.ok (x := s) (by simp [Op.operands, Call.operands])
    have e2 := hg.ev (x := x) (by simp [Op.operands, Call.operands]); have k2 := hg.ok (x := x) (by simp [Op.operands, Call.operands])
    rw [← e2]
    exact .append ht (by rw [k1]; exact hs) (by rw [k2]; exact hx) (by rw [e1]; exact hev) he hz hzok (by rw [e2]; exact hsrc) (by rw [e2]; exact hone) (by rw [e2]; exact hb) (by rw [e2]; exact h63)
  | @call y xs ts f caps args res Hout hy hxs hev hargs hf hno hbox hfl hwh harr =>
    have hm : ∀ x ∈ xs, x ∈ (Op.call { callee := .value y, args := xs.toArray, argTypes := ts }).operands.toList := fun x hx => by simp [Op.operands, Call.operands, hx]
    have e1 := hg.ev (x := y) (by simp [Op.operands, Call.operands]); have k1 := hg.ok (x := y) (by simp [Op.operands, Call.operands])
    exact .call (by rw [k1]; exact hy) (hg.oks hm hxs) (by rw [e1]; exact hev) (by rw [hg.evs hm]; exact hargs) hf hno hbox hfl hwh harr

end Go.Ab
