/- Slices that are made: what the operations yield, in whatever order they come up. No condition. -/
import Derived.Test.YtnidojjahhhaaaaAbi
namespace Go.Ab
variable {P : Program} {A A' : Nat → Prop} {m m' : OMap} {h h' : OFun} {w w' : World} {H : Heap} {fr : Fr} {a : Act}

theorem RepO.toI {c : PV} {v : Value} (hc : noOwnA c = true) (hr : RepO A m h w c v) : RepI A w c v := by
  cases hr with
  | imm hi => exact hi
  | _ => simp [noOwnA] at hc

/-- A new block that is no own object. -/
theorem newW_plain (hA : AOk A w) (hC : ConcO A m h w) (o : Go.Obj) : NewW A m h w A m h (w.alloc o) := by
  refine ⟨⟨rfl, rfl, rfl, by simp, fun _ hb _ => heap_alloc_lt hb⟩, fun _ h => h, fun _ h => .inl h, fun b hb => Nat.lt_of_lt_of_le (hA b hb) (by simp), ⟨fun k o' hk => ?_, hC.inj⟩, .refl _ _ _, fun _ h => .inl h⟩
  obtain ⟨ob, C, hm, ho⟩ := hC.at_ k o' hk
  refine ⟨ob, C, hm, ho.mono (fun _ h => h) (fun b hb => heap_alloc_lt (hA b hb)) (.refl _ _ _) (by simp) fun b hb => ?_⟩
  have := hC.lt ⟨k, o', C, hk, by rw [hm, hb]⟩
  exact ⟨this.2, heap_alloc_lt this.1⟩

theorem rowsOkV_mem {z : Nat} : ∀ {n : Nat} {ps : List (Nat × Operand)}, rowsOkV fr z n ps → ∀ (i : Nat) (x : Nat × Operand), ps[i]? = some x →
    x.1 = n + i ∧ okv fr x.2 ∧ (flatV (ev fr x.2)).length = z ∧ (flatV (ev fr x.2)).all noOwnA = true ∧ (flatV (ev fr x.2)).all oneC = true
  | _, [], _, i, x, hx => by simp at hx
  | n, (i0, y) :: r, hk, i, x, hx => by
    obtain ⟨h1, h2, h3, h4, h5, h6⟩ := hk
    cases i with
    | zero => cases hx; exact ⟨h1, h2, h3, h4, h5⟩
    | succ i =>
      obtain ⟨g1, g⟩ := rowsOkV_mem h6 i x hx
      exact ⟨by omega, g⟩

theorem fold_rows {z : Nat} (hz : 0 < z) : ∀ (n : Nat) (ps : List (Nat × Operand)) (cs : List PV), (∀ (i : Nat) (x : Nat × Operand), ps[i]? = some x → x.1 = n + i ∧ (flatV (ev fr x.2)).length = z) → (n + ps.length) * z ≤ cs.length →
    (∀ q, q < n * z → (ps.foldl (fun cs x => putAt cs (x.1 * z) (flatV (ev fr x.2))) cs)[q]? = cs[q]?) ∧
    (∀ (i j : Nat) (x : Nat × Operand), ps[i]? = some x → j < z → (ps.foldl (fun cs x => putAt cs (x.1 * z) (flatV (ev fr x.2))) cs)[(n + i) * z + j]? = (flatV (ev fr x.2))[j]?)
  | n, [], cs, _, _ => ⟨fun _ _ => rfl, fun i j x hx => by simp at hx⟩
  | n, x :: r, cs, hps, hl => by
    obtain ⟨e1, e2⟩ := hps 0 x (by simp)
    simp only [List.length_cons] at hl
    have hl1 : x.1 * z + (flatV (ev fr x.2)).length ≤ cs.length := by
      have : (n + 1) * z ≤ (n + (r.length + 1)) * z := Nat.mul_le_mul_right _ (by omega)
      rw [e1, e2, Nat.add_zero, ← Nat.succ_mul]
      exact Nat.le_trans this hl
    have hlen := putAt_length hl1
    obtain ⟨i1, i2⟩ := fold_rows hz (n + 1) r (putAt cs (x.1 * z) (flatV (ev fr x.2))) (fun i y hy => by
      obtain ⟨g1, g2⟩ := hps (i + 1) y (by simpa using hy)
      exact ⟨by omega, g2⟩) (by rw [hlen, show n + 1 + r.length = n + (r.length + 1) by omega]; exact hl)
    simp only [List.foldl_cons]
    refine ⟨fun q hq => ?_, fun i j y hy hj => ?_⟩
    · rw [i1 q (by rw [Nat.succ_mul]; omega), putAt_get hl1, if_neg (by rw [e1, Nat.add_zero]; omega)]
    · cases i with
      | zero =>
        simp only [List.getElem?_cons_zero, Option.some.injEq] at hy
        subst hy
        rw [i1 _ (by rw [Nat.add_zero, Nat.succ_mul]; omega), putAt_get hl1, if_pos (by rw [e1, e2, Nat.add_zero]; omega)]
        congr 1
        rw [e1, Nat.add_zero]
        omega
      | succ i =>
        have := i2 i j y (by simpa using hy) hj
        rwa [show n + 1 + i = n + (i + 1) by omega] at this

theorem fold_len {z : Nat} : ∀ (n : Nat) (ps : List (Nat × Operand)) (cs : List PV), (∀ (i : Nat) (x : Nat × Operand), ps[i]? = some x → x.1 = n + i ∧ (flatV (ev fr x.2)).length = z) → (n + ps.length) * z ≤ cs.length →
    (ps.foldl (fun cs x => putAt cs (x.1 * z) (flatV (ev fr x.2))) cs).length = cs.length
  | _, [], _, _, _ => rfl
  | n, x :: r, cs, hps, hl => by
    obtain ⟨e1, e2⟩ := hps 0 x (by simp)
    simp only [List.length_cons] at hl
    have hl1 : x.1 * z + (flatV (ev fr x.2)).length ≤ cs.length := by
      have : (n + 1) * z ≤ (n + (r.length + 1)) * z := Nat.mul_le_mul_right _ (by omega)
      rw [e1, e2, Nat.add_zero, ← Nat.succ_mul]
      exact Nat.le_trans this hl
    have hlen := putAt_length hl1
    simp only [List.foldl_cons]
    rw [fold_len (n + 1) r _ (fun i y hy => by
      obtain ⟨g1, g2⟩ := hps (i + 1) y (by simpa using hy)
      exact ⟨by omega, g2⟩) (by rw [hlen, show n + 1 + r.length = n + (r.length + 1) by omega]; exact hl), hlen]

theorem fits_row {z i j n : Nat} (hi : i < n) (hj : j < z) : i * z + j < n * z := by
  have : (i + 1) * z ≤ n * z := Nat.mul_le_mul_right _ (by omega)
  rw [Nat.succ_mul] at this
  omega

theorem fillok_len {z : Nat} (n : Nat) : ∀ (ps : List (Nat × Operand)) (k : Nat) (cs : List PV), rowsOkV fr z k ps → k + ps.length = n → cs.length = n * z →
    ∀ x ∈ ps, okv fr x.2 ∧ (flatV (ev fr x.2)).all oneC = true ∧ (fun i => some (i * z, z)) x.1 = some (x.1 * z, (flatV (ev fr x.2)).length) ∧ x.1 * z + (flatV (ev fr x.2)).length ≤ cs.length
  | ps, k, cs, hk, hn, hl, x, hx => by
    obtain ⟨i, hi⟩ := List.getElem?_of_mem hx
    obtain ⟨g1, g2, g3, _, g5⟩ := rowsOkV_mem hk i x hi
    have hlt := (List.getElem?_eq_some_iff.1 hi).1
    refine ⟨g2, g5, by rw [g3], ?_⟩
    rw [g3, hl, ← Nat.succ_mul]
    exact Nat.mul_le_mul_right _ (by omega)

theorem qsem_buildSlice {o : Oper} {t e : TypeId} {n : Nat} {ps : List (Nat × Operand)} {k0 : Nat} (ho : o.op = .buildSlice t n ps.toArray) (he : elemT P t = some e) (hz : 0 < sizeT P e) (hn : n = ps.length) (hb : n * sizeT P e ≤ 16777216)
    (hzero : (zeroT P e).isSome = true) (hk : rowsOkV fr (sizeT P e) 0 ps) :
    QSem P o fr H k0 (bif n == 0 then .nils else .sf k0 (sizeT P e)) (bif n == 0 then [] else [some (.arr (sizeT P e) (rowsV fr ps))]) := fun A m h w a hA hC hs hO hk0 => by
  have hu := elemT_spec he
  obtain ⟨zs, hzs⟩ := Option.isSome_iff_exists.1 hzero
  unfold zeroT at hzs
  obtain ⟨v, hv, rfl⟩ := Option.map_eq_some_iff.1 hzs
  obtain ⟨i, hi, hiz⟩ := Option.bind_eq_some_iff.1 hv
  have hzval : (zeroValue e).run P w = .ok v w := by simp [zeroValue, typeInfo, hi, hiz]
  have hmap : (ps.toArray.map fun (i, x) => (i, a.eval x)).toList = ps.map fun x => (x.1, a.eval x.2) := by simp
  by_cases h0 : n = 0
  · subst h0
    have hp : ps = [] := List.eq_nil_of_length_eq_zero hn.symm
    subst hp
    have hr : (execOp a.eval o).run P w = .ok (.value (.slice (some ⟨w.heap.size, 0, none⟩) 0 0)) (w.alloc (.cells #[] e)) := by
      simp [execOp, ho, Instr.buildSlice, run_underlying hu, sizeT_spec hz, Instr.fill, newRow, Array.range_zero']
    refine yields_value hr ⟨A, m, ?_⟩
    simp only [beq_self_eq_true, cond_true, addO_nil]
    exact ⟨newW_plain hA hC _, .imm (.nils _)⟩
  · have hb0 : (n == 0) = false := by simpa using h0
    simp only [hb0, cond_false]
    generalize hus : (Array.range (n * sizeT P e)).map (fun q => v.cells[q % v.cells.size]!) = us
    have hsz : us.size = n * sizeT P e := by rw [← hus]; simp
    have hcells : Cells A m h w (List.replicate (n * sizeT P e) .top) us := ⟨by simp [hsz], fun j c hj => by
      rw [List.getElem?_replicate] at hj
      split at hj
      · cases hj; exact .topI _
      · cases hj⟩
    obtain ⟨vs, hfill, hres⟩ := fill_rep (A := A) (m := m) (h := h) (w := w) (fr := fr) (a := a) (fun i => some (i * sizeT P e, sizeT P e)) (fun i => i * sizeT P e) ps _ us hcells hO
      (fillok_len n ps 0 _ hk (by omega) (by simp))
    have hps : ∀ (i : Nat) (x : Nat × Operand), ps[i]? = some x → x.1 = 0 + i ∧ (flatV (ev fr x.2)).length = sizeT P e := fun i x hx => by
      obtain ⟨g1, _, g3, _⟩ := rowsOkV_mem hk i x hx
      exact ⟨g1, g3⟩
    have hlen0 : (0 + ps.length) * sizeT P e ≤ (List.replicate (n * sizeT P e) PV.top).length := by simp [hn]
    have hvs : vs.size = n * sizeT P e := by rw [hres.1, fold_len 0 ps _ hps hlen0]; simp
    have hr : (execOp a.eval o).run P w = .ok (.value (.slice (some ⟨w.heap.size, 0, none⟩) n n)) (w.alloc (.cells vs e)) := by
      simp only [execOp, ho, Instr.buildSlice, Sem.run_bind, run_underlying hu, Result.andThen_ok, sizeT_spec hz, hmap]
      have hne : ¬ n * sizeT P e = 0 := by
        have := Nat.mul_pos (Nat.pos_of_ne_zero h0) hz
        omega
      simp [show ¬ 16777216 < n * sizeT P e by omega, hne, hzval, hus, hfill, newRow]
    have hk0' : h k0 = none := by simpa [hb0] using hk0 0 (by simp [hb0])
    refine yields_value hr ⟨A, updM m k0 (some w.heap.size, n), ?_⟩
    rw [addO_one]
    have hrl : (rowsV fr ps).length = n := by simp [rowsV, hn]
    have hnl : n ≤ maxLen := by
      have : n * 1 ≤ n * sizeT P e := Nat.mul_le_mul_left _ hz
      unfold maxLen
      omega
    refine ⟨newW_alloc hA hC hk0' ⟨fun hb => Nat.lt_irrefl _ (hA _ hb), by simp, by omega, hnl, ?_, vs, e, heap_alloc_at, hvs, ?_⟩, ?_⟩
    · intro i r hr
      simp only [rowsV, List.getElem?_map] at hr
      cases hx : ps[i]? with
      | none => rw [hx] at hr; cases hr
      | some x => rw [hx] at hr; cases hr; exact (hps i x hx).2
    · intro i j r c hr hc
      simp only [rowsV, List.getElem?_map] at hr
      cases hx : ps[i]? with
      | none => rw [hx] at hr; cases hr
      | some x =>
        rw [hx] at hr
        cases hr
        obtain ⟨_, _, g3, g4, _⟩ := rowsOkV_mem hk i x hx
        have hj : j < sizeT P e := by rw [← g3]; exact (List.getElem?_eq_some_iff.1 hc).1
        have hlt := (List.getElem?_eq_some_iff.1 hx).1
        have hcell := (fold_rows hz 0 ps _ hps hlen0).2 i j x hx hj
        rw [Nat.zero_add, hc] at hcell
        have hrep := hres.2 _ _ hcell
        have hq : i * sizeT P e + j < vs.size := by rw [hvs]; exact fits_row (by omega) hj
        refine ⟨vs[i * sizeT P e + j], by simp [hq], ?_⟩
        have : RepO A m h w c vs[i * sizeT P e + j] := by simpa [Array.getD_eq_getD_getElem?, hq] using hrep
        exact (this.toI (List.all_eq_true.1 g4 c (List.mem_of_getElem? hc))).mono (fun _ h => h) (fun b hb => heap_alloc_lt (hA b hb))
    · have := RepO.sf (A := A) (w := w.alloc (.cells vs e)) (m := updM m k0 (some w.heap.size, n)) (h := updO h k0 (.arr (sizeT P e) (rowsV fr ps))) k0 (sizeT P e) n w.heap.size (rowsV fr ps) (by simp [updO]) (by simp [updM])
      rw [hrl] at this
      exact this

theorem qsem_makeSlice {o : Oper} {t e : TypeId} {l c : Operand} {zs : List PV} {k0 : Nat} (ho : o.op = .makeSlice t l c) (he : elemT P t = some e) (hzs : zeroT P e = some zs) (hzl : zs.length = sizeT P e)
    (hno : zs.all noOwnA = true) (hone : zs.all oneC = true) (h1 : okv fr l) (h2 : okv fr c) (i1 : isInt (ev fr l)) (i2 : isInt (ev fr c)) (b0 : 0 ≤ intV (ev fr l)) (b1 : intV (ev fr l) ≤ intV (ev fr c))
    (b2 : bytesT P e * intV (ev fr c) ≤ 140737488355328) (b3 : intV (ev fr c) ≤ 9223372036854775807) :
    QSem P o fr H k0 (.sf k0 (sizeT P e)) [some (.arr (sizeT P e) (List.replicate (intV (ev fr l)).toNat zs))] := fun A m h w a hA hC hs hO hk0 => by
  have hu := elemT_spec he
  unfold zeroT at hzs
  obtain ⟨v, hv, rfl⟩ := Option.map_eq_some_iff.1 hzs
  obtain ⟨i, hi, hiz⟩ := Option.bind_eq_some_iff.1 hv
  have r1 := hO.ev h1
  have r2 := hO.ev h2
  cases e1 : ev fr l <;> simp only [e1, isInt] at i1
  cases e2 : ev fr c <;> simp only [e2, isInt] at i2
  rename_i kl L kc Cc
  rw [e1] at r1
  rw [e2] at r2
  simp only [e1, e2, intV] at b0 b1 b2 b3 ⊢
  have hb : bytesT P e = i.bytes := by simp [bytesT, hi]
  have hsz : sizeT P e = i.size := by simp [sizeT, hi]
  have hr : (execOp a.eval o).run P w = .ok (.value (.slice (some ⟨w.heap.size, 0, none⟩) L.toNat Cc.toNat)) (w.alloc (.cells (madeCells v.cells (Cc.toNat * sizeT P e)) e)) := by
    have := run_make (P := P) w t e i v hu hi hiz kl kc L Cc b0 b1 (by rw [← hb]; omega) b3
    simp only [execOp, ho, r1.int, r2.int, Sem.run_bind, this, hsz]
    rfl
  have hk0' : h k0 = none := by simpa using hk0 0 (by simp)
  refine yields_value hr ⟨A, updM m k0 (some w.heap.size, Cc.toNat), ?_⟩
  rw [addO_one]
  have hcs := flatV_ofV_cells (A := A) (m := m) (h := h) (w := w) hone
  have hvs : v.cells.size = sizeT P e := by rw [hcs.1, hzl]
  refine ⟨newW_alloc hA hC hk0' ⟨fun hb => Nat.lt_irrefl _ (hA _ hb), by simp, by simp; omega, by unfold maxLen; omega, ?_, _, e, heap_alloc_at, size_madeCells _ _, ?_⟩, ?_⟩
  · intro i r hr
    rw [List.getElem?_replicate] at hr
    split at hr
    · cases hr; exact hzl
    · cases hr
  · intro i j r c hr hc
    rw [List.getElem?_replicate] at hr
    split at hr
    · rename_i hlt
      cases hr
      have hj : j < sizeT P e := by rw [← hzl]; exact (List.getElem?_eq_some_iff.1 hc).1
      have hq : i * sizeT P e + j < Cc.toNat * sizeT P e := fits_row (by omega) hj
      have hmod : (i * sizeT P e + j) % v.cells.size = j := by rw [hvs, Nat.mul_comm, Nat.mul_add_mod, Nat.mod_eq_of_lt hj]
      have hrep := hcs.2 j c hc
      refine ⟨v.cells.getD j undef, ?_, (hrep.toI (List.all_eq_true.1 hno c (List.mem_of_getElem? hc))).mono (fun _ h => h) (fun b hb => heap_alloc_lt (hA b hb))⟩
      have hjs : j < v.cells.size := by omega
      simp [madeCells, hq, hmod, hjs, Array.getD_eq_getD_getElem?]
    · cases hr
  · have := RepO.sf (A := A) (w := w.alloc (.cells (madeCells v.cells (Cc.toNat * sizeT P e)) e)) (m := updM m k0 (some w.heap.size, Cc.toNat)) (h := updO h k0 (.arr (sizeT P e) (List.replicate L.toNat (flatV (ofV v))))) k0 (sizeT P e) Cc.toNat w.heap.size
      (List.replicate L.toNat (flatV (ofV v))) (by simp [updO]) (by simp [updM])
    rw [List.length_replicate] at this
    exact this

end Go.Ab
