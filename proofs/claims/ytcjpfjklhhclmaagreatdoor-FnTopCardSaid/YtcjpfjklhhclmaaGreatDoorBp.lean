/- A region that lays a list of functions: the engine takes it in its stride, the list known as it lies. No condition. -/
import Derived.Test.YtcjpfjklhhclmaaGreatDoorKf
namespace Go.Ab
variable {P : Program} {A A' : Nat → Prop} {m m' : OMap} {h h' : OFun} {w w' : World} {H : Heap} {fr : Fr} {a : Act} {x : Ctx} {n : Nat} {S : St}

def fnRows (fs : List Nat) : List (List PV) := fs.map fun f => [.fn f []]
theorem fnRows_len (fs : List Nat) : (fnRows fs).length = fs.length := by simp [fnRows]
/-- The operands of a list of functions. -/
def fnPs (k : Nat) : List Nat → List (Nat × Operand)
  | [] => []
  | f :: r => (k, .func f) :: fnPs (k + 1) r
theorem fnPs_len : ∀ (fs : List Nat) (k : Nat), (fnPs k fs).length = fs.length
  | [], _ => rfl
  | f :: r, k => by simp [fnPs, fnPs_len r]
theorem fnPs_get : ∀ (fs : List Nat) (k i : Nat) (p : Nat × Operand), (fnPs k fs)[i]? = some p → ∃ f, fs[i]? = some f ∧ p = (k + i, .func f)
  | [], _, i, p, h => by simp [fnPs] at h
  | f :: r, k, 0, p, h => by
    simp only [fnPs, List.getElem?_cons_zero, Option.some.injEq] at h
    exact ⟨f, rfl, by rw [← h]; rfl⟩
  | f :: r, k, i + 1, p, h => by
    simp only [fnPs, List.getElem?_cons_succ] at h
    obtain ⟨g, hg, rfl⟩ := fnPs_get r (k + 1) i p h
    exact ⟨g, by simpa using hg, by rw [show k + 1 + i = k + (i + 1) by omega]⟩
theorem fn_ev (f : Nat) : ev fr (.func f) = .fn f [] := rfl
theorem RepO.fn0 {f : Nat} {v : Value} (hr : RepO A m h w (.fn f []) v) : RepI A' w' (.fn f []) v := by
  cases hr with
  | imm hi => cases hi with | fn _ _ us hl _ => exact .fn f [] us hl (fun i c hc => by simp at hc)
  | fn _ _ us hl _ => exact .fn f [] us hl (fun i c hc => by simp at hc)

theorem yields_fns {o : Oper} {t e : TypeId} {fs : List Nat} (ho : o.op = .buildSlice t fs.length (fnPs 0 fs).toArray) (hne : fs ≠ []) (he : elemT P t = some e) (hz : sizeT P e = 1) (hzero : (zeroT P e).isSome = true) (hb : fs.length ≤ 1000)
    (hA : AOk A w) (hC : ConcO A m h w) (hO : Opnd A m h w fr a) :
    Yields P o a w fun v w' => ∃ A', NewW A m h w A' m h w' ∧ RepI A' w' (.sl 1 (fnRows fs)) v := by
  have hu := elemT_spec he
  obtain ⟨zs, hzs⟩ := Option.isSome_iff_exists.1 hzero
  unfold zeroT at hzs
  obtain ⟨v, hv, rfl⟩ := Option.map_eq_some_iff.1 hzs
  obtain ⟨i, hi, hiz⟩ := Option.bind_eq_some_iff.1 hv
  have hzval : (zeroValue e).run P w = .ok v w := by simp [zeroValue, typeInfo, hi, hiz]
  have hmap : ((fnPs 0 fs).toArray.map fun (i, x) => (i, a.eval x)).toList = (fnPs 0 fs).map fun x => (x.1, a.eval x.2) := by simp
  have h0 : ¬ fs.length = 0 := fun h => hne (List.eq_nil_of_length_eq_zero h)
  generalize hus : (Array.range (fs.length * 1)).map (fun q => v.cells[q % v.cells.size]!) = us
  have hsz : us.size = fs.length * 1 := by rw [← hus]; simp
  have hcells : Cells A m h w (List.replicate (fs.length * 1) .top) us := ⟨by simp [hsz], fun j c hj => by
    rw [List.getElem?_replicate] at hj
    split at hj
    · cases hj; exact .topI _
    · cases hj⟩
  have hps : ∀ (i : Nat) (x : Nat × Operand), (fnPs 0 fs)[i]? = some x → x.1 = 0 + i ∧ (flatV (ev fr x.2)).length = 1 := fun i x hx => by
    obtain ⟨f, _, rfl⟩ := fnPs_get fs 0 i x hx
    exact ⟨rfl, rfl⟩
  obtain ⟨vs, hfill, hres⟩ := fill_rep (A := A) (m := m) (h := h) (w := w) (fr := fr) (a := a) (fun i => some (i * 1, 1)) (fun i => i * 1) (fnPs 0 fs) _ us hcells hO
    (fun y hy => by
      obtain ⟨i, hi⟩ := List.getElem?_of_mem hy
      have hl := (List.getElem?_eq_some_iff.1 hi).1
      rw [fnPs_len] at hl
      obtain ⟨f, _, rfl⟩ := fnPs_get fs 0 i y hi
      refine ⟨trivial, rfl, rfl, ?_⟩
      rw [fn_ev]
      simp [flatV]
      omega)
  have hlen0 : (0 + (fnPs 0 fs).length) * 1 ≤ (List.replicate (fs.length * 1) PV.top).length := by simp [fnPs_len]
  have hvs : vs.size = fs.length * 1 := by rw [hres.1, fold_len 0 _ _ hps hlen0]; simp
  have hr : (execOp a.eval o).run P w = .ok (.value (.slice (some ⟨w.heap.size, 0, none⟩) fs.length fs.length)) (w.alloc (.cells vs e)) := by
    simp only [Nat.mul_one] at hfill hus
    simp only [execOp, ho, Instr.buildSlice, Sem.run_bind, run_underlying hu, Result.andThen_ok, sizeT_spec (show 0 < sizeT P e by omega), hmap, hz]
    simp [show ¬ 16777216 < fs.length by omega, hne, hzval, hus, hfill, newRow]
  have hcell : ∀ {A' : Nat → Prop} {w' : World} (i j : Nat) (r : List PV) (c : PV), (fnRows fs)[i]? = some r → r[j]? = some c → j = 0 ∧ i < vs.size ∧ RepI A' w' c (vs.getD i undef) := fun i j r c hr hc => by
    simp only [fnRows, List.getElem?_map, Option.map_eq_some_iff] at hr
    obtain ⟨f, hf, rfl⟩ := hr
    have hj : j = 0 := by
      have := (List.getElem?_eq_some_iff.1 hc).1
      simpa using this
    subst hj
    obtain rfl : PV.fn f [] = c := by simpa using hc
    have hlt := (List.getElem?_eq_some_iff.1 hf).1
    have hx : (fnPs 0 fs)[i]? = some (0 + i, .func f) := by
      have hl : i < (fnPs 0 fs).length := by rw [fnPs_len]; exact hlt
      obtain ⟨g, hg, e⟩ := fnPs_get fs 0 i _ (List.getElem?_eq_getElem hl)
      rw [List.getElem?_eq_getElem hl, e]
      rw [hf] at hg
      cases hg
      rfl
    have hcell := (fold_rows (fr := fr) (z := 1) (by omega) 0 (fnPs 0 fs) _ hps hlen0).2 i 0 _ hx (by omega)
    rw [Nat.zero_add, fn_ev] at hcell
    have hrep := hres.2 _ _ (by simpa [flatV] using hcell)
    have hi' : i < vs.size := by omega
    refine ⟨rfl, hi', RepO.fn0 (A := A) (m := m) (h := h) (w := w) ?_⟩
    simpa using hrep
  refine yields_value hr ⟨fun b => A b ∨ b = w.heap.size, ?_, ?_⟩
  · refine ⟨⟨rfl, rfl, rfl, by simp, fun _ hb _ => heap_alloc_lt hb, fun _ => Nat.le_refl _⟩, fun _ h => .inl h, fun b hb => hb.imp id fun e => by omega, hA.mono (fun b hb => ?_) (fun _ h => .inl h) (fun b hb => heap_alloc_lt (hA b hb)), ⟨fun k o' hk => ?_, hC.inj⟩, .refl _ _ _, fun _ h => .inl h⟩
    · rcases hb with hb | hb
      · exact Nat.lt_of_lt_of_le (hA b hb) (by simp)
      · subst hb; simp
    · obtain ⟨ob, C, hm, ho⟩ := hC.at_ k o' hk
      refine ⟨ob, C, hm, ho.mono (fun _ h => .inl h) (fun b hb => heap_alloc_lt (hA b hb)) (.refl _ _ _) (by simp) fun b hb => ?_⟩
      have := hC.lt ⟨k, o', C, hk, by rw [hm, hb]⟩
      exact ⟨fun h => h.elim this.2 fun e => by have := this.1; omega, heap_alloc_lt this.1⟩
  · have hl := fnRows_len fs
    have key := RepI.sl (A := fun b => A b ∨ b = w.heap.size) (w := w.alloc (.cells vs e)) 1 (fnRows fs) w.heap.size 0 fs.length (fun i j => vs.getD (i * 1 + j) undef) (.inr rfl) (by omega) (fun i r hr => by
      simp only [fnRows, List.getElem?_map, Option.map_eq_some_iff] at hr
      obtain ⟨f, _, rfl⟩ := hr
      rfl) (fun i j r c hr hc => by
      obtain ⟨rfl, hi', _⟩ := hcell (A' := A) (w' := w) i j r c hr hc
      have hh := heap_alloc_at (w := w) (o := .cells vs e)
      simp only [World.cell?, hh]
      simp [hi']) (fun i j r c hr hc => by
      obtain ⟨rfl, hi', h⟩ := hcell (A' := fun b => A b ∨ b = w.heap.size) (w' := w.alloc (.cells vs e)) i j r c hr hc
      simpa using h)
    rw [hl] at key
    exact key

/-- A region in its order, in which a list of functions is laid. -/
theorem ends_fns {n id : Nat} {ops : List Oper} {o : Oper} {t : TypeId} {fs : List Nat} {S : St} {Q : Exit → St → Prop} (T : Nat) (hok : ops.all (opOk n) = true) (hT : ops[T]? = some o) (ho : o.op = .buildSlice t fs.length (fnPs 0 fs).toArray) (hg : o.guard = none) (hne : fs ≠ []) (hb : fs.length ≤ 1000)
    (h : aOps P false ops (ops.take T) S fun S1 => ∃ e, elemT P t = some e ∧ sizeT P e = 1 ∧ (zeroT P e).isSome = true ∧ aOps P false ops (ops.drop (T + 1)) ⟨put S1.fr o.dst (.sl 1 (fnRows fs)), S1.H⟩ (Q .normal)) : Ends P n (.region id ops.toArray false) S Q := fun x a w A m hI => by
  refine wp_region_list ?_
  have hlt := (List.getElem?_eq_some_iff.1 hT).1
  have hl : ops.toArray.toList = ops.take T ++ (o :: ops.drop (T + 1)) := by
    have e : ops[T] = o := (List.getElem?_eq_some_iff.1 hT).2
    rw [← e, ← List.drop_eq_getElem_cons hlt]
    simp
  rw [hl]
  have hall1 : (ops.take T).all (opOk n) = true := by
    rw [List.all_eq_true] at hok ⊢
    exact fun o ho => hok o (List.mem_of_mem_take ho)
  have hall2 : (ops.drop (T + 1)).all (opOk n) = true := by
    rw [List.all_eq_true] at hok ⊢
    exact fun o ho => hok o (List.mem_of_mem_drop ho)
  have hoo : opOk n o = true := by
    rw [List.all_eq_true] at hok
    exact hok o (List.mem_of_getElem? hT)
  refine list_pre hok (o :: ops.drop (T + 1)) (fun S' a' w' A' m' ⟨e, he, hz, hzero, h2⟩ hI' => ?_) (ops.take T) false S a w A m hall1 hI h
  unfold wpList
  rw [if_pos (by simp [Region.wanted, hg])]
  refine .inl (yields_mono (yields_fns ho hne he hz hzero hb hI'.aok hI'.conc hI'.opnd) (fun v w' hR => hR) _ _ fun v w' ⟨A'', hN, hr⟩ => ?_)
  have hI2 := hI'.newW (new := []) (by rw [addO_nil]; exact hN)
  rw [List.append_nil] at hI2
  exact ops_sound hok (fun S3 a3 w3 A3 m3 h3 hI3 => ⟨S3, A3, m3, h3, hI3⟩) (ops.drop (T + 1)) false _ _ w' A'' m' hall2 (hI2.val (opOk_dst hoo) (.imm hr)) h2
end Go.Ab
