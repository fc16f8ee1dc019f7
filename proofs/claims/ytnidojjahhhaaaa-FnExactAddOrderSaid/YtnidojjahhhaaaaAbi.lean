/- Operations that make own objects, and calls that leave own objects alone: what they yield, in whatever order they come up. No condition. -/
import Derived.Test.YtnidojjahhhaaaaAbh
namespace Go.Ab
variable {P : Program} {A A' : Nat → Prop} {m m' : OMap} {h h' : OFun} {w w' : World} {H : Heap} {fr : Fr} {a : Act}

/-- The operation yields a value, and a world, of which R holds. -/
def Yields (P : Program) (o : Oper) (a : Act) (w : World) (R : Value → World → Prop) : Prop :=
  ∀ (K : Act → World → Prop) (Q : Exit → Act → World → Prop), (∀ v w', R v w' → K (a.put o.dst v) w') → o.wp P a w K Q

theorem yields_value {o : Oper} {R : Value → World → Prop} {v : Value} {w' : World} (hr : (execOp a.eval o).run P w = .ok (.value v) w') (h : R v w') : Yields P o a w R := fun K Q hK => by
  unfold Oper.wp
  rw [hr]
  exact hK v w' h

theorem yields_mono {o : Oper} {R R' : Value → World → Prop} (h : Yields P o a w R) (hR : ∀ v w', R v w' → R' v w') : Yields P o a w R' := fun K Q hK => h K Q fun v w' hr => hK v w' (hR v w' hr)

def addO (h : OFun) (k0 : Nat) (new : List (Option Obj)) : OFun := fun k => if k0 ≤ k ∧ k < k0 + new.length then (new[k - k0]?).getD none else h k

theorem addO_nil {k0 : Nat} : addO h k0 [] = h := by funext k; simp only [addO, List.length_nil, Nat.add_zero]; rw [if_neg (by omega)]
theorem addO_one {k0 : Nat} {o : Obj} : addO h k0 [some o] = updO h k0 o := by
  funext k
  simp only [addO, updO, List.length_singleton]
  by_cases e : k = k0
  · subst e; simp
  · rw [if_neg (by omega), if_neg e]
theorem getO_add {new : List (Option Obj)} : getO (H ++ new) = addO (getO H) H.length new := by
  funext k
  unfold getO addO
  rw [List.getElem?_append]
  by_cases h1 : k < H.length
  · rw [if_pos h1, if_neg (by omega)]
  · rw [if_neg h1]
    by_cases h2 : k < H.length + new.length
    · rw [if_pos ⟨by omega, h2⟩]
    · rw [if_neg (by omega), List.getElem?_eq_none (by omega)]
      show _ = (H[k]?).getD none
      rw [List.getElem?_eq_none (by omega)]

/-- From (A, m, h, w) to (A', m', h', w'): nothing that was there has turned. -/
structure NewW (A : Nat → Prop) (m : OMap) (h : OFun) (w : World) (A' : Nat → Prop) (m' : OMap) (h' : OFun) (w' : World) : Prop where
  moved : Moved (fun _ => False) w w'
  subA : ∀ b, A b → A' b
  sub : ∀ b, A' b → A b ∨ w.heap.size ≤ b
  aok : AOk A' w'
  conc : ConcO A' m' h' w'
  shaped : Shaped none m h m' h'
  own : ∀ b, OwnB m' h' b → OwnB m h b ∨ w.heap.size ≤ b

theorem Moved.refl (M : Nat → Prop) (w : World) : Moved M w w := ⟨rfl, rfl, rfl, Nat.le_refl _, fun _ _ _ => rfl⟩
theorem Moved.trans {M : Nat → Prop} {w1 w2 w3 : World} (h1 : Moved M w1 w2) (h2 : Moved M w2 w3) : Moved M w1 w3 :=
  ⟨h2.os.trans h1.os, h2.tape.trans h1.tape, h2.output.trans h1.output, Nat.le_trans h1.size h2.size, fun b hb hM => (h2.block b (Nat.lt_of_lt_of_le hb h1.size) hM).trans (h1.block b hb hM)⟩
theorem Moved.mono {M M' : Nat → Prop} {w1 w2 : World} (h1 : Moved M w1 w2) (h : ∀ b, b < w1.heap.size → M b → M' b) : Moved M' w1 w2 :=
  ⟨h1.os, h1.tape, h1.output, h1.size, fun b hb hM => h1.block b hb fun hm => hM (h b hb hm)⟩

theorem Shaped.refl (k0 : Option Nat) (m : OMap) (h : OFun) : Shaped k0 m h m h := fun _ o _ ho => ⟨rfl, o, ho, SameShape.refl o⟩

theorem NewW.refl (hA : AOk A w) (hC : ConcO A m h w) : NewW A m h w A m h w := ⟨.refl _ _, fun _ h => h, fun _ h => .inl h, hA, hC, .refl _ _ _, fun _ h => .inl h⟩

theorem NewW.block (hN : NewW A m h w A' m' h' w') {b : Nat} (hb : b < w.heap.size) : w'.heap[b]? = w.heap[b]? := hN.moved.block b hb fun h => h

theorem NewW.opnd (hN : NewW A m h w A' m' h' w') (hA : AOk A w) (hO : Opnd A m h w fr a) : Opnd A' m' h' w' fr a :=
  hO.mono hN.subA (fun b hb => hN.block (hA b hb)) hN.shaped

theorem NewW.rep (hN : NewW A m h w A' m' h' w') (hA : AOk A w) {p : PV} {v : Value} (hr : RepO A m h w p v) : RepO A' m' h' w' p v :=
  hr.mono hN.subA (fun b hb => hN.block (hA b hb)) hN.shaped

/-- What an operation yields, whatever else has come up before it: the value pv, the new own objects 'new' under the numbers from k0 on. -/
def QSem (P : Program) (o : Oper) (fr : Fr) (H : Heap) (k0 : Nat) (pv : PV) (new : List (Option Obj)) : Prop :=
  ∀ (A : Nat → Prop) (m : OMap) (h : OFun) (w : World) (a : Act), AOk A w → ConcO A m h w → Sub h H → Opnd A m h w fr a → (∀ i, i < new.length → h (k0 + i) = none) →
    Yields P o a w fun v w' => ∃ A' m', NewW A m h w A' m' (addO h k0 new) w' ∧ RepO A' m' (addO h k0 new) w' pv v

theorem qsem_quiet {o : Oper} {k0 : Nat} (hv : vok P fr H o.op) : QSem P o fr H k0 (vop P fr H o.op) [] := fun A m h w a hA hC hs hO _ => by
  obtain ⟨v, hr, hrep⟩ := quiet_run hs hC hO hv
  refine yields_value hr ⟨A, m, ?_⟩
  rw [addO_nil]
  exact ⟨.refl hA hC, hrep⟩

theorem own_upd {k : Nat} {o : Obj} {n C : Nat} (hn : w.heap.size ≤ n) (b : Nat) (hb : OwnB (updM m k (some n, C)) (updO h k o) b) : OwnB m h b ∨ w.heap.size ≤ b := by
  obtain ⟨j, o', C', hj, hm⟩ := hb
  by_cases e : j = k
  · simp only [updM, e, if_true, Option.some.injEq, Prod.mk.injEq] at hm
    exact .inr (by omega)
  · simp only [updM, updO, if_neg e] at hm hj
    exact .inl ⟨j, o', C', hj, hm⟩

/-- A new block for a new own object. -/
theorem newW_alloc (hA : AOk A w) (hC : ConcO A m h w) {k : Nat} (hk : h k = none) {o : Obj} {C : Nat} {cells : Go.Obj}
    (ho : ObjAt A (updM m k (some w.heap.size, C)) (updO h k o) (w.alloc cells) o (some w.heap.size) C) : NewW A m h w A (updM m k (some w.heap.size, C)) (updO h k o) (w.alloc cells) :=
  ⟨⟨rfl, rfl, rfl, by simp, fun _ hb _ => heap_alloc_lt hb⟩, fun _ h => h, fun _ h => .inl h, fun b hb => Nat.lt_of_lt_of_le (hA b hb) (by simp), hC.new hA hk ho, shaped_upd hk, own_upd (Nat.le_refl _)⟩

theorem heap_alloc_at {o : Go.Obj} : (w.alloc o).heap[w.heap.size]? = some o := by
  show (w.heap.push o)[w.heap.size]? = _
  simp

theorem Cells.mono {cs : List PV} {us : Array Value} (hc : Cells A m h w cs us) (hA : ∀ b, A b → A' b) (hw : ∀ b, A b → w'.heap[b]? = w.heap[b]?) (hs : Shaped none m h m' h') : Cells A' m' h' w' cs us :=
  ⟨hc.1, fun j c hj => (hc.2 j c hj).mono hA hw hs⟩

theorem objAt_box (hA : AOk A w) {k : Nat} (hk : h k = none) {cs : List PV} {us : Array Value} {t : TypeId} {C : Nat} (hc : Cells A m h w cs us) :
    ObjAt A (updM m k (some w.heap.size, C)) (updO h k (.box cs)) (w.alloc (.cells us t)) (.box cs) (some w.heap.size) C := by
  refine ⟨fun hb => Nat.lt_irrefl _ (hA _ hb), by simp, us, t, heap_alloc_at, hc.1, fun j c hj => ?_⟩
  have := (hc.mono (A' := A) (w' := w.alloc (.cells us t)) (fun _ h => h) (fun b hb => heap_alloc_lt (hA b hb)) (shaped_upd (o := .box cs) (x := (some w.heap.size, C)) hk)).2 j c hj
  have hlt : j < us.size := by rw [hc.1]; exact (List.getElem?_eq_some_iff.1 hj).1
  exact ⟨us[j], by simp [hlt], by simpa [Array.getD_eq_getD_getElem?, hlt] using this⟩

theorem qsem_alloc {o : Oper} {t : TypeId} {k0 : Nat} (ho : o.op = .alloc t) {cs : List PV} (hz : zeroT P t = some cs) (h1 : cs.all oneC = true) : QSem P o fr H k0 (.pb k0 0) [some (.box cs)] := fun A m h w a hA hC hs hO hk => by
  unfold zeroT at hz
  obtain ⟨v, hv, rfl⟩ := Option.map_eq_some_iff.1 hz
  obtain ⟨i, hi, hiz⟩ := Option.bind_eq_some_iff.1 hv
  have hk0 : h k0 = none := by simpa using hk 0 (by simp)
  have hr : (execOp a.eval o).run P w = .ok (.value (.pointer (some ⟨w.heap.size, 0, none⟩))) (w.alloc (.cells v.cells t)) := by
    simp [execOp, ho, Instr.alloc, zeroValue, typeInfo, hi, hiz, newVar, newRow]
  refine yields_value hr ⟨A, updM m k0 (some w.heap.size, 0), ?_⟩
  rw [addO_one]
  exact ⟨newW_alloc hA hC hk0 (objAt_box hA hk0 (flatV_ofV_cells h1)), .pb k0 0 0 w.heap.size _ (by simp [updO]; rfl) (by simp [updM])⟩

theorem qsem_box {o : Oper} {t : TypeId} {x : Operand} {k0 : Nat} (ho : o.op = .box t x) (hx : okv fr x) (h1 : (flatV (ev fr x)).all oneC = true) : QSem P o fr H k0 (.pb k0 0) [some (.box (flatV (ev fr x)))] := fun A m h w a hA hC hs hO hk => by
  have hk0 : h k0 = none := by simpa using hk 0 (by simp)
  have hr : (execOp a.eval o).run P w = .ok (.value (.pointer (some ⟨w.heap.size, 0, none⟩))) (w.alloc (.cells (a.eval x).cells t)) := by
    simp [execOp, ho, Instr.box, newVar, newRow]
  refine yields_value hr ⟨A, updM m k0 (some w.heap.size, 0), ?_⟩
  rw [addO_one]
  exact ⟨newW_alloc hA hC hk0 (objAt_box hA hk0 (cells_of_rep h1 (hO.ev hx))), .pb k0 0 0 w.heap.size _ (by simp [updO]; rfl) (by simp [updM])⟩

end Go.Ab
