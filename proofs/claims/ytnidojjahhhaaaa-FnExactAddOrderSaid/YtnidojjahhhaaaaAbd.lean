/- The quiet operations yield what the plain run says. No condition. -/
import Derived.Test.YtnidojjahhhaaaaAbc
import Derived.Laws.StructEq
namespace Go.Ab

theorem toList_data (b : ByteArray) : b.toList = b.data.toList := ByteArray.toList_eq b

theorem bytes_of (s : List UInt8) (b : ByteArray) (h : b.data.toList = s) : b = ⟨s.toArray⟩ := by
  cases b with | mk d => cases d with | mk l => simp at h; subst h; rfl

theorem ofC_rep {A : Nat → Prop} {w : World} (v : Value) : RepI A w (ofC v) v := by
  unfold ofC
  split
  · exact .int _ _
  · exact .bool _
  · exact .str _ _ rfl
  · exact .nils _
  · exact .raw _

theorem ofV_rep {A : Nat → Prop} {w : World} (v : Value) : RepI A w (ofV v) v := by
  unfold ofV
  split
  · rename_i cs
    refine .agg _ _ (by simp) fun i c hc => ?_
    simp only [List.getElem?_map, Array.getElem?_toList] at hc
    cases hi : cs[i]? with
    | none => rw [hi] at hc; cases hc
    | some u =>
      rw [hi] at hc; cases hc
      have : cs.getD i undef = u := by rw [Array.getD_eq_getD_getElem?, hi]; rfl
      rw [this]
      exact ofC_rep u
  · exact ofC_rep _

/-- Operands. -/
structure Opnd (A : Nat → Prop) (m : OMap) (h : OFun) (w : World) (fr : Fr) (a : Act) : Prop where
  rep : ∀ t, RepO A m h w (slot fr t) (a.tmps.getD t undef)

theorem Opnd.ev {A : Nat → Prop} {m : OMap} {h : OFun} {w : World} {fr : Fr} {a : Act} (H : Opnd A m h w fr a) {x : Operand} (hk : okv fr x) : RepO A m h w (ev fr x) (a.eval x) := by
  cases x with
  | tmp t =>
    have := H.rep t
    show RepO A m h w (strip (slot fr t)) (a.tmps.getD t undef)
    have hk : okp (slot fr t) := hk
    cases hs : slot fr t with
    | opt c p =>
      rw [hs] at this hk
      simp only [okp] at hk
      subst hk
      cases this with
      | imm hi => cases hi
      | optT _ _ hh => exact hh
    | _ => rw [hs] at this; exact this
  | const v => exact .imm (ofV_rep v)
  | global g => exact .topI _
  | func f => exact .imm (.fn f [] #[] rfl (by simp))

section inv
variable {A : Nat → Prop} {m : OMap} {h : OFun} {w : World} {v : Value}
theorem RepO.int {k : IntKind} {n : Int} (r : RepO A m h w (.int k n) v) : v = .int k n := by
  cases r with | imm hi => cases hi; rfl
theorem RepO.bool {b : Bool} (r : RepO A m h w (.bool b) v) : v = .bool b := by
  cases r with | imm hi => cases hi; rfl
theorem RepO.str {s : List UInt8} (r : RepO A m h w (.str s) v) : ∃ b : ByteArray, v = .string b ∧ b.data.toList = s := by
  cases r with | imm hi => cases hi; exact ⟨_, rfl, by assumption⟩
theorem RepO.aggI {cs : List PV} (r : RepO A m h w (.agg cs) v) : ∃ us : Array Value, v = .agg us ∧ us.size = cs.length ∧ ∀ i c, cs[i]? = some c → RepO A m h w c (us.getD i undef) := by
  cases r with
  | imm hi => cases hi with | agg _ us hl hh => exact ⟨us, rfl, hl, fun i c hc => .imm (hh i c hc)⟩
  | agg _ us hl hh => exact ⟨us, rfl, hl, hh⟩
theorem RepO.tupI {cs : List PV} (r : RepO A m h w (.tup cs) v) : ∃ us : Array Value, v = .tuple us ∧ us.size = cs.length ∧ ∀ i c, cs[i]? = some c → RepO A m h w c (us.getD i undef) := by
  cases r with
  | imm hi => cases hi with | tup _ us hl hh => exact ⟨us, rfl, hl, fun i c hc => .imm (hh i c hc)⟩
  | tup _ us hl hh => exact ⟨us, rfl, hl, hh⟩
theorem RepO.fnI {f : Nat} {cs : List PV} (r : RepO A m h w (.fn f cs) v) : ∃ us : Array Value, v = .func (.func f) #[] us ∧ us.size = cs.length ∧ ∀ i c, cs[i]? = some c → RepO A m h w c (us.getD i undef) := by
  cases r with
  | imm hi => cases hi with | fn _ _ us hl hh => exact ⟨us, rfl, hl, fun i c hc => .imm (hh i c hc)⟩
  | fn _ _ us hl hh => exact ⟨us, rfl, hl, hh⟩
theorem RepO.nilsI (r : RepO A m h w .nils v) : ∃ ao, v = .slice ao 0 0 := by
  cases r with | imm hi => cases hi; exact ⟨_, rfl⟩
end inv

theorem RepO.ptr {A : Nat → Prop} {m : OMap} {h : OFun} {w : World} {p : PV} {v : Value} (r : RepO A m h w p v) (hp : isPtr p) : ∃ b o, v = .pointer (some ⟨b, o, none⟩) := by
  cases p <;> simp only [isPtr] at hp
  case pe => cases r with | imm hi => cases hi; exact ⟨_, _, rfl⟩
  case pa => cases r with
    | imm hi => cases hi
    | pa => exact ⟨_, _, rfl⟩
  case pb => cases r with
    | imm hi => cases hi
    | pb => exact ⟨_, _, rfl⟩

theorem knownT_spec {P : Program} {t : TypeId} (h : knownT P t = true) : ∃ d, P.underlying t = some d := Option.isSome_iff_exists.1 h

theorem aggT_spec {P : Program} {w0 : World} {t : TypeId} {d : TypeDesc} (h : P.underlying t = some d) : (isAgg t).run P w0 = .ok (aggT P t) w0 := by
  simp only [isAgg, Sem.run_bind, run_underlying h, Result.andThen_ok, aggT, h]
  cases d <;> rfl

theorem sizeT_spec {P : Program} {t : TypeId} (h : 0 < sizeT P t) (w : World) : (sizeOf t).run P w = .ok (sizeT P t) w := by
  unfold sizeT at *
  cases hi : P.info? t with
  | none => simp [hi] at h
  | some i => simp [sizeOf, typeInfo, hi]

theorem elemT_spec {P : Program} {t e : TypeId} (h : elemT P t = some e) : P.underlying t = some (.slice e) := by
  unfold elemT at h
  split at h
  · rename_i d hd; cases h; exact hd
  · cases h

theorem strT_spec {P : Program} {t : TypeId} (h : strT P t = true) : P.underlying t = some .string := by
  unfold strT at h
  split at h
  · assumption
  · cases h

theorem kindT_spec {P : Program} {t : TypeId} {k : IntKind} (h : kindT P t = some k) : P.underlying t = some (.int k) := by
  unfold kindT at h
  split at h
  · cases h; assumption
  · cases h

theorem fldT_spec {P : Program} {t : TypeId} {f o n : Nat} {a : Bool} (h : fldT P t f = some (o, a, n)) : ∃ fs x, P.underlying t = some (.struct fs) ∧ fs[f]? = some x ∧ x.offset = o ∧ aggT P x.type = a ∧ sizeT P x.type = n ∧ knownT P x.type = true := by
  unfold fldT at h
  split at h
  · rename_i fs hfs
    obtain ⟨x, hx, he⟩ := Option.bind_eq_some_iff.1 h
    split at he
    · rename_i hk
      simp only [Option.some.injEq, Prod.mk.injEq] at he
      exact ⟨fs, x, hfs, hx, he.1, he.2.1, he.2.2, hk⟩
    · cases he
  · cases h

theorem addr_add (b o n : Nat) : (⟨b, o, none⟩ : Addr).add n = ⟨b, o + n, none⟩ := by
  unfold Addr.add
  split <;> simp_all

/-- A row of cells that reads so. -/
def CellsAt (A : Nat → Prop) (m : OMap) (h : OFun) (w : World) (b o : Nat) (cs : List PV) : Prop :=
  ∀ (j : Nat) (c : PV), cs[j]? = some c → ∃ u, w.cell? ⟨b, o + j, none⟩ = some u ∧ RepO A m h w c u

theorem load_rep {P : Program} {A : Nat → Prop} {m : OMap} {h : OFun} {w : World} {t : TypeId} {b o : Nat} {cs : List PV} {off : Nat} (hk : knownT P t = true) (hz : 0 < sizeT P t) (hc : CellsAt A m h w b o cs)
    (hl : off + sizeT P t ≤ cs.length) : ∃ v, (Instr.loadAt t (.pointer (some ⟨b, o + off, none⟩))).run P w = .ok v w ∧ RepO A m h w (takeT (aggT P t) (sizeT P t) cs off) v := by
  obtain ⟨d, hd⟩ := knownT_spec hk
  have ha := aggT_spec (P := P) (w0 := w) hd
  simp only [Instr.loadAt, Instr.sureAddr, Sem.run_bind, Sem.run_pure, Result.andThen_ok, loadVar, ha]
  cases hg : aggT P t with
  | false =>
    obtain ⟨u, hu, hr⟩ := hc off _ (List.getElem?_eq_getElem (by omega))
    refine ⟨u, by simp [run_load, hu], ?_⟩
    simp only [takeT, cond_false, List.getD]
    rw [List.getElem?_eq_getElem (by omega)]
    exact hr
  | true =>
    have hx : ∀ j, ∃ u, j < sizeT P t → w.cell? ⟨b, o + (off + j), none⟩ = some u ∧ RepO A m h w (cs.getD (off + j) .top) u := fun j => by
      by_cases hj : j < sizeT P t
      · obtain ⟨u, hu, hr⟩ := hc (off + j) _ (List.getElem?_eq_getElem (by omega))
        exact ⟨u, fun _ => ⟨hu, by simpa [List.getD, show off + j < cs.length by omega] using hr⟩⟩
      · exact ⟨undef, fun h => absurd h hj⟩
    obtain ⟨f, hf⟩ := Classical.axiomOfChoice hx
    have hrun := run_loadCells (P := P) w ⟨b, o + off, none⟩ (sizeT P t) f (fun j hj => by rw [addr_add, Nat.add_assoc]; exact (hf j hj).1)
    simp only [if_true, Sem.run_bind, sizeT_spec hz, Result.andThen_ok, hrun, Sem.run_pure, takeT, cond_true]
    refine ⟨_, rfl, .agg _ _ (by simp; omega) fun i c hc' => ?_⟩
    rw [List.getElem?_take, List.getElem?_drop] at hc'
    split at hc'
    · rename_i hi
      have := (hf i hi).2
      simp only [List.getD, hc', Option.getD_some] at this
      simpa [Array.getD_eq_getD_getElem?, hi] using this
    · cases hc'

theorem CellsAt.of_imm {A : Nat → Prop} {m : OMap} {h : OFun} {w : World} {z b o : Nat} {rows : List (List PV)} {u : Nat → Nat → Value}
    (hu : ∀ (i j : Nat) (r : List PV) (c : PV), rows[i]? = some r → r[j]? = some c → w.cell? ⟨b, o + (i * z + j), none⟩ = some (u i j))
    (hh : ∀ (i j : Nat) (r : List PV) (c : PV), rows[i]? = some r → r[j]? = some c → RepI A w c (u i j)) {i : Nat} {r : List PV} (hr : rows[i]? = some r) : CellsAt A m h w b (o + i * z) r :=
  fun j c hc => ⟨u i j, by rw [Nat.add_assoc]; exact hu i j r c hr hc, .imm (hh i j r c hr hc)⟩

theorem getD_of {α : Type} {l : List α} {i : Nat} (h : i < l.length) (d : α) : l[i]? = some (l.getD i d) := by simp [List.getD, h]

/-- Own objects' cells in memory. -/
theorem ConcO.arr {A : Nat → Prop} {m : OMap} {h : OFun} {w : World} (H : ConcO A m h w) {k z b C : Nat} {rows : List (List PV)} (hk : h k = some (.arr z rows)) (hm : m k = some (some b, C)) {i : Nat} {r : List PV} (hr : rows[i]? = some r) :
    r.length = z ∧ CellsAt A m h w b (i * z) r := by
  obtain ⟨ob, C', hm', ho⟩ := H.at_ k _ hk
  rw [hm] at hm'
  cases hm'
  obtain ⟨_, _, _, _, hz, cur, e, hcur, _, hcell⟩ := ho
  refine ⟨hz i r hr, fun j c hc => ?_⟩
  obtain ⟨u, hu, hru⟩ := hcell i j r c hr hc
  exact ⟨u, by simp [World.cell?, hcur, hu], .imm hru⟩

theorem ConcO.box {A : Nat → Prop} {m : OMap} {h : OFun} {w : World} (H : ConcO A m h w) {k b C : Nat} {cs : List PV} (hk : h k = some (.box cs)) (hm : m k = some (some b, C)) : CellsAt A m h w b 0 cs := by
  obtain ⟨ob, C', hm', ho⟩ := H.at_ k _ hk
  rw [hm] at hm'
  cases hm'
  obtain ⟨_, _, cur, e, hcur, _, hcell⟩ := ho
  intro j c hc
  obtain ⟨u, hu, hru⟩ := hcell j c hc
  exact ⟨u, by simp [World.cell?, hcur, hu], hru⟩

theorem rowsO_of {H : Heap} {k z : Nat} {rows : List (List PV)} (h : getO H k = some (.arr z rows)) : rowsO H k = rows := by
  unfold getO at h
  unfold rowsO
  cases hk : H[k]? with
  | none => simp [hk] at h
  | some o => simp only [hk, Option.getD_some] at h; subst h; rfl
theorem boxO_of {H : Heap} {k : Nat} {cs : List PV} (h : getO H k = some (.box cs)) : boxO H k = cs := by
  unfold getO at h
  unfold boxO
  cases hk : H[k]? with
  | none => simp [hk] at h
  | some o => simp only [hk, Option.getD_some] at h; subst h; rfl

/-- (h, H): what h knows H says. -/
def Sub (h : OFun) (H : Heap) : Prop := ∀ k o, h k = some o → getO H k = some o

theorem loadV_rep {P : Program} {A : Nat → Prop} {m : OMap} {h : OFun} {w : World} {H : Heap} (hC : ConcO A m h w) (hs : Sub h H) {t : TypeId} (hk : knownT P t = true) (hz : 0 < sizeT P t) {p : PV} {v : Value} (hr : RepO A m h w p v)
    (hl : loadOk H (sizeT P t) p) : ∃ u, (Instr.loadAt t v).run P w = .ok u w ∧ RepO A m h w (loadV H (aggT P t) (sizeT P t) p) u := by
  cases p <;> simp only [loadOk] at hl
  case pe z rows i off =>
    cases hr with
    | imm hi =>
      cases hi with
      | pe _ _ _ _ b o u hA hzz hu hh =>
        have hi := getD_of hl.1 []
        have hzi := hzz i _ hi
        have := load_rep (P := P) (t := t) (off := off) hk hz (CellsAt.of_imm (m := m) (h := h) hu hh hi) (by omega)
        rw [Nat.add_assoc] at this
        exact this
  case pa k z i off =>
    cases hr with
    | imm hi => cases hi
    | pa _ _ _ _ C b rows hk' hm =>
      have he := rowsO_of (hs _ _ hk')
      simp only [loadV, he] at hl ⊢
      have hi := getD_of hl.2.1 []
      obtain ⟨hzi, hcells⟩ := hC.arr hk' hm hi
      have := load_rep (P := P) (t := t) (off := off) hk hz hcells (by omega)
      exact this
  case pb k off =>
    cases hr with
    | imm hi => cases hi
    | pb _ _ C b cs hk' hm =>
      have he := boxO_of (hs _ _ hk')
      simp only [loadV, he] at hl ⊢
      have := load_rep (P := P) (t := t) (off := off) hk hz (hC.box hk' hm) (by omega)
      rw [Nat.zero_add] at this
      exact this

theorem offV_rep {P : Program} {A : Nat → Prop} {m : OMap} {h : OFun} {w : World} {t : TypeId} {f o n : Nat} {a : Bool} (hf : fldT P t f = some (o, a, n + 1)) {p : PV} {v : Value} (hr : RepO A m h w p v) (hp : isPtr p) :
    ∃ u, (Instr.fieldAt t v f).run P w = .ok u w ∧ RepO A m h w (offV o p) u := by
  obtain ⟨fs, x, hu, hx, ho, _, hsz, _⟩ := fldT_spec hf
  have hz : 0 < sizeT P x.type := by omega
  have hrun : ∀ b q, (Instr.fieldAt t (.pointer (some ⟨b, q, none⟩)) f).run P w = .ok (.pointer (some ⟨b, q + o, none⟩)) w := fun b q => by
    simp only [Instr.fieldAt, Sem.run_bind, run_underlying hu, Result.andThen_ok, hx, Instr.sureAddr, Sem.run_pure, fieldPlace, sizeT_spec hz]
    rw [if_neg (by omega), ho]
    simp only [Sem.run_pure, Result.andThen_ok, addr_add]
  cases p <;> simp only [isPtr] at hp
  case pe z rows i off =>
    cases hr with
    | imm hi =>
      cases hi with
      | pe _ _ _ _ b q u hA hzz hu' hh =>
        refine ⟨_, hrun _ _, ?_⟩
        rw [Nat.add_assoc, Nat.add_assoc]
        exact .imm (.pe z rows i (off + o) b q u hA hzz hu' hh)
  case pa k z i off =>
    cases hr with
    | imm hi => cases hi
    | pa _ _ _ _ C b rows hk' hm =>
      refine ⟨_, hrun _ _, ?_⟩
      rw [Nat.add_assoc]
      exact .pa k z i (off + o) C b rows hk' hm
  case pb k off =>
    cases hr with
    | imm hi => cases hi
    | pb _ _ C b cs hk' hm => exact ⟨_, hrun _ _, .pb k (off + o) C b cs hk' hm⟩

end Go.Ab
