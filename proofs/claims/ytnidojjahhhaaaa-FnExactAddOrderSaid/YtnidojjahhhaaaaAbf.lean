/- The quiet operations yield what the plain run says: all of them together. No condition. -/
import Derived.Test.YtnidojjahhhaaaaAbe
import Derived.Laws.Slices
namespace Go.Ab
variable {P : Program} {A : Nat → Prop} {m : OMap} {h : OFun} {w : World} {H : Heap} {fr : Fr} {a : Act}

theorem cellIs_of {c : PV} {v : Value} (hc : cellCmp c c) (hr : RepO A m h w c v) : cellIs c v := by
  cases c <;> simp only [cellCmp] at hc <;> simp only [cellIs]
  · exact hr.int
  · exact hr.bool
  · exact hr.str

theorem cellCmp_self {c d : PV} (hh : cellCmp c d) : cellCmp c c ∧ cellCmp d d := by
  unfold cellCmp at hh
  split at hh
  · exact ⟨rfl, rfl⟩
  · exact ⟨trivial, trivial⟩
  · exact ⟨trivial, trivial⟩
  · exact hh.elim

theorem cellsCmp_self : ∀ {cs ds : List PV}, cellsCmp cs ds → (∀ (i : Nat) (c : PV), cs[i]? = some c → cellCmp c c) ∧ (∀ (i : Nat) (c : PV), ds[i]? = some c → cellCmp c c)
  | [], [], _ => ⟨by simp, by simp⟩
  | c :: cs, d :: ds, hh => by
    obtain ⟨h1, h2⟩ := hh
    obtain ⟨i1, i2⟩ := cellsCmp_self h2
    refine ⟨fun i x hx => ?_, fun i x hx => ?_⟩
    · cases i with
      | zero => cases hx; exact (cellCmp_self h1).1
      | succ i => exact i1 i x hx
    · cases i with
      | zero => cases hx; exact (cellCmp_self h1).2
      | succ i => exact i2 i x hx
  | [], _ :: _, hh => hh.elim
  | _ :: _, [], hh => hh.elim

theorem beq_list (s t : List UInt8) : (s == t) = decide (s = t) := Bool.eq_iff_iff.2 (by simp)

theorem bv_rep {t : TypeId} {op : BinOp} {x y : Operand} {p q : PV} {u v : Value} (hk : bk P t op p q) (hp : RepO A m h w p u) (hq : RepO A m h w q v) :
    ∃ r, (do eqGuard op t x y u v; binOp op t u v : Sem Value).run P w = .ok r w ∧ RepO A m h w (bv op p q) r := by
  have I : ∀ {k n}, RepO A m h w (.int k n) (.int k n) := fun {k n} => .imm (.int k n)
  have B : ∀ {b}, RepO A m h w (.bool b) (.bool b) := fun {b} => .imm (.bool b)
  cases p with
  | int j a =>
    cases q with
    | int k b =>
      obtain rfl := hp.int
      obtain rfl := hq.int
      cases op <;> simp only [bk] at hk
      case add | sub | mul => subst hk; exact ⟨_, by simp [eqGuard, binOp, Op.intArith]; rfl, by simp only [bv]; exact I⟩
      case quo | rem => obtain ⟨rfl, h0⟩ := hk; exact ⟨_, by simp [eqGuard, binOp, Op.intDiv, h0]; rfl, by simp only [bv]; exact I⟩
      case and | or | xor => subst hk; exact ⟨_, by simp [eqGuard, binOp, Op.intBits]; rfl, by simp only [bv]; exact I⟩
      case shl | shr => exact ⟨_, by simp [eqGuard, binOp, Op.shift, show ¬ b < 0 by omega]; rfl, by simp only [bv]; exact I⟩
      case eql | neq | lss | leq | gtr | geq => subst hk; exact ⟨_, by simp [eqGuard, binOp, Op.intCmp]; rfl, by simp only [bv, bne, BEq.beq]; exact B⟩
    | _ => cases op <;> exact hk.elim
  | str s =>
    cases q with
    | str s' =>
      obtain ⟨b, rfl, rfl⟩ := hp.str
      obtain ⟨c, rfl, rfl⟩ := hq.str
      cases op <;> simp only [bk] at hk
      case add =>
        refine ⟨.string (b ++ c), ?_, .imm (.str _ _ (by simp))⟩
        have : ¬ ((b.size + c.size : Nat) : Int) > IntKind.i64.max := by
          have e : IntKind.i64.max = 9223372036854775807 := rfl
          have e1 : b.size = b.data.toList.length := by simp
          have e2 : c.size = c.data.toList.length := by simp
          omega
        simp only [eqGuard, binOp, Op.stringOp]
        rw [if_neg this]
        rfl
      case eql | neq | lss | leq | gtr | geq =>
        refine ⟨_, by simp only [eqGuard, binOp, Op.stringOp]; rfl, ?_⟩
        simp only [bv, toList_data, beq_list]
        exact B
    | _ => cases op <;> exact hk.elim
  | bool s =>
    cases q with
    | bool s' =>
      obtain rfl := hp.bool
      obtain rfl := hq.bool
      cases op <;> simp only [bk] at hk
      case eql | neq =>
        refine ⟨_, by simp [eqGuard, binOp, Op.equal, Op.maxDepth, run_equalIn_bool w _ t s s' hk]; rfl, ?_⟩
        simp only [bv]
        exact B
    | _ => cases op <;> exact hk.elim
  | agg cs =>
    cases q with
    | agg ds =>
      obtain ⟨us, rfl, hl, hh⟩ := hp.aggI
      obtain ⟨vs, rfl, hl', hh'⟩ := hq.aggI
      cases op <;> simp only [bk] at hk
      case eql | neq =>
        obtain ⟨hc, hE⟩ := hk
        obtain ⟨c1, c2⟩ := cellsCmp_self hc
        have hE' := fun o => hE o x y w cs ds us vs rfl hl hl' hc (fun i c hi => cellIs_of (c1 i c hi) (hh i c hi)) (fun i c hi => cellIs_of (c2 i c hi) (hh' i c hi))
        refine ⟨_, by simp only [Sem.run_bind, (hE' _).1, Result.andThen_ok, run_eql_struct, run_neq_struct, (hE' .eql).2]; rfl, ?_⟩
        simp only [bv]
        exact B
    | _ => cases op <;> exact hk.elim
  | _ => cases op <;> exact hk.elim

theorem uv_rep {op : UnOp} {p : PV} {u : Value} (hk : uk op p) (hp : RepO A m h w p u) : ∃ r, (Op.unary op u).run P w = .ok r w ∧ RepO A m h w (uv op p) r := by
  cases op <;> cases p <;> simp only [uk] at hk
  case neg.int k n => obtain rfl := hp.int; exact ⟨_, rfl, .imm (.int _ _)⟩
  case not.bool b => obtain rfl := hp.bool; exact ⟨_, rfl, .imm (.bool _)⟩

theorem pickV_rep {t : Bool} {p q : PV} {u v : Value} (hp : t = true → RepO A m h w p u) (hq : t = false → RepO A m h w q v) : RepO A m h w (pickV t p q) (if t then u else v) := by
  have : ∀ b, RepO A m h w (.bool b) (.bool b) := fun b => .imm (.bool b)
  cases t with
  | true =>
    have hp := hp rfl
    cases p <;> cases q <;> simp only [pickV, cond_true, if_true] <;> exact hp
  | false =>
    have hq := hq rfl
    cases p <;> cases q <;> simp only [pickV, cond_false, Bool.false_eq_true, if_false] <;> exact hq

theorem takeT_rep {off : Nat} {cs : List PV} {us : Array Value} (hl : us.size = cs.length) (hh : ∀ i c, cs[i]? = some c → RepO A m h w c (us.getD i undef)) {t : TypeId} (hk : knownT P t = true) (hz : 0 < sizeT P t)
    (hoff : off + sizeT P t ≤ cs.length) : ∃ v, (part t us off).run P w = .ok v w ∧ RepO A m h w (takeT (aggT P t) (sizeT P t) cs off) v := by
  obtain ⟨d, hd⟩ := knownT_spec hk
  have ha := aggT_spec (P := P) (w0 := w) hd
  simp only [part, Sem.run_bind, ha, Result.andThen_ok]
  cases hg : aggT P t with
  | false =>
    have h1 : off < us.size := by omega
    refine ⟨us[off], by simp [h1], ?_⟩
    simp only [takeT, cond_false, List.getD]
    rw [List.getElem?_eq_getElem (by omega)]
    have := hh off _ (List.getElem?_eq_getElem (by omega))
    simpa [Array.getD_eq_getD_getElem?, h1] using this
  | true =>
    simp only [if_true, Sem.run_bind, sizeT_spec hz, Result.andThen_ok, Sem.run_pure, takeT, cond_true]
    refine ⟨_, rfl, .agg _ _ (by simp; omega) fun i c hc' => ?_⟩
    rw [List.getElem?_take, List.getElem?_drop] at hc'
    split at hc'
    · rename_i hi
      have := hh (off + i) c hc'
      have h2 : i < min (off + sizeT P t) us.size - off := by omega
      have e1 : (us.extract off (off + sizeT P t)).getD i undef = us.getD (off + i) undef := by simp [Array.getD_eq_getD_getElem?, h2, show off + i < us.size by omega]
      rw [e1]
      exact this
    · cases hc'

/-- The cells of a value. -/
theorem one_cells {p : PV} {v : Value} (hp : oneC p = true) (hr : RepO A m h w p v) : v.oneCell' = true ∧ v.cells = #[v] := by
  have key : v.oneCell' = true := by
    cases p <;> simp only [oneC, Bool.false_eq_true] at hp
    case int => obtain rfl := hr.int; rfl
    case bool => obtain rfl := hr.bool; rfl
    case str => obtain ⟨b, rfl, _⟩ := hr.str; rfl
    case nils => obtain ⟨b, rfl⟩ := hr.nilsI; rfl
    case sl => cases hr with | imm hi => cases hi <;> rfl
    case pe => cases hr with | imm hi => cases hi; rfl
    case sf => cases hr with
      | imm hi => cases hi
      | sfN => rfl
      | sf => rfl
    case so => cases hr with
      | imm hi => cases hi
      | so0 => rfl
      | soE => rfl
      | so => rfl
    case pa => cases hr with
      | imm hi => cases hi
      | pa => rfl
    case pb => cases hr with
      | imm hi => cases hi
      | pb => rfl
    case fn => obtain ⟨us, rfl, _⟩ := hr.fnI; rfl
    case raw u => cases hr with | imm hi => cases hi; exact hp
  refine ⟨key, ?_⟩
  cases v <;> first | rfl | (simp [Value.oneCell'] at key)

theorem cells_rep {p : PV} {v : Value} (hp : (flatV p).all oneC = true) (hr : RepO A m h w p v) :
    v.cells.size = (flatV p).length ∧ ∀ (j : Nat) (c : PV), (flatV p)[j]? = some c → RepO A m h w c (v.cells.getD j undef) ∧ (v.cells.getD j undef).oneCell' = true := by
  have one : ∀ {p : PV}, oneC p = true → RepO A m h w p v → flatV p = [p] → v.cells.size = (flatV p).length ∧ ∀ (j : Nat) (c : PV), (flatV p)[j]? = some c → RepO A m h w c (v.cells.getD j undef) ∧ (v.cells.getD j undef).oneCell' = true := fun h1 h2 h3 => by
    obtain ⟨g1, g2⟩ := one_cells h1 h2
    rw [h3, g2]
    refine ⟨rfl, fun j c hc => ?_⟩
    cases j with
    | zero => cases hc; exact ⟨h2, g1⟩
    | succ j => simp at hc
  cases p with
  | agg cs =>
    obtain ⟨us, rfl, hl, hh⟩ := hr.aggI
    simp only [flatV, Value.cells] at hp ⊢
    refine ⟨hl, fun j c hc => ⟨hh j c hc, ?_⟩⟩
    exact (one_cells (List.all_eq_true.1 hp c (List.mem_of_getElem? hc)) (hh j c hc)).1
  | _ => exact one (by simpa [flatV] using hp) hr rfl

end Go.Ab
