/- Operations in their places, one behind the other. No condition. -/
import Derived.Test.YtnidojjahhhaaaaAbq
import Derived.Test.YtnidojjahhhaaaaAcf
namespace Go.Ab
variable {P : Program} {A A' : Nat → Prop} {m m' : OMap} {h h' : OFun} {w w' : World} {H : Heap} {fr fr' : Fr} {a : Act}

theorem goes_append {x : Ctx} {n : Nat} {S : St} {o : Oper} {K : St → Prop} {s y : Operand} {t t' : TypeId} (ho : o.op = .call { callee := .builtin .append, args := #[s, y], argTypes := #[t, t'] }) (hd : ∀ d, o.dst = some d → d < n) (hx : o.op.operands.toList.all (opdLt n) = true)
    (hI : Inv x n S a w A m) (hs : okv S.fr s) (hy : okv S.fr y) {q : Bool} (hK0 : appendK P (kindT P t') q t t' o.dst (ev S.fr s) (ev S.fr y) S K) : Yields P o a w (Goes x n o.dst a K) := by
  have hO := hI.opnd
  have hg : Agree S.fr (cutF n S.fr) [s, y] := by
    refine (agree_cut hx).sub fun z hz => ?_
    rw [ho]
    simpa [Op.operands, Call.operands] using hz
  have hrs := hO.ev (x := s) (by rw [hg.ok (by simp)]; exact hs)
  have hry := hO.ev (x := y) (by rw [hg.ok (by simp)]; exact hy)
  rw [hg.ev (by simp)] at hrs hry
  cases hkt : kindT P t' with
  | some kn =>
    rw [hkt] at hK0
    simp only [appendK] at hK0
    cases hev : ev S.fr y <;> simp only [hev] at hK0
    case int ky N =>
      obtain ⟨_, hN0, hN63, e, zs, he, hz, hzs, hzl, hno, hone, hX⟩ := hK0
      rw [hev] at hry
      have hyv := hry.int
      obtain ⟨M, rfl⟩ : ∃ M : Nat, N = (M : Int) := ⟨N.toNat, by omega⟩
      simp only [Int.toNat_natCast] at hX
      obtain ⟨i, zv, hi, hiz, hsz, hby, hvs, hzc⟩ := zeros_at (P := P) hzs hzl hno hone
      have hht := elemT_spec he
      have htn := kindT_spec hkt
      have fin : ∀ (base : Option Addr) (sLen sCap : Nat) (olds : List Value) (rows0 : List (List PV)), a.eval s = .slice base sLen sCap → (Builtin.firstCells i.size sLen (.slice base sLen sCap)).run P w.drew = .ok olds.toArray w.drew → sCap < sLen + M →
          sLen + M ≤ 9223372036854775807 → (sLen + M) * bytesT P e ≤ 140737488355328 → rows0.length = sLen → olds.length = rows0.length * sizeT P e → (∀ (i : Nat) (r : List PV), rows0[i]? = some r → r.length = sizeT P e) →
          (∀ (i j : Nat) (r : List PV) (c : PV), rows0[i]? = some r → r[j]? = some c → ∃ u, olds[i * sizeT P e + j]? = some u ∧ RepI A w c u) →
          K ⟨put S.fr o.dst (.sf S.H.length (sizeT P e)), S.H ++ [some (.arr (sizeT P e) (rows0 ++ List.replicate M zs))]⟩ → Yields P o a w (Goes x n o.dst a K) := fun base sLen sCap olds rows0 hsv hold hg' h63 h48 hr0 hol hw0 h0 hK => by
        obtain ⟨z1, z2, z3, z4⟩ := hzc A w M
        have hrun := run_append_zeros (P := P) (w := w) (ty := o.type) (k := ky) hht htn hi hiz base sLen sCap M (by omega) (by omega) olds hold hg' (by omega) (by rw [hby]; exact h48)
        rw [← hsv, ← hyv] at hrun
        have hge := grownCap_ge w (sLen + M) sCap e
        have hle := grownCap_le_maxLen w (sLen + M) sCap e (by unfold maxLen; omega)
        generalize grownCap w (sLen + M) sCap e = C at *
        have hC' : ConcO A m (getO S.H) w.drew := hI.conc.same rfl
        have hlen : (rows0 ++ List.replicate M zs).length = sLen + M := by simp [hr0]
        have hN := newW_alloc (w := w.drew) (k := S.H.length) (o := .arr (sizeT P e) (rows0 ++ List.replicate M zs)) (C := C) (cells := .cells (olds.toArray ++ Builtin.zeroCells zv.cells M ++ Builtin.zeroCells zv.cells (C - (sLen + M))) e) hI.aok hC' (getO_len (H := S.H))
          ⟨fun hb => Nat.lt_irrefl _ (hI.aok _ hb), by simp, by rw [hlen]; exact hge, hle, fun i' r hr => by
            rw [List.getElem?_append] at hr
            split at hr
            · exact hw0 _ r hr
            · exact z3 _ r hr, _, e, heap_alloc_at, by
            simp only [Array.size_append, List.size_toArray, size_zeroCells, hvs, hol, hr0, ← Nat.add_mul]
            congr 1
            omega, fun i' j r c hr hc => by
            obtain ⟨u, hu, hru⟩ := grown_at (tail := (Builtin.zeroCells zv.cells (C - (sLen + M))).toList) hol h0 z4 hr hc
            refine ⟨u, ?_, hru.mono (fun _ h => h) (fun b hb => (show _ = w.heap[b]? from heap_alloc_lt (w := w.drew) (hI.aok b hb)))⟩
            rw [← Array.getElem?_toList, Array.toList_append, Array.toList_append]
            exact hu⟩
        have hN' : NewW A m (getO S.H) w A (updM m S.H.length (some w.drew.heap.size, C)) (updO (getO S.H) S.H.length (.arr (sizeT P e) (rows0 ++ List.replicate M zs))) (w.drew.alloc (.cells (olds.toArray ++ Builtin.zeroCells zv.cells M ++ Builtin.zeroCells zv.cells (C - (sLen + M))) e)) :=
          ⟨⟨rfl, rfl, rfl, hN.moved.size, hN.moved.block⟩, hN.subA, hN.sub, hN.aok, hN.conc, hN.shaped, hN.own⟩
        refine yields_value (exec_append ho hrun) ⟨_, A, updM m S.H.length (some w.drew.heap.size, C), hK, ?_⟩
        rw [← addO_one] at hN'
        have e1 : getO (S.H ++ [some (.arr (sizeT P e) (rows0 ++ List.replicate M zs))]) = updO (getO S.H) S.H.length (.arr (sizeT P e) (rows0 ++ List.replicate M zs)) := getO_push
        refine (hI.newW hN').val (S := ⟨S.fr, S.H ++ [some (.arr (sizeT P e) (rows0 ++ List.replicate M zs))]⟩) hd ?_
        simp only [e1]
        have := RepO.sf (A := A) (w := w.drew.alloc (.cells (olds.toArray ++ Builtin.zeroCells zv.cells M ++ Builtin.zeroCells zv.cells (C - (sLen + M))) e)) (m := updM m S.H.length (some w.drew.heap.size, C)) (h := updO (getO S.H) S.H.length (.arr (sizeT P e) (rows0 ++ List.replicate M zs))) S.H.length (sizeT P e) C w.heap.size
          (rows0 ++ List.replicate M zs) (by simp [updO]) (by simp [updM])
        rw [hlen] at this
        exact this
      have nil_ : ∀ (ao : Option Addr) (cap : Nat), (Builtin.firstCells i.size 0 (.slice ao 0 cap)).run P w.drew = .ok ([] : List Value).toArray w.drew := fun ao cap => by
        cases ao with
        | none => exact run_firstCells_none w.drew i.size 0 0 cap
        | some b => exact run_firstCells_some w.drew i.size 0 b 0 cap [] (by simp) (by simp)
      cases hes : ev S.fr s <;> simp only [hes] at hX
      case nils =>
        obtain ⟨h48, hK⟩ := hX
        rw [hes] at hrs
        obtain ⟨ao, hao⟩ := hrs.nilsI
        exact fin ao 0 0 [] [] hao (nil_ ao 0) (by omega) (by omega) (by rw [Nat.zero_add]; exact h48) rfl (by simp) (by simp) (by simp) (by simpa using hK)
      case so k z lo len =>
        obtain ⟨rfl, rfl, ⟨rows, hk⟩, hlr, h48, h63, hX⟩ := hX
        have hk' : getO S.H k = some (.arr (sizeT P e) rows) := by simp [getO, hk]
        rw [rowsO_of hk'] at hlr
        have hcp := hI.fr (capS k)
        cases hsl : slot S.fr (capS k) <;> simp only [hsl] at hX
        case cp k' C =>
          obtain ⟨rfl, hlt, hK⟩ := hX
          rw [hsl] at hcp
          rw [rowsO_of hk'] at hK
          obtain ⟨ob, hmk⟩ : ∃ ob, m k' = some (ob, C) := by
            cases hcp with
            | imm hi => cases hi
            | cp _ _ ob o' _ _ hm => exact ⟨ob, hm⟩
          rw [hes] at hrs
          obtain ⟨rows', ob', C', cap, hk2, hm2, hv⟩ := hrs.soI
          obtain rfl : rows' = rows := by rw [hk'] at hk2; cases hk2; rfl
          rw [hmk] at hm2
          cases hm2
          have hlt' : (rows'.take len).length = len := by rw [List.length_take]; omega
          rcases hv with ⟨rfl, ao, hao, h0⟩ | ⟨b, rfl, hao, hlen, hcap⟩
          · obtain ⟨rfl, rfl, rfl⟩ := h0 rfl
            exact fin ao 0 0 [] [] hao (nil_ ao 0) (by omega) (by omega) h48 rfl (by simp) (by simp) (by simp) (by simpa using hK)
          · obtain ⟨g1, g2, g3, g4, g5, cur, ty', hcur, hcs, hcell⟩ := hI.conc.at_arr hk' hmk
            rw [Nat.zero_mul] at hao
            have hle : len * sizeT P e ≤ cur.size := by rw [hcs]; exact Nat.mul_le_mul_right _ (by omega)
            have hw1 : (cur.toList.take (len * sizeT P e)).length = len * sizeT P e := by simp only [List.length_take, Array.length_toList]; omega
            have key : ∀ (i : Nat) (r : List PV), (rows'.take len)[i]? = some r → i < len ∧ rows'[i]? = some r := fun i r hr => by
              rw [List.getElem?_take] at hr
              split at hr
              · exact ⟨by assumption, hr⟩
              · cases hr
            refine fin (some ⟨b, 0, none⟩) len cap (cur.toList.take (len * sizeT P e)) (rows'.take len) hao ?_ (by omega) h63 h48 hlt' (by rw [hw1, hlt']) (fun i r hr => g5 i r (key i r hr).2) (fun i j r c hr hc => ?_) hK
            · refine run_firstCells_some w.drew i.size len _ _ _ _ (by rw [hsz]; exact hw1) fun j v hv => ?_
              rw [List.getElem?_take] at hv
              split at hv
              · rw [Addr.add_lit]
                have : w.drew.heap[b]? = some (.cells cur ty' (0, 0)) := hcur
                simp only [World.cell?, Nat.zero_add, this]
                simpa using hv
              · cases hv
            · obtain ⟨hi', hr'⟩ := key i r hr
              obtain ⟨u, hu, hru⟩ := hcell i j r c hr' hc
              have hj : j < sizeT P e := by rw [← g5 _ r hr']; exact (List.getElem?_eq_some_iff.1 hc).1
              have := fits_row hi' hj
              exact ⟨u, by rw [List.getElem?_take, if_pos this]; simpa using hu, hru⟩
  | none =>
    rw [hkt] at hK0
    simp only [appendK] at hK0
    obtain ⟨ht, e, he, hz, hzok, hsrc, hone, hX⟩ := hK0
    obtain ⟨news, hsr⟩ := src_rep (P := P) getO_sub hI.conc hz (elemT_isSome ht) hry hsrc hone
    cases hes : ev S.fr s <;> simp only [hes] at hX
    case nils =>
      obtain ⟨hb, h63, hK⟩ := hX
      rw [hes] at hrs
      obtain ⟨ao, hao⟩ := hrs.nilsI
      obtain ⟨v, w', m', hrun, hN, hr⟩ := append_new (ty := o.type) hI.aok hI.conc (getO_len (H := S.H)) he hzok hsr ao hb h63
      refine yields_value (exec_append ho (by rw [hao]; exact hrun)) ⟨_, A, m', hK, ?_⟩
      rw [← addO_one] at hN hr
      refine (hI.newW hN).val (S := ⟨S.fr, S.H ++ _⟩) hd ?_
      show RepO A m' (getO (S.H ++ _)) w' _ v
      rw [getO_add]
      exact hr
    case sf k z =>
      obtain ⟨_, rfl, ⟨rows0, hk⟩, hb, h63, hK⟩ := hX
      have hk' : getO S.H k = some (.arr (sizeT P e) rows0) := by simp [getO, hk]
      rw [rowsO_of hk'] at hb h63 hK
      rw [hes] at hrs
      obtain ⟨v, w', m', hrun, hT, hsh, hr⟩ := append_own (ty := o.type) hI.aok hI.conc he hzok hk' hrs hsr hb h63
      refine yields_value (exec_append ho hrun) ⟨_, A, m', hK, ?_⟩
      rw [← getO_turn (getO_lt hk')] at hT hsh hr
      refine (hI.turned (fr' := scrubF k S.fr) hT fun t => ?_).val (S := ⟨scrubF k S.fr, _⟩) hd hr
      rw [slot_scrub]
      exact (hI.fr t).scrubV hT.subA (fun b hb => hT.keepA b hb) hsh
    case so k z lo len =>
      obtain ⟨_, rfl, rfl, ⟨rows0, hk⟩, hl, hK⟩ := hX
      have hk' : getO S.H k = some (.arr (sizeT P e) rows0) := by simp [getO, hk]
      rw [rowsO_of hk'] at hl hK
      rw [hes] at hrs
      obtain ⟨v, w', hrun, hT, hsh, hr⟩ := append_room (P := P) (ty := o.type) hI.aok hI.conc he hz hk' hrs hsr hl
      refine yields_value (exec_append ho hrun) ⟨_, A, m, hK, ?_⟩
      rw [← getO_set (getO_lt hk')] at hT hsh hr
      exact (hI.turned (fr' := S.fr) hT fun t => (hI.fr t).mono hT.subA (fun b hb => hT.keepA b hb) hsh).val (S := ⟨S.fr, _⟩) hd hr

theorem exec_copy {o : Oper} {s y : Operand} {t t' : TypeId} {v : Value} (ho : o.op = .call { callee := .builtin .copy, args := #[s, y], argTypes := #[t, t'] })
    (hrun : (Builtin.copy_ #[t, t'] o.type #[a.eval s, a.eval y]).run P w = .ok v w') : (execOp a.eval o).run P w = .ok (.value v) w' := by
  simp [execOp, ho, resolve, invoke, builtin, hrun]
theorem exec_clear {o : Oper} {s : Operand} {t : TypeId} {v : Value} (ho : o.op = .call { callee := .builtin .clear, args := #[s], argTypes := #[t] })
    (hrun : (Builtin.clear_ #[t] o.type #[a.eval s]).run P w = .ok v w') : (execOp a.eval o).run P w = .ok (.value v) w' := by
  simp [execOp, ho, resolve, invoke, builtin, hrun]
theorem exec_cap {o : Oper} {s : Operand} {t : TypeId} {v : Value} (ho : o.op = .call { callee := .builtin .cap, args := #[s], argTypes := #[t] })
    (hrun : (Builtin.cap_ #[t] o.type #[a.eval s]).run P w = .ok v w') : (execOp a.eval o).run P w = .ok (.value v) w' := by
  simp [execOp, ho, resolve, invoke, builtin, hrun]

/-- A whole own object is a part of itself, where a block is laid for it, or it is empty. -/
theorem RepO.sf_so {h : OFun} {k z : Nat} {rows : List (List PV)} {v : Value} (hk : h k = some (.arr z rows)) (hr : RepO A m h w (.sf k z) v) : RepO A m h w (.so k z 0 rows.length) v ∨ (rows = [] ∧ ∃ ao, v = .slice ao 0 0) := by
  cases hr with
  | imm hi => cases hi
  | sfN _ _ C ao hk' hm => rw [hk] at hk'; cases hk'; exact .inr ⟨rfl, ao, rfl⟩
  | sf _ _ C b rows' hk' hm =>
    rw [hk] at hk'
    cases hk'
    have := RepO.so (A := A) (m := m) (h := h) (w := w) k z 0 rows.length C C b rows hk hm (by omega) (by omega)
    rw [Nat.zero_mul] at this
    exact .inl this

theorem goes_copy {x : Ctx} {n : Nat} {S : St} {o : Oper} {K : St → Prop} {s y : Operand} {t t' : TypeId} (ho : o.op = .call { callee := .builtin .copy, args := #[s, y], argTypes := #[t, t'] }) (hd : ∀ d, o.dst = some d → d < n) (hx : o.op.operands.toList.all (opdLt n) = true)
    (hI : Inv x n S a w A m) (hs : okv S.fr s) (hy : okv S.fr y) {q : Bool} (hX : copyX P q t o.dst (ev S.fr s) (ev S.fr y) S K) : Yields P o a w (Goes x n o.dst a K) := by
  obtain ⟨_, e, he, hz, hsrc, hsl, hX⟩ := hX
  have hO := hI.opnd
  have hg : Agree S.fr (cutF n S.fr) [s, y] := by
    refine (agree_cut hx).sub fun z hz => ?_
    rw [ho]
    simpa [Op.operands, Call.operands] using hz
  have hrs := hO.ev (x := s) (by rw [hg.ok (by simp)]; exact hs)
  have hry := hO.ev (x := y) (by rw [hg.ok (by simp)]; exact hy)
  rw [hg.ev (by simp)] at hrs hry
  have part : ∀ (k lo len : Nat), RepO A m (getO S.H) w (.so k (sizeT P e) lo len) (a.eval s) → copyAt o.dst k (sizeT P e) lo len (srcRows S.H (ev S.fr y)) S K → Yields P o a w (Goes x n o.dst a K) := fun k lo len hr ⟨⟨rows0, hk⟩, hl, h1, hK⟩ => by
    have hk' : getO S.H k = some (.arr (sizeT P e) rows0) := by simp [getO, hk]
    rw [rowsO_of hk'] at hl hK
    obtain ⟨w', hrun, hT, hsh⟩ := copy_eff (P := P) (ty := o.type) (tx := t') hI.aok hI.conc getO_sub he hz hk' hr hry hsrc hsl hl h1
    refine yields_value (exec_copy ho hrun) ⟨_, A, m, hK, ?_⟩
    rw [← getO_set (getO_lt hk')] at hT hsh
    exact (hI.turned (fr' := S.fr) hT fun t => (hI.fr t).mono hT.subA (fun b hb => hT.keepA b hb) hsh).val (S := ⟨S.fr, _⟩) hd (.imm (.int _ _))
  cases hes : ev S.fr s <;> simp only [hes] at hX
  case sf k z =>
    obtain ⟨rfl, hX⟩ := hX
    rw [hes] at hrs
    obtain ⟨rows0, hk⟩ := hX.1
    have hk' : getO S.H k = some (.arr (sizeT P e) rows0) := by simp [getO, hk]
    rcases hrs.sf_so hk' with hr | ⟨rfl, ao, hao⟩
    · rw [rowsO_of hk'] at hX
      exact part k 0 _ hr hX
    · obtain ⟨_, hl, h1, hK⟩ := hX
      rw [rowsO_of hk'] at hK
      obtain ⟨ao', cap', hyv, hf⟩ := src_take getO_sub hI.conc he hz hry hsrc hsl
      obtain ⟨news, f1, f2, _⟩ := hf 0 (Nat.zero_le _) (by simp [rowsOne])
      have hn0 : news = [] := List.eq_nil_of_length_eq_zero (by rw [f2]; simp)
      subst hn0
      rw [hyv] at f1
      have hrun := run_copy_zero (P := P) (w := w) (dT := t) (sT := t') (ty := o.type) he hz ao 0 0 ao' _ cap' (by simp) f1
      rw [← hao, ← hyv] at hrun
      refine yields_value (exec_copy ho hrun) ⟨_, A, m, hK, ?_⟩
      simp only [List.length_nil, Nat.min_zero, List.take_zero, List.take_nil, List.append_nil, Nat.add_zero, List.drop_nil]
      have hset : getO (S.H.set k (some (.arr (sizeT P e) []))) = getO S.H := by rw [getO_set (getO_lt hk'), updO_same hk']
      have hI' : Inv x n ⟨S.fr, S.H.set k (some (.arr (sizeT P e) []))⟩ a w A m := ⟨hI.moved, hI.sub, hI.aok, by show ConcO A m (getO _) w; rw [hset]; exact hI.conc, by show ∀ b, OwnB m (getO _) b → _; rw [hset]; exact hI.own, by show ∀ t, RepO A m (getO _) w _ _; rw [hset]; exact hI.fr, hI.sz, hI.df⟩
      exact hI'.val (S := ⟨S.fr, _⟩) hd (.imm (.int _ _))
  case so k z lo len =>
    obtain ⟨rfl, hX⟩ := hX
    rw [hes] at hrs
    exact part k lo len hrs hX

theorem goes_clear {x : Ctx} {n : Nat} {S : St} {o : Oper} {K : St → Prop} {s : Operand} {t : TypeId} (ho : o.op = .call { callee := .builtin .clear, args := #[s], argTypes := #[t] }) (hd : ∀ d, o.dst = some d → d < n) (hx : o.op.operands.toList.all (opdLt n) = true)
    (hI : Inv x n S a w A m) (hs : okv S.fr s) {q : Bool} (hX : clearX P q t o.dst (ev S.fr s) S K) : Yields P o a w (Goes x n o.dst a K) := by
  obtain ⟨_, e, zs, he, hz, hzs, hzl, hno, hone, hX⟩ := hX
  have hO := hI.opnd
  have hg : Agree S.fr (cutF n S.fr) [s] := by
    refine (agree_cut hx).sub fun z hz => ?_
    rw [ho]
    simpa [Op.operands, Call.operands] using hz
  have hrs := hO.ev (x := s) (by rw [hg.ok (by simp)]; exact hs)
  rw [hg.ev (by simp)] at hrs
  cases hes : ev S.fr s <;> simp only [hes] at hX
  case so k z lo len =>
    obtain ⟨rfl, ⟨rows0, hk⟩, hl, hK⟩ := hX
    have hk' : getO S.H k = some (.arr (sizeT P e) rows0) := by simp [getO, hk]
    rw [rowsO_of hk'] at hl hK
    rw [hes] at hrs
    obtain ⟨w', hrun, hT, hsh⟩ := clear_eff (P := P) (ty := o.type) hI.aok hI.conc he hzs hzl hno hone hk' hrs hl
    refine yields_value (exec_clear ho hrun) ⟨_, A, m, hK, ?_⟩
    rw [← getO_set (getO_lt hk')] at hT hsh
    exact (hI.turned (fr' := S.fr) hT fun t => (hI.fr t).mono hT.subA (fun b hb => hT.keepA b hb) hsh).val (S := ⟨S.fr, _⟩) hd (.topI _)

theorem goes_cap {x : Ctx} {n : Nat} {S : St} {o : Oper} {K : St → Prop} {s : Operand} {t : TypeId} (ho : o.op = .call { callee := .builtin .cap, args := #[s], argTypes := #[t] }) (hd : ∀ d, o.dst = some d → d < n) (hx : o.op.operands.toList.all (opdLt n) = true)
    (hI : Inv x n S a w A m) (hs : okv S.fr s) (ht : (elemT P t).isSome = true) (hX : capX S.fr (ev S.fr s) fun C => K ⟨put S.fr o.dst (.int .i64 C), S.H⟩) : Yields P o a w (Goes x n o.dst a K) := by
  have hO := hI.opnd
  have hg : Agree S.fr (cutF n S.fr) [s] := by
    refine (agree_cut hx).sub fun z hz => ?_
    rw [ho]
    simpa [Op.operands, Call.operands] using hz
  have hrs := hO.ev (x := s) (by rw [hg.ok (by simp)]; exact hs)
  rw [hg.ev (by simp)] at hrs
  obtain ⟨e, he⟩ := Option.isSome_iff_exists.1 ht
  have fin : ∀ (ao : Option Addr) (l C : Nat), a.eval s = .slice ao l C → K ⟨put S.fr o.dst (.int .i64 C), S.H⟩ → Yields P o a w (Goes x n o.dst a K) := fun ao l C hv hK => by
    refine yields_value (v := .int .i64 C) (w' := w) (exec_cap ho ?_) ⟨_, A, m, hK, hI.val (S := S) hd (.imm (.int _ _))⟩
    simp [Builtin.cap_, run_underlying (elemT_spec he), hv, goInt]
  have cpI : ∀ {k C : Nat}, slot S.fr (capS k) = .cp k C → ∃ ob, m k = some (ob, C) := fun {k C} hsl => by
    have hcp := hI.fr (capS k)
    rw [hsl] at hcp
    cases hcp with
    | imm hi => cases hi
    | cp _ _ ob o' _ _ hm => exact ⟨ob, hm⟩
  cases hes : ev S.fr s <;> simp only [hes, capX] at hX
  case nils =>
    rw [hes] at hrs
    obtain ⟨ao, hao⟩ := hrs.nilsI
    exact fin ao 0 0 hao hX
  case sf k z =>
    cases hsl : slot S.fr (capS k) <;> simp only [hsl] at hX
    case cp k' C =>
      obtain ⟨rfl, hK⟩ := hX
      obtain ⟨ob, hm⟩ := cpI hsl
      rw [hes] at hrs
      generalize hv : a.eval s = v at hrs
      cases hrs with
      | imm hi => cases hi
      | sfN _ _ C' ao hk' hm' =>
        rw [hm] at hm'
        cases hm'
        obtain ⟨_, rfl⟩ := hI.conc.at_none hk' hm
        exact fin _ _ _ hv hK
      | sf _ _ C' b rows hk' hm' =>
        rw [hm] at hm'
        cases hm'
        exact fin _ _ _ hv hK
  case so k z lo len =>
    cases hsl : slot S.fr (capS k) <;> simp only [hsl] at hX
    case cp k' C =>
      obtain ⟨rfl, rfl, hK⟩ := hX
      obtain ⟨ob, hm⟩ := cpI hsl
      rw [hes] at hrs
      obtain ⟨rows, ob', C', cap, hk', hm', hv⟩ := hrs.soI
      rw [hm] at hm'
      cases hm'
      rcases hv with ⟨rfl, ao, hao, h0⟩ | ⟨b, rfl, hao, hlen, hcap⟩
      · obtain ⟨rfl, rfl, rfl⟩ := h0 rfl
        obtain ⟨_, rfl⟩ := hI.conc.at_none hk' hm
        exact fin _ _ _ hao hK
      · obtain rfl : cap = C := by omega
        exact fin _ _ _ hao hK

/-- What is asked of an operation's own text. -/
def opOk (n : Nat) (o : Oper) : Bool :=
  (match o.dst with
   | some d => decide (d < n)
   | none => true) && o.op.operands.toList.all (opdLt n) &&
  (match o.op with
   | .store _ _ _ => o.dst == none
   | .select _ _ => false
   | _ => true)

theorem opOk_dst {n : Nat} {o : Oper} (h : opOk n o = true) (d : Nat) (hd : o.dst = some d) : d < n := by
  simp only [opOk, hd, Bool.and_eq_true, decide_eq_true_eq] at h
  exact h.1.1
theorem opOk_opd {n : Nat} {o : Oper} (h : opOk n o = true) : o.op.operands.toList.all (opdLt n) = true := by
  simp only [opOk, Bool.and_eq_true] at h
  exact h.1.2
theorem opOk_store {n : Nat} {o : Oper} (h : opOk n o = true) {t : TypeId} {p x : Operand} (ho : o.op = .store t p x) : o.dst = none := by
  simp only [opOk, ho, Bool.and_eq_true, beq_iff_eq] at h
  exact h.2

theorem slice_nil (h : OFun) {p : PV} {v : Value} (hs : Sub h H) (hr : RepO A m h w p v) {K : Bool → Prop} (hX : nilX H p K) : ∃ ao l c, v = .slice ao l c ∧ K ao.isNone := by
  have both : ∀ (ao : Option Addr), (ao.isNone = true → K true) → K false → K ao.isNone := fun ao h1 h2 => by
    cases hb : ao.isNone with
    | true => exact h1 hb
    | false => exact h2
  cases p <;> simp only [nilX] at hX
  case nils =>
    obtain ⟨ao, rfl⟩ := hr.nilsI
    exact ⟨ao, 0, 0, rfl, both ao (fun _ => hX.1) hX.2⟩
  case sl z rows =>
    cases hr with
    | imm hi =>
      cases hi with
      | slE _ ao cap => exact ⟨ao, 0, cap, rfl, both ao (fun _ => hX.1 rfl) hX.2⟩
      | sl _ _ b o cap u hA hc hzz hu hh => exact ⟨_, _, _, rfl, hX.2⟩
  case sf k z =>
    cases hr with
    | imm hi => cases hi
    | sfN _ _ C ao hk' hm => exact ⟨ao, 0, 0, rfl, both ao (fun _ => hX.2.1 (rowsO_of (hs _ _ hk'))) hX.2.2⟩
    | sf _ _ C b rows hk' hm => exact ⟨_, _, _, rfl, hX.2.2⟩

theorem run_equalIn_nil (w : World) (d : Nat) (t e : TypeId) (ht : P.underlying t = some (.slice e)) (ao : Option Addr) (l c l' c' : Nat) : (Op.equalIn (d + 1) t (.slice ao l c) (.slice none l' c')).run P w = .ok ao.isNone w := by
  cases ao <;> simp [Op.equalIn, run_underlying ht]

theorem goes_nil {x : Ctx} {n : Nat} {S : St} {o : Oper} {K : St → Prop} (hd : ∀ t, o.dst = some t → t < n) (hx : o.op.operands.toList.all (opdLt n) = true) (hI : Inv x n S a w A m) (hc : NilFull P o.op o.dst S K) : Yields P o a w (Goes x n o.dst a K) := by
  obtain ⟨b, t, y, z, u, ho, hn, hy, ht, hX⟩ := hc
  have hg : Agree S.fr (cutF n S.fr) [y, z] := by
    refine (agree_cut hx).sub fun q hq => ?_
    rw [ho]
    simpa [Op.operands] using hq
  have h1 := hI.opnd.ev (x := y) (by rw [hg.ok (by simp)]; exact hy)
  rw [hg.ev (by simp)] at h1
  obtain ⟨ao, l, c, hv, hK⟩ := slice_nil (getO S.H) getO_sub h1 hX
  obtain ⟨e, he⟩ := Option.isSome_iff_exists.1 ht
  have hsl := elemT_spec he
  have hz : b = .eql ∧ ∃ l' c', z = .const (.slice none l' c') := by
    unfold nilOp at hn
    split at hn
    · exact ⟨rfl, _, _, rfl⟩
    · cases hn
  obtain ⟨rfl, l', c', rfl⟩ := hz
  refine yields_value (v := .bool ao.isNone) (w' := w) ?_ ⟨_, A, m, hK, hI.val (S := S) hd (.imm (.bool _))⟩
  have e2 : a.eval (.const (.slice none l' c')) = .slice none l' c' := rfl
  simp [execOp, ho, hv, e2, eqGuard, binOp, Op.equal, Op.maxDepth, run_equalIn_nil w _ t e hsl]

theorem goes_ex {x : Ctx} {n : Nat} {S : St} {o : Oper} {K : St → Prop} {q : Bool} (hok : opOk n o = true) (hI : Inv x n S a w A m) (hX : aEx P q o.op o.dst S K) : Yields P o a w (Goes x n o.dst a K) := by
  have hd := opOk_dst hok
  cases he : isTurn o.op with
  | false =>
    rcases aEx_split he hX with ⟨pv, new, hp, hK⟩ | ⟨_, hc | hc⟩
    · exact goes_pre hd (opOk_opd hok) hI hp hK
    · exact goes_call hd (opOk_opd hok) hI hc
    · exact goes_nil hd (opOk_opd hok) hI hc
  | true =>
    cases ho : o.op <;> rw [ho] at he <;> try (cases he; done)
    case store t p y =>
      rw [ho] at hX
      exact goes_store ho (opOk_store hok ho) (opOk_opd hok) hI hX.1 hX.2.1 hX.2.2
    case call c =>
      obtain ⟨callee, as, ts⟩ := c
      cases callee with
      | builtin b =>
        cases b <;> try (cases he; done)
        case append =>
          rw [ho] at hX
          simp only [aEx] at hX
          split at hX
          · rename_i e1; cases e1
          · rename_i s y t t' e1 e2 e3
            have e2' : as = #[s, y] := by rw [← Array.toList_inj]; exact e2
            have e3' : ts = #[t, t'] := by rw [← Array.toList_inj]; exact e3
            subst e2'
            subst e3'
            exact goes_append ho hd (opOk_opd hok) hI hX.1 hX.2.1 hX.2.2
          · rename_i e1 _ _; cases e1
          · rename_i e1 _ _; cases e1
          · rename_i e1 _ _; cases e1
          · exact hX.1.elim
        case copy =>
          rw [ho] at hX
          simp only [aEx] at hX
          split at hX
          · rename_i e1; cases e1
          · rename_i e1 _ _; cases e1
          · rename_i s y t t' e1 e2 e3
            have e2' : as = #[s, y] := by rw [← Array.toList_inj]; exact e2
            have e3' : ts = #[t, t'] := by rw [← Array.toList_inj]; exact e3
            subst e2'
            subst e3'
            exact goes_copy ho hd (opOk_opd hok) hI hX.1 hX.2.1 hX.2.2
          · rename_i e1 _ _; cases e1
          · rename_i e1 _ _; cases e1
          · exact hX.1.elim
        case clear =>
          rw [ho] at hX
          simp only [aEx] at hX
          split at hX
          · rename_i e1; cases e1
          · rename_i e1 _ _; cases e1
          · rename_i e1 _ _; cases e1
          · rename_i s t e1 e2 e3
            have e2' : as = #[s] := by rw [← Array.toList_inj]; exact e2
            have e3' : ts = #[t] := by rw [← Array.toList_inj]; exact e3
            subst e2'
            subst e3'
            exact goes_clear ho hd (opOk_opd hok) hI hX.1 hX.2
          · rename_i e1 _ _; cases e1
          · exact hX.1.elim
        case cap =>
          rw [ho] at hX
          simp only [aEx] at hX
          split at hX
          · rename_i e1; cases e1
          · rename_i e1 _ _; cases e1
          · rename_i e1 _ _; cases e1
          · rename_i e1 _ _; cases e1
          · rename_i s t e1 e2 e3
            have e2' : as = #[s] := by rw [← Array.toList_inj]; exact e2
            have e3' : ts = #[t] := by rw [← Array.toList_inj]; exact e3
            subst e2'
            subst e3'
            exact goes_cap ho hd (opOk_opd hok) hI hX.2.1 hX.2.2.1 hX.2.2.2
          · exact hX.1.elim
        all_goals (rw [ho] at hX; exact hX.1.elim)
      | _ => cases he

theorem shift_id {k : Nat} {p : PV} (hw : whole 0 p = true) : shift k p = p := by
  have A : ∀ c, wholeA 0 c = true → shiftA k c = c := fun c hc => by
    cases c with
    | sf k z => simp [wholeA] at hc
    | _ => rfl
  have B : ∀ c, wholeB 0 c = true → shiftB k c = c := fun c hc => by
    cases c with
    | agg ds =>
      simp only [wholeB, List.all_eq_true] at hc
      simp only [shiftB]
      congr 1
      exact (List.map_congr_left fun c h => A c (hc c h)).trans (List.map_id _)
    | sf k z => simp [wholeB, wholeA] at hc
    | _ => rfl
  cases p with
  | tup cs =>
    simp only [whole, List.all_eq_true] at hw
    simp only [shift]
    congr 1
    exact (List.map_congr_left fun c h => B c (hw c h)).trans (List.map_id _)
  | agg ds => exact B (.agg ds) hw
  | sf k z => simp [whole, wholeB, wholeA] at hw
  | _ => rfl

theorem aGd_split {c : Bool} {op : Op} {d : Option Nat} {S : St} {K : St → Prop} (h : aGd P c op d S K) : ∃ pv, (c = true → PreStep P S.fr S.H S.H.length op pv []) ∧ K ⟨put S.fr d (.opt c pv), S.H⟩ := by
  have quiet : ∀ {op : Op}, (c = true → vok P S.fr S.H op) ∧ K ⟨put S.fr d (.opt c (vop P S.fr S.H op)), S.H⟩ → ∃ pv, (c = true → PreStep P S.fr S.H S.H.length op pv []) ∧ K ⟨put S.fr d (.opt c pv), S.H⟩ := fun {op} h => ⟨_, fun hc => .quiet (h.1 hc), h.2⟩
  cases op <;> first | exact quiet h | skip
  case convert s t x =>
    simp only [aGd] at h
    unfold convG at h
    split at h
    · rename_i l e hev he
      obtain ⟨h1, hK⟩ := h
      exact ⟨_, fun hc => .bytes (h1 hc).1 hev (h1 hc).2.1 he (h1 hc).2.2, hK⟩
    · exact quiet h
  case call cl =>
    obtain ⟨callee, as, ts⟩ := cl
    cases callee <;> first | exact quiet h | skip
    case value y =>
      simp only [aGd] at h
      obtain ⟨hok, h⟩ := h
      cases hev : ev S.fr y <;> simp only [hev] at h
      case fn f caps =>
        obtain ⟨res, h1, h2, h3, hK⟩ := h
        refine ⟨res, fun hc => ?_, hK⟩
        obtain ⟨q0, q1⟩ := h1 hc
        simp only [Bool.and_eq_true] at q0
        obtain ⟨q2, q3⟩ := q0
        have := PreStep.call (P := P) (fr := S.fr) (H := S.H) (k0 := S.H.length) (ts := ts) (hok hc).1 (hok hc).2 hev rfl q1 q2 q3 (h2.imp id fun h => ⟨h, trivial⟩) h3 rfl
        rw [shift_id h3] at this
        simpa using this

/-- The guard says the same in the run. -/
theorem guard_run {x : Ctx} {n : Nat} {S : St} {all : List Oper} (hI : Inv x n S a w A m) (hall : all.all (opOk n) = true) {o : Oper} {j : Nat} {want : Bool} (ho : o.guard = some (j, want)) {K : Bool → Prop} (hg : guardV all S.fr j want K) :
    ∃ c, Region.wanted o (yielded all.toArray a.tmps) = c ∧ K c := by
  have dst : ∀ (l : List Oper) (j : Nat), dstAt l j = (l[j]?).bind (·.dst) := by
    intro l
    induction l with
    | nil => intro j; rfl
    | cons o r ih =>
      intro j
      cases j with
      | zero => rfl
      | succ j => simpa [dstAt] using ih j
  unfold guardV at hg
  cases hd : dstAt all j with
  | none => rw [hd] at hg; exact hg.elim
  | some d =>
    rw [hd] at hg
    simp only [gD] at hg
    rw [dst] at hd
    have hdn : d < n := by
      cases hoj : all[j]? with
      | none => rw [hoj] at hd; cases hd
      | some oj =>
        rw [hoj] at hd
        exact opOk_dst (List.all_eq_true.1 hall oj (List.mem_of_getElem? hoj)) d hd
    have hy : yielded all.toArray a.tmps j = match a.tmps.getD d undef with
        | .bool b => some b
        | _ => none := by
      unfold yielded
      have hlt : d < a.tmps.size := by rw [hI.sz]; exact hdn
      simp only [List.getElem?_toArray, hd, Option.bind_some, Array.getElem?_eq_getElem hlt, Array.getD_eq_getD_getElem?, Option.getD_some]
      split <;> simp_all
    have hr := hI.fr d
    rw [look_lt hdn] at hr
    simp only [Region.wanted, ho, hy]
    generalize a.tmps.getD d undef = gv at hr
    unfold gK at hg
    split at hg
    · rename_i b hs
      rw [hs] at hr
      rw [hr.bool]
      refine ⟨b == want, ?_, hg⟩
      cases b <;> cases want <;> rfl
    · rename_i c b hs
      rw [hs] at hr
      cases hr with
      | imm hi => cases hi
      | optT _ _ hh =>
        rw [hh.bool]
        refine ⟨b == want, ?_, hg⟩
        cases b <;> cases want <;> rfl
      | optF _ => exact ⟨false, rfl, hg⟩
    · exact hg.elim

theorem ops_sound {x : Ctx} {n : Nat} {all : List Oper} {Q : Exit → Act → World → Prop} {K : St → Prop} (hall : all.all (opOk n) = true) (hQ : ∀ S' a' w' A' m', K S' → Inv x n S' a' w' A' m' → Q .normal a' w') :
    ∀ (ops : List Oper) (q : Bool) (S : St) (a : Act) (w : World) (A : Nat → Prop) (m : OMap), ops.all (opOk n) = true → Inv x n S a w A m → aOps P q all ops S K → wpList P all.toArray Q ops a w
  | [], _, S, a, w, A, m, _, hI, h => hQ S a w A m h hI
  | o :: r, q, S, a, w, A, m, hok, hI, h => by
    simp only [List.all_cons, Bool.and_eq_true] at hok
    unfold wpList
    cases hg : o.guard with
    | none =>
      simp only [aOps, hg] at h
      rw [if_pos (by simp [Region.wanted, hg])]
      cases hmk : q && markB S.fr o.op with
      | true =>
        rw [hmk, cond_true] at h
        refine .inl (goes_ex hok.1 hI h.2 _ _ fun v w' ⟨S', A', m', hK, hI'⟩ => ?_)
        exact ops_sound hall hQ r _ S' _ w' A' m' hok.2 hI' hK
      | false =>
        rw [hmk, cond_false] at h
        refine .inl (goes_ex hok.1 hI h _ _ fun v w' ⟨S', A', m', hK, hI'⟩ => ?_)
        exact ops_sound hall hQ r _ S' _ w' A' m' hok.2 hI' hK
    | some g =>
      obtain ⟨j, want⟩ := g
      simp only [aOps, hg] at h
      obtain ⟨c, hw, hc⟩ := guard_run hI hall hg h
      obtain ⟨pv, hp, hK⟩ := aGd_split hc
      cases c with
      | true =>
        rw [if_pos hw]
        refine .inl (yields_mono (pre_sem (pre_congr (agree_cut (opOk_opd hok.1)) (hp rfl)) A m (getO S.H) w a hI.aok hI.conc getO_sub hI.opnd fun i hi => absurd hi (by simp)) (fun v w' hR => hR) _ _ fun v w' ⟨A', m', hN, hr⟩ => ?_)
        have := hI.newW hN
        rw [List.append_nil] at this
        rw [addO_nil] at hr
        exact ops_sound hall hQ r _ _ _ w' A' m' hok.2 (this.val (S := S) (opOk_dst hok.1) (.optT _ _ hr)) hK
      | false =>
        rw [if_neg (by rw [hw]; decide)]
        exact ops_sound hall hQ r _ _ _ w A m hok.2 (hI.val (opOk_dst hok.1) (.optF _)) hK

end Go.Ab
