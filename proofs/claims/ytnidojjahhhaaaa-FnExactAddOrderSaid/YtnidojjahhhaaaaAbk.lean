/- Calls by contract that leave own objects alone: what they yield, in whatever order they come up. No condition. -/
import Derived.Test.YtnidojjahhhaaaaAbj
namespace Go.Ab
variable {P : Program} {A A' : Nat → Prop} {m m' : OMap} {h h' : OFun} {w w' : World} {H : Heap} {fr : Fr} {a : Act}

/-- A call of f, as an operation. -/
theorem yields_call {o : Oper} {y : Operand} {xs : List Operand} {ts : Array TypeId} {f : FuncId} {us : Array Value} {R : Value → World → Prop}
    (ho : o.op = .call { callee := .value y, args := xs.toArray, argTypes := ts }) (hy : a.eval y = .func (.func f) #[] us)
    (hc : CallS P f ((xs.map a.eval).toArray ++ us) w fun e w' => ∃ v, e = .returned v ∧ R v w') : Yields P o a w R := fun K Q hK => by
  have hrun : (execOp a.eval o).run P w = (callFunc f ((xs.map a.eval).toArray ++ us)).run P w := by
    simp [execOp, ho, resolve, hy, Deferred.ofValue, invoke]
  unfold Oper.wp
  rw [hrun]
  unfold CallS at hc
  split at hc
  · rename_i g as w1 hr
    obtain ⟨rfl, hcalls⟩ := hc
    rw [hr]
    show Calls P g as _ _
    exact hcalls.mono fun e w' ⟨v, he, hR⟩ => by subst he; exact hK v w' hR
  · rename_i v w1 hr
    obtain ⟨rfl, v', he, hR⟩ := hc
    cases he
    rw [hr]
    exact hK v _ hR
  · exact hc.elim

theorem CallS.mono {f : FuncId} {args : Array Value} {R R' : Ending → World → Prop} (h : CallS P f args w R) (hR : ∀ e w', R e w' → R' e w') : CallS P f args w R' := by
  unfold CallS at *
  split at h
  · exact ⟨h.1, h.2.mono hR⟩
  · exact ⟨h.1, hR _ _ h.2⟩
  · exact h.elim

/-- Own objects read as memory that nobody changes: while a call runs. -/
def Lent (A : Nat → Prop) (m : OMap) (h : OFun) : Nat → Prop := fun b => A b ∨ OwnB m h b

theorem ConcO.rowI (hC : ConcO A m h w) {k z b C : Nat} {rows : List (List PV)} (hk : h k = some (.arr z rows)) (hm : m k = some (some b, C)) :
    ∃ u : Nat → Nat → Value, (∀ (i : Nat) (r : List PV), rows[i]? = some r → r.length = z) ∧ (∀ (i j : Nat) (r : List PV) (c : PV), rows[i]? = some r → r[j]? = some c → w.cell? ⟨b, 0 + (i * z + j), none⟩ = some (u i j)) ∧
      ∀ (i j : Nat) (r : List PV) (c : PV), rows[i]? = some r → r[j]? = some c → RepI A w c (u i j) := by
  obtain ⟨ob, C', hm', ho⟩ := hC.at_ k _ hk
  rw [hm] at hm'
  cases hm'
  obtain ⟨_, _, _, _, hz, cur, e, hcur, _, hcell⟩ := ho
  refine ⟨fun i j => cur.getD (i * z + j) undef, hz, fun i j r c hr hc => ?_, fun i j r c hr hc => ?_⟩
  · obtain ⟨u, hu, _⟩ := hcell i j r c hr hc
    simp [World.cell?, hcur, hu, Array.getD_eq_getD_getElem?]
  · obtain ⟨u, hu, hru⟩ := hcell i j r c hr hc
    simpa [Array.getD_eq_getD_getElem?, hu] using hru

theorem RepI.lent {p : PV} {v : Value} (hr : RepI A w p v) : RepI (Lent A m h) w p v := hr.mono (fun _ h => .inl h) (fun _ _ => rfl)

theorem immA_rep (hs : Sub h H) (hC : ConcO A m h w) {p : PV} {v : Value} (hr : RepO A m h w p v) (hn : noOwnA (immA H p) = true) : RepI (Lent A m h) w (immA H p) v := by
  cases hr with
  | imm hi =>
    cases p <;> first | exact hi.lent | (cases hi)
  | sfN k z C ao hk hm =>
    simp only [immA, rowsO_of (hs _ _ hk)]
    exact .slE _ _ _
  | sf k z C b rows hk hm =>
    simp only [immA, rowsO_of (hs _ _ hk)]
    obtain ⟨u, g1, g2, g3⟩ := hC.rowI hk hm
    exact .sl z rows b 0 C u (.inr ⟨k, _, C, hk, hm⟩) (hC.room hk hm).1 g1 g2 (fun i j r c h1 h2 => (g3 i j r c h1 h2).lent)
  | so0 k z C cap ao hk hm hc =>
    simp only [immA, rowsO_of (hs _ _ hk)]
    exact .slE _ _ _
  | soE k z lo C cap ao rows b hk hm hlo =>
    simp only [immA, List.take_zero]
    exact .slE _ _ _
  | so k z lo len C cap b rows hk hm hl hc =>
    simp only [immA, rowsO_of (hs _ _ hk)]
    obtain ⟨u, g1, g2, g3⟩ := hC.rowI hk hm
    have key : ∀ (i : Nat) (r : List PV), ((rows.drop lo).take len)[i]? = some r → rows[lo + i]? = some r := fun i r hr => by
      rw [List.getElem?_take] at hr
      split at hr
      · rwa [List.getElem?_drop] at hr
      · cases hr
    have hlen : ((rows.drop lo).take len).length = len := by simp; omega
    have hroom := (hC.room hk hm).1
    have := RepI.sl (A := Lent A m h) (w := w) z ((rows.drop lo).take len) b (lo * z) cap (fun i j => u (lo + i) j) (.inr ⟨k, _, C, hk, hm⟩) (by omega) (fun i r hr => g1 _ r (key i r hr))
      (fun i j r c hr hcj => by have := g2 _ j r c (key i r hr) hcj; rwa [Nat.zero_add, Nat.add_mul, Nat.add_assoc] at this) (fun i j r c hr hcj => (g3 _ j r c (key i r hr) hcj).lent)
    rw [hlen] at this
    exact this
  | pa k z i off C b rows hk hm =>
    simp only [immA, rowsO_of (hs _ _ hk)]
    obtain ⟨u, g1, g2, g3⟩ := hC.rowI hk hm
    have := RepI.pe (A := Lent A m h) (w := w) z rows i off b 0 u (.inr ⟨k, _, C, hk, hm⟩) g1 g2 (fun i j r c h1 h2 => (g3 i j r c h1 h2).lent)
    rwa [Nat.zero_add] at this
  | pb => simp [immA, noOwnA] at hn
  | own => simp [immA, noOwnA] at hn
  | cp => simp [immA, noOwnA] at hn
  | agg => simp [immA, noOwnA] at hn
  | tup => simp [immA, noOwnA] at hn
  | fn => simp [immA, noOwnA] at hn
  | optT => simp [immA, noOwnA] at hn
  | optF => simp [immA, noOwnA] at hn

/-- One level more: a pointer to an own variable. The cells behind it must own nothing once they are read so. -/
theorem immB_rep (hs : Sub h H) (hC : ConcO A m h w) {p : PV} {v : Value} (hr : RepO A m h w p v) (hn : noOwnA (immB H p) = true) (hb : ∀ k off, p = .pb k off → ((boxO H k).map (immA H)).all noOwnA = true) : RepI (Lent A m h) w (immB H p) v := by
  by_cases hp : ∃ k off, p = .pb k off
  · obtain ⟨k, off, rfl⟩ := hp
    have hb := hb k off rfl
    cases hr with
    | imm hi => cases hi
    | pb _ _ C b cs hk hm =>
      simp only [immB, boxO_of (hs _ _ hk)] at hb ⊢
      obtain ⟨ob, C', hm', ho⟩ := hC.at_ k _ hk
      rw [hm] at hm'
      cases hm'
      obtain ⟨_, _, cur, e, hcur, hsz, hcell⟩ := ho
      have := RepI.pe (A := Lent A m h) (w := w) cs.length [cs.map (immA H)] 0 off b 0 (fun _ j => cur.getD j undef) (.inr ⟨k, _, C, hk, hm⟩)
        (fun i r hr => by cases i with
          | zero => cases hr; simp
          | succ i => simp at hr)
        (fun i j r c hr hc => by cases i with
          | zero =>
            cases hr
            obtain ⟨c', h1, _⟩ : ∃ c', cs[j]? = some c' ∧ c = immA H c' := by
              rw [List.getElem?_map] at hc
              cases hcj : cs[j]? with
              | none => rw [hcj] at hc; cases hc
              | some c' => rw [hcj] at hc; cases hc; exact ⟨c', rfl, rfl⟩
            obtain ⟨u, hu, _⟩ := hcell j c' h1
            simp [World.cell?, hcur, hu, Array.getD_eq_getD_getElem?]
          | succ i => simp at hr)
        (fun i j r c hr hc => by cases i with
          | zero =>
            cases hr
            obtain ⟨c', h1, rfl⟩ : ∃ c', cs[j]? = some c' ∧ c = immA H c' := by
              rw [List.getElem?_map] at hc
              cases hcj : cs[j]? with
              | none => rw [hcj] at hc; cases hc
              | some c' => rw [hcj] at hc; cases hc; exact ⟨c', rfl, rfl⟩
            obtain ⟨u, hu, hru⟩ := hcell j c' h1
            have hno : noOwnA (immA H c') = true := List.all_eq_true.1 hb _ (List.mem_map_of_mem (List.mem_of_getElem? h1))
            simpa [Array.getD_eq_getD_getElem?, hu] using immA_rep hs hC hru hno
          | succ i => simp at hr)
      rwa [Nat.zero_mul, Nat.zero_add, Nat.zero_add] at this
  · have e : immB H p = immA H p := by cases p <;> first | rfl | (exact absurd ⟨_, _, rfl⟩ hp)
    rw [e] at hn ⊢
    exact immA_rep hs hC hr hn

theorem immB_rep' (hs : Sub h H) (hC : ConcO A m h w) {p : PV} {v : Value} (hr : RepO A m h w p v) (hn : noOwnA (immB H p) = true) (hb : boxOkA H p = true) : RepI (Lent A m h) w (immB H p) v :=
  immB_rep hs hC hr hn fun k off e => by subst e; exact hb

theorem imm_rep (hs : Sub h H) (hC : ConcO A m h w) {p : PV} {v : Value} (hr : RepO A m h w p v) (hn : noOwn (imm H p) = true) (hb : boxOk H p = true) : RepI (Lent A m h) w (imm H p) v := by
  have map_get : ∀ {cs : List PV} {i : Nat} {c : PV}, (cs.map (immB H))[i]? = some c → ∃ c', cs[i]? = some c' ∧ c = immB H c' := fun {cs i c} hc => by
    rw [List.getElem?_map] at hc
    cases hcj : cs[i]? with
    | none => rw [hcj] at hc; cases hc
    | some c' => rw [hcj] at hc; cases hc; exact ⟨c', rfl, rfl⟩
  cases p with
  | agg cs =>
    obtain ⟨us, rfl, hl, hh⟩ := hr.aggI
    simp only [imm, noOwn, boxOk] at hn hb ⊢
    refine .agg _ us (by simpa using hl) fun i c hc => ?_
    obtain ⟨c', h1, rfl⟩ := map_get hc
    exact immB_rep' hs hC (hh i c' h1) (List.all_eq_true.1 hn _ (List.mem_map_of_mem (List.mem_of_getElem? h1))) (List.all_eq_true.1 hb _ (List.mem_of_getElem? h1))
  | fn f cs =>
    obtain ⟨us, rfl, hl, hh⟩ := hr.fnI
    simp only [imm, noOwn, boxOk] at hn hb ⊢
    refine .fn f _ us (by simpa using hl) fun i c hc => ?_
    obtain ⟨c', h1, rfl⟩ := map_get hc
    exact immB_rep' hs hC (hh i c' h1) (List.all_eq_true.1 hn _ (List.mem_map_of_mem (List.mem_of_getElem? h1))) (List.all_eq_true.1 hb _ (List.mem_of_getElem? h1))
  | tup cs =>
    obtain ⟨us, rfl, hl, hh⟩ := hr.tupI
    simp only [imm, immB, immA, noOwn] at hn ⊢
    exact .tup _ us hl fun i c hc => ((hh i c hc).toI (List.all_eq_true.1 hn c (List.mem_of_getElem? hc))).lent
  | _ => exact immB_rep' hs hC hr hn hb

theorem noOwn_rep {p : PV} {v : Value} (hn : noOwn p = true) (hr : RepO A m h w p v) : RepI A w p v ∧ imm H p = p := by
  have one : ∀ {c : PV}, noOwnA c = true → immA H c = c := fun {c} hc => by cases c <;> first | rfl | (simp [noOwnA] at hc)
  have two : ∀ {c : PV}, noOwnA c = true → immB H c = c := fun {c} hc => by cases c <;> first | rfl | (simp [noOwnA] at hc)
  have lst : ∀ {cs : List PV}, cs.all noOwnA = true → cs.map (immB H) = cs := fun {cs} hc => by
    conv => rhs; rw [← List.map_id cs]
    exact List.map_congr_left fun c h => two (List.all_eq_true.1 hc c h)
  cases p with
  | agg cs =>
    obtain ⟨us, rfl, hl, hh⟩ := hr.aggI
    simp only [noOwn] at hn
    exact ⟨.agg _ us hl fun i c hc => (hh i c hc).toI (List.all_eq_true.1 hn c (List.mem_of_getElem? hc)), by simp only [imm, lst hn]⟩
  | fn f cs =>
    obtain ⟨us, rfl, hl, hh⟩ := hr.fnI
    simp only [noOwn] at hn
    exact ⟨.fn f _ us hl fun i c hc => (hh i c hc).toI (List.all_eq_true.1 hn c (List.mem_of_getElem? hc)), by simp only [imm, lst hn]⟩
  | tup cs =>
    obtain ⟨us, rfl, hl, hh⟩ := hr.tupI
    simp only [noOwn] at hn
    exact ⟨.tup _ us hl fun i c hc => (hh i c hc).toI (List.all_eq_true.1 hn c (List.mem_of_getElem? hc)), rfl⟩
  | _ =>
    refine ⟨hr.toI (by simpa [noOwn] using hn), ?_⟩
    simp only [imm]
    exact two (by simpa [noOwn] using hn)

/-! ### Behind the call -/

def addM (m : OMap) (k0 n : Nat) (m' : OMap) : OMap := fun k => if k0 ≤ k ∧ k < k0 + n then m' (k - k0) else m k

theorem addO_in {k0 k : Nat} {new : List (Option Obj)} (hk : k < new.length) : addO h k0 new (k0 + k) = getO new k := by
  simp only [addO, getO]
  rw [if_pos (by omega), Nat.add_sub_cancel_left]
theorem addM_in {k0 n k : Nat} (hk : k < n) : addM m k0 n m' (k0 + k) = m' k := by
  simp only [addM]
  rw [if_pos (by omega), Nat.add_sub_cancel_left]

theorem getO_lt {k : Nat} {o : Obj} (hk : getO H k = some o) : k < H.length := by
  unfold getO at hk
  cases e : H[k]? with
  | none => simp [e] at hk
  | some x => exact (List.getElem?_eq_some_iff.1 e).1

theorem arrO_spec : ∀ {Hout : Heap}, arrO Hout = true → ∀ {k : Nat} {cs : List PV}, getO Hout k ≠ some (.box cs)
  | [], _, k, cs => by simp [getO]
  | none :: r, ha, k, cs => by
    cases k with
    | zero => simp [getO]
    | succ k => simpa [getO] using arrO_spec (Hout := r) ha (k := k) (cs := cs)
  | some (.arr z rows) :: r, ha, k, cs => by
    cases k with
    | zero => simp [getO]
    | succ k => simpa [getO] using arrO_spec (Hout := r) ha (k := k) (cs := cs)
  | some (.box _) :: r, ha, k, cs => by simp [arrO] at ha

theorem flatO_spec : ∀ {Hout : Heap}, flatO Hout → ∀ {k z : Nat} {rows : List (List PV)}, getO Hout k = some (.arr z rows) → flatRows rows
  | [], _, k, z, rows, hk => by simp [getO] at hk
  | none :: r, ha, k, z, rows, hk => by
    cases k with
    | zero => simp [getO] at hk
    | succ k => exact flatO_spec (Hout := r) ha (k := k) (by simpa [getO] using hk)
  | some (.arr z' rows') :: r, ha, k, z, rows, hk => by
    cases k with
    | zero => simp [getO] at hk; obtain ⟨rfl, rfl⟩ := hk; exact ha.1
    | succ k => exact flatO_spec (Hout := r) ha.2 (k := k) (by simpa [getO] using hk)
  | some (.box _) :: r, ha, _, _, _, _ => ha.elim

theorem newW_came {Ac A'' : Nat → Prop} {m0 : OMap} {Hout : Heap} {res : PV} {v : Value} {k0 : Nat} (hA : AOk A w) (hC : ConcO A m h w) (hk0 : ∀ i, i < Hout.length → h (k0 + i) = none)
    (hcame : Came Ac m0 (getO []) w res (getO Hout) v w' A' m') (harr : arrO Hout = true) (s1 : ∀ b, A b → A'' b) (s2 : ∀ b, A'' b → A b ∨ w.heap.size ≤ b) (s3 : AOk A'' w')
    (c1 : ∀ (k z : Nat) (rows : List (List PV)), getO Hout k = some (.arr z rows) → ∀ r ∈ rows, ∀ c ∈ r, ∀ u, RepI A' w' c u → RepI A'' w' c u) (c2 : ∀ b, OwnB m' (getO Hout) b → ¬ A'' b) :
    NewW A m h w A'' (addM m k0 Hout.length m') (addO h k0 Hout) w' := by
  have hmv : Moved (fun _ => False) w w' := hcame.moved.mono fun b _ ⟨k, o, C, hk, _⟩ => by simp [getO] at hk
  have hold : ∀ k o, h k = some o → addM m k0 Hout.length m' k = m k ∧ addO h k0 Hout k = some o := fun k o hk => by
    have : ¬ (k0 ≤ k ∧ k < k0 + Hout.length) := fun ⟨g1, g2⟩ => by
      have := hk0 (k - k0) (by omega)
      rw [show k0 + (k - k0) = k by omega, hk] at this
      cases this
    exact ⟨by simp only [addM, if_neg this], by simp only [addO, if_neg this, hk]⟩
  have hsh : Shaped none m h (addM m k0 Hout.length m') (addO h k0 Hout) := fun k o _ hk => ⟨(hold k o hk).1, o, (hold k o hk).2, SameShape.refl o⟩
  have hcase : ∀ k o, addO h k0 Hout k = some o → (∃ i, i < Hout.length ∧ k = k0 + i ∧ getO Hout i = some o ∧ addM m k0 Hout.length m' k = m' i) ∨ (h k = some o ∧ addM m k0 Hout.length m' k = m k) := fun k o hk => by
    by_cases g : k0 ≤ k ∧ k < k0 + Hout.length
    · refine .inl ⟨k - k0, by omega, by omega, ?_, ?_⟩
      · simp only [addO, if_pos g] at hk; exact hk
      · simp only [addM, if_pos g]
    · refine .inr ⟨?_, ?_⟩
      · simpa only [addO, if_neg g] using hk
      · simp only [addM, if_neg g]
  have hnew : ∀ b, OwnB m' (getO Hout) b → w.heap.size ≤ b := fun b hb => by
    rcases hcame.own b hb with ⟨k, o, C, hk, _⟩ | h
    · simp [getO] at hk
    · exact h
  refine ⟨hmv, s1, s2, s3, ⟨fun k o hk => ?_, fun k k' o o' b C C' hk hk' hm hm' => ?_⟩, hsh, fun b ⟨k, o, C, hk, hm⟩ => ?_⟩
  · rcases hcase k o hk with ⟨i, _, rfl, hi, e⟩ | ⟨hk', e⟩
    · obtain ⟨ob, C, hm, ho⟩ := hcame.conc.at_ i o hi
      refine ⟨ob, C, e.trans hm, ?_⟩
      cases o with
      | box cs => exact absurd hi (arrO_spec harr)
      | arr z rows =>
        cases ob with
        | none => exact ho
        | some b =>
          obtain ⟨_, g2, g3, g4, g5, cur, ty, gc, gs, gcell⟩ := ho
          refine ⟨c2 b ⟨i, _, C, hi, hm⟩, g2, g3, g4, g5, cur, ty, gc, gs, fun i' j r c hr hc => ?_⟩
          obtain ⟨u, hu, hru⟩ := gcell i' j r c hr hc
          exact ⟨u, hu, c1 i z rows hi r (List.mem_of_getElem? hr) c (List.mem_of_getElem? hc) u hru⟩
    · obtain ⟨ob, C, hm, ho⟩ := hC.at_ k o hk'
      refine ⟨ob, C, e.trans hm, ho.mono s1 (fun b hb => hmv.block b (hA b hb) fun h => h) hsh hmv.size fun b hb => ?_⟩
      have hl := hC.lt ⟨k, o, C, hk', by rw [hm, hb]⟩
      refine ⟨fun hb' => ?_, hmv.block b hl.1 fun h => h⟩
      rcases s2 b hb' with h1 | h1
      · exact hl.2 h1
      · omega
  · rcases hcase k o hk with ⟨i, _, rfl, hi, e⟩ | ⟨g, e⟩ <;> rcases hcase k' o' hk' with ⟨i', _, rfl, hi', e'⟩ | ⟨g', e'⟩
    · rw [e] at hm
      rw [e'] at hm'
      rw [hcame.conc.inj i i' o o' b C C' hi hi' hm hm']
    · have h1 := hnew b ⟨i, o, C, hi, by rw [← e]; exact hm⟩
      have h2 := (hC.lt ⟨k', o', C', g', by rw [← e']; exact hm'⟩).1
      omega
    · have h1 := hnew b ⟨i', o', C', hi', by rw [← e']; exact hm'⟩
      have h2 := (hC.lt ⟨k, o, C, g, by rw [← e]; exact hm⟩).1
      omega
    · rw [e] at hm
      rw [e'] at hm'
      exact hC.inj k k' o o' b C C' g g' hm hm'
  · rcases hcase k o hk with ⟨i, _, rfl, hi, e⟩ | ⟨g, e⟩
    · exact .inr (hnew b ⟨i, o, C, hi, by rw [← e]; exact hm⟩)
    · exact .inl ⟨k, o, C, g, by rw [← e]; exact hm⟩

end Go.Ab
