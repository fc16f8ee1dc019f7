/- append, whole. No condition. -/
import Derived.Test.YtnidojjahhhaaaaAbo
namespace Go.Ab
variable {P : Program} {A A' : Nat → Prop} {m m' : OMap} {h h' : OFun} {w w' : World} {H : Heap} {fr fr' : Fr} {a : Act}

/-- A new own slice that has no block yet. -/
theorem newW_none (hA : AOk A w) (hC : ConcO A m h w) {k z : Nat} (hk : h k = none) : NewW A m h w A (updM m k (none, 0)) (updO h k (.arr z [])) w := by
  have hsh := shaped_upd (m := m) (x := (none, 0)) (o := .arr z []) hk
  refine ⟨.refl _ _, fun _ h => h, fun _ h => .inl h, hA, ⟨fun j o hj => ?_, fun j j' o o' b C C' hj hj' h1 h2 => ?_⟩, hsh, fun b ⟨j, o, C, hj, hmj⟩ => ?_⟩
  · by_cases e : j = k
    · subst e
      simp only [updO, if_true, Option.some.injEq] at hj
      subst hj
      exact ⟨none, 0, by simp [updM], rfl, rfl⟩
    · simp only [updO, if_neg e] at hj
      obtain ⟨ob, C, hm, ho⟩ := hC.at_ j o hj
      exact ⟨ob, C, by simp only [updM, if_neg e]; exact hm, ho.mono (fun _ h => h) (fun _ _ => rfl) hsh (Nat.le_refl _) fun b hb => ⟨(hC.lt ⟨j, o, C, hj, by rw [hm, hb]⟩).2, rfl⟩⟩
  · by_cases e : j = k
    · simp [updM, e] at h1
    · by_cases e' : j' = k
      · simp [updM, e'] at h2
      · simp only [updM, updO, if_neg e, if_neg e'] at *
        exact hC.inj j j' o o' b C C' hj hj' h1 h2
  · by_cases e : j = k
    · simp [updM, e] at hmj
    · simp only [updM, updO, if_neg e] at hmj hj
      exact .inl ⟨j, o, C, hj, hmj⟩

theorem zokT_spec {e : TypeId} (hz : zokT P e = true) : ∃ i v, P.info? e = some i ∧ i.zero = some v ∧ i.size = sizeT P e ∧ i.bytes = bytesT P e ∧ v.cells.size = sizeT P e := by
  unfold zokT at hz
  cases hzt : zeroT P e with
  | none => rw [hzt] at hz; cases hz
  | some zs =>
    rw [hzt] at hz
    simp only [Bool.and_eq_true, beq_iff_eq] at hz
    unfold zeroT at hzt
    obtain ⟨v, hv, rfl⟩ := Option.map_eq_some_iff.1 hzt
    obtain ⟨i, hi, hiz⟩ := Option.bind_eq_some_iff.1 hv
    have := (flatV_ofV_cells (A := fun _ => False) (m := fun _ => none) (h := fun _ => none) (w := default) hz.2).1
    exact ⟨i, v, hi, hiz, by simp [sizeT, hi], by simp [bytesT, hi], by rw [this, hz.1]⟩

theorem grown_at {z : Nat} {rows0 rows : List (List PV)} {olds news tail : List Value} (ho : olds.length = rows0.length * z)
    (h0 : ∀ (i j : Nat) (r : List PV) (c : PV), rows0[i]? = some r → r[j]? = some c → ∃ u, olds[i * z + j]? = some u ∧ RepI A w c u) (h1 : ∀ (i j : Nat) (r : List PV) (c : PV), rows[i]? = some r → r[j]? = some c → ∃ u, news[i * z + j]? = some u ∧ RepI A w c u)
    {i j : Nat} {r : List PV} {c : PV} (hr : (rows0 ++ rows)[i]? = some r) (hc : r[j]? = some c) : ∃ u, (olds ++ news ++ tail)[i * z + j]? = some u ∧ RepI A w c u := by
  rw [List.getElem?_append] at hr
  rw [List.append_assoc, List.getElem?_append]
  split at hr
  · rename_i hi
    obtain ⟨u, hu, hru⟩ := h0 i j r c hr hc
    exact ⟨u, by rw [if_pos (List.getElem?_eq_some_iff.1 hu).1]; exact hu, hru⟩
  · rename_i hi
    obtain ⟨u, hu, hru⟩ := h1 _ j r c hr hc
    have hle : rows0.length * z ≤ i * z := Nat.mul_le_mul_right _ (by omega)
    have hsub : i * z + j - rows0.length * z = (i - rows0.length) * z + j := by rw [Nat.sub_mul]; omega
    refine ⟨u, ?_, hru⟩
    rw [if_neg (by omega), ho, hsub, List.getElem?_append, if_pos (List.getElem?_eq_some_iff.1 hu).1]
    exact hu

theorem append_new (hA : AOk A w) (hC : ConcO A m h w) {k0 : Nat} (hk0 : h k0 = none) {t tx ty e : TypeId} (he : elemT P t = some e) (hzok : zokT P e = true) {x : Value} {rows : List (List PV)} {news : List Value} (hsrc : SrcR P A w (sizeT P e) tx x rows news)
    (ao : Option Addr) (hb : rows.length * bytesT P e ≤ 140737488355328) (h63 : rows.length ≤ 9223372036854775807) :
    ∃ v w' m', (Builtin.append_ #[t, tx] ty #[.slice ao 0 0, x]).run P w = .ok v w' ∧ NewW A m h w A m' (updO h k0 (.arr (sizeT P e) rows)) w' ∧ RepO A m' (updO h k0 (.arr (sizeT P e) rows)) w' (.sf k0 (sizeT P e)) v := by
  obtain ⟨i, zv, hi, hiz, hsz, hby, hzc⟩ := zokT_spec hzok
  have hu := elemT_spec he
  rcases Nat.eq_zero_or_pos rows.length with h0 | hpos
  · obtain rfl : rows = [] := List.eq_nil_of_length_eq_zero h0
    have hs := hsrc.src
    rw [← hsz] at hs
    have hrun := run_append_none (ty := ty) t tx e i hu hi ao 0 0 x news hs (Nat.le_refl _)
    exact ⟨_, _, _, hrun, newW_none hA hC hk0, .sfN k0 _ 0 ao (by simp [updO]) (by simp [updM])⟩
  · have hs := hsrc.src
    rw [← hsz] at hs
    have hfirst : (Builtin.firstCells i.size 0 (.slice ao 0 0)).run P w.drew = .ok ([] : List Value).toArray w.drew := by
      cases ao with
      | none => exact run_firstCells_none w.drew i.size 0 0 0
      | some b => exact run_firstCells_some w.drew i.size 0 b 0 0 [] (by simp) (by simp)
    have hrun := run_append_grow_src (P := P) w t tx ty e i zv hu hi hiz ao 0 0 [] hfirst x rows.length news hs (by omega) (by omega) (growslice_fits (by omega) (by rw [Nat.zero_add, hby]; exact hb))
    simp only [Nat.zero_add] at hrun
    have hge := grownCap_ge w rows.length 0 e
    have hle := grownCap_le_maxLen w rows.length 0 e (by unfold maxLen; omega)
    generalize grownCap w rows.length 0 e = C at *
    have hC' : ConcO A m h w.drew := hC.same rfl
    have hnl : news.length = rows.length * sizeT P e := hsrc.src.newsLen
    have hN := newW_alloc (w := w.drew) (k := k0) (o := .arr (sizeT P e) rows) (C := C) (cells := .cells (([] ++ news).toArray ++ Builtin.zeroCells zv.cells (C - rows.length)) e) hA hC' hk0
      ⟨fun hb => Nat.lt_irrefl _ (hA _ hb), by simp, hge, hle, hsrc.wide, _, e, heap_alloc_at, by
        simp only [Array.size_append, List.nil_append, List.size_toArray, size_zeroCells, hzc, hnl, ← Nat.add_mul]
        congr 1
        omega, fun i' j r c hr hc => by
        obtain ⟨u, hu, hru⟩ := hsrc.rep i' j r c hr hc
        have hlt := (List.getElem?_eq_some_iff.1 hu).1
        refine ⟨u, ?_, hru.mono (fun _ h => h) (fun b hb => (show _ = w.heap[b]? from heap_alloc_lt (w := w.drew) (hA b hb)))⟩
        rw [Array.getElem?_append, if_pos (by simpa using hlt)]
        simpa using hu⟩
    refine ⟨_, _, _, hrun, ⟨⟨rfl, rfl, rfl, hN.moved.size, hN.moved.block⟩, hN.subA, hN.sub, hN.aok, hN.conc, hN.shaped, hN.own⟩, ?_⟩
    exact .sf k0 _ C w.heap.size rows (by simp [updO]) (by simp [updM])

theorem append_own (hA : AOk A w) (hC : ConcO A m h w) {k : Nat} {t tx ty e : TypeId} (he : elemT P t = some e) (hzok : zokT P e = true) {rows0 : List (List PV)} (hk : h k = some (.arr (sizeT P e) rows0)) {vs : Value} (hvs : RepO A m h w (.sf k (sizeT P e)) vs)
    {x : Value} {rows : List (List PV)} {news : List Value} (hsrc : SrcR P A w (sizeT P e) tx x rows news) (hb : (rows0.length + rows.length) * bytesT P e ≤ 140737488355328) (h63 : rows0.length + rows.length ≤ 9223372036854775807) :
    ∃ v w' m', (Builtin.append_ #[t, tx] ty #[vs, x]).run P w = .ok v w' ∧ Turned P A m h w A m' (turnO h k (.arr (sizeT P e) (rows0 ++ rows))) w' ∧ Shaped (some k) m h m' (turnO h k (.arr (sizeT P e) (rows0 ++ rows))) ∧
      RepO A m' (turnO h k (.arr (sizeT P e) (rows0 ++ rows))) w' (.sf k (sizeT P e)) v := by
  obtain ⟨i, zv, hi, hiz, hsz, hby, hzc⟩ := zokT_spec hzok
  have hu := elemT_spec he
  have hs := hsrc.src
  rw [← hsz] at hs
  have hnl : news.length = rows.length * sizeT P e := hsrc.src.newsLen
  have hlen : (rows0 ++ rows).length = rows0.length + rows.length := List.length_append
  -- the value, the block
  have hval : (∃ ao C, vs = .slice ao 0 0 ∧ rows0 = [] ∧ m k = some (none, C)) ∨ ∃ b C, vs = .slice (some ⟨b, 0, none⟩) rows0.length C ∧ m k = some (some b, C) := by
    cases hvs with
    | imm hi => cases hi
    | sfN _ _ C ao hk' hm => rw [hk] at hk'; cases hk'; exact .inl ⟨ao, C, rfl, rfl, hm⟩
    | sf _ _ C b rows' hk' hm => rw [hk] at hk'; cases hk'; exact .inr ⟨b, C, rfl, hm⟩
  -- no room: a new block
  have grow : ∀ (ao : Option Addr) (ob : Option Nat) (sCap C0 : Nat) (olds : List Value), vs = .slice ao rows0.length sCap → m k = some (ob, C0) → (Builtin.firstCells i.size rows0.length (.slice ao rows0.length sCap)).run P w.drew = .ok olds.toArray w.drew →
      olds.length = rows0.length * sizeT P e → (∀ (i : Nat) (r : List PV), rows0[i]? = some r → r.length = sizeT P e) →
      (∀ (i j : Nat) (r : List PV) (c : PV), rows0[i]? = some r → r[j]? = some c → ∃ u, olds[i * sizeT P e + j]? = some u ∧ RepI A w c u) → sCap < rows0.length + rows.length →
      ∃ v w' m', (Builtin.append_ #[t, tx] ty #[vs, x]).run P w = .ok v w' ∧ Turned P A m h w A m' (turnO h k (.arr (sizeT P e) (rows0 ++ rows))) w' ∧ Shaped (some k) m h m' (turnO h k (.arr (sizeT P e) (rows0 ++ rows))) ∧
      RepO A m' (turnO h k (.arr (sizeT P e) (rows0 ++ rows))) w' (.sf k (sizeT P e)) v := fun ao ob sCap C0 olds hv hm hold hol hw0 h0 hroom => by
    subst hv
    have hrun := run_append_grow_src (P := P) w t tx ty e i zv hu hi hiz ao rows0.length sCap olds hold x rows.length news hs hroom (by omega) (growslice_fits hroom (by rw [hby]; exact hb))
    have hge := grownCap_ge w (rows0.length + rows.length) sCap e
    have hle := grownCap_le_maxLen w (rows0.length + rows.length) sCap e (by unfold maxLen; omega)
    generalize grownCap w (rows0.length + rows.length) sCap e = C at *
    have hkeep : ∀ b, A b → (w.drew.alloc (.cells ((olds ++ news).toArray ++ Builtin.zeroCells zv.cells (C - (rows0.length + rows.length))) e)).heap[b]? = w.heap[b]? := fun b hb => heap_alloc_lt (w := w.drew) (hA b hb)
    refine ⟨_, _, updM m k (some w.heap.size, C), hrun, turned_of hA hC hk hm rfl rfl rfl (by simp) (fun j hj _ => heap_alloc_lt (w := w.drew) hj) (fun b hb => by cases hb; exact .inr (Nat.le_refl _)) ?_, shaped_turn, ?_⟩
    · refine ⟨fun hb => Nat.lt_irrefl _ (hA _ hb), by simp, by omega, hle, fun i' r hr => ?_, _, e, heap_alloc_at (w := w.drew), ?_, fun i' j r c hr hc => ?_⟩
      · rw [List.getElem?_append] at hr
        split at hr
        · exact hw0 _ r hr
        · exact hsrc.wide _ r hr
      · simp only [Array.size_append, List.size_toArray, List.length_append, size_zeroCells, hzc, hnl, hol, ← Nat.add_mul]
        congr 1
        omega
      · obtain ⟨u, hu, hru⟩ := grown_at (tail := (Builtin.zeroCells zv.cells (C - (rows0.length + rows.length))).toList) hol h0 hsrc.rep hr hc
        refine ⟨u, ?_, hru.mono (fun _ h => h) hkeep⟩
        rw [← Array.getElem?_toList, Array.toList_append]
        exact hu
    · have := RepO.sf (A := A) (w := w.drew.alloc (.cells ((olds ++ news).toArray ++ Builtin.zeroCells zv.cells (C - (rows0.length + rows.length))) e)) (m := updM m k (some w.heap.size, C)) (h := turnO h k (.arr (sizeT P e) (rows0 ++ rows))) k (sizeT P e) C w.heap.size
        (rows0 ++ rows) (by simp [turnO]) (by simp [updM])
      rw [hlen] at this
      exact this
  rcases hval with ⟨ao, C0, rfl, rfl, hm⟩ | ⟨b, C, rfl, hm⟩
  · rcases Nat.eq_zero_or_pos rows.length with h0 | hpos
    · obtain rfl : rows = [] := List.eq_nil_of_length_eq_zero h0
      have hrun := run_append_none (ty := ty) t tx e i hu hi ao 0 0 x news hs (Nat.le_refl _)
      refine ⟨_, _, updM m k (none, 0), hrun, turned_of hA hC hk hm rfl rfl rfl (Nat.le_refl _) (fun _ _ _ => rfl) (by simp) ⟨rfl, rfl⟩, shaped_turn, .sfN k _ 0 ao (by simp [turnO]) (by simp [updM])⟩
    · refine grow ao none 0 C0 [] rfl hm ?_ (by simp) (by simp) (by simp) (by simpa using hpos)
      cases ao with
      | none => exact run_firstCells_none w.drew i.size 0 0 0
      | some b => exact run_firstCells_some w.drew i.size 0 b 0 0 [] (by simp) (by simp)
  · obtain ⟨ob, C', hm', g1, g2, g3, g4, g5, cur, ty', hcur, hcs, hcell⟩ := (by
      obtain ⟨ob, C', hm', ho⟩ := hC.at_ k _ hk
      have : (ob, C') = (some b, C) := by rw [hm] at hm'; exact (Option.some.inj hm').symm
      cases this
      exact ⟨some b, C, hm, ho⟩ : ∃ (_ob : Option Nat) (_C' : Nat), m k = some (some b, C) ∧ ObjAt A m h w (.arr (sizeT P e) rows0) (some b) C)
    by_cases hroom : rows0.length + rows.length ≤ C
    · have hle : (rows0.length + rows.length) * sizeT P e ≤ C * sizeT P e := Nat.mul_le_mul_right _ hroom
      rw [Nat.add_mul] at hle
      have hfit : rows0.length * i.size + news.length ≤ cur.size := by rw [hsz, hnl, hcs]; exact hle
      have hrun := run_append_room_row (ty := ty) t tx e ty' i hu hi b rows0.length C x rows.length news hs hroom hcur hfit
      rw [hsz] at hrun hfit
      have hcl : cur.toList.length = cur.size := Array.length_toList
      refine ⟨_, _, updM m k (some b, C), hrun, turned_of hA hC hk hm rfl rfl rfl (by simp [World.setRow]) (fun j _ hj => setRow_other w b j _ fun e => hj (by rw [e])) (fun b' hb' => .inl hb') ?_, shaped_turn, ?_⟩
      · refine ⟨g1, by simpa [World.setRow] using g2, by omega, g4, fun i' r hr => ?_, _, ty', setRow_heap w b cur _ ty' (0, 0) hcur, ?_, fun i' j r c hr hc => ?_⟩
        · rw [List.getElem?_append] at hr
          split at hr
          · exact g5 _ r hr
          · exact hsrc.wide _ r hr
        · rw [List.size_toArray, splice_length (by omega), hcl, hcs]
        · have hkeep : ∀ {c : PV} {u : Value}, RepI A w c u → RepI A (w.setRow b (cur.toList.take (rows0.length * sizeT P e) ++ news ++ cur.toList.drop (rows0.length * sizeT P e + news.length)).toArray) c u := fun hr =>
            hr.mono (fun _ h => h) (fun b' hb' => setRow_other w b b' _ fun e => g1 (e ▸ hb'))
          rw [List.getElem?_toArray, getElem?_splice (by omega)]
          rw [List.getElem?_append] at hr
          split at hr
          · rename_i hi'
            obtain ⟨u, hu, hru⟩ := hcell i' j r c hr hc
            have hj : j < sizeT P e := by rw [← g5 _ r hr]; exact (List.getElem?_eq_some_iff.1 hc).1
            have := fits_row hi' hj
            exact ⟨u, by rw [if_neg (by omega)]; simpa using hu, hkeep hru⟩
          · rename_i hi'
            obtain ⟨u, hu, hru⟩ := hsrc.rep _ j r c hr hc
            have hlt := (List.getElem?_eq_some_iff.1 hu).1
            have hle' : rows0.length * sizeT P e ≤ i' * sizeT P e := Nat.mul_le_mul_right _ (by omega)
            have hsub : i' * sizeT P e + j - rows0.length * sizeT P e = (i' - rows0.length) * sizeT P e + j := by rw [Nat.sub_mul]; omega
            exact ⟨u, by rw [if_pos (by omega), hsub]; exact hu, hkeep hru⟩
      · have := RepO.sf (A := A) (w := w.setRow b (cur.toList.take (rows0.length * sizeT P e) ++ news ++ cur.toList.drop (rows0.length * sizeT P e + news.length)).toArray) (m := updM m k (some b, C)) (h := turnO h k (.arr (sizeT P e) (rows0 ++ rows))) k (sizeT P e) C b
          (rows0 ++ rows) (by simp [turnO]) (by simp [updM])
        rw [hlen] at this
        exact this
    · obtain ⟨u, q1, q2, q3⟩ := hC.rowI hk hm
      have hw1 : (cur.toList.take (rows0.length * sizeT P e)).length = rows0.length * sizeT P e := by
        have : rows0.length * sizeT P e ≤ C * sizeT P e := Nat.mul_le_mul_right _ g3
        simp only [List.length_take, Array.length_toList, hcs]
        omega
      refine grow (some ⟨b, 0, none⟩) (some b) C C (cur.toList.take (rows0.length * sizeT P e)) rfl hm ?_ hw1 g5 (fun i' j r c hr hc => ?_) (by omega)
      · refine run_firstCells_some w.drew i.size rows0.length _ _ _ _ (by rw [hsz]; exact hw1) fun j v hv => ?_
        rw [List.getElem?_take] at hv
        split at hv
        · rw [Addr.add_lit]
          have : w.drew.heap[b]? = some (.cells cur ty' (0, 0)) := hcur
          simp only [World.cell?, Nat.zero_add, this]
          simpa using hv
        · cases hv
      · obtain ⟨u, hu, hru⟩ := hcell i' j r c hr hc
        have hi' : i' < rows0.length := (List.getElem?_eq_some_iff.1 hr).1
        have hj : j < sizeT P e := by rw [← g5 _ r hr]; exact (List.getElem?_eq_some_iff.1 hc).1
        have := fits_row hi' hj
        exact ⟨u, by rw [List.getElem?_take, if_pos this]; simpa using hu, hru⟩

theorem exec_append {o : Oper} {s y : Operand} {t t' : TypeId} {v : Value} (ho : o.op = .call { callee := .builtin .append, args := #[s, y], argTypes := #[t, t'] })
    (hrun : (Builtin.append_ #[t, t'] o.type #[a.eval s, a.eval y]).run P w = .ok v w') : (execOp a.eval o).run P w = .ok (.value v) w' := by
  simp [execOp, ho, resolve, invoke, builtin, hrun]

end Go.Ab
