/- Operations with an effect on own objects: store, append. No condition. -/
import Derived.Test.YtnidojjahhhaaaaAbl
namespace Go.Ab
variable {P : Program} {A A' : Nat → Prop} {m m' : OMap} {h h' : OFun} {w w' : World} {H : Heap} {fr fr' : Fr} {a : Act}

/-- The world turns in the block of own object k alone: a store. -/
theorem conc_set (hC : ConcO A m h w) {k b C : Nat} {o o' : Obj} (hk : h k = some o) (hm : m k = some (some b, C)) (hsh : SameShape o o') (hsz : w'.heap.size = w.heap.size) (hoth : ∀ j, j ≠ b → w'.heap[j]? = w.heap[j]?)
    (ho : ObjAt A m (updO h k o') w' o' (some b) C) : ConcO A m (updO h k o') w' ∧ Shaped none m h m (updO h k o') := by
  have hl := hC.lt ⟨k, o, C, hk, hm⟩
  have shaped : Shaped none m h m (updO h k o') := fun j oj _ hj => by
    refine ⟨rfl, ?_⟩
    by_cases e : j = k
    · subst e; rw [hk] at hj; cases hj; exact ⟨o', by simp [updO], hsh⟩
    · exact ⟨oj, by simp [updO, e, hj], SameShape.refl oj⟩
  refine ⟨⟨fun j oj hj => ?_, fun j j' oj oj' b' C1 C2 hj hj' h1 h2 => ?_⟩, shaped⟩
  · by_cases e : j = k
    · subst e
      simp only [updO, if_true, Option.some.injEq] at hj
      subst hj
      exact ⟨some b, C, hm, ho⟩
    · simp only [updO, if_neg e] at hj
      obtain ⟨ob, Cj, hmj, hoj⟩ := hC.at_ j oj hj
      refine ⟨ob, Cj, hmj, hoj.mono (fun _ h => h) (fun b' hb' => hoth b' fun e' => hl.2 (e' ▸ hb')) shaped (by omega) fun b' hb' => ?_⟩
      have hl' := hC.lt ⟨j, oj, Cj, hj, by rw [hmj, hb']⟩
      refine ⟨hl'.2, hoth b' fun e' => e (hC.inj j k oj o b Cj C hj hk (by rw [hmj, hb', e']) hm)⟩
  · have back : ∀ {i : Nat} {oi : Obj}, updO h k o' i = some oi → ∃ oi', h i = some oi' := fun {i oi} hi => by
      by_cases e : i = k
      · subst e; exact ⟨o, hk⟩
      · simp only [updO, if_neg e] at hi; exact ⟨oi, hi⟩
    obtain ⟨x, hx⟩ := back hj
    obtain ⟨y, hy⟩ := back hj'
    exact hC.inj j j' x y b' C1 C2 hx hy h1 h2

theorem getElem?_splice {cur news : List Value} {q : Nat} (hl : q + news.length ≤ cur.length) (i : Nat) :
    (cur.take q ++ news ++ cur.drop (q + news.length))[i]? = if q ≤ i ∧ i < q + news.length then news[i - q]? else cur[i]? := by
  have hmin : min q cur.length = q := by omega
  rw [List.getElem?_append, List.getElem?_append]
  simp only [List.length_append, List.length_take, hmin]
  by_cases h1 : i < q
  · rw [if_pos (by omega), if_pos h1, if_neg (by omega), List.getElem?_take, if_pos h1]
  · by_cases h2 : i < q + news.length
    · rw [if_pos h2, if_neg h1, if_pos (by omega)]
    · rw [if_neg h2, if_neg (by omega), List.getElem?_drop]
      congr 1
      omega

/-- What is known behind an operation with an effect. -/
structure Turned (P : Program) (A : Nat → Prop) (m : OMap) (h : OFun) (w : World) (A' : Nat → Prop) (m' : OMap) (h' : OFun) (w' : World) : Prop where
  moved : Moved (OwnB m h) w w'
  subA : ∀ b, A b → A' b
  sub : ∀ b, A' b → A b ∨ w.heap.size ≤ b
  aok : AOk A' w'
  keepA : ∀ b, A b → w'.heap[b]? = w.heap[b]?
  conc : ConcO A' m' h' w'
  own : ∀ b, OwnB m' h' b → OwnB m h b ∨ w.heap.size ≤ b

theorem splice_length {cur news : List Value} {q : Nat} (hl : q + news.length ≤ cur.length) : (cur.take q ++ news ++ cur.drop (q + news.length)).length = cur.length := by
  simp only [List.length_append, List.length_take, List.length_drop]
  omega

theorem store_run {t : TypeId} {b q : Nat} {v : Value} {cs : List PV} (hz : 0 < sizeT P t) (hn : cs.length = sizeT P t)
    (hcs : Cells A m h w cs v.cells) (hone : ∀ j, j < cs.length → (v.cells.getD j undef).oneCell' = true) {cur : Array Value} {e : TypeId} (hcur : w.heap[b]? = some (.cells cur e (0, 0))) (hq : q + cs.length ≤ cur.size) :
    (Instr.storeAt t (.pointer (some ⟨b, q, none⟩)) v).run P w = .ok () (w.setRow b (cur.toList.take q ++ v.cells.toList ++ cur.toList.drop (q + cs.length)).toArray) := by
  have hl : v.cells.toList.length = cs.length := by simpa using hcs.1
  have hst := run_storeCells_at P b q e v.cells.toList 0 cur w hcur (by rw [hl]; omega) (fun u hu => by
    obtain ⟨j, hj, rfl⟩ := List.getElem_of_mem hu
    have h1 := hone j (by omega)
    have h2 : j < v.cells.size := by simpa using hj
    simpa [Array.getD_eq_getD_getElem?, h2] using h1)
  simp only [Nat.add_zero, hl] at hst
  have hsz : v.cells.size = sizeT P t := by rw [hcs.1, hn]
  simp [Instr.storeAt, Instr.sureAddr, storeVar, sizeT_spec hz, hsz, hst]

theorem store_eff (hC : ConcO A m h w) (hA : AOk A w) (hs : ∀ k, getO H k = h k) {t : TypeId} {p x : PV} {pa v : Value} (hp : RepO A m h w p pa) (hx : RepO A m h w x v) {S : St} (hS : S.H = H) {K : St → Prop} (hX : storeX P t p x S K) :
    ∃ w' h' H', (Instr.storeAt t pa v).run P w = .ok () w' ∧ K ⟨S.fr, H'⟩ ∧ (∀ k, getO H' k = h' k) ∧ Turned P A m h w A m h' w' ∧ Shaped none m h m h' := by
  obtain ⟨hn, hz, hone, hX⟩ := hX
  have hcells := cells_of_rep hone hx
  have hone' : ∀ j, j < (flatV x).length → (v.cells.getD j undef).oneCell' = true := fun j hj => ((cells_rep hone hx).2 j _ (List.getElem?_eq_getElem hj)).2
  have sub : Sub h H := fun k o hk => by rw [hs, hk]
  subst hS
  have hmoved : ∀ {k b C : Nat} {o : Obj} (cur' : Array Value), h k = some o → m k = some (some b, C) → Moved (OwnB m h) w (w.setRow b cur') := fun {k b C o} cur' hk hm =>
    ⟨rfl, rfl, rfl, by simp [World.setRow], fun j _ hM => setRow_other w b j cur' fun e => hM (e ▸ ⟨k, o, C, hk, hm⟩)⟩
  have hset : ∀ {b : Nat} (cur' : Array Value), (w.setRow b cur').heap.size = w.heap.size := fun cur' => by simp [World.setRow]
  cases p <;> simp only at hX
  case pb k off =>
    obtain ⟨_, hoff, hK⟩ := hX
    cases hp with
    | imm hi => cases hi
    | pb _ _ C b cs hk hm =>
      have hb := boxO_of (sub _ _ hk)
      rw [hb] at hoff hK
      obtain ⟨ob, C', hm', ho⟩ := hC.at_ k _ hk
      rw [hm] at hm'
      cases hm'
      obtain ⟨g1, g2, cur, e, hcur, hsz, hcell⟩ := ho
      have hrun := store_run (P := P) hz hn hcells hone' hcur (q := off) (by omega)
      have hvl : v.cells.toList.length = (flatV x).length := by simpa using hcells.1
      have hcl : cur.toList.length = cur.size := Array.length_toList
      have hklt := getO_lt (sub _ _ hk)
      refine ⟨_, updO h k (.box (putAt cs off (flatV x))), S.H.set k (some (.box (putAt cs off (flatV x)))), hrun, hK, fun j => ?_, ?_, ?_⟩
      · rw [getO_set hklt]
        simp only [updO, hs]
      all_goals
        have hset' : ConcO A m (updO h k (.box (putAt cs off (flatV x)))) (w.setRow b (cur.toList.take off ++ v.cells.toList ++ cur.toList.drop (off + (flatV x).length)).toArray) ∧ Shaped none m h m (updO h k (.box (putAt cs off (flatV x)))) := by
          refine conc_set hC hk hm trivial (hset _) (fun j hj => setRow_other w b j _ hj) ⟨g1, by rw [hset]; exact g2, _, e, setRow_heap w b cur _ e (0, 0) hcur, ?_, fun j c hc => ?_⟩
          · rw [putAt_length hoff, List.size_toArray, ← hvl, splice_length (by rw [hcl, hvl]; omega), hcl, hsz]
          · rw [putAt_get hoff] at hc
            have hmono : ∀ {c : PV} {u : Value}, RepO A m h w c u → RepO A m (updO h k (.box (putAt cs off (flatV x)))) (w.setRow b (cur.toList.take off ++ v.cells.toList ++ cur.toList.drop (off + (flatV x).length)).toArray) c u := fun hr =>
              hr.mono (fun _ h => h) (fun b' hb' => setRow_other w b b' _ fun e => g1 (e ▸ hb')) (fun j oj _ hj => by
                refine ⟨rfl, ?_⟩
                by_cases e : j = k
                · subst e; rw [hk] at hj; cases hj; exact ⟨.box (putAt cs off (flatV x)), by simp [updO], trivial⟩
                · exact ⟨oj, by simp [updO, e, hj], SameShape.refl oj⟩)
            have hget := getElem?_splice (cur := cur.toList) (news := v.cells.toList) (q := off) (by rw [hcl, hvl]; omega) j
            rw [hvl] at hget
            simp only [List.getElem?_toArray]
            rw [hget]
            split at hc
            · rename_i hin
              rw [if_pos hin]
              have hj' : j - off < v.cells.size := by have := hcells.1; omega
              refine ⟨v.cells[j - off], by simp [hj'], ?_⟩
              have := hcells.2 _ c hc
              exact hmono (by simpa [Array.getD_eq_getD_getElem?, hj'] using this)
            · rename_i hin
              rw [if_neg hin]
              obtain ⟨u, hu, hru⟩ := hcell j c hc
              exact ⟨u, by simpa using hu, hmono hru⟩
      · exact ⟨hmoved _ hk hm, fun _ h => h, fun _ h => .inl h, fun b' hb' => by rw [hset]; exact hA b' hb', fun b' hb' => setRow_other w b b' _ fun e => g1 (e ▸ hb'), hset'.1, fun b' ⟨j, o, C', hj, hmj⟩ => by
          by_cases e : j = k
          · subst e; exact .inl ⟨j, _, C', hk, hmj⟩
          · simp only [updO, if_neg e] at hj; exact .inl ⟨j, o, C', hj, hmj⟩⟩
      · exact hset'.2
  case pa k z i off =>
    obtain ⟨_, hi', hoff, hno, hK⟩ := hX
    cases hp with
    | imm hi => cases hi
    | pa _ _ _ _ C b rows hk hm =>
      have hb := rowsO_of (sub _ _ hk)
      rw [hb] at hi' hK
      obtain ⟨ob, C', hm', ho⟩ := hC.at_ k _ hk
      rw [hm] at hm'
      cases hm'
      obtain ⟨g1, g2, g3, g4, g5, cur, e, hcur, hsz, hcell⟩ := ho
      have hrow := getD_of hi' []
      have hzr := g5 i _ hrow
      have hfit : i * z + off + (flatV x).length ≤ cur.size := by
        rw [hsz]
        have : (i + 1) * z ≤ C * z := Nat.mul_le_mul_right _ (by omega)
        rw [Nat.succ_mul] at this
        omega
      have hrun := store_run (P := P) hz hn hcells hone' hcur (q := i * z + off) hfit
      have hvl : v.cells.toList.length = (flatV x).length := by simpa using hcells.1
      have hcl : cur.toList.length = cur.size := Array.length_toList
      have hklt := getO_lt (sub _ _ hk)
      generalize hrows' : rows.set i (putAt (rows.getD i []) off (flatV x)) = rows' at hK
      have hlen' : rows'.length = rows.length := by rw [← hrows']; simp
      refine ⟨_, updO h k (.arr z rows'), S.H.set k (some (.arr z rows')), hrun, hK, fun j => ?_, ?_, ?_⟩
      · rw [getO_set hklt]
        simp only [updO, hs]
      all_goals
        have hputl : (putAt (rows.getD i []) off (flatV x)).length = z := by rw [putAt_length (by omega), hzr]
        have hset' : ConcO A m (updO h k (.arr z rows')) (w.setRow b (cur.toList.take (i * z + off) ++ v.cells.toList ++ cur.toList.drop (i * z + off + (flatV x).length)).toArray) ∧ Shaped none m h m (updO h k (.arr z rows')) := by
          have hget' : ∀ i' r, rows'[i']? = some r → (i' = i ∧ r = putAt (rows.getD i []) off (flatV x)) ∨ (i' ≠ i ∧ rows[i']? = some r) := fun i' r hr => by
            rw [← hrows', List.getElem?_set] at hr
            split at hr
            · rename_i e; subst e; cases hr; exact .inl ⟨rfl, rfl⟩
            · rename_i e; exact .inr ⟨fun e' => e e'.symm, hr⟩
          refine conc_set hC hk hm ⟨rfl, hlen'.symm⟩ (hset _) (fun j hj => setRow_other w b j _ hj) ⟨g1, by rw [hset]; exact g2, by omega, g4, fun i' r hr => ?_, _, e, setRow_heap w b cur _ e (0, 0) hcur, ?_, fun i' j r c hr hc => ?_⟩
          · rcases hget' i' r hr with ⟨rfl, rfl⟩ | ⟨_, hr'⟩
            · exact hputl
            · exact g5 i' r hr'
          · rw [List.size_toArray, ← hvl, splice_length (by rw [hcl, hvl]; omega), hcl, hsz]
          · have hmono : ∀ {c : PV} {u : Value}, RepI A w c u → RepI A (w.setRow b (cur.toList.take (i * z + off) ++ v.cells.toList ++ cur.toList.drop (i * z + off + (flatV x).length)).toArray) c u := fun hr =>
              hr.mono (fun _ h => h) (fun b' hb' => setRow_other w b b' _ fun e => g1 (e ▸ hb'))
            have hget := getElem?_splice (cur := cur.toList) (news := v.cells.toList) (q := i * z + off) (by rw [hcl, hvl]; omega) (i' * z + j)
            rw [hvl] at hget
            simp only [List.getElem?_toArray]
            rw [hget]
            rcases hget' i' r hr with ⟨rfl, rfl⟩ | ⟨hne, hr'⟩
            · rw [putAt_get (by omega)] at hc
              split at hc
              · rename_i hin
                rw [if_pos (by omega)]
                have hj' : i' * z + j - (i' * z + off) < v.cells.size := by have := hcells.1; omega
                refine ⟨v.cells[i' * z + j - (i' * z + off)], by simp [hj'], ?_⟩
                have h1 := hcells.2 _ c hc
                rw [show j - off = i' * z + j - (i' * z + off) by omega] at h1
                have h2 : RepO A m h w c v.cells[i' * z + j - (i' * z + off)] := by simpa [Array.getD_eq_getD_getElem?, hj'] using h1
                exact hmono (h2.toI (List.all_eq_true.1 hno c (List.mem_of_getElem? hc)))
              · rename_i hin
                rw [if_neg (by omega)]
                obtain ⟨u, hu, hru⟩ := hcell i' j _ c hrow hc
                exact ⟨u, by simpa using hu, hmono hru⟩
            · have hj : j < z := by rw [← g5 i' r hr']; exact (List.getElem?_eq_some_iff.1 hc).1
              rw [if_neg (fun ⟨h1, h2⟩ => by
                rcases Nat.lt_or_ge i' i with h3 | h3
                · have : (i' + 1) * z ≤ i * z := Nat.mul_le_mul_right _ (by omega)
                  rw [Nat.succ_mul] at this
                  omega
                · have : (i + 1) * z ≤ i' * z := Nat.mul_le_mul_right _ (by omega)
                  rw [Nat.succ_mul] at this
                  omega)]
              obtain ⟨u, hu, hru⟩ := hcell i' j r c hr' hc
              exact ⟨u, by simpa using hu, hmono hru⟩
      · exact ⟨hmoved _ hk hm, fun _ h => h, fun _ h => .inl h, fun b' hb' => by rw [hset]; exact hA b' hb', fun b' hb' => setRow_other w b b' _ fun e => g1 (e ▸ hb'), hset'.1, fun b' ⟨j, o, C', hj, hmj⟩ => by
          by_cases e : j = k
          · subst e; exact .inl ⟨j, _, C', hk, hmj⟩
          · simp only [updO, if_neg e] at hj; exact .inl ⟨j, o, C', hj, hmj⟩⟩
      · exact hset'.2

end Go.Ab
