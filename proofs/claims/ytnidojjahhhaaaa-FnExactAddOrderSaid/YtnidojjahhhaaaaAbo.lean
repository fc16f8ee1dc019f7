/- Operations with an effect on own objects: append. No condition. -/
import Derived.Test.YtnidojjahhhaaaaAbn
import Derived.Deep.AppendSrc
namespace Go.Ab
variable {P : Program} {A A' : Nat → Prop} {m m' : OMap} {h h' : OFun} {w w' : World} {H : Heap} {fr fr' : Fr} {a : Act}

/-- What is appended, as cells in memory. -/
structure SrcR (P : Program) (A : Nat → Prop) (w : World) (z : Nat) (tx : TypeId) (v : Value) (rows : List (List PV)) (news : List Value) : Prop where
  src : Src P z tx v rows.length news w
  wide : ∀ (i : Nat) (r : List PV), rows[i]? = some r → r.length = z
  rep : ∀ (i j : Nat) (r : List PV) (c : PV), rows[i]? = some r → r[j]? = some c → ∃ u, news[i * z + j]? = some u ∧ RepI A w c u

theorem RepI.one {c : PV} {u : Value} (hc : oneC c = true) (hr : RepI A w c u) : u.oneCell' = true := (one_cells (m := fun _ => none) (h := fun _ => none) hc (.imm hr)).1

theorem src_at {z : Nat} (hz : 0 < z) {tx : TypeId} (hk : (∃ e', P.underlying tx = some (.slice e')) ∨ P.underlying tx = some .string) {b o cap : Nat} {rows : List (List PV)} {u : Nat → Nat → Value}
    (hw : ∀ (i : Nat) (r : List PV), rows[i]? = some r → r.length = z) (h1 : rowsOne rows) (hu : ∀ (i j : Nat) (r : List PV) (c : PV), rows[i]? = some r → r[j]? = some c → w.cell? ⟨b, o + (i * z + j), none⟩ = some (u i j))
    (hr : ∀ (i j : Nat) (r : List PV) (c : PV), rows[i]? = some r → r[j]? = some c → RepI A w c (u i j)) :
    ∃ news, SrcR P A w z tx (.slice (some ⟨b, o, none⟩) rows.length cap) rows news := by
  have hat : ∀ q, q < rows.length * z → ∃ r c, rows[q / z]? = some r ∧ r[q % z]? = some c := fun q hq => by
    have hi : q / z < rows.length := Nat.div_lt_of_lt_mul (by rw [Nat.mul_comm]; exact hq)
    have hrow : rows[q / z]? = some rows[q / z] := List.getElem?_eq_getElem hi
    have hj : q % z < rows[q / z].length := by rw [hw _ _ hrow]; exact Nat.mod_lt _ hz
    exact ⟨_, _, hrow, List.getElem?_eq_getElem hj⟩
  generalize hn : (List.range (rows.length * z)).map (fun q => u (q / z) (q % z)) = news
  have hlen : news.length = rows.length * z := by rw [← hn]; simp
  have hget : ∀ q v, news[q]? = some v → q < rows.length * z ∧ v = u (q / z) (q % z) := fun q v hv => by
    have hq : q < rows.length * z := by rw [← hlen]; exact (List.getElem?_eq_some_iff.1 hv).1
    rw [← hn, List.getElem?_map, List.getElem?_range hq] at hv
    cases hv
    exact ⟨hq, rfl⟩
  have hcell : ∀ q v, news[q]? = some v → w.cell? ((⟨b, o, none⟩ : Addr).add q) = some v := fun q v hv => by
    obtain ⟨hq, rfl⟩ := hget q v hv
    obtain ⟨r, c, hr', hc'⟩ := hat q hq
    have := hu _ _ r c hr' hc'
    rw [Nat.div_add_mod' q z] at this
    rw [Addr.add_lit]
    exact this
  have hone : ∀ v ∈ news, v.oneCell' = true := fun v hv => by
    obtain ⟨q, hq⟩ := List.mem_iff_getElem?.1 hv
    obtain ⟨hq', rfl⟩ := hget q v hq
    obtain ⟨r, c, hr', hc'⟩ := hat q hq'
    exact (hr _ _ r c hr' hc').one (List.all_eq_true.1 (h1 r (List.mem_of_getElem? hr')) c (List.mem_of_getElem? hc'))
  refine ⟨news, ⟨hk, fun _ => rfl, run_firstCells_some w z _ _ _ _ news hlen hcell, run_firstCells_some w.drew z _ _ _ _ news hlen (by simpa using hcell), hlen, hone⟩, hw, fun i j r c hr' hc' => ⟨u i j, ?_, hr i j r c hr' hc'⟩⟩
  have hi : i < rows.length := (List.getElem?_eq_some_iff.1 hr').1
  have hj : j < z := by rw [← hw i r hr']; exact (List.getElem?_eq_some_iff.1 hc').1
  have hq := fits_row hi hj
  rw [← hn, List.getElem?_map, List.getElem?_range hq]
  show some (u ((i * z + j) / z) ((i * z + j) % z)) = some _
  rw [show (i * z + j) / z = i by rw [Nat.mul_comm, Nat.mul_add_div hz, Nat.div_eq_of_lt hj, Nat.add_zero], show (i * z + j) % z = j by rw [Nat.mul_comm, Nat.mul_add_mod, Nat.mod_eq_of_lt hj]]

theorem src_none {z : Nat} {tx : TypeId} (hk : (∃ e', P.underlying tx = some (.slice e')) ∨ P.underlying tx = some .string) (ao : Option Addr) (cap : Nat) : SrcR P A w z tx (.slice ao 0 cap) [] [] := by
  refine ⟨⟨hk, fun _ => rfl, ?_, ?_, by simp, by simp⟩, by simp, by simp⟩
  · cases ao with
    | none => exact run_firstCells_none w z 0 0 cap
    | some b => exact run_firstCells_some w z 0 b 0 cap [] (by simp) (by simp)
  · cases ao with
    | none => exact run_firstCells_none w.drew z 0 0 cap
    | some b => exact run_firstCells_some w.drew z 0 b 0 cap [] (by simp) (by simp)

theorem src_rep (hs : Sub h H) (hC : ConcO A m h w) {z : Nat} (hz : 0 < z) {tx : TypeId} (hk : (∃ e', P.underlying tx = some (.slice e')) ∨ P.underlying tx = some .string) {p : PV} {v : Value} (hr : RepO A m h w p v) (ho : srcOk H z p)
    (h1 : rowsOne (srcRows H p)) : ∃ news, SrcR P A w z tx v (srcRows H p) news := by
  cases p <;> simp only [srcOk] at ho
  case nils => obtain ⟨ao, rfl⟩ := hr.nilsI; exact ⟨[], src_none hk ao 0⟩
  case str s =>
    subst ho
    obtain ⟨b, rfl, rfl⟩ := hr.str
    have hl : b.data.toList.length = b.size := by simp
    refine ⟨byteCells b, ⟨hk, fun _ => ?_, ?_, ?_, ?_, fun u hu => ?_⟩, fun i r hr => ?_, fun i j r c hr hc => ?_⟩
    · simp only [srcRows, List.length_map, hl]; rfl
    · simp only [srcRows, List.length_map, hl]; exact firstCells_string b w
    · simp only [srcRows, List.length_map, hl]; exact firstCells_string b w.drew
    · simp only [srcRows, List.length_map, hl]; rw [byteCells_length, Nat.mul_one]
    · obtain ⟨_, _, rfl⟩ := List.mem_map.1 hu; rfl
    · simp only [srcRows, List.getElem?_map] at hr
      cases hb : b.data.toList[i]? with
      | none => rw [hb] at hr; cases hr
      | some x => rw [hb] at hr; cases hr; rfl
    · simp only [srcRows, List.getElem?_map] at hr
      cases hb : b.data.toList[i]? with
      | none => rw [hb] at hr; cases hr
      | some x =>
        rw [hb] at hr; cases hr
        cases j with
        | succ j => simp at hc
        | zero =>
          cases hc
          refine ⟨.int .u8 x.toNat, ?_, .int _ _⟩
          simp only [byteCells, List.getElem?_map, Nat.mul_one, Nat.add_zero, hb]
          rfl
  case sl z' rows =>
    subst ho
    cases hr with
    | imm hi =>
      cases hi with
      | slE => exact ⟨[], src_none hk _ _⟩
      | sl _ _ b o cap u hA hc hzz hu hh => exact src_at hz hk hzz h1 hu hh
  case sf k z' =>
    obtain ⟨rfl, _⟩ := ho
    cases hr with
    | imm hi => cases hi
    | sfN _ _ C ao hk' hm => simp only [srcRows, rowsO_of (hs _ _ hk')]; exact ⟨[], src_none hk ao 0⟩
    | sf _ _ C b rows hk' hm =>
      simp only [srcRows, rowsO_of (hs _ _ hk')] at h1 ⊢
      obtain ⟨u, g1, g2, g3⟩ := hC.rowI hk' hm
      exact src_at hz hk g1 h1 g2 g3
  case so k z' lo len =>
    obtain ⟨rfl, _, _⟩ := ho
    cases hr with
    | imm hi => cases hi
    | so0 _ _ C cap ao hk' hm hc => simp only [srcRows, List.take_zero]; exact ⟨[], src_none hk _ _⟩
    | soE => simp only [srcRows, List.take_zero]; exact ⟨[], src_none hk _ _⟩
    | so _ _ _ _ C cap b rows hk' hm hl hc =>
      simp only [srcRows, rowsO_of (hs _ _ hk')] at h1 ⊢
      obtain ⟨u, g1, g2, g3⟩ := hC.rowI hk' hm
      have key : ∀ (i : Nat) (r : List PV), ((rows.drop lo).take len)[i]? = some r → rows[lo + i]? = some r := fun i r hr => by
        rw [List.getElem?_take] at hr
        split at hr
        · rwa [List.getElem?_drop] at hr
        · cases hr
      have hlen : ((rows.drop lo).take len).length = len := by simp; omega
      have := src_at (P := P) (A := A) (w := w) (b := b) (o := lo * z') (cap := cap) (u := fun i j => u (lo + i) j) hz hk (fun i r hr => g1 _ r (key i r hr)) h1
        (fun i j r c hr hcj => by have := g2 _ j r c (key i r hr) hcj; rwa [Nat.zero_add, Nat.add_mul, Nat.add_assoc] at this) (fun i j r c hr hcj => g3 _ j r c (key i r hr) hcj)
      rw [hlen] at this
      exact this

/-- There is room: into the row of one's own. -/
theorem run_append_room_row (t tx ty e e' : TypeId) (i : TypeInfo) (ht : P.underlying t = some (.slice e)) (hi : P.info? e = some i) (b sLen sCap : Nat) (x : Value) (n : Nat) (news : List Value) (hs : Src P i.size tx x n news w)
    (hroom : sLen + n ≤ sCap) {cur : Array Value} (hcur : w.heap[b]? = some (.cells cur e' (0, 0))) (hfit : sLen * i.size + news.length ≤ cur.size) :
    (Builtin.append_ #[t, tx] ty #[.slice (some ⟨b, 0, none⟩) sLen sCap, x]).run P w =
      .ok (.slice (some ⟨b, 0, none⟩) (sLen + n) sCap) (w.setRow b (cur.toList.take (sLen * i.size) ++ news ++ cur.toList.drop (sLen * i.size + news.length)).toArray) := by
  have hst := run_storeCells_at P b (sLen * i.size) e' news 0 cur w hcur (by omega) hs.one
  simp only [Nat.add_zero] at hst
  rcases hs.kind with ⟨e', hk⟩ | hk <;> simp [Builtin.append_, run_underlying ht, run_underlying hk, sizeOf, typeInfo, hi, hs.len, hroom, hs.cells, Addr.add_lit, hst]

/-- Nothing is appended onto nothing. -/
theorem run_append_none (t tx ty e : TypeId) (i : TypeInfo) (ht : P.underlying t = some (.slice e)) (hi : P.info? e = some i) (ao : Option Addr) (sLen sCap : Nat) (x : Value) (news : List Value) (hs : Src P i.size tx x 0 news w) (hroom : sLen ≤ sCap) :
    (Builtin.append_ #[t, tx] ty #[.slice ao sLen sCap, x]).run P w = .ok (.slice ao sLen sCap) w := by
  have hn : news = [] := List.eq_nil_of_length_eq_zero (by rw [hs.newsLen, Nat.zero_mul])
  subst hn
  rcases hs.kind with ⟨e', hk⟩ | hk <;> cases ao <;> simp [Builtin.append_, run_underlying ht, run_underlying hk, sizeOf, typeInfo, hi, hs.len, hroom, hs.cells, storeCells]

theorem ConcO.same (hC : ConcO A m h w) (hw : w'.heap = w.heap) : ConcO A m h w' :=
  ⟨fun k o hk => by
    obtain ⟨ob, C, hm, ho⟩ := hC.at_ k o hk
    exact ⟨ob, C, hm, ho.mono (fun _ h => h) (fun b _ => by rw [hw]) (Shaped.refl _ _ _) (by rw [hw]; exact Nat.le_refl _) fun b hb => by
      have := hC.lt ⟨k, o, C, hk, by rw [hm, hb]⟩
      exact ⟨this.2, by rw [hw]⟩⟩, hC.inj⟩

/-- Own object k turns, other names of it are forgotten. -/
def turnO (h : OFun) (k : Nat) (o : Obj) : OFun := fun j => if j = k then some o else scrubO k (h j)

theorem scrubO_some {k : Nat} {o : Option Obj} {o' : Obj} (hh : scrubO k o = some o') : ∃ x, o = some x ∧ SameShape x o' ∧ (∀ z rows, o' = .arr z rows → x = .arr z rows) ∧ ∀ cs, o' = .box cs → ∃ ds, x = .box ds ∧ cs = ds.map (scrubA k) := by
  cases o with
  | none => cases hh
  | some x =>
    cases x with
    | arr z rows => cases hh; exact ⟨_, rfl, ⟨rfl, rfl⟩, fun _ _ e => e, fun _ e => by cases e⟩
    | box ds => cases hh; exact ⟨_, rfl, trivial, fun _ _ e => (by cases e), fun _ e => (by cases e; exact ⟨ds, rfl, rfl⟩)⟩

theorem shaped_turn {k : Nat} {o' : Obj} {x : Option Nat × Nat} : Shaped (some k) m h (updM m k x) (turnO h k o') := fun j o hjk hj => by
  have e : j ≠ k := fun e => hjk (by rw [e])
  refine ⟨by simp [updM, e], ?_⟩
  simp only [turnO, if_neg e, hj]
  cases o with
  | arr z rows => exact ⟨_, rfl, SameShape.refl _⟩
  | box ds => exact ⟨_, rfl, trivial⟩

theorem getO_turn {k : Nat} {o : Obj} (hk : k < H.length) : getO ((H.map (scrubO k)).set k (some o)) = turnO (getO H) k o := by
  funext j
  unfold getO turnO
  rw [List.getElem?_set]
  by_cases h1 : j = k
  · subst h1; simp [hk]
  · rw [if_neg (by omega), if_neg h1, List.getElem?_map]
    show _ = scrubO k ((H[j]?).getD none)
    cases H[j]? with
    | none => rfl
    | some x => rfl

theorem conc_turn (hA : AOk A w) (hC : ConcO A m h w) {k : Nat} {o o' : Obj} {ob ob' : Option Nat} {C C' : Nat} (hk : h k = some o) (hm : m k = some (ob, C)) (hsz : w.heap.size ≤ w'.heap.size)
    (hoth : ∀ j, j < w.heap.size → ob ≠ some j → w'.heap[j]? = w.heap[j]?) (hnew : ∀ b, ob' = some b → ob = some b ∨ w.heap.size ≤ b) (ho : ObjAt A (updM m k (ob', C')) (turnO h k o') w' o' ob' C') :
    ConcO A (updM m k (ob', C')) (turnO h k o') w' := by
  have hkeep : ∀ b, A b → w'.heap[b]? = w.heap[b]? := fun b hb => hoth b (hA b hb) fun e => (hC.lt ⟨k, o, C, hk, by rw [hm, e]⟩).2 hb
  have hcase : ∀ j oj, turnO h k o' j = some oj → (j = k ∧ oj = o') ∨ (j ≠ k ∧ ∃ x, h j = some x ∧ SameShape x oj ∧ (∀ z rows, oj = .arr z rows → x = .arr z rows) ∧ ∀ cs, oj = .box cs → ∃ ds, x = .box ds ∧ cs = ds.map (scrubA k)) := fun j oj hj => by
    by_cases e : j = k
    · subst e; simp only [turnO, if_true, Option.some.injEq] at hj; exact .inl ⟨rfl, hj.symm⟩
    · simp only [turnO, if_neg e] at hj; exact .inr ⟨e, scrubO_some hj⟩
  have hold : ∀ j x b Cj, j ≠ k → h j = some x → m j = some (some b, Cj) → b < w.heap.size ∧ ¬ A b ∧ ob ≠ some b := fun j x b Cj e hj hmj => by
    have := hC.lt ⟨j, x, Cj, hj, hmj⟩
    exact ⟨this.1, this.2, fun e' => e (hC.inj j k x o b Cj C hj hk hmj (by rw [hm, e']))⟩
  refine ⟨fun j oj hj => ?_, fun j j' oj oj' b C1 C2 hj hj' h1 h2 => ?_⟩
  · rcases hcase j oj hj with ⟨rfl, rfl⟩ | ⟨e, x, hx, _, hx2, hx3⟩
    · exact ⟨ob', C', by simp [updM], ho⟩
    · obtain ⟨obj, Cj, hmj, hoj⟩ := hC.at_ j x hx
      refine ⟨obj, Cj, by simp only [updM, if_neg e]; exact hmj, ?_⟩
      cases obj with
      | none =>
        cases oj with
        | arr z rows => rw [hx2 _ _ rfl] at hoj; exact hoj
        | box cs => obtain ⟨ds, rfl, _⟩ := hx3 _ rfl; exact hoj.elim
      | some b =>
        obtain ⟨g1, g2, g3⟩ := hold j x b Cj e hx hmj
        have hb := hoth b g1 g3
        cases oj with
        | arr z rows =>
          rw [hx2 _ _ rfl] at hoj
          obtain ⟨_, _, q3, q4, q5, cur, ty, q6, q7, q8⟩ := hoj
          refine ⟨g2, by omega, q3, q4, q5, cur, ty, by rw [hb]; exact q6, q7, fun i' j' r c hr hc => ?_⟩
          obtain ⟨u, hu, hru⟩ := q8 i' j' r c hr hc
          exact ⟨u, hu, hru.mono (fun _ h => h) hkeep⟩
        | box cs =>
          obtain ⟨ds, rfl, rfl⟩ := hx3 _ rfl
          obtain ⟨_, _, cur, ty, q6, q7, q8⟩ := hoj
          refine ⟨g2, by omega, cur, ty, by rw [hb]; exact q6, by simpa using q7, fun j' c hc => ?_⟩
          obtain ⟨c', hc', rfl⟩ := getElem?_map_scrub hc
          obtain ⟨u, hu, hru⟩ := q8 j' c' hc'
          exact ⟨u, hu, hru.scrubA (fun _ h => h) hkeep shaped_turn⟩
  · rcases hcase j oj hj with ⟨rfl, rfl⟩ | ⟨e, x, hx, _, _⟩ <;> rcases hcase j' oj' hj' with ⟨rfl, rfl⟩ | ⟨e', x', hx', _, _⟩
    · rfl
    · simp only [updM, if_neg e'] at h2
      simp only [updM, if_true, Option.some.injEq, Prod.mk.injEq] at h1
      have := hold j' x' b C2 e' hx' h2
      rcases hnew b h1.1 with g | g
      · exact absurd g this.2.2
      · omega
    · simp only [updM, if_neg e] at h1
      simp only [updM, if_true, Option.some.injEq, Prod.mk.injEq] at h2
      have := hold j x b C1 e hx h1
      rcases hnew b h2.1 with g | g
      · exact absurd g this.2.2
      · omega
    · simp only [updM, if_neg e, if_neg e'] at h1 h2
      exact hC.inj j j' x x' b C1 C2 hx hx' h1 h2

theorem turned_of (hA : AOk A w) (hC : ConcO A m h w) {k : Nat} {o o' : Obj} {ob ob' : Option Nat} {C C' : Nat} (hk : h k = some o) (hm : m k = some (ob, C)) (hos : w'.os = w.os) (htp : w'.tape = w.tape) (hout : w'.output = w.output)
    (hsz : w.heap.size ≤ w'.heap.size)
    (hoth : ∀ j, j < w.heap.size → ob ≠ some j → w'.heap[j]? = w.heap[j]?) (hnew : ∀ b, ob' = some b → ob = some b ∨ w.heap.size ≤ b) (ho : ObjAt A (updM m k (ob', C')) (turnO h k o') w' o' ob' C') :
    Turned P A m h w A (updM m k (ob', C')) (turnO h k o') w' := by
  refine ⟨⟨hos, htp, hout, hsz, fun b hb hM => hoth b hb fun e => hM ⟨k, o, C, hk, by rw [hm, e]⟩⟩, fun _ h => h, fun _ h => .inl h, fun b hb => Nat.lt_of_lt_of_le (hA b hb) hsz,
    fun b hb => hoth b (hA b hb) fun e => (hC.lt ⟨k, o, C, hk, by rw [hm, e]⟩).2 hb, conc_turn hA hC hk hm hsz hoth hnew ho, fun b ⟨j, oj, Cj, hj, hmj⟩ => ?_⟩
  by_cases e : j = k
  · simp only [updM, e, if_true, Option.some.injEq, Prod.mk.injEq] at hmj
    rcases hnew b hmj.1 with g | g
    · exact .inl ⟨k, o, C, hk, by rw [hm, g]⟩
    · exact .inr g
  · simp only [updM, if_neg e] at hmj
    simp only [turnO, if_neg e] at hj
    obtain ⟨x, hx, _⟩ := scrubO_some hj
    exact .inl ⟨j, x, Cj, hx, hmj⟩

end Go.Ab
