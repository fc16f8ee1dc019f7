/- Own objects that are written over in place: append into room, copy, clear; append of zeros without room. No condition. -/
import Derived.Test.YtnidojjahhhaaaaAbp
namespace Go.Ab
variable {P : Program} {A A' : Nat → Prop} {m m' : OMap} {h h' : OFun} {w w' : World} {H : Heap} {fr fr' : Fr} {a : Act}

theorem splice_get {α : Type} {cur news : List α} {q : Nat} (hl : q + news.length ≤ cur.length) (i : Nat) :
    (cur.take q ++ news ++ cur.drop (q + news.length))[i]? = if q ≤ i ∧ i < q + news.length then news[i - q]? else cur[i]? := by
  have hmin : min q cur.length = q := by omega
  rw [List.getElem?_append, List.getElem?_append]
  simp only [List.length_append, List.length_take, hmin]
  by_cases h1 : i < q
  · rw [if_pos (by omega), if_pos h1, if_neg (by omega), List.getElem?_take, if_pos h1]
  · by_cases h2 : i < q + news.length
    · rw [if_pos h2, if_neg h1, if_pos (by omega)]
    · rw [if_neg h2, if_neg (by omega), List.getElem?_drop]
      congr 1
      omega
theorem splice_len {α : Type} {cur news : List α} {q : Nat} (hl : q + news.length ≤ cur.length) : (cur.take q ++ news ++ cur.drop (q + news.length)).length = cur.length := by
  simp only [List.length_append, List.length_take, List.length_drop]
  omega

theorem ConcO.at_arr (hC : ConcO A m h w) {k z b C : Nat} {rows : List (List PV)} (hk : h k = some (.arr z rows)) (hm : m k = some (some b, C)) : ObjAt A m h w (.arr z rows) (some b) C := by
  obtain ⟨ob, C', hm', ho⟩ := hC.at_ k _ hk
  rw [hm] at hm'
  cases hm'
  exact ho
theorem ConcO.at_none (hC : ConcO A m h w) {k z C : Nat} {rows : List (List PV)} (hk : h k = some (.arr z rows)) (hm : m k = some (none, C)) : rows = [] ∧ C = 0 := by
  obtain ⟨ob, C', hm', ho⟩ := hC.at_ k _ hk
  rw [hm] at hm'
  cases hm'
  exact ho

theorem updO_same {k : Nat} {o : Obj} (hk : h k = some o) : updO h k o = h := by
  funext j
  unfold updO
  split
  · rename_i e; rw [e, hk]
  · rfl
theorem Turned.refl (hA : AOk A w) (hC : ConcO A m h w) : Turned P A m h w A m h w :=
  ⟨.refl _ _, fun _ h => h, fun _ h => .inl h, hA, fun _ _ => rfl, hC, fun _ h => .inl h⟩

/-- Rows of an own object, from row lo on, are written over. -/
theorem over_eff (hA : AOk A w) (hC : ConcO A m h w) {k z b C lo : Nat} {rows new : List (List PV)} (hk : h k = some (.arr z rows)) (hm : m k = some (some b, C)) {cur : Array Value} {e : TypeId}
    (hcur : w.heap[b]? = some (.cells cur e (0, 0))) {news : List Value} (hl : lo + new.length ≤ rows.length) (hn : news.length = new.length * z) (hw : ∀ (i : Nat) (r : List PV), new[i]? = some r → r.length = z)
    (hr : ∀ (i j : Nat) (r : List PV) (c : PV), new[i]? = some r → r[j]? = some c → ∃ u, news[i * z + j]? = some u ∧ RepI A w c u) :
    lo * z + news.length ≤ cur.size ∧ Turned P A m h w A m (updO h k (.arr z (rows.take lo ++ new ++ rows.drop (lo + new.length)))) (w.setRow b (cur.toList.take (lo * z) ++ news ++ cur.toList.drop (lo * z + news.length)).toArray) ∧
      Shaped none m h m (updO h k (.arr z (rows.take lo ++ new ++ rows.drop (lo + new.length)))) := by
  obtain ⟨g1, g2, g3, g4, g5, cur', e', hcur', hsz, hcell⟩ := hC.at_arr hk hm
  have he : some (Go.Obj.cells cur e (0, 0)) = some (.cells cur' e' (0, 0)) := by rw [← hcur, ← hcur']
  simp only [Option.some.injEq, Go.Obj.cells.injEq] at he
  obtain ⟨rfl, rfl, _⟩ := he
  have hfit : lo * z + news.length ≤ cur.size := by
    rw [hn, hsz, ← Nat.add_mul]
    exact Nat.mul_le_mul_right _ (by omega)
  have hcl : cur.toList.length = cur.size := Array.length_toList
  have hset : ∀ (cur' : Array Value), (w.setRow b cur').heap.size = w.heap.size := fun cur' => by simp [World.setRow]
  generalize hrows' : rows.take lo ++ new ++ rows.drop (lo + new.length) = rows'
  have hlen' : rows'.length = rows.length := by rw [← hrows']; exact splice_len hl
  have hget' : ∀ i r, rows'[i]? = some r → (lo ≤ i ∧ i < lo + new.length ∧ new[i - lo]? = some r) ∨ (¬ (lo ≤ i ∧ i < lo + new.length) ∧ rows[i]? = some r) := fun i r hr => by
    rw [← hrows', splice_get hl] at hr
    split at hr
    · rename_i g; exact .inl ⟨g.1, g.2, hr⟩
    · rename_i g; exact .inr ⟨g, hr⟩
  have hset' : ConcO A m (updO h k (.arr z rows')) (w.setRow b (cur.toList.take (lo * z) ++ news ++ cur.toList.drop (lo * z + news.length)).toArray) ∧ Shaped none m h m (updO h k (.arr z rows')) := by
    refine conc_set hC hk hm ⟨rfl, hlen'.symm⟩ (hset _) (fun j hj => setRow_other w b j _ hj) ⟨g1, by rw [hset]; exact g2, by omega, g4, fun i r hr => ?_, _, e, setRow_heap w b cur _ e (0, 0) hcur, ?_, fun i j r c hri hc => ?_⟩
    · rcases hget' i r hr with ⟨_, _, g⟩ | ⟨_, g⟩
      · exact hw _ r g
      · exact g5 i r g
    · rw [List.size_toArray, splice_length (by omega), hcl, hsz]
    · have hmono : ∀ {c : PV} {u : Value}, RepI A w c u → RepI A (w.setRow b (cur.toList.take (lo * z) ++ news ++ cur.toList.drop (lo * z + news.length)).toArray) c u := fun hr =>
        hr.mono (fun _ h => h) (fun b' hb' => setRow_other w b b' _ fun e => g1 (e ▸ hb'))
      have hget := getElem?_splice (cur := cur.toList) (news := news) (q := lo * z) (by rw [hcl]; exact hfit) (i * z + j)
      simp only [List.getElem?_toArray]
      rw [hget]
      rcases hget' i r hri with ⟨q1, q2, g⟩ | ⟨q, g⟩
      · have hj : j < z := by rw [← hw _ r g]; exact (List.getElem?_eq_some_iff.1 hc).1
        obtain ⟨u, hu, hru⟩ := hr _ j r c g hc
        have hle : lo * z ≤ i * z := Nat.mul_le_mul_right _ q1
        have hsub : i * z + j - lo * z = (i - lo) * z + j := by rw [Nat.sub_mul]; omega
        have hlt := (List.getElem?_eq_some_iff.1 hu).1
        rw [if_pos (by omega), hsub]
        exact ⟨u, hu, hmono hru⟩
      · have hj : j < z := by rw [← g5 i r g]; exact (List.getElem?_eq_some_iff.1 hc).1
        obtain ⟨u, hu, hru⟩ := hcell i j r c g hc
        rw [if_neg (fun ⟨h1, h2⟩ => by
          rcases Nat.lt_or_ge i lo with h3 | h3
          · have : (i + 1) * z ≤ lo * z := Nat.mul_le_mul_right _ (by omega)
            rw [Nat.succ_mul] at this
            omega
          · have : (lo + new.length) * z ≤ i * z := Nat.mul_le_mul_right _ (by omega)
            rw [Nat.add_mul] at this
            omega)]
        exact ⟨u, by simpa using hu, hmono hru⟩
  refine ⟨hfit, ⟨⟨rfl, rfl, rfl, by simp [World.setRow], fun j _ hM => setRow_other w b j _ fun e => hM (e ▸ ⟨k, _, C, hk, hm⟩)⟩, fun _ h => h, fun _ h => .inl h, fun b' hb' => by rw [hset]; exact hA b' hb', fun b' hb' => setRow_other w b b' _ fun e => g1 (e ▸ hb'), hset'.1, fun b' ⟨j, o, C', hj, hmj⟩ => ?_⟩, hset'.2⟩
  by_cases e : j = k
  · subst e; exact .inl ⟨j, _, C', hk, hmj⟩
  · simp only [updO, if_neg e] at hj; exact .inl ⟨j, o, C', hj, hmj⟩

/-- Nothing is written over. -/
theorem over_none (hA : AOk A w) (hC : ConcO A m h w) {k z lo : Nat} {rows : List (List PV)} (hk : h k = some (.arr z rows)) :
    Turned P A m h w A m (updO h k (.arr z (rows.take lo ++ [] ++ rows.drop (lo + 0)))) w ∧ Shaped none m h m (updO h k (.arr z (rows.take lo ++ [] ++ rows.drop (lo + 0)))) := by
  have e : rows.take lo ++ [] ++ rows.drop (lo + 0) = rows := by simp
  rw [e, updO_same hk]
  exact ⟨.refl hA hC, .refl _ _ _⟩

/-- What a part of an own object is, as a value. -/
theorem RepO.soI {k z lo len : Nat} {v : Value} (r : RepO A m h w (.so k z lo len) v) : ∃ rows ob C cap, h k = some (.arr z rows) ∧ m k = some (ob, C) ∧
    ((len = 0 ∧ ∃ ao, v = .slice ao 0 cap ∧ (lo = 0 → rows = [] ∧ ob = none ∧ cap = 0)) ∨ ∃ b, ob = some b ∧ v = .slice (some ⟨b, lo * z, none⟩) len cap ∧ lo + len ≤ rows.length ∧ lo + cap = C) := by
  cases r with
  | imm hi => cases hi
  | so0 _ _ C cap ao hk hm hc => exact ⟨_, _, C, cap, hk, hm, .inl ⟨rfl, ao, rfl, fun _ => ⟨rfl, rfl, hc⟩⟩⟩
  | soE _ _ _ C cap ao rows b hk hm hlo => exact ⟨_, _, C, cap, hk, hm, .inl ⟨rfl, ao, rfl, fun e => by omega⟩⟩
  | so _ _ _ _ C cap b rows hk hm hl hc => exact ⟨_, _, C, cap, hk, hm, .inr ⟨b, rfl, rfl, hl, hc⟩⟩

theorem append_room (hA : AOk A w) (hC : ConcO A m h w) {k len : Nat} {t tx ty e : TypeId} (he : elemT P t = some e) (hz : 0 < sizeT P e) {rows0 : List (List PV)} (hk : h k = some (.arr (sizeT P e) rows0)) {vs : Value} (hvs : RepO A m h w (.so k (sizeT P e) 0 len) vs)
    {x : Value} {rows : List (List PV)} {news : List Value} (hsrc : SrcR P A w (sizeT P e) tx x rows news) (hl : len + rows.length ≤ rows0.length) :
    ∃ v w', (Builtin.append_ #[t, tx] ty #[vs, x]).run P w = .ok v w' ∧ Turned P A m h w A m (updO h k (.arr (sizeT P e) (rows0.take len ++ rows ++ rows0.drop (len + rows.length)))) w' ∧
      Shaped none m h m (updO h k (.arr (sizeT P e) (rows0.take len ++ rows ++ rows0.drop (len + rows.length)))) ∧
      RepO A m (updO h k (.arr (sizeT P e) (rows0.take len ++ rows ++ rows0.drop (len + rows.length)))) w' (.so k (sizeT P e) 0 (len + rows.length)) v := by
  obtain ⟨i, hi, hsz⟩ : ∃ i, P.info? e = some i ∧ i.size = sizeT P e := by
    unfold sizeT at hz ⊢
    cases hi : P.info? e with
    | none => simp [hi] at hz
    | some i => exact ⟨i, rfl, by simp⟩
  have hu := elemT_spec he
  have hs := hsrc.src
  rw [← hsz] at hs
  have hnl : news.length = rows.length * sizeT P e := hsrc.src.newsLen
  obtain ⟨rows0', ob, C, cap, hk', hm, hv⟩ := hvs.soI
  obtain rfl : rows0' = rows0 := by rw [hk] at hk'; cases hk'; rfl
  rcases hv with ⟨rfl, ao, rfl, h0⟩ | ⟨b, rfl, rfl, hlen, hcap⟩
  · obtain ⟨rfl, rfl, rfl⟩ := h0 rfl
    have hr0 : rows = [] := List.eq_nil_of_length_eq_zero (by simpa using hl)
    subst hr0
    have hrun := run_append_none (ty := ty) t tx e i hu hi ao 0 0 x news hs (Nat.le_refl _)
    obtain ⟨o1, o2⟩ := over_none (P := P) (lo := 0) hA hC hk
    exact ⟨_, _, hrun, o1, o2, .so0 k _ C 0 ao (by simp [updO]) hm rfl⟩
  · obtain ⟨g1, g2, g3, g4, g5, cur, ty', hcur, hcs, hcell⟩ := hC.at_arr hk hm
    obtain ⟨o1, o2, o3⟩ := over_eff (P := P) hA hC hk hm hcur hl hnl hsrc.wide hsrc.rep
    rw [Nat.zero_mul]
    have hrun := run_append_room_row (ty := ty) t tx e ty' i hu hi b len cap x rows.length news hs (by omega) hcur (by rw [hsz]; exact o1)
    rw [hsz] at hrun
    refine ⟨_, _, hrun, o2, o3, ?_⟩
    have := RepO.so (A := A) (w := w.setRow b (cur.toList.take (len * sizeT P e) ++ news ++ cur.toList.drop (len * sizeT P e + news.length)).toArray) (m := m) (h := updO h k (.arr (sizeT P e) (rows0'.take len ++ rows ++ rows0'.drop (len + rows.length)))) k (sizeT P e) 0 (len + rows.length) C cap b
      (rows0'.take len ++ rows ++ rows0'.drop (len + rows.length)) (by simp [updO]) hm (by rw [splice_len hl]; omega) hcap
    rw [Nat.zero_mul] at this
    exact this

/-- The first rows of a slice, as cells. -/
theorem src_take (hs : Sub h H) (hC : ConcO A m h w) {t e : TypeId} (he : elemT P t = some e) (hz : 0 < sizeT P e) {p : PV} {v : Value} (hr : RepO A m h w p v) (ho : srcOk H (sizeT P e) p) (hsl : isSl p) :
    ∃ ao cap, v = .slice ao (srcRows H p).length cap ∧ ∀ n, n ≤ (srcRows H p).length → rowsOne ((srcRows H p).take n) → ∃ news : List Value, (Builtin.firstCells (sizeT P e) n v).run P w = .ok news.toArray w ∧ news.length = n * sizeT P e ∧
      (∀ u ∈ news, u.oneCell' = true) ∧ (∀ (i : Nat) (r : List PV), ((srcRows H p).take n)[i]? = some r → r.length = sizeT P e) ∧
      ∀ (i j : Nat) (r : List PV) (c : PV), ((srcRows H p).take n)[i]? = some r → r[j]? = some c → ∃ u, news[i * sizeT P e + j]? = some u ∧ RepI A w c u := by
  have hu : (∃ e', P.underlying t = some (.slice e')) ∨ P.underlying t = some .string := .inl ⟨e, elemT_spec he⟩
  have none_ : ∀ (ao : Option Addr) (cap : Nat), ∀ n, n ≤ ([] : List (List PV)).length → rowsOne (([] : List (List PV)).take n) → ∃ news : List Value, (Builtin.firstCells (sizeT P e) n (.slice ao 0 cap)).run P w = .ok news.toArray w ∧ news.length = n * sizeT P e ∧
      (∀ u ∈ news, u.oneCell' = true) ∧ (∀ (i : Nat) (r : List PV), (([] : List (List PV)).take n)[i]? = some r → r.length = sizeT P e) ∧
      ∀ (i j : Nat) (r : List PV) (c : PV), (([] : List (List PV)).take n)[i]? = some r → r[j]? = some c → ∃ u, news[i * sizeT P e + j]? = some u ∧ RepI A w c u := fun ao cap n hn _ => by
    obtain rfl : n = 0 := by simpa using hn
    refine ⟨[], ?_, by simp, by simp, by simp, by simp⟩
    cases ao with
    | none => exact run_firstCells_none w _ 0 0 cap
    | some b => exact run_firstCells_some w _ 0 b 0 cap [] (by simp) (by simp)
  have some_ : ∀ {b o cap : Nat} {rows : List (List PV)} {u : Nat → Nat → Value}, (∀ (i : Nat) (r : List PV), rows[i]? = some r → r.length = sizeT P e) →
      (∀ (i j : Nat) (r : List PV) (c : PV), rows[i]? = some r → r[j]? = some c → w.cell? ⟨b, o + (i * sizeT P e + j), none⟩ = some (u i j)) →
      (∀ (i j : Nat) (r : List PV) (c : PV), rows[i]? = some r → r[j]? = some c → RepI A w c (u i j)) →
      ∀ n, n ≤ rows.length → rowsOne (rows.take n) → ∃ news : List Value, (Builtin.firstCells (sizeT P e) n (.slice (some ⟨b, o, none⟩) rows.length cap)).run P w = .ok news.toArray w ∧ news.length = n * sizeT P e ∧
      (∀ u ∈ news, u.oneCell' = true) ∧ (∀ (i : Nat) (r : List PV), (rows.take n)[i]? = some r → r.length = sizeT P e) ∧
      ∀ (i j : Nat) (r : List PV) (c : PV), (rows.take n)[i]? = some r → r[j]? = some c → ∃ u, news[i * sizeT P e + j]? = some u ∧ RepI A w c u := fun {b o cap rows u} hw hc hrr n hn h1 => by
    have key : ∀ (i : Nat) (r : List PV), (rows.take n)[i]? = some r → rows[i]? = some r := fun i r hr => by
      rw [List.getElem?_take] at hr
      split at hr
      · exact hr
      · cases hr
    obtain ⟨news, hn'⟩ := src_at (P := P) (A := A) (w := w) (b := b) (o := o) (cap := cap) (u := u) hz hu (fun i r hr => hw i r (key i r hr)) h1 (fun i j r c hr hcj => hc i j r c (key i r hr) hcj) (fun i j r c hr hcj => hrr i j r c (key i r hr) hcj)
    have hl : (rows.take n).length = n := by simp; omega
    have h2 := hn'.src.cells
    have h3 := hn'.src.newsLen
    rw [hl] at h2 h3
    exact ⟨news, h2, h3, hn'.src.one, hn'.wide, hn'.rep⟩
  cases p <;> simp only [srcOk, isSl] at ho hsl
  case nils => obtain ⟨ao, rfl⟩ := hr.nilsI; exact ⟨ao, 0, rfl, none_ ao 0⟩
  case sl z' rows =>
    subst ho
    cases hr with
    | imm hi =>
      cases hi with
      | slE _ ao cap => exact ⟨ao, cap, rfl, none_ ao cap⟩
      | sl _ _ b o cap u hA hc hzz hu hh => exact ⟨_, cap, rfl, some_ hzz hu hh⟩
  case sf k z' =>
    obtain ⟨rfl, _⟩ := ho
    cases hr with
    | imm hi => cases hi
    | sfN _ _ C ao hk' hm => simp only [srcRows, rowsO_of (hs _ _ hk')]; exact ⟨ao, 0, rfl, none_ ao 0⟩
    | sf _ _ C b rows hk' hm =>
      simp only [srcRows, rowsO_of (hs _ _ hk')]
      obtain ⟨u, g1, g2, g3⟩ := hC.rowI hk' hm
      exact ⟨_, C, rfl, some_ g1 g2 g3⟩
  case so k z' lo len =>
    obtain ⟨rfl, _, _⟩ := ho
    cases hr with
    | imm hi => cases hi
    | so0 _ _ C cap ao hk' hm hc => simp only [srcRows, List.take_zero]; exact ⟨ao, cap, rfl, none_ ao cap⟩
    | soE _ _ _ C cap ao => simp only [srcRows, List.take_zero]; exact ⟨ao, cap, rfl, none_ ao cap⟩
    | so _ _ _ _ C cap b rows hk' hm hl hc =>
      simp only [srcRows, rowsO_of (hs _ _ hk')]
      obtain ⟨u, g1, g2, g3⟩ := hC.rowI hk' hm
      have key : ∀ (i : Nat) (r : List PV), ((rows.drop lo).take len)[i]? = some r → rows[lo + i]? = some r := fun i r hr => by
        rw [List.getElem?_take] at hr
        split at hr
        · rwa [List.getElem?_drop] at hr
        · cases hr
      have hlen : ((rows.drop lo).take len).length = len := by simp; omega
      have := some_ (b := b) (o := lo * sizeT P e) (cap := cap) (u := fun i j => u (lo + i) j) (fun i r hr => g1 _ r (key i r hr))
        (fun i j r c hr hcj => by have := g2 _ j r c (key i r hr) hcj; rwa [Nat.zero_add, Nat.add_mul, Nat.add_assoc] at this) (fun i j r c hr hcj => g3 _ j r c (key i r hr) hcj)
      refine ⟨_, cap, by rw [hlen], ?_⟩
      rw [hlen] at this ⊢
      exact this

theorem run_copy_over {dT sT ty e : TypeId} (he : elemT P dT = some e) (hz : 0 < sizeT P e) (b q dLen dCap : Nat) (ao : Option Addr) (sLen sCap n : Nat) (hn : n = min sLen dLen) {news : List Value}
    (hf : (Builtin.firstCells (sizeT P e) n (.slice ao sLen sCap)).run P w = .ok news.toArray w) (h1 : ∀ u ∈ news, u.oneCell' = true) {cur : Array Value} {t : TypeId} (hcur : w.heap[b]? = some (.cells cur t (0, 0))) (hfit : q + news.length ≤ cur.size) :
    (Builtin.copy_ #[dT, sT] ty #[.slice (some ⟨b, q, none⟩) dLen dCap, .slice ao sLen sCap]).run P w = .ok (.int .i64 (n : Nat)) (w.setRow b (cur.toList.take q ++ news ++ cur.toList.drop (q + news.length)).toArray) := by
  have hst := run_storeCells_at P b q t news 0 cur w hcur (by simpa using hfit) h1
  have hn' : Nat.min sLen dLen = n := hn.symm
  simp only [Nat.add_zero] at hst
  simp [Builtin.copy_, run_underlying (elemT_spec he), Builtin.lenOf, sizeT_spec hz, hn', hf, hst, goInt]

theorem run_copy_zero {dT sT ty e : TypeId} (he : elemT P dT = some e) (hz : 0 < sizeT P e) (bo : Option Addr) (dLen dCap : Nat) (ao : Option Addr) (sLen sCap : Nat) (hn : min sLen dLen = 0)
    (hf : (Builtin.firstCells (sizeT P e) 0 (.slice ao sLen sCap)).run P w = .ok ([] : List Value).toArray w) :
    (Builtin.copy_ #[dT, sT] ty #[.slice bo dLen dCap, .slice ao sLen sCap]).run P w = .ok (.int .i64 (0 : Nat)) w := by
  have hn' : Nat.min sLen dLen = 0 := hn
  cases bo <;> simp [Builtin.copy_, run_underlying (elemT_spec he), Builtin.lenOf, sizeT_spec hz, hn', hf, storeCells, goInt]

theorem copy_eff (hA : AOk A w) (hC : ConcO A m h w) (hs : Sub h H) {k lo len : Nat} {t tx ty e : TypeId} (he : elemT P t = some e) (hz : 0 < sizeT P e) {rows0 : List (List PV)} (hk : h k = some (.arr (sizeT P e) rows0)) {vs : Value} (hvs : RepO A m h w (.so k (sizeT P e) lo len) vs)
    {p : PV} {x : Value} (hr : RepO A m h w p x) (ho : srcOk H (sizeT P e) p) (hsl : isSl p) (hl : lo + len ≤ rows0.length) (h1 : rowsOne ((srcRows H p).take len)) :
    ∃ w', (Builtin.copy_ #[t, tx] ty #[vs, x]).run P w = .ok (.int .i64 ((min (srcRows H p).length len : Nat) : Int)) w' ∧
      Turned P A m h w A m (updO h k (.arr (sizeT P e) (rows0.take lo ++ (srcRows H p).take len ++ rows0.drop (lo + min (srcRows H p).length len)))) w' ∧
      Shaped none m h m (updO h k (.arr (sizeT P e) (rows0.take lo ++ (srcRows H p).take len ++ rows0.drop (lo + min (srcRows H p).length len)))) := by
  obtain ⟨ao, cap', rfl, hf⟩ := src_take hs hC he hz hr ho hsl
  generalize srcRows H p = src at hf h1 ⊢
  have htake : src.take (min src.length len) = src.take len := by
    rcases Nat.le_total src.length len with g | g
    · rw [Nat.min_eq_left g, List.take_length, List.take_of_length_le g]
    · rw [Nat.min_eq_right g]
  have hlt : (src.take len).length = min src.length len := by rw [List.length_take, Nat.min_comm]
  obtain ⟨news, f1, f2, f3, f4, f5⟩ := hf (min src.length len) (Nat.min_le_left _ _) (by rw [htake]; exact h1)
  rw [htake] at f4 f5
  obtain ⟨rows0', ob, C, cap, hk', hm, hv⟩ := hvs.soI
  obtain rfl : rows0' = rows0 := by rw [hk] at hk'; cases hk'; rfl
  rcases hv with ⟨rfl, ao', rfl, h0⟩ | ⟨b, rfl, rfl, hlen, hcap⟩
  · have hn0 : news = [] := List.eq_nil_of_length_eq_zero (by rw [f2]; simp)
    subst hn0
    simp only [Nat.min_zero] at f1 ⊢
    obtain ⟨o1, o2⟩ := over_none (P := P) (lo := lo) hA hC hk
    rw [List.take_zero]
    exact ⟨w, run_copy_zero he hz ao' 0 cap ao src.length cap' (by simp) f1, o1, o2⟩
  · obtain ⟨g1, g2, g3, g4, g5, cur, ty', hcur, hcs, hcell⟩ := hC.at_arr hk hm
    obtain ⟨o1, o2, o3⟩ := over_eff (P := P) (lo := lo) hA hC hk hm hcur (new := src.take len) (by rw [hlt]; omega) (by rw [f2, hlt]) f4 f5
    rw [hlt] at o2 o3
    exact ⟨_, run_copy_over he hz b (lo * sizeT P e) len cap ao src.length cap' _ rfl f1 f3 hcur o1, o2, o3⟩

theorem run_clear_none {t ty e : TypeId} (he : elemT P t = some e) (ao : Option Addr) (c : Nat) : (Builtin.clear_ #[t] ty #[.slice ao 0 c]).run P w = .ok (.tuple #[]) w := by
  cases ao <;> simp [Builtin.clear_, run_underlying (elemT_spec he)]

theorem zero_list {v : Value} {n i : Nat} (hi : i < n * v.cells.size) : (Builtin.zeroCells v.cells n).toList[i]? = some (v.cells.getD (i % v.cells.size) undef) := by
  have hp : 0 < v.cells.size := by
    rcases Nat.eq_zero_or_pos v.cells.size with h | h
    · rw [h] at hi; omega
    · exact h
  have hm : i % v.cells.size < v.cells.size := Nat.mod_lt _ hp
  simp [Builtin.zeroCells, hi, Array.getD_eq_getD_getElem?, hm]

theorem zeros_at {e : TypeId} {zs : List PV} (hzs : zeroT P e = some zs) (hzl : zs.length = sizeT P e) (hno : zs.all noOwnA = true) (hone : zs.all oneC = true) :
    ∃ i v, P.info? e = some i ∧ i.zero = some v ∧ i.size = sizeT P e ∧ i.bytes = bytesT P e ∧ v.cells.size = sizeT P e ∧ ∀ (A : Nat → Prop) (w : World) (n : Nat), (Builtin.zeroCells v.cells n).toList.length = n * sizeT P e ∧
      (∀ u ∈ (Builtin.zeroCells v.cells n).toList, u.oneCell' = true) ∧ (∀ (i : Nat) (r : List PV), (List.replicate n zs)[i]? = some r → r.length = sizeT P e) ∧
      ∀ (i j : Nat) (r : List PV) (c : PV), (List.replicate n zs)[i]? = some r → r[j]? = some c → ∃ u, (Builtin.zeroCells v.cells n).toList[i * sizeT P e + j]? = some u ∧ RepI A w c u := by
  unfold zeroT at hzs
  obtain ⟨v, hv, rfl⟩ := Option.map_eq_some_iff.1 hzs
  obtain ⟨i, hi, hiz⟩ := Option.bind_eq_some_iff.1 hv
  have hvs : v.cells.size = sizeT P e := by
    have := flatV_ofV_cells (A := fun _ => False) (m := fun _ => none) (h := fun _ => none) (w := default) hone
    rw [this.1, hzl]
  refine ⟨i, v, hi, hiz, by simp [sizeT, hi], by simp [bytesT, hi], hvs, fun A w n => ?_⟩
  have hcs := flatV_ofV_cells (A := A) (m := fun _ => none) (h := fun _ => none) (w := w) hone
  have hlen : (Builtin.zeroCells v.cells n).toList.length = n * sizeT P e := by rw [Array.length_toList, size_zeroCells, hvs]
  have hrow : ∀ (i : Nat) (r : List PV), (List.replicate n (flatV (ofV v)))[i]? = some r → i < n ∧ r = flatV (ofV v) := fun i r hr => by
    rw [List.getElem?_replicate] at hr
    split at hr
    · cases hr; exact ⟨by assumption, rfl⟩
    · cases hr
  refine ⟨hlen, fun u hu => ?_, fun i r hr => by rw [(hrow i r hr).2]; exact hzl, fun i j r c hr hc => ?_⟩
  · obtain ⟨q, hq⟩ := List.mem_iff_getElem?.1 hu
    have hql : q < n * v.cells.size := by rw [hvs, ← hlen]; exact (List.getElem?_eq_some_iff.1 hq).1
    rw [zero_list hql] at hq
    cases hq
    have hp : 0 < v.cells.size := by
      rcases Nat.eq_zero_or_pos v.cells.size with h | h
      · rw [h] at hql; omega
      · exact h
    have hm : q % v.cells.size < (flatV (ofV v)).length := by rw [hzl, ← hvs]; exact Nat.mod_lt _ hp
    have := hcs.2 _ _ (List.getElem?_eq_getElem hm)
    exact (this.toI (List.all_eq_true.1 hno _ (List.getElem_mem hm))).one (List.all_eq_true.1 hone _ (List.getElem_mem hm))
  · obtain ⟨hi', rfl⟩ := hrow i r hr
    have hj : j < sizeT P e := by rw [← hzl]; exact (List.getElem?_eq_some_iff.1 hc).1
    have hq : i * sizeT P e + j < n * v.cells.size := by rw [hvs]; exact fits_row hi' hj
    have hmod : (i * sizeT P e + j) % v.cells.size = j := by rw [hvs, Nat.mul_comm, Nat.mul_add_mod, Nat.mod_eq_of_lt hj]
    have hrep := hcs.2 j c hc
    refine ⟨v.cells.getD j undef, by rw [zero_list hq, hmod], hrep.toI (List.all_eq_true.1 hno c (List.mem_of_getElem? hc))⟩

theorem clear_eff (hA : AOk A w) (hC : ConcO A m h w) {k lo len : Nat} {t ty e : TypeId} {zs : List PV} (he : elemT P t = some e) (hzs : zeroT P e = some zs) (hzl : zs.length = sizeT P e) (hno : zs.all noOwnA = true) (hone : zs.all oneC = true)
    {rows0 : List (List PV)} (hk : h k = some (.arr (sizeT P e) rows0)) {vs : Value} (hvs : RepO A m h w (.so k (sizeT P e) lo len) vs) (hl : lo + len ≤ rows0.length) :
    ∃ w', (Builtin.clear_ #[t] ty #[vs]).run P w = .ok (.tuple #[]) w' ∧
      Turned P A m h w A m (updO h k (.arr (sizeT P e) (rows0.take lo ++ List.replicate len zs ++ rows0.drop (lo + len)))) w' ∧
      Shaped none m h m (updO h k (.arr (sizeT P e) (rows0.take lo ++ List.replicate len zs ++ rows0.drop (lo + len)))) := by
  obtain ⟨rows0', ob, C, cap, hk', hm, hv⟩ := hvs.soI
  obtain rfl : rows0' = rows0 := by rw [hk] at hk'; cases hk'; rfl
  obtain ⟨i, v, hi, hiz, hsz, hby, hvs', hz⟩ := zeros_at (P := P) hzs hzl hno hone
  obtain ⟨z1, z2, z3, z4⟩ := hz A w len
  rcases Nat.eq_zero_or_pos len with rfl | hpos
  · obtain ⟨o1, o2⟩ := over_none (P := P) (lo := lo) hA hC hk
    rcases hv with ⟨_, ao', rfl, h0⟩ | ⟨b, rfl, rfl, hlen, hcap⟩
    · exact ⟨w, run_clear_none he _ _, o1, o2⟩
    · exact ⟨w, run_clear_none he _ _, o1, o2⟩
  rcases hv with ⟨rfl, ao', rfl, h0⟩ | ⟨b, rfl, rfl, hlen, hcap⟩
  · omega
  · obtain ⟨g1, g2, g3, g4, g5, cur, ty', hcur, hcs, hcell⟩ := hC.at_arr hk hm
    obtain ⟨o1, o2, o3⟩ := over_eff (P := P) (lo := lo) hA hC hk hm hcur (new := List.replicate len zs) (by rw [List.length_replicate]; omega) (by rw [z1, List.length_replicate]) z3 z4
    rw [List.length_replicate] at o2 o3
    refine ⟨_, ?_, o2, o3⟩
    have hst := run_storeCells_at P b (lo * sizeT P e) ty' (Builtin.zeroCells v.cells len).toList 0 cur w hcur (by simpa using o1) z2
    simp only [Nat.add_zero] at hst
    obtain ⟨n, rfl⟩ : ∃ n, len = n + 1 := ⟨len - 1, by omega⟩
    simp [Builtin.clear_, run_underlying (elemT_spec he), zeroValue, typeInfo, hi, hiz, hst]

/-- append of n zeros, without room. -/
theorem run_append_zeros {t tn ty e : TypeId} {i : TypeInfo} {z : Value} {k kn : IntKind} (ht : P.underlying t = some (.slice e)) (htn : P.underlying tn = some (.int kn)) (hi : P.info? e = some i) (hz : i.zero = some z)
    (base : Option Addr) (sLen sCap n : Nat) (h0 : 0 < n) (hs : 0 < i.size) (olds : List Value) (hold : (Builtin.firstCells i.size sLen (.slice base sLen sCap)).run P w.drew = .ok olds.toArray w.drew) (hg : sCap < sLen + n)
    (h63 : ((sLen + n : Nat) : Int) ≤ 9223372036854775807) (h48 : (sLen + n) * i.bytes ≤ 140737488355328) :
    (Builtin.append_ #[t, tn] ty #[.slice base sLen sCap, .int k n]).run P w =
      .ok (.slice (some ⟨w.heap.size, 0, none⟩) (sLen + n) (grownCap w (sLen + n) sCap e)) (w.drew.alloc (.cells (olds.toArray ++ Builtin.zeroCells z.cells n ++ Builtin.zeroCells z.cells (grownCap w (sLen + n) sCap e - (sLen + n))) e)) := by
  have hn : n ≠ 0 := by omega
  have hw : IntKind.i64.wrap (n : Int) = n := by rw [IntKind.wrap_i64]; omega
  have h63' : ¬ (9223372036854775807 < ((sLen : Int) + (n : Int))) := by omega
  have hfit := growslice_fits hg h48
  have h48' : ¬ (281474976710656 < Builtin.nextslicecap (sLen + n) sCap * i.bytes) := by omega
  have hle : n * i.bytes ≤ (sLen + n) * i.bytes := Nat.mul_le_mul_right _ (by omega)
  have h48i : ¬ (281474976710656 < (n : Int) * (i.bytes : Int)) := by
    rw [← Int.natCast_mul]
    omega
  have hneg : ¬ ((n : Int) < 0) := by omega
  have hns : ¬ (n * i.size = 0) := Nat.mul_ne_zero hn (by omega)
  have hroom : ¬ (sLen + n ≤ sCap) := by omega
  simp [Builtin.append_, run_underlying ht, run_underlying htn, sizeOf, typeInfo, zeroValue, hi, hz, asInt, asIntOf, hw, hn, hneg, hns, h63', h48', h48i, hroom, hold, Question.forced, newRow, grownCap]

end Go.Ab
