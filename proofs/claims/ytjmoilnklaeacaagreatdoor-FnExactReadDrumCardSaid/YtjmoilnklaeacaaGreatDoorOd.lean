/- Contracts: texts cut at a byte; lists of numbers and names of notes read back. No condition. -/
import Derived.Test.YtjmoilnklaeacaaGreatDoorOc
namespace Go.Proofs.YtjmoilnklaeacaaGreatDoor
open Go Go.Ab
set_option maxRecDepth 100000

theorem c_Split (s : List UInt8) (c : UInt8) (hs : s.length < 4294967281) : HFn Tryz.prog 44 [.str s, .str [c]] [] (.sf 0 1) [some (.arr 1 (strRows (spl c s)))] :=
  hfn_of_calls_new Tryz.func44 (by kernel_rfl) rfl rfl (fun i r hr => by
      unfold strRows at hr
      rw [List.getElem?_map] at hr
      cases hx : (spl c s)[i]? with
      | none => rw [hx] at hr; cases hr
      | some x => rw [hx] at hr; cases hr; rfl) fun A w vs hA hsz hargs => by
    have h0 := hargs 0 _ rfl
    have h1 := hargs 1 _ rfl
    rw [args2 hsz]
    generalize vs.getD 0 undef = v0 at h0 ⊢
    generalize vs.getD 1 undef = v1 at h1 ⊢
    cases h0 with
    | str _ b hb =>
    cases h1 with
    | str _ e he =>
    obtain ⟨v, hv, h3, _⟩ := aokCell hA (g := 0) (c := 0) (by simp [shps])
    obtain ⟨m, rfl⟩ := h3 rfl
    have e1 : b.size = b.data.toList.length := by simp
    have e2 : e.size = 1 := by
      have : e.size = e.data.toList.length := by simp
      rw [this, he]
      rfl
    have hcount : Lib.countB b e = Lib.count s [c] := by unfold Lib.countB; rw [hb, he]
    have hdata := Lib.splitB_data e 0 (Lib.countB b e) b
    rw [hb, he, hcount, split_spl] at hdata
    rw [← hcount] at hdata
    have hlen := Lib.splitB_all e (by omega) 0 (Lib.countB b e) b rfl
    have hrl : (strRows (spl c s)).length = Lib.countB b e + 1 := by rw [strRows_len, ← hdata, List.length_map, hlen]
    refine (Tryz.strings_Split b e m w (by rw [e1, hb]; exact hs) hv (by omega)).mono fun q w' ⟨hq, hw⟩ => ?_
    subst hw
    refine ⟨w.heap.size, Lib.countB b e + 1, _, _, by rw [hq, hrl], moved_alloc _ _, Nat.le_refl _, heap_alloc_at, by simp [hlen], by rw [hrl]; exact Nat.le_refl _, ?_, fun i j r x hr hx => ?_⟩
    · have h9 := spl_len c s
      rw [strRows_len] at hrl
      have hmax : maxLen = 9223372036854775807 := rfl
      omega
    · have hi := (List.getElem?_eq_some_iff.1 hr).1
      rw [hrl] at hi
      unfold strRows at hr
      rw [List.getElem?_map, ← hdata, List.getElem?_map, List.getElem?_eq_getElem (by omega)] at hr
      obtain rfl := Option.some.inj hr
      cases j with
      | zero =>
        obtain rfl := Option.some.inj hx
        refine ⟨_, ?_, .str _ _ rfl⟩
        rw [Nat.mul_one, Nat.add_zero, List.getElem?_toArray, List.getElem?_map, List.getElem?_eq_getElem (by omega)]
        rfl
      | succ j => cases hx

/-- How far the reference has come behind i bytes: the parts that are whole; where the next one begins. -/
def spSt (c : UInt8) (s : List UInt8) : Nat → List (List UInt8) × Nat
  | 0 => ([], 0)
  | i + 1 => if s.getD i 0 = c then ((spSt c s i).1 ++ [(s.take i).drop (spSt c s i).2], i + 1) else spSt c s i
theorem spl_snoc (c b : UInt8) : ∀ (l : List UInt8) (t : List (List UInt8)) (x : List UInt8), spl c l = t ++ [x] → spl c (l ++ [b]) = if b = c then t ++ [x, []] else t ++ [x ++ [b]]
  | [], t, x, h => by
    have : t = [] ∧ x = [] := by
      cases t with
      | nil => simpa [spl] using h.symm
      | cons y t => simp [spl] at h
    obtain ⟨rfl, rfl⟩ := this
    simp only [List.nil_append, spl_cons]
    split <;> rfl
  | a :: l, t, x, h => by
    rw [List.cons_append, spl_cons]
    rw [spl_cons] at h
    by_cases ha : a = c
    · rw [if_pos ha] at h ⊢
      cases t with
      | nil => simp at h; exact absurd h.2 (spl_ne _ _)
      | cons y t =>
        simp only [List.cons_append, List.cons.injEq] at h
        rw [spl_snoc c b l t x h.2, ← h.1]
        split <;> rfl
    · rw [if_neg ha] at h ⊢
      cases hs : spl c l with
      | nil => exact absurd hs (spl_ne _ _)
      | cons y u =>
        rw [hs] at h
        simp only at h
        cases t with
        | nil =>
          simp at h
          obtain ⟨rfl, rfl⟩ := h
          rw [spl_snoc c b l [] y (by rw [hs]; rfl)]
          by_cases hb : b = c <;> simp [hb]
        | cons z t =>
          simp only [List.cons_append, List.cons.injEq] at h
          rw [spl_snoc c b l (y :: t) x (by rw [hs, h.2]; rfl), ← h.1]
          by_cases hb : b = c <;> simp [hb]
theorem spSt_spl (c : UInt8) (s : List UInt8) : ∀ i, i ≤ s.length → (spSt c s i).2 ≤ i ∧ (spSt c s i).1.length ≤ i ∧ spl c (s.take i) = (spSt c s i).1 ++ [(s.take i).drop (spSt c s i).2]
  | 0, _ => ⟨Nat.le_refl _, Nat.le_refl _, rfl⟩
  | i + 1, hi => by
    obtain ⟨h1, h2, h3⟩ := spSt_spl c s i (by omega)
    have e : s.take (i + 1) = s.take i ++ [s[i]] := (List.take_append_getElem (by omega)).symm
    have eg : s.getD i 0 = s[i] := by simp [show i < s.length by omega]
    have hl : (s.take i).length = i := by rw [List.length_take]; omega
    unfold spSt
    rw [e, spl_snoc c s[i] _ _ _ h3, eg]
    split
    · refine ⟨Nat.le_refl _, by simp; omega, ?_⟩
      have : (s.take i ++ [s[i]]).drop (i + 1) = [] := List.drop_eq_nil_of_le (by simp; omega)
      rw [this]
      simp
    · refine ⟨by omega, by omega, ?_⟩
      rw [List.drop_append_of_le_length (by omega)]

theorem c_l01Split (s : List UInt8) (c : UInt8) (hs : s.length < 4294967281) : HFn Tryz.prog 40 [.str s, .int .u8 c.toNat] [] (.sf 0 1) [some (.arr 1 (strRows (spl c s)))] := by
  refine hfn_intro hm Tryz.func40 (by kernel_rfl) rfl (by kernel_rfl) rfl (retN_ok (ρ := [0]) (φ := [])) ?_
  simp
  refine loop_upto hm s.length (fun i => ⟨[(0, .str s), (1, .int .u8 c.toNat), (5, .sf 0 1), (6, .int .i64 (spSt c s i).2), (7, .int .i64 i)], [some (.arr 1 (strRows (spSt c s i).1))]⟩) (fun _ => True) (by kernel_rfl) ?_ trivial (fun i hi _ => ?_) (fun _ => ?_)
  · refine (weak_nil (t := 5) (z := 1) rfl).trans (Wk.weak (ρ := [0]) (φ := []) ?_)
    simp [spSt, strRows]
  · obtain ⟨h1, h2, _⟩ := spSt_spl c s i (by omega)
    have w1 : IntKind.i64.wrap ((i : Int) + 1) = (i : Int) + 1 := w64 (by omega) (by omega)
    have hst : spSt c s (i + 1) = if s.getD i 0 = c then ((spSt c s i).1 ++ [(s.take i).drop (spSt c s i).2], i + 1) else spSt c s i := rfl
    have eg : s.getD i 0 = s[i] := by simp [hi]
    rw [eg] at hst
    rw [hst]
    generalize spSt c s i = st at h1 h2 ⊢
    obtain ⟨out, fr⟩ := st
    simp only at h1 h2 ⊢
    have hb : ((s[i].toNat : Int) = c.toNat) ↔ s[i] = c := ⟨fun h => UInt8.toNat_inj.1 (by omega), fun h => by rw [h]⟩
    simp [hi, hb]
    refine ⟨fun h => ?_, fun h => ?_⟩
    · refine ⟨⟨h1, by omega⟩, by simp [rowsOne], by rw [strRows_len]; omega, by rw [strRows_len]; omega, Wk.weak (ρ := [0]) (φ := []) ?_⟩
      simp [h, w1, strRows, List.drop_take]
    · refine Wk.weak (ρ := [0]) (φ := []) ?_
      simp [h, w1]
  · obtain ⟨h1, h2, h3⟩ := spSt_spl c s s.length (Nat.le_refl _)
    rw [List.take_length] at h3
    rw [h3]
    simp
    refine ⟨by omega, by simp [rowsOne], by rw [strRows_len]; omega, by rw [strRows_len]; omega, ?_⟩
    simp [strRows]
    exact List.take_of_length_le (by simp)

/-! ### Lists of numbers -/
def nv (p : List UInt8) : Int := (num p).getD 0
def numB (p : List UInt8) : Bool := match num p with
  | some v => valB v
  | none => false
theorem numB_iff {p : List UInt8} : numB p = true ↔ ∃ v, num p = some v ∧ valB v = true := by
  unfold numB
  cases num p <;> simp
def listOkS (s : List UInt8) : Bool := decide ((spl 44 s).length ≤ 64) && (spl 44 s).all numB
/-- The list with a text. -/
def listR (s : List UInt8) : Option (List Int) := if s = [45] then some [] else if listOkS s = true then some ((spl 44 s).map nv) else none
theorem itoa_free {v : Int} {c : UInt8} (h1 : ¬ c = 45) (h2 : isDig c = false) : c ∉ Lib.itoa v := fun h => by
  obtain ⟨d1, _, _⟩ := dgs_spec v.natAbs
  rcases Int.lt_trichotomy v 0 with g | g | g
  · rw [itoa_of_neg g] at h
    rcases List.mem_cons.1 h with e | h
    · exact h1 e
    · rw [List.all_eq_true.1 d1 c h] at h2; cases h2
  · subst g
    rw [itoa_zero] at h
    rw [List.mem_singleton.1 h] at h2
    cases h2
  · rw [itoa_of_pos g] at h
    rw [List.all_eq_true.1 d1 c h] at h2; cases h2
theorem numB_itoa {v : Int} (h : valB v = true) : num (Lib.itoa v) = some v := num_itoa.2 ⟨rfl, by simp [valB] at h; omega⟩
theorem listTx_of {s : List UInt8} (h : listOkS s = true) : listOk ((spl 44 s).map nv) = true ∧ listTx ((spl 44 s).map nv) = s := by
  simp only [listOkS, Bool.and_eq_true, decide_eq_true_eq, List.all_eq_true] at h
  obtain ⟨h1, h2⟩ := h
  have hv : ∀ p ∈ spl 44 s, valB (nv p) = true ∧ Lib.itoa (nv p) = p := fun p hp => by
    obtain ⟨v, e1, e2⟩ := numB_iff.1 (h2 p hp)
    unfold nv
    rw [e1]
    exact ⟨e2, (num_itoa.1 e1).1⟩
  have hok : listOk ((spl 44 s).map nv) = true := by
    simp only [listOk, Bool.and_eq_true, decide_eq_true_eq, List.length_map, List.all_eq_true]
    refine ⟨h1, fun x hx => ?_⟩
    obtain ⟨p, hp, rfl⟩ := List.mem_map.1 hx
    exact (hv p hp).1
  refine ⟨hok, ?_⟩
  unfold listTx listT
  rw [if_pos hok, if_neg (by simp [spl_ne]), List.map_map]
  have : (spl 44 s).map (Lib.itoa ∘ nv) = spl 44 s := by
    conv => rhs; rw [← List.map_id (spl 44 s)]
    exact List.map_congr_left fun p hp => (hv p hp).2
  rw [this, join_spl]
theorem listTx_iff (s : List UInt8) : listTx ((spl 44 s).map nv) = s ↔ listOkS s = true := by
  constructor
  · intro h
    have hok : listOk ((spl 44 s).map nv) = true := by
      cases hc : listOk ((spl 44 s).map nv) with
      | true => rfl
      | false =>
        exfalso
        have h0 : s = [] := by
          unfold listTx at h
          rw [hc] at h
          exact h.symm
        subst h0
        have : listOk ((spl 44 []).map nv) = true := by decide
        rw [this] at hc
        cases hc
    unfold listTx listT at h
    rw [if_pos hok, if_neg (by simp [spl_ne])] at h
    have hp := spl_join (c := 44) (xs := ((spl 44 s).map nv).map Lib.itoa) (by simp [spl_ne]) fun x hx => by
      obtain ⟨v, _, rfl⟩ := List.mem_map.1 hx
      exact itoa_free (by decide) (by decide)
    rw [h] at hp
    simp only [listOk, Bool.and_eq_true, decide_eq_true_eq, List.length_map, List.all_eq_true] at hok
    simp only [listOkS, Bool.and_eq_true, decide_eq_true_eq, List.all_eq_true]
    refine ⟨hok.1, fun p hp' => ?_⟩
    rw [hp, List.map_map] at hp'
    obtain ⟨q, hq, rfl⟩ := List.mem_map.1 hp'
    exact numB_iff.2 ⟨_, numB_itoa (hok.2 _ (List.mem_map.2 ⟨q, hq, rfl⟩)), hok.2 _ (List.mem_map.2 ⟨q, hq, rfl⟩)⟩
  · exact fun h => (listTx_of h).2
theorem listR_text {s : List UInt8} {l : List Int} (h : listR s = some l) : listOk l = true ∧ listT l = s := by
  unfold listR at h
  split at h
  · obtain rfl := Option.some.inj h
    rename_i e
    subst e
    exact ⟨rfl, rfl⟩
  · split at h
    · rename_i hk
      obtain rfl := Option.some.inj h
      obtain ⟨g1, g2⟩ := listTx_of hk
      refine ⟨g1, ?_⟩
      unfold listTx at g2
      rwa [if_pos g1] at g2
    · cases h
theorem listR_of {l : List Int} (h : listOk l = true) : listR (listT l) = some l := by
  unfold listT
  split
  · rename_i e
    subst e
    rfl
  · rename_i hne
    have hp := spl_join (c := 44) (xs := l.map Lib.itoa) (by simpa using hne) fun x hx => by
      obtain ⟨v, _, rfl⟩ := List.mem_map.1 hx
      exact itoa_free (by decide) (by decide)
    simp only [listOk, Bool.and_eq_true, decide_eq_true_eq, List.all_eq_true] at h
    have hn : ∀ v ∈ l, num (Lib.itoa v) = some v := fun v hv => numB_itoa (h.2 v hv)
    have hm : (l.map Lib.itoa).map nv = l := by
      rw [List.map_map]
      conv => rhs; rw [← List.map_id l]
      exact List.map_congr_left fun v hv => by simp [nv, hn v hv]
    unfold listR
    have h45 : Lib.join (l.map Lib.itoa) [44] ≠ [45] := fun e => by
      rw [e] at hp
      cases l with
      | nil => exact hne rfl
      | cons v t =>
        have e2 : spl 44 [45] = [[45]] := rfl
        rw [e2] at hp
        simp only [List.map_cons, List.cons.injEq] at hp
        have := hn v (by simp)
        rw [← hp.1] at this
        cases this
    rw [if_neg h45, if_pos, hp, hm]
    simp only [listOkS, hp, Bool.and_eq_true, decide_eq_true_eq, List.length_map, List.all_eq_true]
    refine ⟨h.1, fun x hx => ?_⟩
    obtain ⟨v, hv, rfl⟩ := List.mem_map.1 hx
    exact numB_iff.2 ⟨v, hn v hv, h.2 v hv⟩

@[simp] def listRP (s : List UInt8) : PV := .tup [.sf 0 1, .bool (listR s).isSome]
theorem nv_I64 (p : List UInt8) : I64 (nv p) := by
  unfold nv
  cases h : num p with
  | none => unfold I64; simp
  | some v => exact num_I64 h
set_option maxHeartbeats 1000000 in
theorem c_impl_ReadList (s : List UInt8) (hs : s.length < 4294967281) : HFn Tryz.prog 46 [.str s] [] (listRP s) [some (.arr 1 (intRows ((listR s).getD [])))] := by
  refine hfn_intro hm Tryz.func46 (by kernel_rfl) rfl (by kernel_rfl) rfl (fun _ _ h => h) ?_
  simp
  refine ⟨fun h => ?_, fun h => ?_⟩
  · refine (weak_nilT (t := 0) 0 1 rfl rfl).trans (Wk.weak (ρ := [0]) (φ := []) ?_)
    simp [listR, h, intRows]
  have hl := spl_len 44 s
  refine CallZ.use (c_Split s 44 hs) rfl (.inr ⟨flat_strRows _, trivial⟩) rfl rfl ?_
  simp
  refine loop_upto hm (spl 44 s).length (fun i => ⟨[(0, .str s), (4, .sf 1 1), (12, .sf 0 1), (13, .int .i64 (spl 44 s).length), (14, .int .i64 i)], [some (.arr 1 (strRows (spl 44 s))), some (.arr 1 (intRows (((spl 44 s).map nv).take i)))]⟩) (fun _ => True) (by kernel_rfl) ?_ trivial (fun i hi _ => ?_) (fun _ => ?_)
  · refine (weak_nil (t := 4) (z := 1) rfl).trans (Wk.weak (ρ := [0, 1]) (φ := []) ?_)
    simp [intRows, strRows_len]
  · have w1 : IntKind.i64.wrap ((i : Int) + 1) = (i : Int) + 1 := w64 (by omega) (by omega)
    have hp := spl_piece 44 s (spl 44 s)[i] (List.getElem_mem hi)
    have hg : (strRows (spl 44 s))[i]'(by rw [strRows_len]; exact hi) = [.str (spl 44 s)[i]] := by simp [strRows]
    have hs1 : ((spl 44 s).map nv).take (i + 1) = ((spl 44 s).map nv).take i ++ [nv (spl 44 s)[i]] := by rw [← List.take_append_getElem (by simpa using hi), List.getElem_map]
    simp [hi, strRows_len, hg]
    refine CallZ.use0 (c_ReadDecimal (spl 44 s)[i] (by omega)) rfl rfl ?_
    simp
    have hil : (intRows (((spl 44 s).map nv).take i)).length = i := by rw [intRows_len, List.length_take, List.length_map]; omega
    refine ⟨by simp [rowsOne], by omega, by omega, Wk.weak (ρ := [0, 1]) (φ := []) ?_⟩
    rw [hs1]
    simp [w1, intRows, nv]
  · have hall : ((spl 44 s).map nv).take (spl 44 s).length = (spl 44 s).map nv := List.take_of_length_le (by simp)
    rw [hall]
    simp
    refine CallZ.use0 (c_ListText ((spl 44 s).map nv) (by rw [List.length_map]; omega)) rfl rfl ?_
    simp
    have hiff := listTx_iff s
    refine ⟨fun g => ?_, fun g => ?_⟩
    · have hn : listR s = none := by
        unfold listR
        rw [if_neg h, if_neg fun e => g (hiff.2 e)]
      refine (weak_nilT (t := 0) 0 1 rfl rfl).trans (Wk.weak (ρ := [2]) (φ := []) ?_)
      simp [hn, intRows]
    · have hn : listR s = some ((spl 44 s).map nv) := by
        unfold listR
        rw [if_neg h, if_pos (hiff.1 g)]
      refine Wk.weak (ρ := [1]) (φ := []) ?_
      simp [hn]

set_option maxHeartbeats 1000000 in
theorem c_spec_ReadList (s : List UInt8) (hs : s.length < 4294967281) : HFn Tryz.prog 42 [.str s] [] (listRP s) [some (.arr 1 (intRows ((listR s).getD [])))] := by
  refine hfn_intro hm Tryz.func42 (by kernel_rfl) rfl (by kernel_rfl) rfl (fun _ _ h => h) ?_
  simp
  refine ⟨fun h => ?_, fun h => ?_⟩
  · refine (weak_nilT (t := 0) 0 1 rfl rfl).trans (Wk.weak (ρ := [0]) (φ := []) ?_)
    simp [listR, h, intRows]
  have hl := spl_len 44 s
  refine CallZ.use (c_l01Split s 44 hs) rfl (.inr ⟨flat_strRows _, trivial⟩) rfl rfl ?_
  simp [strRows_len]
  have hno : ¬ listOkS s = true → listR s = none := fun g => by unfold listR; rw [if_neg h, if_neg g]
  refine ⟨fun g => ?_, fun g => ?_⟩
  · have hn := hno fun e => by simp [listOkS] at e; omega
    refine (weak_nilT (t := 0) 0 1 rfl rfl).trans (Wk.weak (ρ := [1]) (φ := []) ?_)
    simp [hn, intRows]
  refine loop_upto hm (spl 44 s).length (fun i => ⟨[(0, .str s), (5, .sf 1 1), (4, .sf 0 1), (6, .int .i64 i)], [some (.arr 1 (strRows (spl 44 s))), some (.arr 1 (intRows (((spl 44 s).map nv).take i)))]⟩) (fun i => ((spl 44 s).take i).all numB = true) (by kernel_rfl) ?_ rfl (fun i hi hI => ?_) (fun hI => ?_)
  · refine (weak_nil (t := 5) (z := 1) rfl).trans (Wk.weak (ρ := [0, 1]) (φ := []) ?_)
    simp [intRows]
  · have w1 : IntKind.i64.wrap ((i : Int) + 1) = (i : Int) + 1 := w64 (by omega) (by omega)
    have hp := spl_piece 44 s (spl 44 s)[i] (List.getElem_mem hi)
    have hg : (strRows (spl 44 s))[i]'(by rw [strRows_len]; exact hi) = [.str (spl 44 s)[i]] := by simp [strRows]
    have hs1 : ((spl 44 s).map nv).take (i + 1) = ((spl 44 s).map nv).take i ++ [nv (spl 44 s)[i]] := by rw [← List.take_append_getElem (by simpa using hi), List.getElem_map]
    have hs2 : (spl 44 s).take (i + 1) = (spl 44 s).take i ++ [(spl 44 s)[i]] := (List.take_append_getElem hi).symm
    have hil : (intRows (((spl 44 s).map nv).take i)).length = i := by rw [intRows_len, List.length_take, List.length_map]; omega
    have hmem : (spl 44 s)[i] ∈ spl 44 s := List.getElem_mem hi
    simp [hi, strRows_len, hg]
    refine CallZ.use0 (c_l01Number (spl 44 s)[i] (by omega)) rfl rfl ?_
    generalize (spl 44 s)[i] = q at hs1 hs2 hmem ⊢
    simp
    refine CallY.use (fun _ => ⟨rfl, c_l00In ((num q).getD 0) (-1000000000000) 1000000000000⟩) rfl rfl ?_
    simp
    have hb : numB q = true ↔ (num q).isSome = true ∧ -1000000000000 ≤ (num q).getD 0 ∧ (num q).getD 0 ≤ 1000000000000 := by
      unfold numB valB
      cases num q <;> simp
    refine ⟨fun g => ?_, fun g1 g2 g3 => ?_⟩
    · have hq : ¬ numB q = true := fun e => by
        obtain ⟨e1, e2, e3⟩ := hb.1 e
        rcases g with g | g | g
        · rw [g] at e1; cases e1
        · omega
        · omega
      have hn := hno fun e => by
        simp only [listOkS, Bool.and_eq_true, List.all_eq_true] at e
        exact hq (e.2 q hmem)
      refine (weak_nilT (t := 0) 0 1 rfl rfl).trans (Wk.weak (ρ := [2]) (φ := []) ?_)
      simp [hn, intRows]
    · have hq := hb.2 ⟨g1, g2, g3⟩
      refine ⟨by simp [rowsOne], by omega, by omega, fun x hx => ?_, Wk.weak (ρ := [0, 1]) (φ := []) ?_⟩
      · rw [hs2] at hx
        rcases List.mem_append.1 hx with hx | hx
        · exact List.all_eq_true.1 hI x hx
        · rw [List.mem_singleton.1 hx]; exact hq
      · rw [hs1]
        simp [w1, intRows, nv]
  · have hall : ((spl 44 s).map nv).take (spl 44 s).length = (spl 44 s).map nv := List.take_of_length_le (by simp)
    rw [hall]
    rw [List.take_length] at hI
    have hn : listR s = some ((spl 44 s).map nv) := by
      unfold listR
      rw [if_neg h, if_pos]
      simp only [listOkS, hI, Bool.and_true, decide_eq_true_eq]
      omega
    simp [strRows_len]
    refine Wk.weak (ρ := [1]) (φ := []) ?_
    simp [hn]

/-! ### Names of notes -/
/-- The note with a name: the first of them all. -/
def noteR (s : List UInt8) : Option Nat := (List.range 128).find? fun n => decide (noteT n = s)
@[simp] def noteP (s : List UInt8) : PV := .tup [.int .i64 (((noteR s).getD 0 : Nat) : Int), .bool (noteR s).isSome]
theorem find_range {p : Nat → Bool} : ∀ {n k : Nat}, k < n → (∀ j, j < k → p j = false) → p k = true → (List.range n).find? p = some k := fun {n k} hk h1 h2 => by
  rw [List.find?_eq_some_iff_getElem]
  exact ⟨h2, k, by simpa using hk, by simp, fun j hj => by simp [h1 j hj]⟩
theorem find_range_none {p : Nat → Bool} {n : Nat} (h : ∀ j, j < n → p j = false) : (List.range n).find? p = none := by
  rw [List.find?_eq_none]
  intro x hx
  simp [h x (List.mem_range.1 hx)]
theorem c_impl_NoteNamed (s : List UInt8) : HFn Tryz.prog 67 [.str s] [] (noteP s) [] := by
  refine hfn_intro hm Tryz.func67 (by kernel_rfl) rfl (by kernel_rfl) rfl ret0_ok ?_
  simp
  refine loop_upto hm 128 (fun i => ⟨[(0, .str s), (5, .int .i64 i)], []⟩) (fun i => ∀ j, j < i → ¬ noteT j = s) (by kernel_rfl) ?_ (by omega) (fun i hi hI => ?_) (fun hI => ?_)
  · refine Wk.weak (ρ := []) (φ := []) ?_
    simp
  · have w1 : IntKind.i64.wrap ((i : Int) + 1) = (i : Int) + 1 := w64 (by omega) (by omega)
    simp [show (i : Int) < 128 by omega]
    refine CallZ.use0 (c_NoteName i (by omega) (by omega)) rfl rfl ?_
    simp
    refine ⟨fun g => ?_, fun g => ⟨fun j hj => ?_, ?_⟩⟩
    · have hn : noteR s = some i := find_range hi (fun j hj => by simpa using hI j hj) (by simpa using g)
      simp [hn]
    · by_cases e : j < i
      · exact hI j e
      · obtain rfl : j = i := by omega
        exact g
    · refine Wk.weak (ρ := []) (φ := []) ?_
      simp [w1]
  · have hn : noteR s = none := find_range_none fun j hj => by simpa using hI j hj
    simp [hn]
theorem noteR_text {s : List UInt8} {n : Nat} (h : noteR s = some n) : n < 128 ∧ noteT n = s := by
  unfold noteR at h
  exact ⟨List.mem_range.1 (List.mem_of_find?_eq_some h), by simpa using List.find?_some h⟩
end Go.Proofs.YtjmoilnklaeacaaGreatDoor
