/- The quiet operations yield what the plain run says: indexes, cuts, arithmetic, and all of them together. No condition. -/
import Derived.Test.YtnidojjahhhaaaaAbd
namespace Go.Ab
variable {P : Program} {A : Nat → Prop} {m : OMap} {h : OFun} {w : World} {H : Heap} {fr : Fr} {a : Act}

theorem idxV_rep (hs : Sub h H) {t e : TypeId} (he : elemT P t = some e) (hz : 0 < sizeT P e) {p : PV} {v : Value} {k : IntKind} {i : Int} (hr : RepO A m h w p v) (hi : idxOk H (sizeT P e) p i) :
    ∃ u, (Instr.indexAt t v (.int k i)).run P w = .ok u w ∧ RepO A m h w (idxV (sizeT P e) p i) u := by
  have hu := elemT_spec he
  have hrun : ∀ (b o n c : Nat), 0 ≤ i → i < n → (Instr.indexAt t (.slice (some ⟨b, o, none⟩) n c) (.int k i)).run P w = .ok (.pointer (some ⟨b, o + i.toNat * sizeT P e, none⟩)) w := fun b o n c h1 h2 => by
    simp [Instr.indexAt, asIntOf, run_underlying hu, h1, h2, sizeT_spec hz, addr_add]
  cases p <;> simp only [idxOk] at hi
  case sl z rows =>
    obtain ⟨rfl, h1, h2⟩ := hi
    cases hr with
    | imm hi =>
      cases hi with
      | slE => simp at h2; omega
      | sl _ _ b o cap u hA hc hzz hu' hh =>
        refine ⟨_, hrun b o _ cap h1 h2, ?_⟩
        have : RepI A w (.pe (sizeT P e) rows i.toNat 0) (.pointer (some ⟨b, o + (i.toNat * sizeT P e + 0), none⟩)) := .pe _ rows i.toNat 0 b o u hA hzz hu' hh
        exact .imm this
  case sf q z =>
    obtain ⟨rfl, _, h1, h2⟩ := hi
    cases hr with
    | imm hi => cases hi
    | sfN _ _ C ao hk hm => rw [rowsO_of (hs _ _ hk)] at h2; simp at h2; omega
    | sf _ _ C b rows hk hm =>
      rw [rowsO_of (hs _ _ hk)] at h2
      refine ⟨_, hrun b 0 _ C h1 h2, ?_⟩
      rw [Nat.zero_add]
      exact .pa q _ i.toNat 0 C b rows hk hm
  case so q z lo len =>
    obtain ⟨rfl, _, h1, h2, h3⟩ := hi
    cases hr with
    | imm hi => cases hi
    | so0 => omega
    | soE => omega
    | so _ _ _ _ C cap b rows hk hm hl hcap =>
      refine ⟨_, hrun b _ len cap h1 h2, ?_⟩
      rw [← Nat.add_mul]
      exact .pa q _ (lo + i.toNat) 0 C b rows hk hm

theorem ConcO.room (hC : ConcO A m h w) {k z b C : Nat} {rows : List (List PV)} (hk : h k = some (.arr z rows)) (hm : m k = some (some b, C)) : rows.length ≤ C ∧ C ≤ maxLen := by
  obtain ⟨ob, C', hm', ho⟩ := hC.at_ k _ hk
  rw [hm] at hm'
  cases hm'
  exact ⟨ho.2.2.1, ho.2.2.2.1⟩

theorem lenV_rep (hs : Sub h H) (hC : ConcO A m h w) {p : PV} {v : Value} (hr : RepO A m h w p v) (hl : lenOk H p) :
    (∃ s : ByteArray, v = .string s ∧ p = .str s.data.toList ∧ lenV H p = s.size) ∨ (∃ ao cap, v = .slice ao (lenV H p) cap ∧ roomV H p ≤ cap ∧ ∀ s, p ≠ .str s) := by
  cases p <;> simp only [lenOk] at hl
  case str s => obtain ⟨b, rfl, rfl⟩ := hr.str; exact .inl ⟨b, rfl, rfl, by simp [lenV]⟩
  case nils => obtain ⟨ao, rfl⟩ := hr.nilsI; exact .inr ⟨ao, 0, rfl, Nat.le_refl _, by simp⟩
  case sl z rows => cases hr with
    | imm hi => cases hi with
      | slE => exact .inr ⟨_, _, rfl, Nat.zero_le _, by simp⟩
      | sl _ _ b o cap u hA hc => exact .inr ⟨_, cap, rfl, hc, by simp⟩
  case sf k z => cases hr with
    | imm hi => cases hi
    | sfN _ _ C ao hk hm => exact .inr ⟨ao, 0, by simp only [lenV]; rw [rowsO_of (hs _ _ hk)]; rfl, by simp only [roomV, lenV]; rw [rowsO_of (hs _ _ hk)]; exact Nat.le_refl _, by simp⟩
    | sf _ _ C b rows hk hm => exact .inr ⟨_, C, by simp only [lenV]; rw [rowsO_of (hs _ _ hk)], by simp only [roomV, lenV]; rw [rowsO_of (hs _ _ hk)]; exact (hC.room hk hm).1, by simp⟩
  case so k z lo len => cases hr with
    | imm hi => cases hi
    | so0 _ _ C cap ao hk hm hc => exact .inr ⟨_, cap, rfl, by simp only [roomV]; rw [rowsO_of (hs _ _ hk)]; exact Nat.zero_le _, by simp⟩
    | soE _ _ _ C cap ao rows b hk hm hlo => exact .inr ⟨_, _, rfl, by simp only [roomV]; rw [show (lo == 0) = false by simp; omega]; exact Nat.zero_le _, by simp⟩
    | so _ _ _ _ C cap b rows hk hm hl hcap =>
      refine .inr ⟨_, cap, rfl, ?_, by simp⟩
      have := (hC.room hk hm).1
      simp only [roomV]
      cases h0 : lo == 0 with
      | true =>
        have : lo = 0 := by simpa using h0
        rw [rowsO_of (hs _ _ hk)]
        simp only [cond_true]
        omega
      | false => simp only [cond_false]; omega

/-- A bound of a cut, as the model reads it. -/
theorem bound_run {x : Option Operand} (hO : Opnd A m h w fr a) (hb : boundOk fr x) (d : Nat) : (x = none ∧ bound fr d x = d) ∨ ∃ y k i, x = some y ∧ a.eval y = .int k i ∧ 0 ≤ i ∧ i.toNat = bound fr d x := by
  cases x with
  | none => exact .inl ⟨rfl, rfl⟩
  | some y =>
    obtain ⟨h1, h2, h3⟩ := hb
    have hr := hO.ev h1
    refine .inr ⟨y, ?_⟩
    cases he : ev fr y <;> simp only [he, isInt] at h2
    rename_i k i
    rw [he] at hr h3
    exact ⟨k, i, rfl, hr.int, h3, by simp [bound, he, intV]⟩

theorem sliceBounds_run {l hi : Option Operand} (hO : Opnd A m h w fr a) (hl : boundOk fr l) (hh : boundOk fr hi) (sl : Bool) (n c : Nat) (h1 : bound fr 0 l ≤ bound fr n hi) (h2 : bound fr n hi ≤ c) :
    (Instr.sliceBounds sl n c (l.map a.eval) (hi.map a.eval) none).run P w = .ok (bound fr 0 l, bound fr n hi, c) w := by
  have hB : ∀ (y : Nat) (k : IntKind) (i : Int) (code : BoundsCode), 0 ≤ i → i.toNat ≤ y → (Instr.sliceBound (.int k i) y code).run P w = .ok i.toNat w := fun y k i code g1 g2 => by
    simp [Instr.sliceBound, asIntOf, g1, show i ≤ y by omega]
  rcases bound_run hO hl 0 with ⟨rfl, e1⟩ | ⟨y, k, i, rfl, he, hi0, e1⟩ <;> rcases bound_run hO hh n with ⟨rfl, e2⟩ | ⟨y', k', i', rfl, he', hi0', e2⟩
  · rw [e1, e2]
    simp [Instr.sliceBounds]
  · rw [e1, ← e2]
    simp [Instr.sliceBounds, he', hB c k' i' _ hi0' (by omega)]
  · rw [e2, ← e1]
    simp [Instr.sliceBounds, he, hB n k i _ hi0 (by omega)]
  · rw [← e1, ← e2]
    simp [Instr.sliceBounds, he, he', hB c k' i' _ hi0' (by omega), hB i'.toNat k i _ hi0 (by omega)]

theorem sliceBounds3_run {l : Option Operand} {x y : Operand} (hO : Opnd A m h w fr a) (hl : boundOk fr l) (hh : boundOk fr (some x)) (hm : boundOk fr (some y)) (n c : Nat) (h1 : bound fr 0 l ≤ bound fr n (some x)) (h2 : bound fr n (some x) ≤ bound fr c (some y)) (h3 : bound fr c (some y) ≤ c) :
    (Instr.sliceBounds true n c (l.map a.eval) (some (a.eval x)) (some (a.eval y))).run P w = .ok (bound fr 0 l, bound fr n (some x), bound fr c (some y)) w := by
  have hB : ∀ (y : Nat) (k : IntKind) (i : Int) (code : BoundsCode), 0 ≤ i → i.toNat ≤ y → (Instr.sliceBound (.int k i) y code).run P w = .ok i.toNat w := fun y k i code g1 g2 => by
    simp [Instr.sliceBound, asIntOf, g1, show i ≤ y by omega]
  rcases bound_run hO hh n with ⟨e, _⟩ | ⟨x', k, i, e, he, hi0, e1⟩
  · cases e
  cases e
  rcases bound_run hO hm c with ⟨e, _⟩ | ⟨y', k', i', e, he', hi0', e2⟩
  · cases e
  cases e
  rw [← e1, ← e2] at h2
  rw [← e2] at h3
  rw [← e1] at h1
  rcases bound_run hO hl 0 with ⟨rfl, e3⟩ | ⟨z, k2, i2, rfl, hz, hz0, e3⟩
  · rw [e3, ← e1, ← e2]
    simp [Instr.sliceBounds, he, he', hB c k' i' _ hi0' h3, hB i'.toNat k i _ hi0 h2]
  · rw [← e3] at h1 ⊢
    rw [← e1, ← e2]
    simp [Instr.sliceBounds, he, he', hz, hB c k' i' _ hi0' h3, hB i'.toNat k i _ hi0 h2, hB i.toNat k2 i2 _ hz0 h1]

theorem cutV_rep (hs : Sub h H) (hC : ConcO A m h w) (hO : Opnd A m h w fr a) {t : TypeId} {x : Operand} {l hi mx : Option Operand} (hv : vok P fr H (.slice t x l hi mx)) :
    ∃ u, (Instr.sliceAt t (a.eval x) (l.map a.eval) (hi.map a.eval) (mx.map a.eval)).run P w = .ok u w ∧ RepO A m h w (bif mx.isSome then .top else cutV (bound fr 0 l) (bound fr (lenV H (ev fr x)) hi) (ev fr x)) u := by
  obtain ⟨hx, hl, hh, hmx, hsome, hlen, b1, b2, b3, hty⟩ := hv
  have hr := hO.ev hx
  generalize hev : ev fr x = p at *
  generalize hav : a.eval x = v at *
  have hL := lenV_rep hs hC hr hlen
  generalize hl0 : bound fr 0 l = lo at *
  rcases hL with ⟨s, rfl, rfl, hn⟩ | ⟨ao, cap, rfl, hcap, hns⟩
  · simp only at hty
    obtain ⟨hty, hmn⟩ := hty
    have hu := strT_spec hty
    obtain rfl : mx = none := by cases mx with | none => rfl | some y => cases hmn
    have hbn : bound fr (roomV H (.str s.data.toList)) none = lenV H (.str s.data.toList) := rfl
    simp only [hbn, Option.isSome_none, cond_false] at b2 b3 ⊢
    rw [hn] at b1 b2 ⊢
    have hrun := sliceBounds_run (P := P) hO hl hh false s.size s.size (by rw [hl0]; exact b1) b2
    generalize bound fr s.size hi = hb at *
    rw [hl0] at hrun
    refine ⟨.string (s.extract lo hb), ?_, ?_⟩
    · simp only [Instr.sliceAt, Instr.slice, Sem.run_bind, run_underlying hu, Result.andThen_ok, Option.map_none]
      simp [hrun]
    · refine .imm (.str _ _ ?_)
      simp [ByteArray.data_extract]
  · have hty' : ∃ e, elemT P t = some e ∧ 0 < sizeT P e ∧ (∀ z rows, p = .sl z rows → sizeT P e = z) ∧ (∀ k z, p = .sf k z → sizeT P e = z) ∧ (∀ k z lo len, p = .so k z lo len → sizeT P e = z) := by
      cases p <;> simp only at hty
      case str s => exact absurd rfl (hns s)
      case nils => obtain ⟨e, h1, h2⟩ := hty; exact ⟨e, h1, h2, by simp, by simp, by simp⟩
      case sl z rows => obtain ⟨e, h1, h2, h3⟩ := hty; exact ⟨e, h1, by omega, by simp; omega, by simp, by simp⟩
      case sf k z => obtain ⟨e, h1, h2, h3⟩ := hty; exact ⟨e, h1, by omega, by simp, by simp; omega, by simp⟩
      case so k z lo len => obtain ⟨e, h1, h2, h3⟩ := hty; exact ⟨e, h1, by omega, by simp, by simp, by simp; omega⟩
    obtain ⟨e, he, hz, z1, z2, z3⟩ := hty'
    have hu := elemT_spec he
    cases mx with
    | some y =>
      cases hi with
      | none => cases hsome rfl
      | some x' =>
        have hd : ∀ d, bound fr d (some y) = bound fr (roomV H p) (some y) := fun _ => rfl
        have hrun := sliceBounds3_run (P := P) hO hl hh hmx (lenV H p) cap (by rw [hl0]; exact b1) (by rw [hd]; exact b2) (by rw [hd]; omega)
        refine ⟨.slice (if bound fr cap (some y) = bound fr 0 l then ao else ao.map (·.add (bound fr 0 l * sizeT P e))) (bound fr (lenV H p) (some x') - bound fr 0 l) (bound fr cap (some y) - bound fr 0 l), ?_, .imm (.top _)⟩
        simp only [Option.map_some, Instr.sliceAt, Instr.slice, Sem.run_bind, run_underlying hu, Result.andThen_ok]
        simp [hrun, sizeT_spec hz]
    | none =>
    have hbn : bound fr (roomV H p) none = roomV H p := rfl
    simp only [hbn, Option.isSome_none, cond_false] at b2 b3 ⊢
    generalize hhi : bound fr (lenV H p) hi = hb at *
    have hrun := sliceBounds_run (P := P) hO hl hh true (lenV H p) cap (by rw [hl0, hhi]; exact b1) (by rw [hhi]; omega)
    rw [hl0, hhi] at hrun
    have hval : (Instr.sliceAt t (.slice ao (lenV H p) cap) (l.map a.eval) (hi.map a.eval) none).run P w = .ok (.slice (if cap = lo then ao else ao.map (·.add (lo * sizeT P e))) (hb - lo) (cap - lo)) w := by
      simp only [Instr.sliceAt, Instr.slice, Sem.run_bind, run_underlying hu, Result.andThen_ok]
      simp [hrun, sizeT_spec hz]
    refine ⟨_, hval, ?_⟩
    clear hval hrun hty hav hev
    cases p <;> simp only [lenOk] at hlen
    case str s => exact absurd rfl (hns s)
    case nils =>
      simp only [roomV, lenV] at b2
      obtain rfl : hb = 0 := by omega
      obtain rfl : lo = 0 := by omega
      cases hr with | imm hi => cases hi; simp only [cutV]; exact .imm (.nils _)
    case sl z rows =>
      obtain rfl := z1 z rows rfl
      simp only [roomV, lenV] at b2 hcap hr
      simp only [cutV]
      by_cases h0 : hb - lo = 0
      · rw [h0, List.take_zero]
        exact .imm (.slE _ _ _)
      · have hlen' : ((rows.drop lo).take (hb - lo)).length = hb - lo := by simp; omega
        generalize hn : rows.length = n at *
        cases hr with
        | imm hi =>
          cases hi with
          | slE => simp at hn; omega
          | sl _ _ b o _ u hA hc hzz hu' hh =>
            rw [if_neg (by omega)]
            simp only [Option.map_some, addr_add]
            have key : ∀ (i j : Nat) (r : List PV), ((rows.drop lo).take (hb - lo))[i]? = some r → rows[lo + i]? = some r := fun i j r hr => by
              rw [List.getElem?_take] at hr
              split at hr
              · rwa [List.getElem?_drop] at hr
              · cases hr
            have := RepI.sl (A := A) (w := w) (sizeT P e) ((rows.drop lo).take (hb - lo)) b (o + lo * sizeT P e) (cap - lo) (fun i j => u (lo + i) j) hA (by omega)
              (fun i r hr => hzz _ r (key i 0 r hr)) (fun i j r c hr hcj => by have := hu' _ j r c (key i j r hr) hcj; rwa [Nat.add_mul, Nat.add_assoc, ← Nat.add_assoc o] at this) (fun i j r c hr hcj => hh _ j r c (key i j r hr) hcj)
            rw [hlen'] at this
            exact .imm this
    case sf k z =>
      obtain rfl := z2 k z rfl
      simp only [cutV]
      have hr' : roomV H (.sf k (sizeT P e)) = lenV H (.sf k (sizeT P e)) := rfl
      rw [hr'] at b2 hcap
      clear hbn b3 hr'
      generalize hn : lenV H (.sf k (sizeT P e)) = n at *
      cases hr with
      | imm hi => cases hi
      | sfN _ _ C ao hk hm =>
        obtain rfl : hb = 0 := by omega
        obtain rfl : lo = 0 := by omega
        exact .so0 k _ C _ _ hk hm rfl
      | sf _ _ _ b rows hk hm =>
        by_cases hh : hb - lo = 0
        · rw [hh]
          by_cases hlo : lo = 0
          · subst hlo
            have := RepO.so (A := A) (w := w) k (sizeT P e) 0 0 cap (cap - 0) b rows hk hm (by omega) (by omega)
            simpa [addr_add] using this
          · exact .soE k _ lo cap _ _ rows b hk hm (by omega)
        · rw [if_neg (by omega)]
          have := RepO.so (A := A) (w := w) k (sizeT P e) lo (hb - lo) cap (cap - lo) b rows hk hm (by omega) (by omega)
          simpa [addr_add] using this
    case so k z lo0 len =>
      obtain rfl := z3 k z lo0 len rfl
      simp only [cutV]
      clear hbn b3 hcap
      simp only [roomV] at b2
      cases hr with
      | imm hi => cases hi
      | so0 _ _ C _ ao hk hm hc =>
        rw [rowsO_of (hs _ _ hk)] at b2
        simp at b2
        obtain rfl : hb = 0 := by omega
        obtain rfl : lo = 0 := by omega
        exact .so0 k _ C _ _ hk hm (by omega)
      | soE _ _ _ C _ _ rows b hk hm hlo =>
        rw [show (lo0 == 0) = false by simp; omega] at b2
        simp only [cond_false] at b2
        obtain rfl : hb = 0 := by omega
        obtain rfl : lo = 0 := by omega
        exact .soE k _ lo0 C _ _ rows b hk hm hlo
      | so _ _ _ _ C _ b rows hk hm hl hcap' =>
        have hbr : lo0 + hb ≤ rows.length := by
          cases h0 : lo0 == 0 with
          | true =>
            have e0 : lo0 = 0 := by simpa using h0
            rw [h0, rowsO_of (hs _ _ hk)] at b2
            simp only [cond_true] at b2
            omega
          | false =>
            rw [h0] at b2
            simp only [cond_false] at b2
            omega
        have hroomC := (hC.room hk hm).1
        clear b2
        by_cases hh : hb - lo = 0
        · rw [hh]
          by_cases hlo : lo0 + lo = 0
          · obtain ⟨rfl, rfl⟩ : lo0 = 0 ∧ lo = 0 := by omega
            have := RepO.so (A := A) (w := w) k (sizeT P e) 0 0 C C b rows hk hm (by omega) (by omega)
            obtain rfl : cap = C := by omega
            simpa [addr_add] using this
          · exact .soE k _ (lo0 + lo) C _ _ rows b hk hm (by omega)
        · rw [if_neg (by omega)]
          have := RepO.so (A := A) (w := w) k (sizeT P e) (lo0 + lo) (hb - lo) C (cap - lo) b rows hk hm (by omega) (by omega)
          simpa [addr_add, Nat.add_mul] using this

end Go.Ab
