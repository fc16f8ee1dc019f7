/- Laws of the two relations between values in memory and plain values: what they keep as the world goes on. No condition. -/
import Derived.Test.YtnidojjahhhaaaaAbb
namespace Go.Ab

theorem cell_of_heap {w w' : World} {a : Addr} (h : w'.heap[a.block]? = w.heap[a.block]?) : w'.cell? a = w.cell? a := by simp [World.cell?, h]

theorem RepI.mono {A A' : Nat → Prop} {w w' : World} (hA : ∀ b, A b → A' b) (hw : ∀ b, A b → w'.heap[b]? = w.heap[b]?) {p : PV} {v : Value} (h : RepI A w p v) : RepI A' w' p v := by
  induction h with
  | int k n => exact .int k n
  | bool b => exact .bool b
  | str s b h => exact .str s b h
  | agg cs us hl _ ih => exact .agg cs us hl ih
  | tup cs us hl _ ih => exact .tup cs us hl ih
  | nils ao => exact .nils ao
  | slE z ao cap => exact .slE z ao cap
  | sl z rows b o cap u hb hc hz hu _ ih => exact .sl z rows b o cap u (hA b hb) hc hz (fun i j r c h1 h2 => by rw [cell_of_heap (hw b hb)]; exact hu i j r c h1 h2) ih
  | pe z rows i' off b o u hb hz hu _ ih => exact .pe z rows i' off b o u (hA b hb) hz (fun i j r c h1 h2 => by rw [cell_of_heap (hw b hb)]; exact hu i j r c h1 h2) ih
  | fn f cs us hl _ ih => exact .fn f cs us hl ih
  | raw v => exact .raw v
  | top v => exact .top v
  | ef f v => exact .ef f v

theorem SameShape.refl (o : Obj) : SameShape o o := by cases o <;> simp [SameShape]

/-- What is known of own objects in (m, h) is known in (m', h'), but for k. -/
def Shaped (k0 : Option Nat) (m : OMap) (h : OFun) (m' : OMap) (h' : OFun) : Prop := ∀ k o, some k ≠ k0 → h k = some o → m' k = m k ∧ ∃ o', h' k = some o' ∧ SameShape o o'

theorem RepO.mono {A A' : Nat → Prop} {m m' : OMap} {h h' : OFun} {w w' : World} (hA : ∀ b, A b → A' b) (hw : ∀ b, A b → w'.heap[b]? = w.heap[b]?) (hs : Shaped none m h m' h')
    {p : PV} {v : Value} (hr : RepO A m h w p v) : RepO A' m' h' w' p v := by
  induction hr with
  | imm hi => exact .imm (hi.mono hA hw)
  | sfN k z C ao hk hm =>
    obtain ⟨e, o', ho, hsh⟩ := hs k _ (by simp) hk
    cases o' with
    | arr z' r => obtain ⟨rfl, hl⟩ := hsh; obtain rfl : r = [] := List.eq_nil_of_length_eq_zero hl.symm; exact .sfN k z C ao ho (e.trans hm)
    | box _ => exact hsh.elim
  | sf k z C b rows hk hm =>
    obtain ⟨e, o', ho, hsh⟩ := hs k _ (by simp) hk
    cases o' with
    | arr z' r => obtain ⟨rfl, hl⟩ := hsh; rw [hl]; exact .sf k z C b r ho (e.trans hm)
    | box _ => exact hsh.elim
  | so0 k z C cap ao hk hm hc =>
    obtain ⟨e, o', ho, hsh⟩ := hs k _ (by simp) hk
    cases o' with
    | arr z' r => obtain ⟨rfl, hl⟩ := hsh; obtain rfl : r = [] := List.eq_nil_of_length_eq_zero hl.symm; exact .so0 k z C cap ao ho (e.trans hm) hc
    | box _ => exact hsh.elim
  | soE k z lo C cap ao rows b hk hm hlo =>
    obtain ⟨e, o', ho, hsh⟩ := hs k _ (by simp) hk
    cases o' with
    | arr z' r => obtain ⟨rfl, hl⟩ := hsh; exact .soE k z lo C cap ao r b ho (e.trans hm) hlo
    | box _ => exact hsh.elim
  | so k z lo len C cap b rows hk hm hl hc =>
    obtain ⟨e, o', ho, hsh⟩ := hs k _ (by simp) hk
    cases o' with
    | arr z' r => obtain ⟨rfl, hl'⟩ := hsh; exact .so k z lo len C cap b r ho (e.trans hm) (by omega) hc
    | box _ => exact hsh.elim
  | pa k z i off C b rows hk hm =>
    obtain ⟨e, o', ho, hsh⟩ := hs k _ (by simp) hk
    cases o' with
    | arr z' r => obtain ⟨rfl, _⟩ := hsh; exact .pa k z i off C b r ho (e.trans hm)
    | box _ => exact hsh.elim
  | pb k off C b cs hk hm =>
    obtain ⟨e, o', ho, hsh⟩ := hs k _ (by simp) hk
    cases o' with
    | arr _ _ => exact hsh.elim
    | box cs' => exact .pb k off C b cs' ho (e.trans hm)
  | own k C ob o hk hm =>
    obtain ⟨e, o', ho, _⟩ := hs k _ (by simp) hk
    exact .own k C ob o' ho (e.trans hm)
  | cp k C ob o v hk hm =>
    obtain ⟨e, o', ho, _⟩ := hs k _ (by simp) hk
    exact .cp k C ob o' v ho (e.trans hm)
  | agg cs us hl _ ih => exact .agg cs us hl ih
  | tup cs us hl _ ih => exact .tup cs us hl ih
  | fn f cs us hl _ ih => exact .fn f cs us hl ih
  | optT p v _ ih => exact .optT p v ih
  | optF p => exact .optF p

theorem RepO.topI {A : Nat → Prop} {m : OMap} {h : OFun} {w : World} (v : Value) : RepO A m h w .top v := .imm (.top v)

/-- One cell: scrubbed of k, it stays what it was though k has turned. -/
theorem RepO.scrubA {A A' : Nat → Prop} {m m' : OMap} {h h' : OFun} {w w' : World} {k0 : Nat} (hA : ∀ b, A b → A' b) (hw : ∀ b, A b → w'.heap[b]? = w.heap[b]?) (hs : Shaped (some k0) m h m' h')
    {p : PV} {v : Value} (hr : RepO A m h w p v) : RepO A' m' h' w' (scrubA k0 p) v := by
  have own : ∀ k o, h k = some o → (k == k0) = false → m' k = m k ∧ ∃ o', h' k = some o' ∧ SameShape o o' := fun k o ho hk => hs k o (by simpa using hk) ho
  cases hr with
  | imm hi =>
    have := hi.mono hA hw
    cases p <;> first | exact .imm this | exact .topI _ | (cases hi)
  | sfN k z C ao hk hm =>
    simp only [Ab.scrubA]
    cases hkk : k == k0 with
    | true => exact .topI _
    | false =>
      obtain ⟨e, o', ho, hsh⟩ := own k _ hk hkk
      cases o' with
      | arr z' r => obtain ⟨rfl, hl⟩ := hsh; obtain rfl : r = [] := List.eq_nil_of_length_eq_zero hl.symm; exact .sfN k z C ao ho (e.trans hm)
      | box _ => exact hsh.elim
  | sf k z C b rows hk hm =>
    simp only [Ab.scrubA]
    cases hkk : k == k0 with
    | true => exact .topI _
    | false =>
      obtain ⟨e, o', ho, hsh⟩ := own k _ hk hkk
      cases o' with
      | arr z' r => obtain ⟨rfl, hl⟩ := hsh; simp only [cond_false]; rw [hl]; exact .sf k z C b r ho (e.trans hm)
      | box _ => exact hsh.elim
  | so0 k z C cap ao hk hm hc =>
    simp only [Ab.scrubA]
    cases hkk : k == k0 with
    | true => exact .topI _
    | false =>
      obtain ⟨e, o', ho, hsh⟩ := own k _ hk hkk
      cases o' with
      | arr z' r => obtain ⟨rfl, hl⟩ := hsh; obtain rfl : r = [] := List.eq_nil_of_length_eq_zero hl.symm; exact .so0 k z C cap ao ho (e.trans hm) hc
      | box _ => exact hsh.elim
  | soE k z lo C cap ao rows b hk hm hlo =>
    simp only [Ab.scrubA]
    cases hkk : k == k0 with
    | true => exact .topI _
    | false =>
      obtain ⟨e, o', ho, hsh⟩ := own k _ hk hkk
      cases o' with
      | arr z' r => obtain ⟨rfl, hl⟩ := hsh; exact .soE k z lo C cap ao r b ho (e.trans hm) hlo
      | box _ => exact hsh.elim
  | so k z lo len C cap b rows hk hm hl hc =>
    simp only [Ab.scrubA]
    cases hkk : k == k0 with
    | true => exact .topI _
    | false =>
      obtain ⟨e, o', ho, hsh⟩ := own k _ hk hkk
      cases o' with
      | arr z' r => obtain ⟨rfl, hl'⟩ := hsh; exact .so k z lo len C cap b r ho (e.trans hm) (by omega) hc
      | box _ => exact hsh.elim
  | pa k z i off C b rows hk hm =>
    simp only [Ab.scrubA]
    cases hkk : k == k0 with
    | true => exact .topI _
    | false =>
      obtain ⟨e, o', ho, hsh⟩ := own k _ hk hkk
      cases o' with
      | arr z' r => obtain ⟨rfl, _⟩ := hsh; exact .pa k z i off C b r ho (e.trans hm)
      | box _ => exact hsh.elim
  | pb k off C b cs hk hm =>
    simp only [Ab.scrubA]
    cases hkk : k == k0 with
    | true => exact .topI _
    | false =>
      obtain ⟨e, o', ho, hsh⟩ := own k _ hk hkk
      cases o' with
      | arr _ _ => exact hsh.elim
      | box cs' => exact .pb k off C b cs' ho (e.trans hm)
  | own k C ob o hk hm =>
    simp only [Ab.scrubA]
    cases hkk : k == k0 with
    | true => exact .topI _
    | false =>
      obtain ⟨e, o', ho, _⟩ := own k _ hk hkk
      exact .own k C ob o' ho (e.trans hm)
  | cp k C ob o v hk hm =>
    simp only [Ab.scrubA]
    cases hkk : k == k0 with
    | true => exact .topI _
    | false =>
      obtain ⟨e, o', ho, _⟩ := own k _ hk hkk
      exact .cp k C ob o' v ho (e.trans hm)
  | agg cs us hl hh => exact .topI _
  | tup cs us hl hh => exact .topI _
  | fn f cs us hl hh => exact .topI _
  | optT p v hh => exact .topI _
  | optF p => exact .topI _

theorem getElem?_map_scrub {k0 : Nat} {cs : List PV} {i : Nat} {c : PV} (h : (cs.map (scrubA k0))[i]? = some c) : ∃ c', cs[i]? = some c' ∧ c = scrubA k0 c' := by
  rw [List.getElem?_map] at h
  cases hc : cs[i]? with
  | none => rw [hc] at h; cases h
  | some c' => rw [hc] at h; cases h; exact ⟨c', rfl, rfl⟩

theorem RepO.scrubV {A A' : Nat → Prop} {m m' : OMap} {h h' : OFun} {w w' : World} {k0 : Nat} (hA : ∀ b, A b → A' b) (hw : ∀ b, A b → w'.heap[b]? = w.heap[b]?) (hs : Shaped (some k0) m h m' h')
    {p : PV} {v : Value} (hr : RepO A m h w p v) : RepO A' m' h' w' (scrubV k0 p) v := by
  have S : ∀ {p : PV} {v : Value}, RepO A m h w p v → RepO A' m' h' w' (Ab.scrubA k0 p) v := fun hr => hr.scrubA hA hw hs
  have L : ∀ {cs : List PV} {us : Array Value}, us.size = cs.length → us.size = (cs.map (Ab.scrubA k0)).length := fun h => by simpa using h
  cases p with
  | agg cs =>
    simp only [Ab.scrubV]
    cases hr with
    | imm hi => cases hi with
      | agg _ us hl hh => exact .agg _ us (L hl) fun i c hc => by obtain ⟨c', h1, rfl⟩ := getElem?_map_scrub hc; exact S (.imm (hh i c' h1))
    | agg _ us hl hh => exact .agg _ us (L hl) fun i c hc => by obtain ⟨c', h1, rfl⟩ := getElem?_map_scrub hc; exact S (hh i c' h1)
  | tup cs =>
    simp only [Ab.scrubV]
    cases hr with
    | imm hi => cases hi with
      | tup _ us hl hh => exact .tup _ us (L hl) fun i c hc => by obtain ⟨c', h1, rfl⟩ := getElem?_map_scrub hc; exact S (.imm (hh i c' h1))
    | tup _ us hl hh => exact .tup _ us (L hl) fun i c hc => by obtain ⟨c', h1, rfl⟩ := getElem?_map_scrub hc; exact S (hh i c' h1)
  | fn f cs =>
    simp only [Ab.scrubV]
    cases hr with
    | imm hi => cases hi with
      | fn _ _ us hl hh => exact .fn f _ us (L hl) fun i c hc => by obtain ⟨c', h1, rfl⟩ := getElem?_map_scrub hc; exact S (.imm (hh i c' h1))
    | fn _ _ us hl hh => exact .fn f _ us (L hl) fun i c hc => by obtain ⟨c', h1, rfl⟩ := getElem?_map_scrub hc; exact S (hh i c' h1)
  | opt c p =>
    simp only [Ab.scrubV]
    cases hr with
    | imm hi => cases hi
    | optT _ _ hh => exact .optT _ _ (S hh)
    | optF _ => exact .optF _
  | _ => exact S hr

end Go.Ab
