/- How the plain state goes on: new own objects, draws, results. No condition. -/
import Derived.Test.YtnidojjahhhaaaaAbg
namespace Go.Ab
variable {P : Program} {A A' : Nat → Prop} {m m' : OMap} {h h' : OFun} {w w' : World} {H : Heap} {fr : Fr} {a : Act}

theorem ObjAt.mono (hA : ∀ b, A b → A' b) (hw : ∀ b, A b → w'.heap[b]? = w.heap[b]?) (hs : Shaped none m h m' h') (hsz : w.heap.size ≤ w'.heap.size) {o : Obj} {ob : Option Nat} {C : Nat} (hO : ObjAt A m h w o ob C)
    (hb : ∀ b, ob = some b → ¬ A' b ∧ w'.heap[b]? = w.heap[b]?) : ObjAt A' m' h' w' o ob C := by
  cases o with
  | arr z rows =>
    cases ob with
    | none => exact hO
    | some b =>
      obtain ⟨_, h2, h3, h4, h5, cur, e, hc, hcs, hcell⟩ := hO
      obtain ⟨g1, g2⟩ := hb b rfl
      refine ⟨g1, by omega, h3, h4, h5, cur, e, by rw [g2]; exact hc, hcs, fun i j r c hr hcj => ?_⟩
      obtain ⟨u, hu, hru⟩ := hcell i j r c hr hcj
      exact ⟨u, hu, hru.mono hA hw⟩
  | box cs =>
    cases ob with
    | none => exact hO
    | some b =>
      obtain ⟨_, h2, cur, e, hc, hcs, hcell⟩ := hO
      obtain ⟨g1, g2⟩ := hb b rfl
      refine ⟨g1, by omega, cur, e, by rw [g2]; exact hc, hcs, fun j c hcj => ?_⟩
      obtain ⟨u, hu, hru⟩ := hcell j c hcj
      exact ⟨u, hu, hru.mono hA hw hs⟩

def updO (h : OFun) (k : Nat) (o : Obj) : OFun := fun j => if j = k then some o else h j
def updM (m : OMap) (k : Nat) (x : Option Nat × Nat) : OMap := fun j => if j = k then some x else m j

theorem shaped_upd {k : Nat} {o : Obj} {x : Option Nat × Nat} (hk : h k = none) : Shaped none m h (updM m k x) (updO h k o) := fun j o' _ hj => by
  have : j ≠ k := fun e => by rw [e, hk] at hj; cases hj
  exact ⟨by simp [updM, this], o', by simp [updO, this, hj], SameShape.refl o'⟩

theorem heap_alloc_lt {o : Go.Obj} {b : Nat} (hb : b < w.heap.size) : (w.alloc o).heap[b]? = w.heap[b]? := by
  show (w.heap.push o)[b]? = _
  rw [Array.getElem?_push, if_neg (by omega)]

theorem ConcO.lt (hC : ConcO A m h w) {b : Nat} (hb : OwnB m h b) : b < w.heap.size ∧ ¬ A b := by
  obtain ⟨k, o, C, hk, hm⟩ := hb
  obtain ⟨ob, C', hm', ho⟩ := hC.at_ k o hk
  rw [hm] at hm'
  cases hm'
  cases o with
  | arr z rows => exact ⟨ho.2.1, ho.1⟩
  | box cs => exact ⟨ho.2.1, ho.1⟩

/-- A new own object. -/
theorem ConcO.new (hC : ConcO A m h w) (hA : AOk A w) {k : Nat} (hk : h k = none) {o : Obj} {C : Nat} {cells : Go.Obj}
    (ho : ObjAt A (updM m k (some w.heap.size, C)) (updO h k o) (w.alloc cells) o (some w.heap.size) C) : ConcO A (updM m k (some w.heap.size, C)) (updO h k o) (w.alloc cells) := by
  refine ⟨fun j o' hj => ?_, fun j j' o' o'' b C1 C2 hj hj' hm hm' => ?_⟩
  · by_cases e : j = k
    · subst e
      simp only [updO, if_true, Option.some.injEq] at hj
      subst hj
      exact ⟨some w.heap.size, C, by simp [updM], ho⟩
    · simp only [updO, if_neg e] at hj
      obtain ⟨ob, C', hm', ho'⟩ := hC.at_ j o' hj
      refine ⟨ob, C', by simp [updM, e, hm'], ho'.mono (fun _ h => h) (fun b hb => heap_alloc_lt (hA b hb)) (shaped_upd hk) (by simp) fun b hb => ?_⟩
      have := hC.lt ⟨j, o', C', hj, by rw [hm', hb]⟩
      exact ⟨this.2, heap_alloc_lt this.1⟩
  · by_cases e : j = k <;> by_cases e' : j' = k
    · rw [e, e']
    · simp only [updM, e, if_true, Option.some.injEq, Prod.mk.injEq] at hm
      simp only [updM, if_neg e'] at hm'
      simp only [updO, if_neg e'] at hj'
      have := (hC.lt ⟨j', o'', C2, hj', hm'⟩).1
      omega
    · simp only [updM, e', if_true, Option.some.injEq, Prod.mk.injEq] at hm'
      simp only [updM, if_neg e] at hm
      simp only [updO, if_neg e] at hj
      have := (hC.lt ⟨j, o', C1, hj, hm⟩).1
      omega
    · simp only [updM, if_neg e, if_neg e'] at hm hm'
      simp only [updO, if_neg e, if_neg e'] at hj hj'
      exact hC.inj j j' o' o'' b C1 C2 hj hj' hm hm'

theorem getO_push {o : Obj} : getO (H ++ [some o]) = updO (getO H) H.length o := by
  funext k
  unfold getO updO
  rw [List.getElem?_append]
  by_cases h1 : k < H.length
  · rw [if_pos h1, if_neg (by omega)]
  · rw [if_neg h1]
    by_cases h2 : k = H.length
    · subst h2; simp
    · rw [if_neg h2, List.getElem?_eq_none (by simp; omega)]
      show _ = (H[k]?).getD none
      rw [List.getElem?_eq_none (by omega)]

theorem getO_len : getO H H.length = none := by simp [getO]

theorem getO_set {k : Nat} {o : Obj} (hk : k < H.length) : getO (H.set k (some o)) = updO (getO H) k o := by
  funext j
  unfold getO updO
  rw [List.getElem?_set]
  by_cases h1 : j = k
  · subst h1; simp [hk]
  · rw [if_neg (by omega), if_neg h1]

theorem slot_put {d : Nat} {p : PV} {t : Nat} : slot (put fr (some d) p) t = if t = d then p else slot fr t := by
  show (bif d == t then p else slot fr t) = _
  by_cases e : t = d
  · subst e; simp
  · rw [if_neg e]
    have : (d == t) = false := by simpa using fun h => e h.symm
    simp [this]

theorem put_getD {a : Act} {d : Nat} {v : Value} (hd : d < a.tmps.size) (t : Nat) : ((a.put (some d) v).tmps).getD t undef = if t = d then v else a.tmps.getD t undef := by
  simp only [Act.put, Array.getD_eq_getD_getElem?, Array.getElem?_setIfInBounds]
  by_cases e : t = d
  · subst e; simp [hd]
  · rw [if_neg (fun h => e h.symm), if_neg e]

/-- The frame behind an operation. -/
theorem Opnd.put (hO : Opnd A m h w fr a) {d : Option Nat} (hd : ∀ t, d = some t → t < a.tmps.size) {p : PV} {v : Value} (hr : RepO A m h w p v) : Opnd A m h w (put fr d p) (a.put d v) := by
  cases d with
  | none => exact hO
  | some d =>
    refine ⟨fun t => ?_⟩
    rw [slot_put, put_getD (hd d rfl)]
    split
    · exact hr
    · exact hO.rep t

theorem put_size {a : Act} {d : Option Nat} {v : Value} : (a.put d v).tmps.size = a.tmps.size := by cases d <;> simp [Act.put]
theorem put_defers {a : Act} {d : Option Nat} {v : Value} : (a.put d v).defers = a.defers := by cases d <;> rfl

theorem Opnd.mono (hO : Opnd A m h w fr a) (hA : ∀ b, A b → A' b) (hw : ∀ b, A b → w'.heap[b]? = w.heap[b]?) (hs : Shaped none m h m' h') : Opnd A' m' h' w' fr a :=
  ⟨fun t => (hO.rep t).mono hA hw hs⟩

/-- The frame's own slots alone. -/
def cutF (n : Nat) (fr : Fr) : Fr := fr.filter fun x => decide (x.1 < n)

theorem slot_cut {n t : Nat} : ∀ {fr : Fr}, slot (cutF n fr) t = if t < n then slot fr t else .top
  | [] => by simp [cutF, slot]
  | (i, p) :: r => by
    have ih := slot_cut (n := n) (t := t) (fr := r)
    unfold cutF at ih ⊢
    rw [List.filter_cons]
    by_cases hi : i < n
    · rw [if_pos (by simpa using hi)]
      simp only [slot]
      rw [ih]
      cases e : i == t with
      | true =>
        have : i = t := by simpa using e
        subst this
        simp [hi]
      | false => simp
    · rw [if_neg (by simpa using hi), ih]
      by_cases ht : t < n
      · have : (i == t) = false := by simp; omega
        simp [slot, ht, this]
      · simp [ht]

theorem look_lt {x : Ctx} {n t : Nat} (h : t < n) : look x n a t = a.tmps.getD t undef := if_pos h

theorem Inv.opnd {x : Ctx} {n : Nat} {S : St} (hI : Inv x n S a w A m) : Opnd A m (getO S.H) w (cutF n S.fr) a := ⟨fun t => by
  rw [slot_cut]
  split
  · rename_i h
    have := hI.fr t
    rwa [look_lt h] at this
  · exact .topI _⟩

theorem look_put {x : Ctx} {n : Nat} {d : Option Nat} {v : Value} (hd : ∀ t, d = some t → t < n) (hz : a.tmps.size = n) (t : Nat) : look x n (a.put d v) t = if d = some t then v else look x n a t := by
  cases d with
  | none => simp [look, Act.put]
  | some d =>
    have h := hd d rfl
    unfold look
    by_cases ht : t < n
    · rw [if_pos ht, if_pos ht, put_getD (by omega)]
      by_cases e : t = d
      · subst e; simp
      · rw [if_neg e, if_neg (fun h => e (Option.some.inj h).symm)]
    · rw [if_neg ht, if_neg ht, if_neg (fun h => by cases h; omega)]

/-- Operands are slots of the frame. -/
def opdLt (n : Nat) : Operand → Bool
  | .tmp t => decide (t < n)
  | _ => true

/-- An operation that leaves the world alone. -/
theorem Inv.val {x : Ctx} {n : Nat} {S : St} (hI : Inv x n S a w A m) {d : Option Nat} (hd : ∀ t, d = some t → t < n) {p : PV} {v : Value} (hr : RepO A m (getO S.H) w p v) :
    Inv x n ⟨put S.fr d p, S.H⟩ (a.put d v) w A m :=
  ⟨hI.moved, hI.sub, hI.aok, hI.conc, hI.own, fun t => by
    rw [look_put hd hI.sz]
    cases d with
    | none => exact hI.fr t
    | some d =>
      rw [slot_put]
      by_cases e : t = d
      · subst e; rw [if_pos rfl, if_pos rfl]; exact hr
      · rw [if_neg e, if_neg (fun h => e (Option.some.inj h).symm)]; exact hI.fr t, by rw [put_size]; exact hI.sz, by rw [put_defers]; exact hI.df⟩

end Go.Ab
