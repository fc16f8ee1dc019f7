/- Loops that count up; small laws for walks. No condition. -/
import Derived.Test.YtnidojjahhhaaaaAcb
import Derived.Test.YtnidojjahhhaaaaAbx
import Derived.Sort.Walk0
namespace Go.Ab
variable {P : Program}

/-- A loop whose rounds are counted: its states are those of a sequence. -/
theorem loop_upto (hm : P.follows .mixedOrders = true) {n : Nat} (N : Nat) (σ : Nat → St) (I : Nat → Prop) {c : Code} (hok : codeOk n c = true) {S : St} {Q : Exit → St → Prop} (h0 : Weak S (σ 0)) (i0 : I 0)
    (round : ∀ i, i < N → I i → awp P n c (σ i) (thenQ (fun S' => I (i + 1) ∧ Weak S' (σ (i + 1))) Q)) (fin : I N → awp P n c (σ N) (thenQ (fun _ => False) Q)) : Ends P n (.loop c) S Q := fun x a w A m hI => by
  have key : ∀ (k i : Nat) (a : Act) (w : World) (A : Nat → Prop) (m : OMap), i ≤ N → N - i < k → I i → Inv x n (σ i) a w A m → Code.rounds P c (fun e a' w' => ∃ S' A' m', Q e S' ∧ Inv x n S' a' w' A' m') k a w := by
    intro k
    induction k with
    | zero => intro i a w A m _ h; exact absurd h (Nat.not_lt_zero _)
    | succ k ih =>
      intro i a w A m hle hlt hi hI
      rw [rounds_succ]
      by_cases h : i < N
      · refine wp_mono (awp_sound hm c (σ i) _ hok (round i h hi) x a w A m hI) fun e a' w' ⟨S', A', m', hq, hI'⟩ => ?_
        cases e with
        | normal =>
          obtain ⟨hi', hw⟩ := hq
          obtain ⟨A'', m'', hI''⟩ := hw x n a' w' A' m' hI'
          exact ih (i + 1) a' w' A'' m'' h (by omega) hi' hI''
        | _ => exact ⟨S', A', m', hq, hI'⟩
      · obtain rfl : i = N := by omega
        refine wp_mono (awp_sound hm c (σ i) _ hok (fin hi) x a w A m hI) fun e a' w' ⟨S', A', m', hq, hI'⟩ => ?_
        cases e with
        | normal => exact hq.elim
        | _ => exact ⟨S', A', m', hq, hI'⟩
  obtain ⟨A', m', hI'⟩ := h0 x n a w A m hI
  exact wp_loop_rounds (N - 0 + 1) (key _ 0 a w A' m' (Nat.zero_le _) (Nat.lt_succ_self _) i0 hI')

@[simp] theorem RetOk_ret {rs : List ResultVar} {res : PV} {Hout : Heap} {fr : Fr} {H : Heap} : RetOk P rs res Hout .ret ⟨fr, H⟩ = (retOks P ⟨fr, H⟩ rs ∧ Weak ⟨[(0, retV P ⟨fr, H⟩ rs)], H⟩ ⟨[(0, res)], Hout⟩) := rfl
@[simp] theorem RetOk_normal {rs : List ResultVar} {res : PV} {Hout : Heap} {fr : Fr} {H : Heap} : RetOk P rs res Hout .normal ⟨fr, H⟩ = (retOks P ⟨fr, H⟩ rs ∧ Weak ⟨[(0, retV P ⟨fr, H⟩ rs)], H⟩ ⟨[(0, res)], Hout⟩) := rfl

/-- A value may be told in another way, given a new own slice without rows. -/
theorem weak_new {S : St} {t z : Nat} {q : PV} (h : ∀ (A : Nat → Prop) (m m' : OMap) (h h' : OFun) (w : World) (v : Value), Shaped none m h m' h' → h' S.H.length = some (.arr z []) → m' S.H.length = some (none, 0) → RepO A m h w (slot S.fr t) v → RepO A m' h' w q v) :
    Weak S ⟨(t, q) :: S.fr, S.H ++ [some (.arr z [])]⟩ := fun x n a w A m hI => by
  have hN := newW_none (z := z) hI.aok hI.conc (getO_len (H := S.H))
  have hsh := hN.shaped
  rw [← addO_one] at hN
  have hI' := hI.newW hN
  refine ⟨A, _, hI'.moved, hI'.sub, hI'.aok, hI'.conc, hI'.own, fun t' => ?_, hI'.sz, hI'.df⟩
  simp only [slot]
  cases e : t == t' with
  | false => exact hI'.fr t'
  | true =>
    have : t = t' := by simpa using e
    subst this
    have e2 : getO (S.H ++ [some (.arr z [])]) = updO (getO S.H) S.H.length (.arr z []) := getO_push
    show RepO A (updM m S.H.length (none, 0)) (getO (S.H ++ [some (.arr z [])])) w q (look x n a t)
    rw [e2]
    exact h A m _ _ _ w _ hsh (by simp [updO]) (by simp [updM]) (hI.fr t)

/-- In a tuple: a nil slice for an own one without rows. -/
theorem weak_nilT {fr : Fr} {H : Heap} {cs : List PV} {t : Nat} (i z : Nat) (hs : slot fr t = .tup cs) (hi : cs[i]? = some .nils) : Weak ⟨fr, H⟩ ⟨(t, .tup (cs.set i (.sf H.length z))) :: fr, H ++ [some (.arr z [])]⟩ :=
  weak_new (S := ⟨fr, H⟩) fun A m m' h h' w v hsh h1 h2 hr => by
    have hr : RepO A m h w (slot fr t) v := hr
    rw [hs] at hr
    obtain ⟨us, rfl, hl, hh⟩ := hr.tupI
    refine .tup _ us (by simpa using hl) fun j c hc => ?_
    rw [List.getElem?_set] at hc
    by_cases e : i = j
    · subst e
      have hlt : i < cs.length := (List.getElem?_eq_some_iff.1 hi).1
      simp [hlt] at hc
      subst hc
      obtain ⟨ao, hao⟩ := (hh i _ hi).nilsI
      rw [hao]
      exact .sfN _ z 0 ao h1 h2
    · rw [if_neg e] at hc
      exact (hh j c hc).mono (fun _ h => h) (fun _ _ => rfl) hsh

/-- A nil slice is a slice without rows that is only read. -/
def Leq (p q : PV) : Prop := ∀ (A : Nat → Prop) (m : OMap) (h : OFun) (w : World) (v : Value), RepO A m h w p v → RepO A m h w q v
def Leqs : List PV → List PV → Prop
  | [], [] => True
  | p :: r, q :: s => Leq p q ∧ Leqs r s
  | _, _ => False
theorem Leq.refl (p : PV) : Leq p p := fun _ _ _ _ _ h => h
theorem Leq.nils (z : Nat) : Leq .nils (.sl z []) := fun _ _ _ _ _ hr => by
  obtain ⟨ao, rfl⟩ := hr.nilsI
  exact .imm (.slE z ao 0)
theorem Leqs.get : ∀ {ps qs : List PV}, Leqs ps qs → ps.length = qs.length ∧ ∀ (i : Nat) (q : PV), qs[i]? = some q → ∃ p, ps[i]? = some p ∧ Leq p q
  | [], [], _ => ⟨rfl, by simp⟩
  | p :: r, q :: s, h => by
    obtain ⟨h1, h2⟩ := Leqs.get h.2
    refine ⟨by simp [h1], fun i q' hi => ?_⟩
    cases i with
    | zero => cases hi; exact ⟨p, rfl, h.1⟩
    | succ i =>
      obtain ⟨p', hp', hw⟩ := h2 i q' (by simpa using hi)
      exact ⟨p', by simpa using hp', hw⟩
  | [], _ :: _, h => h.elim
  | _ :: _, [], h => h.elim
/-- A contract serves arguments of which more is known. -/
theorem HFn.leq {f : FuncId} {args args' : List PV} {Hin : Heap} {res : PV} {Hout : Heap} (hf : HFn P f args' Hin res Hout) (h : Leqs args args') : HFn P f args Hin res Hout := fun A m w vs hA hC hvs hargs => by
  obtain ⟨h1, h2⟩ := h.get
  refine hf A m w vs hA hC (by rw [hvs, h1]) fun i q hq => ?_
  obtain ⟨p, hp, hl⟩ := h2 i q hq
  exact hl _ _ _ _ _ (hargs i p hp)

theorem w8 {n : Int} (h1 : 0 ≤ n) (h2 : n < 256) : IntKind.u8.wrap n = n := by
  have e : IntKind.u8.wrap n = n % 256 := rfl
  omega

/-- One own object is handed over, turned, and kept. -/
theorem CallZ.useK {q : Bool} {fr : Fr} {H : Heap} {f : FuncId} {args args' cargs : List PV} {o o' : Option Obj} (k : Nat) {res : PV} {d : Option Nat} {K : St → Prop} {ok own : Bool} (hf : MFn P f cargs [o] [0] res [o']) (hq : q = false) (hwk : Wk [k] [] ⟨argFr 0 args, H⟩ ⟨argFr 0 cargs, [o]⟩)
    (hlen : cargs.length = args.length) (hk : k < H.length) (hcell : cellP res = true) (hcO : cellO [o'] = true) (hK : K ⟨put fr d (ren (rn [k] H.length) res), setAll (rn [k] H.length) H [k] [o']⟩) : CallZ P q f args' ok own args d ⟨fr, H⟩ K := by
  subst hq
  exact CallZ.useM [k] [] [] hf hwk hlen rfl (by simpa using hk) rfl hcell hcO (.inl rfl) hK

theorem take_succ_eq {α : Type} {a b : List α} {i : Nat} {x y : α} (h : a.take i = b.take i) (ha : a[i]? = some x) (hb : b[i]? = some y) (e : x = y) : a.take (i + 1) = b.take (i + 1) := by
  rw [List.take_add_one, List.take_add_one, h, ha, hb, e]

theorem eq_of_take {α : Type} {a b : List α} (h : a.take a.length = b.take a.length) (hl : a.length = b.length) : a = b := by
  have e : b.take a.length = b := by rw [hl]; exact List.take_length
  rw [← e, ← h, List.take_length]

theorem set_take {α : Type} (f : Nat → α) (l : List α) (i : Nat) (h : i < l.length) : ((List.range i).map f ++ l.drop i).set i (f i) = (List.range (i + 1)).map f ++ l.drop (i + 1) := by
  rw [List.range_succ, List.map_append, List.append_assoc, List.set_append_right (h := by simp)]
  simp only [List.length_map, List.length_range, Nat.sub_self]
  rw [List.drop_eq_getElem_cons h]
  rfl

/-- A list that is filled: its first i members are there. -/
theorem filled {α β : Type} (f : α → β) (l : List α) (z : β) {i : Nat} (h : i < l.length) : ∃ X, (l.take i).map f ++ List.replicate (l.length - i) z = X ∧ X.length = l.length ∧ ∀ h, X[i]'h = z := by
  refine ⟨_, rfl, by simp; omega, fun h' => ?_⟩
  apply Option.some.inj
  rw [← List.getElem?_eq_getElem]
  rw [List.getElem?_append_right (by simp; omega), List.getElem?_replicate, if_pos (by simp; omega)]

theorem filled_next {α β : Type} (f : α → β) (l : List α) (z : β) {i : Nat} (h : i < l.length) : ((l.take i).map f ++ List.replicate (l.length - i) z).set i (f l[i]) = (l.map f).take (i + 1) ++ List.replicate (l.length - (i + 1)) z := by
  rw [← List.map_take]
  have e : l.length - i = (l.length - (i + 1)) + 1 := by omega
  have hl : ((l.take i).map f).length = i := by simp; omega
  rw [List.set_append_right (h := by omega), hl, Nat.sub_self, e, List.replicate_succ, List.set_cons_zero, List.take_add_one, List.getElem?_eq_getElem h, List.map_append]
  simp

theorem list_of {α β : Type} {f : α → β} {p : α → Prop} : ∀ {rows : List β}, (∀ r ∈ rows, ∃ x, r = f x ∧ p x) → ∃ l : List α, rows = l.map f ∧ ∀ x ∈ l, p x
  | [], _ => ⟨[], rfl, by simp⟩
  | r :: rows, h => by
    obtain ⟨x, rfl, hx⟩ := h r (by simp)
    obtain ⟨l, rfl, hl⟩ := list_of (rows := rows) fun r hr => h r (by simp [hr])
    exact ⟨x :: l, rfl, by simpa using ⟨hx, hl⟩⟩

theorem lit64 {n : Int} (h : (Lit.int .i64 n).wf = true) : -9223372036854775808 ≤ n ∧ n ≤ 9223372036854775807 := by
  have h1 : IntKind.i64.min = -9223372036854775808 := rfl
  have h2 : IntKind.i64.max = 9223372036854775807 := rfl
  simp only [Lit.wf, Bool.and_eq_true, decide_eq_true_eq, h1, h2] at h
  exact h

theorem bytesLess_lt (a b : List UInt8) : Op.bytesLess a b = decide (a < b) := Proofs.bytesLess_eq a b
theorem bytesLess_swap (a b : List UInt8) : (Op.bytesLess b a || decide (b = a)) = !Op.bytesLess a b := by
  rw [bytesLess_lt, bytesLess_lt]
  by_cases h : a < b
  · have h1 : ¬ b < a := fun h2 => List.lt_irrefl _ (List.lt_trans h h2)
    have h2 : ¬ b = a := fun e => by subst e; exact List.lt_irrefl _ h
    simp [h, h1, h2]
  · have : b ≤ a := List.not_lt.1 h
    rcases List.le_iff_lt_or_eq.1 this with h1 | h1
    · simp [h, h1]
    · simp [h, h1]

theorem all_range_false {n i : Nat} {p : Nat → Bool} (hi : i < n) (h : p i = false) : (List.range n).all p = false := by
  rw [← Bool.not_eq_true, List.all_eq_true]
  exact fun hc => by rw [hc i (List.mem_range.2 hi)] at h; cases h
theorem all_range_true {n : Nat} {p : Nat → Bool} (h : ∀ j, j < n → p j = true) : (List.range n).all p = true := List.all_eq_true.2 fun j hj => h j (List.mem_range.1 hj)
theorem upto_succ {i : Nat} {q : Nat → Prop} (h : ∀ j, j < i → q j) (hi : q i) : ∀ j, j < i + 1 → q j := fun j hj => by
  by_cases e : j = i
  · subst e; exact hi
  · exact h j (by omega)

/-- The first place where p holds, or -1. -/
def findI {α : Type} (p : α → Bool) (l : List α) : Int := match l.findIdx? p with
  | some i => i
  | none => -1
theorem findI_at {α : Type} {p : α → Bool} {l : List α} {i : Nat} (hi : i < l.length) (h : p l[i] = true) (hb : ∀ j (hj : j < l.length), j < i → p l[j] = false) : findI p l = i := by
  have : l.findIdx? p = some i := List.findIdx?_eq_some_iff_getElem.2 ⟨hi, h, fun j hj => by simpa using hb j (by omega) hj⟩
  simp [findI, this]
theorem findI_none {α : Type} {p : α → Bool} {l : List α} (hb : ∀ j (hj : j < l.length), p l[j] = false) : findI p l = -1 := by
  have : l.findIdx? p = none := List.findIdx?_eq_none_iff.2 fun x hx => by
    obtain ⟨j, hj, rfl⟩ := List.getElem_of_mem hx
    exact hb j hj
  simp [findI, this]
theorem findI_any {α : Type} {p : α → Bool} {l : List α} : decide (0 ≤ findI p l) = l.any p := by
  unfold findI
  cases h : l.findIdx? p with
  | none =>
    have h1 : l.any p = false := by
      rw [List.any_eq_false]
      exact fun x hx => by simpa using List.findIdx?_eq_none_iff.1 h x hx
    rw [h1]
    rfl
  | some i =>
    obtain ⟨h1, h2, _⟩ := List.findIdx?_eq_some_iff_getElem.1 h
    have h3 : l.any p = true := List.any_eq_true.2 ⟨_, List.getElem_mem h1, h2⟩
    rw [h3]
    simp

/-- What is left of a size. -/
def szR (s left : Nat) : Int := if s ≤ left then (left : Int) - s else -1

theorem szR_neg {s left : Nat} (h : left < s) : szR s left = -1 := by unfold szR; rw [if_neg (by omega)]
theorem szR_pos {s left : Nat} (h : s ≤ left) : szR s left = (left : Int) - s := by unfold szR; rw [if_pos h]
theorem szR_lt {s left : Nat} (h : szR s left < 0) : left < s := by
  rcases Nat.lt_or_ge left s with h' | h'
  · exact h'
  · rw [szR_pos h'] at h; omega
theorem szR_ge {s left : Nat} (h : 0 ≤ szR s left) : s ≤ left := by
  rcases Nat.lt_or_ge left s with h' | h'
  · rw [szR_neg h'] at h; omega
  · exact h'

theorem sum_map_zero {α : Type} : ∀ (l : List α), (l.map fun _ => 0).sum = 0
  | [] => rfl
  | _ :: l => by simpa using sum_map_zero l

/-- The sum over the first i members. -/
def sumT {α : Type} (f : α → Nat) (l : List α) (i : Nat) : Nat := ((l.take i).map f).sum
theorem sumT_zero {α : Type} (f : α → Nat) (l : List α) : sumT f l 0 = 0 := rfl
theorem sumT_len {α : Type} (f : α → Nat) (l : List α) : sumT f l l.length = (l.map f).sum := by unfold sumT; rw [List.take_length]
theorem sumT_succ {α : Type} (f : α → Nat) {l : List α} {i : Nat} (h : i < l.length) : sumT f l (i + 1) = sumT f l i + f l[i] := by
  unfold sumT
  rw [List.take_add_one, List.getElem?_eq_getElem h, List.map_append, List.sum_append]
  simp
theorem sumT_le {α : Type} (f : α → Nat) (l : List α) (i : Nat) : sumT f l i ≤ (l.map f).sum := by
  have : (l.map f).sum = ((l.take i).map f).sum + ((l.drop i).map f).sum := by rw [← List.sum_append, ← List.map_append, List.take_append_drop]
  unfold sumT
  omega

/-- A list, the first i of whose members have been turned: its length, its member i. -/
theorem marked {α : Type} (f : Nat → α) (l : List α) {i : Nat} (h : i < l.length) : ∃ X, (List.range i).map f ++ l.drop i = X ∧ X.length = l.length ∧ ∀ h, X[i]'h = l[i] := by
  refine ⟨_, rfl, by simp; omega, fun h' => ?_⟩
  apply Option.some.inj
  rw [← List.getElem?_eq_getElem]
  rw [List.getElem?_append_right (by simp), List.getElem?_drop]
  simp [h]

theorem marked_next {α β : Type} (g : α → β) (f : Nat → α) (l : List α) {i : Nat} (h : i < l.length) : (((List.range i).map f ++ l.drop i).map g).set i (g (f i)) = ((List.range (i + 1)).map f).map g ++ (l.map g).drop (i + 1) := by
  rw [← List.map_set, set_take f l i h, List.map_append, List.map_drop]

end Go.Ab
