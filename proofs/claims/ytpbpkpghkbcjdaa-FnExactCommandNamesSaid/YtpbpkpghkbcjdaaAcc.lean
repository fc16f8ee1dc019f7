/- Loops that count up; small laws for walks. No condition. -/
import Derived.Test.YtpbpkpghkbcjdaaAcb
import Derived.Test.YtpbpkpghkbcjdaaAbx
namespace Go.Ab
variable {P : Program}

/-- A loop whose rounds are counted: its states are those of a sequence. -/
theorem loop_upto (hm : P.follows .mixedOrders = true) {n : Nat} (N : Nat) (σ : Nat → St) (I : Nat → Prop) {c : Code} (hok : codeOk n c = true) {S : St} {Q : Exit → St → Prop} (h0 : Weak S (σ 0)) (i0 : I 0)
    (round : ∀ i, i < N → I i → awp P n c (σ i) (thenQ (fun S' => I (i + 1) ∧ Weak S' (σ (i + 1))) Q)) (fin : I N → awp P n c (σ N) (thenQ (fun _ => False) Q)) : Ends P n (.loop c) S Q := fun x a w A m hI => by
  have key : ∀ (k i : Nat) (a : Act) (w : World) (A : Nat → Prop) (m : OMap), i ≤ N → N - i < k → I i → Inv x n (σ i) a w A m → Code.rounds P c (fun e a' w' => ∃ S' A' m', Q e S' ∧ Inv x n S' a' w' A' m') k a w := by
    intro k
    induction k with
    | zero => intro i a w A m _ h; exact absurd h (Nat.not_lt_zero _)
    | succ k ih =>
      intro i a w A m hle hlt hi hI
      rw [rounds_succ]
      by_cases h : i < N
      · refine wp_mono (awp_sound hm c (σ i) _ hok (round i h hi) x a w A m hI) fun e a' w' ⟨S', A', m', hq, hI'⟩ => ?_
        cases e with
        | normal =>
          obtain ⟨hi', hw⟩ := hq
          obtain ⟨A'', m'', hI''⟩ := hw x n a' w' A' m' hI'
          exact ih (i + 1) a' w' A'' m'' h (by omega) hi' hI''
        | _ => exact ⟨S', A', m', hq, hI'⟩
      · obtain rfl : i = N := by omega
        refine wp_mono (awp_sound hm c (σ i) _ hok (fin hi) x a w A m hI) fun e a' w' ⟨S', A', m', hq, hI'⟩ => ?_
        cases e with
        | normal => exact hq.elim
        | _ => exact ⟨S', A', m', hq, hI'⟩
  obtain ⟨A', m', hI'⟩ := h0 x n a w A m hI
  exact wp_loop_rounds (N - 0 + 1) (key _ 0 a w A' m' (Nat.zero_le _) (Nat.lt_succ_self _) i0 hI')

theorem w8 {n : Int} (h1 : 0 ≤ n) (h2 : n < 256) : IntKind.u8.wrap n = n := by
  have e : IntKind.u8.wrap n = n % 256 := rfl
  omega

/-- One own object is handed over, turned, and kept. -/
theorem CallZ.useK {q : Bool} {fr : Fr} {H : Heap} {f : FuncId} {args args' cargs : List PV} {o o' : Option Obj} (k : Nat) {res : PV} {d : Option Nat} {K : St → Prop} {ok own : Bool} (hf : MFn P f cargs [o] [0] res [o']) (hq : q = false) (hwk : Wk [k] [] ⟨argFr 0 args, H⟩ ⟨argFr 0 cargs, [o]⟩)
    (hlen : cargs.length = args.length) (hk : k < H.length) (hcell : cellP res = true) (hcO : cellO [o'] = true) (hK : K ⟨put fr d (ren (rn [k] H.length) res), setAll (rn [k] H.length) H [k] [o']⟩) : CallZ P q f args' ok own args d ⟨fr, H⟩ K := by
  subst hq
  exact CallZ.useM [k] [] [] hf hwk hlen rfl (by simpa using hk) rfl hcell hcO (.inl rfl) hK

theorem take_succ_eq {α : Type} {a b : List α} {i : Nat} {x y : α} (h : a.take i = b.take i) (ha : a[i]? = some x) (hb : b[i]? = some y) (e : x = y) : a.take (i + 1) = b.take (i + 1) := by
  rw [List.take_add_one, List.take_add_one, h, ha, hb, e]

theorem eq_of_take {α : Type} {a b : List α} (h : a.take a.length = b.take a.length) (hl : a.length = b.length) : a = b := by
  have e : b.take a.length = b := by rw [hl]; exact List.take_length
  rw [← e, ← h, List.take_length]

theorem set_take {α : Type} (f : Nat → α) (l : List α) (i : Nat) (h : i < l.length) : ((List.range i).map f ++ l.drop i).set i (f i) = (List.range (i + 1)).map f ++ l.drop (i + 1) := by
  rw [List.range_succ, List.map_append, List.append_assoc, List.set_append_right (h := by simp)]
  simp only [List.length_map, List.length_range, Nat.sub_self]
  rw [List.drop_eq_getElem_cons h]
  rfl

/-- A list, the first i of whose members have been turned: its length, its member i. -/
theorem marked {α : Type} (f : Nat → α) (l : List α) {i : Nat} (h : i < l.length) : ∃ X, (List.range i).map f ++ l.drop i = X ∧ X.length = l.length ∧ X[i]? = some l[i] := by
  refine ⟨_, rfl, by simp; omega, ?_⟩
  rw [List.getElem?_append_right (by simp), List.getElem?_drop]
  simp [h]

theorem marked_next {α β : Type} (g : α → β) (f : Nat → α) (l : List α) {i : Nat} (h : i < l.length) : (((List.range i).map f ++ l.drop i).map g).set i (g (f i)) = ((List.range (i + 1)).map f).map g ++ (l.map g).drop (i + 1) := by
  rw [← List.map_set, set_take f l i h, List.map_append, List.map_drop]

end Go.Ab
