/- A region that is cut in two, with less known between; loops of which a region is left. No condition. -/
import Derived.Test.YtaidbadmhepccaaGreatDoorKd
namespace Go.Ab
variable {P : Program} {A A' : Nat → Prop} {m m' : OMap} {h h' : OFun} {w w' : World} {H : Heap} {fr fr' : Fr} {a : Act}

theorem list_pre {x : Ctx} {n : Nat} {all : List Oper} {Q : Exit → Act → World → Prop} {K : St → Prop} (hall : all.all (opOk n) = true) (post : List Oper)
    (hQ : ∀ S' a' w' A' m', K S' → Inv x n S' a' w' A' m' → wpList P all.toArray Q post a' w') :
    ∀ (ops : List Oper) (q : Bool) (S : St) (a : Act) (w : World) (A : Nat → Prop) (m : OMap), ops.all (opOk n) = true → Inv x n S a w A m → aOps P q all ops S K → wpList P all.toArray Q (ops ++ post) a w
  | [], _, S, a, w, A, m, _, hI, h => hQ S a w A m h hI
  | o :: r, q, S, a, w, A, m, hok, hI, h => by
    simp only [List.all_cons, Bool.and_eq_true] at hok
    rw [List.cons_append]
    unfold wpList
    cases hg : o.guard with
    | none =>
      simp only [aOps, hg] at h
      rw [if_pos (by simp [Region.wanted, hg])]
      cases hmk : q && markB S.fr o.op with
      | true =>
        rw [hmk, cond_true] at h
        refine .inl (goes_ex hok.1 hI h.2 _ _ fun v w' ⟨S', A', m', hK, hI'⟩ => ?_)
        exact list_pre hall post hQ r _ S' _ w' A' m' hok.2 hI' hK
      | false =>
        rw [hmk, cond_false] at h
        refine .inl (goes_ex hok.1 hI h _ _ fun v w' ⟨S', A', m', hK, hI'⟩ => ?_)
        exact list_pre hall post hQ r _ S' _ w' A' m' hok.2 hI' hK
    | some g =>
      obtain ⟨j, want⟩ := g
      simp only [aOps, hg] at h
      obtain ⟨c, hw, hc⟩ := guard_run hI hall hg h
      rcases aGd_case hc with ⟨pv, hp, hK⟩ | ⟨hc1, hq, hE⟩
      rotate_left
      · subst hc1
        rw [if_pos hw]
        refine .inl (goes_ex hok.1 hI hE _ _ fun v w' ⟨S', A', m', hK, hI'⟩ => ?_)
        exact list_pre hall post hQ r _ S' _ w' A' m' hok.2 hI' hK
      cases c with
      | true =>
        rw [if_pos hw]
        refine .inl (yields_mono (pre_sem (pre_congr (agree_cut (opOk_opd hok.1)) (hp rfl)) A m (getO S.H) w a hI.aok hI.conc getO_sub hI.opnd fun i hi => absurd hi (by simp)) (fun v w' hR => hR) _ _ fun v w' ⟨A', m', hN, hr⟩ => ?_)
        have := hI.newW hN
        rw [List.append_nil] at this
        rw [addO_nil] at hr
        exact list_pre hall post hQ r _ _ _ w' A' m' hok.2 (this.val (S := S) (opOk_dst hok.1) (.optT _ _ hr)) hK
      | false =>
        rw [if_neg (by rw [hw]; decide)]
        exact list_pre hall post hQ r _ _ _ w A m hok.2 (hI.val (opOk_dst hok.1) (.optF _)) hK

end Go.Ab
namespace Go.Ab
variable {P : Program} {A A' B : Nat → Prop} {m m' : OMap} {h h' : OFun} {w w' : World} {fr : Fr} {a : Act} {x y : Ctx} {n : Nat} {S S1 : St}

/-- Values in which no memory stands. -/
def pureP : PV → Bool
  | .int _ _ | .bool _ | .str _ | .raw _ | .top => true
  | _ => false
theorem RepO.pure {p : PV} {v : Value} (hp : pureP p = true) (hr : RepO A m h w p v) : RepO A' m' h' w' p v := by
  cases p <;> simp only [pureP, Bool.false_eq_true] at hp
  case int => cases hr with | imm hi => cases hi; exact .imm (.int _ _)
  case bool => cases hr with | imm hi => cases hi; exact .imm (.bool _)
  case str => cases hr with | imm hi => cases hi; exact .imm (.str _ _ ‹_›)
  case raw => cases hr with | imm hi => cases hi; exact .imm (.raw _)
  case top => exact .imm (.top _)
theorem slot_pure {t : Nat} : ∀ {fr : Fr}, fr.all (fun q => pureP q.2) = true → pureP (slot fr t) = true
  | [], _ => rfl
  | (i, p) :: r, hp => by
    simp only [List.all_cons, Bool.and_eq_true] at hp
    show pureP (bif i == t then p else slot r t) = true
    cases i == t with
    | true => exact hp.1
    | false => exact slot_pure hp.2
/-- A frame without memory stands over any world. -/
theorem Inv.base (hI : Inv x n ⟨fr, []⟩ a w A m) (hp : fr.all (fun q => pureP q.2) = true) (hg : y.gh = x.gh) (hm : Moved y.M0 y.w0 w') (hA : AOk B w') (hB : ∀ b, B b → y.A0 b ∨ y.M0 b ∨ y.w0.heap.size ≤ b) : Inv y n ⟨fr, []⟩ a w' B fun _ => none :=
  ⟨hm, hB, hA, ⟨fun k o hk => by simp [getO] at hk, fun k k' o o' b C C' hk => by simp [getO] at hk⟩, fun b ⟨k, o, C, hk, _⟩ => by simp [getO] at hk, fun t => by
    have := (hI.fr t).pure (A' := B) (m' := fun _ => none) (h' := getO ([] : Heap)) (w' := w') (slot_pure hp)
    rwa [show look y n a t = look x n a t by unfold look; rw [hg]], hI.sz, hI.df⟩
/-- More is known of a slot. -/
theorem Inv.know (hI : Inv x n S a w A m) {d : Nat} {p : PV} (hr : RepO A m (getO S.H) w p (look x n a d)) : Inv x n ⟨put S.fr (some d) p, S.H⟩ a w A m :=
  ⟨hI.moved, hI.sub, hI.aok, hI.conc, hI.own, fun t => by
    rw [slot_put]
    split
    · rename_i e; rw [e]; exact hr
    · exact hI.fr t, hI.sz, hI.df⟩
/-- A piece of code in front of another. -/
theorem piece (hm : P.follows .mixedOrders = true) {c d : Code} {Q : Exit → Act → World → Prop} (hok : codeOk n c = true) (hI : Inv x n S a w A m) (h : awp P n c S (thenQ (fun S' => Weak S' S1) fun _ _ => False))
    (hrest : ∀ a' w' A' m', Inv x n S1 a' w' A' m' → d.wp P Q a' w') : c.wp P (Exit.then (d.wp P Q) Q) a w := by
  refine wp_mono (awp_sound hm c S _ hok h x a w A m hI) fun e a' w' ⟨S', A', m', hq, hI'⟩ => ?_
  cases e with
  | normal =>
    obtain ⟨A'', m'', hI''⟩ := hq _ _ _ _ _ _ hI'
    exact hrest _ _ _ _ hI''
  | _ => exact hq.elim
theorem bool_look {t : Nat} {c : Bool} (hI : Inv x n S a w A m) (hs : slot S.fr t = .bool c) (ht : t < n) : a.tmps.getD t undef = .bool c := by
  have := hI.fr t
  rw [hs, look_lt ht] at this
  exact this.bool
theorem raw_look {t : Nat} {v : Value} (hI : Inv x n S a w A m) (hs : slot S.fr t = .raw v) : look x n a t = v := by
  have := hI.fr t
  rw [hs] at this
  cases this with
  | imm hi => cases hi; rfl
end Go.Ab
