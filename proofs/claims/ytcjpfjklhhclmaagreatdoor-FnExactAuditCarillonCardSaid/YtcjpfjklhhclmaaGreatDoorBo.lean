/- Lists of one's own that are kept in mind beside the engine: taken out of it, given back to it. No condition. -/
import Derived.Test.YtcjpfjklhhclmaaGreatDoorKe
namespace Go.Ab
variable {P : Program} {A A' B : Nat → Prop} {m m' : OMap} {h h' : OFun} {w w' w'' : World} {H : Heap} {fr : Fr} {a : Act} {x y : Ctx} {n : Nat} {S S1 : St}
abbrev noB : Nat → Prop := fun _ => False
abbrev noM : OMap := fun _ => none
abbrev noH : OFun := fun _ => none
def qaL (rows : List (List PV)) : Prop := ∀ r ∈ rows, ∀ c ∈ r, pureP c = true
theorem RepI.pure {p : PV} {v : Value} (hp : pureP p = true) (hr : RepI A w p v) : RepI A' w' p v := by
 cases p <;> simp only [pureP, Bool.false_eq_true] at hp
 case int => cases hr; exact .int _ _
 case bool => cases hr; exact .bool _
 case str => cases hr; exact .str _ _ ‹_›
 case raw => cases hr; exact .raw _
 case top => exact .top _
theorem qba {rows : List (List PV)} (hf : qbz rows) : qaL rows := fun r hr c hc => by
 have := hf r hr c hc
 cases c <;> simp_all [flatC, pureP]
def OwnAt (w : World) (z : Nat) (rows : List (List PV)) (v : Value) : Option Nat → Prop
 | none => rows = [] ∧ ∃ ao, v = .slice ao 0 0
 | some b => ∃ C, v = .slice (some ⟨b, 0, none⟩) rows.length C ∧ ObjAt noB noM noH w (.arr z rows) (some b) C
theorem OwnAt.of {k z : Nat} {rows : List (List PV)} {v : Value} (hC : ConcO A m h w) (hk : h k = some (.arr z rows)) (hr : RepO A m h w (.sf k z) v) (hp : qaL rows) :
   ∃ ob C, m k = some (ob, C) ∧ OwnAt w z rows v ob := by
 cases hr with
 | imm hi => cases hi
 | sfN _ _ C ao hk' hm =>
   rw [hk] at hk'
   cases hk'
   exact ⟨none, C, hm, rfl, ao, rfl⟩
 | sf _ _ C b rows' hk' hm =>
   rw [hk] at hk'
   cases hk'
   refine ⟨some b, C, hm, C, rfl, ?_⟩
   obtain ⟨ob, C', hm', ho⟩ := hC.at_ k _ hk
   rw [hm] at hm'
   cases hm'
   obtain ⟨h1, h2, h3, h4, h5, cur, e, hcur, hsz, hcell⟩ := ho
   refine ⟨fun h => h, h2, h3, h4, h5, cur, e, hcur, hsz, fun i j r c hi hj => ?_⟩
   obtain ⟨u, hu, hru⟩ := hcell i j r c hi hj
   exact ⟨u, hu, hru.pure (hp r (List.mem_of_getElem? hi) c (List.mem_of_getElem? hj))⟩
theorem OwnAt.lt {z b : Nat} {rows : List (List PV)} {v : Value} (ho : OwnAt w z rows v (some b)) : b < w.heap.size := by
 obtain ⟨C, _, h⟩ := ho
 exact h.2.1
theorem OwnAt.moved {M : Nat → Prop} {z : Nat} {rows : List (List PV)} {v : Value} {ob : Option Nat} (ho : OwnAt w z rows v ob) (hp : qaL rows) (hm : Moved M w w') (hM : ∀ b, ob = some b → ¬ M b) : OwnAt w' z rows v ob := by
 cases ob with
 | none => exact ho
 | some b =>
   obtain ⟨C, hv, h1, h2, h3, h4, h5, cur, e, hcur, hsz, hcell⟩ := ho
   refine ⟨C, hv, h1, Nat.lt_of_lt_of_le h2 hm.size, h3, h4, h5, cur, e, ?_, hsz, fun i j r c hi hj => ?_⟩
   · rw [hm.block b h2 (hM b rfl)]; exact hcur
   · obtain ⟨u, hu, hru⟩ := hcell i j r c hi hj
     exact ⟨u, hu, hru.pure (hp r (List.mem_of_getElem? hi) c (List.mem_of_getElem? hj))⟩
theorem OwnAt.read {z : Nat} {rows : List (List PV)} {v : Value} {ob : Option Nat} {F : Nat → Prop} (ho : OwnAt w z rows v ob) (hF : ∀ b, ob = some b → F b) {rows' : List (List PV)} (hl : rows'.length = rows.length)
   (hc : ∀ (i : Nat) (r r' : List PV), rows[i]? = some r → rows'[i]? = some r' → r'.length = r.length ∧ ∀ (j : Nat) (c c' : PV) (u : Value), r[j]? = some c → r'[j]? = some c' → RepI noB w c u → RepI F w c' u) : RepI F w (.sl z rows') v := by
 cases ob with
 | none =>
   obtain ⟨rfl, ao, rfl⟩ := ho
   obtain rfl := List.eq_nil_of_length_eq_zero hl
   exact .slE z ao 0
 | some b =>
   obtain ⟨C, rfl, h1, h2, h3, h4, h5, cur, e, hcur, hsz, hcell⟩ := ho
   rw [← hl]
   have hget : ∀ (i : Nat) (r' : List PV), rows'[i]? = some r' → ∃ r, rows[i]? = some r := fun i r' hr' => by
     have := (List.getElem?_eq_some_iff.1 hr').1
     exact ⟨_, List.getElem?_eq_getElem (by omega)⟩
   refine .sl z rows' b 0 C (fun i j => cur.getD (i * z + j) undef) (hF b rfl) (by omega) (fun i r' hr' => ?_) (fun i j r' c' hr' hc' => ?_) fun i j r' c' hr' hc' => ?_
   · obtain ⟨r, hr⟩ := hget i r' hr'
     rw [(hc i r r' hr hr').1]
     exact h5 i r hr
   · obtain ⟨r, hr⟩ := hget i r' hr'
     have hlen := (hc i r r' hr hr').1
     have hjl := (List.getElem?_eq_some_iff.1 hc').1
     obtain ⟨u, hu, hru⟩ := hcell i j r r[j] hr (List.getElem?_eq_getElem (by omega))
     simp [World.cell?, hcur, hu, Array.getD_eq_getD_getElem?]
   · obtain ⟨r, hr⟩ := hget i r' hr'
     obtain ⟨hlen, hcc⟩ := hc i r r' hr hr'
     have hjl := (List.getElem?_eq_some_iff.1 hc').1
     have hcj := List.getElem?_eq_getElem (show j < r.length by omega)
     obtain ⟨u, hu, hru⟩ := hcell i j r r[j] hr hcj
     have := hcc j r[j] c' u hcj hc' hru
     simpa [Array.getD_eq_getD_getElem?, hu] using this
theorem Inv.rebase (hI : Inv x n S a w A m) : Inv ⟨w, A, OwnB m (getO S.H), x.gh⟩ n S a w A m :=
 ⟨.refl _ _, fun _ h => .inl h, hI.aok, hI.conc, fun _ h => .inl h, fun t => hI.fr t, hI.sz, hI.df⟩
def capV : Value → Nat
 | .slice _ _ C => C
 | _ => 0
theorem Inv.adopt {z : Nat} {rows : List (List PV)} {v : Value} {ob : Option Nat} (hI : Inv x n ⟨fr, H⟩ a w A m) (ho : OwnAt w z rows v ob) (hp : qaL rows) (hb : ∀ b, ob = some b → ¬ A b ∧ ¬ OwnB m (getO H) b) :
   ∃ m', Inv ⟨w, A, fun b => OwnB m (getO H) b ∨ ob = some b, x.gh⟩ n ⟨fr, H ++ [some (.arr z rows)]⟩ a w A m' ∧ RepO A m' (getO (H ++ [some (.arr z rows)])) w (.sf H.length z) v ∧ m' H.length = some (ob, capV v) := by
 obtain ⟨C, hCv, hv⟩ : ∃ C, C = capV v ∧ match ob with
     | none => rows = [] ∧ C = 0 ∧ ∃ ao, v = .slice ao 0 0
     | some b => v = .slice (some ⟨b, 0, none⟩) rows.length C ∧ ObjAt noB noM noH w (.arr z rows) (some b) C := by
   cases ob with
   | none => obtain ⟨h1, ao, h2⟩ := ho; exact ⟨0, by rw [h2]; rfl, h1, rfl, ao, h2⟩
   | some b => obtain ⟨C, h1, h2⟩ := ho; exact ⟨C, by rw [h1]; rfl, h1, h2⟩
 have hk : getO H H.length = none := by simp [getO]
 have e : getO (H ++ [some (.arr z rows)]) = updO (getO H) H.length (.arr z rows) := by
   rw [qew, qbN]
 have hsh := qdC (m := m) (x := (ob, C)) (o := .arr z rows) hk
 have hobj : ObjAt A (updM m H.length (ob, C)) (updO (getO H) H.length (.arr z rows)) w (.arr z rows) ob C := by
   cases ob with
   | none => exact ⟨hv.1, hv.2.1⟩
   | some b =>
     obtain ⟨_, h1, h2, h3, h4, h5, cur, e, hcur, hsz, hcell⟩ := hv
     refine ⟨(hb b rfl).1, h2, h3, h4, h5, cur, e, hcur, hsz, fun i j r c hi hj => ?_⟩
     obtain ⟨u, hu, hru⟩ := hcell i j r c hi hj
     exact ⟨u, hu, hru.pure (hp r (List.mem_of_getElem? hi) c (List.mem_of_getElem? hj))⟩
 have hself : updO (getO H) H.length (.arr z rows) H.length = some (.arr z rows) := by simp [updO]
 have hmself : updM m H.length (ob, C) H.length = some (ob, C) := by simp [updM]
 have hne : ∀ k, k ≠ H.length → updO (getO H) H.length (.arr z rows) k = getO H k ∧ updM m H.length (ob, C) k = m k := fun k hk => by simp [updO, updM, hk]
 have hconc : ConcO A (updM m H.length (ob, C)) (updO (getO H) H.length (.arr z rows)) w := by
   refine ⟨fun k o ho' => ?_, fun k k' o o' b C1 C2 hk1 hk2 hm1 hm2 => ?_⟩
   · by_cases ek : k = H.length
     · subst ek
       rw [hself] at ho'
       cases ho'
       exact ⟨ob, C, hmself, hobj⟩
     · rw [(hne k ek).1] at ho'
       obtain ⟨ob', C', hm', hO⟩ := hI.conc.at_ k o ho'
       exact ⟨ob', C', by rw [(hne k ek).2]; exact hm', hO.mono (fun _ h => h) (fun _ _ => rfl) hsh (Nat.le_refl _) fun b' e' => ⟨(hI.conc.lt ⟨k, o, C', ho', by rw [hm', e']⟩).2, rfl⟩⟩
   · by_cases e1 : k = H.length
     · by_cases e2 : k' = H.length
       · rw [e1, e2]
       · subst e1
         rw [hmself] at hm1
         cases hm1
         rw [(hne k' e2).1] at hk2
         rw [(hne k' e2).2] at hm2
         exact absurd ⟨k', o', C2, hk2, hm2⟩ (hb b rfl).2
     · by_cases e2 : k' = H.length
       · subst e2
         rw [hmself] at hm2
         cases hm2
         rw [(hne k e1).1] at hk1
         rw [(hne k e1).2] at hm1
         exact absurd ⟨k, o, C1, hk1, hm1⟩ (hb b rfl).2
       · rw [(hne k e1).1] at hk1
         rw [(hne k' e2).1] at hk2
         rw [(hne k e1).2] at hm1
         rw [(hne k' e2).2] at hm2
         exact hI.conc.inj k k' o o' b C1 C2 hk1 hk2 hm1 hm2
 refine ⟨updM m H.length (ob, C), ⟨.refl _ _, fun _ h => .inl h, hI.aok, by rw [e]; exact hconc, fun b hbo => .inl ?_, fun t => ?_, hI.sz, hI.df⟩, ?_, by rw [← hCv]; exact hmself⟩
 · rw [e] at hbo
   obtain ⟨k, o, C', hk', hm'⟩ := hbo
   by_cases ek : k = H.length
   · subst ek
     rw [hmself] at hm'
     cases hm'
     exact .inr rfl
   · rw [(hne k ek).1] at hk'
     rw [(hne k ek).2] at hm'
     exact .inl ⟨k, o, C', hk', hm'⟩
 · rw [e]
   exact (hI.fr t).mono (fun _ h => h) (fun _ _ => rfl) hsh
 · rw [e]
   cases ob with
   | none =>
     obtain ⟨rfl, rfl, ao, rfl⟩ := hv
     exact .sfN H.length z 0 ao hself hmself
   | some b =>
     obtain ⟨rfl, _⟩ := hv
     exact .sf H.length z C b rows hself hmself
end Go.Ab
