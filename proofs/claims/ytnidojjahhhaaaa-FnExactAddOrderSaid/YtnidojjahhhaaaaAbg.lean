/- Every quiet operation, run in a world that the plain state tells of, yields what the plain run says, and leaves the world alone. No condition. -/
import Derived.Test.YtnidojjahhhaaaaAbf
namespace Go.Ab
variable {P : Program} {A : Nat → Prop} {m : OMap} {h : OFun} {w : World} {H : Heap} {fr : Fr} {a : Act}

/-- An array of cells that reads so. -/
def Cells (A : Nat → Prop) (m : OMap) (h : OFun) (w : World) (cs : List PV) (us : Array Value) : Prop :=
  us.size = cs.length ∧ ∀ (j : Nat) (c : PV), cs[j]? = some c → RepO A m h w c (us.getD j undef)

theorem putAt_length {cs new : List PV} {off : Nat} (hl : off + new.length ≤ cs.length) : (putAt cs off new).length = cs.length := by
  simp [putAt]; omega

theorem putAt_get {cs new : List PV} {off : Nat} (hl : off + new.length ≤ cs.length) (j : Nat) :
    (putAt cs off new)[j]? = if off ≤ j ∧ j < off + new.length then new[j - off]? else cs[j]? := by
  unfold putAt
  have hmin : min off cs.length = off := by omega
  rw [List.getElem?_append, List.getElem?_append]
  simp only [List.length_append, List.length_take, hmin]
  by_cases h1 : j < off
  · rw [if_pos (by omega), if_pos h1, if_neg (by omega), List.getElem?_take, if_pos h1]
  · by_cases h2 : j < off + new.length
    · rw [if_pos h2, if_neg h1, if_pos (by omega)]
    · rw [if_neg h2, if_neg (by omega), List.getElem?_drop]
      congr 1
      omega

/-- One after the other laid into an array, from off on. -/
theorem fold_get (off : Nat) : ∀ (l : List Value) (k : Nat) (us : Array Value) (j : Nat), off + k + l.length ≤ us.size →
    ((l.zipIdx k).foldl (fun cs (x : Value × Nat) => cs.setIfInBounds (off + x.2) x.1) us).size = us.size ∧
    ((l.zipIdx k).foldl (fun cs (x : Value × Nat) => cs.setIfInBounds (off + x.2) x.1) us)[j]? = if off + k ≤ j ∧ j < off + k + l.length then l[j - (off + k)]? else us[j]?
  | [], k, us, j, _ => by
    simp only [List.zipIdx_nil, List.foldl_nil, List.length_nil, Nat.add_zero, true_and]
    rw [if_neg (by omega)]
  | v :: l, k, us, j, hl => by
    simp only [List.length_cons] at hl
    have ih := fold_get off l (k + 1) (us.setIfInBounds (off + k) v) j (by simp; omega)
    simp only [List.zipIdx_cons, List.foldl_cons]
    refine ⟨by rw [ih.1]; simp, ?_⟩
    rw [ih.2]
    simp only [List.length_cons]
    by_cases h0 : j = off + k
    · subst h0
      rw [if_neg (by omega), if_pos (by omega)]
      simp only [Nat.sub_self, List.getElem?_cons_zero]
      rw [Array.getElem?_setIfInBounds, if_pos rfl, if_pos (by omega)]
    · by_cases h1 : off + (k + 1) ≤ j ∧ j < off + (k + 1) + l.length
      · rw [if_pos h1, if_pos (by omega), show j - (off + k) = (j - (off + (k + 1))) + 1 by omega, List.getElem?_cons_succ]
      · rw [if_neg h1, if_neg (by omega), Array.getElem?_setIfInBounds, if_neg (by omega)]

theorem foldl_arr (off : Nat) (vs us : Array Value) : vs.zipIdx.foldl (fun cs (x : Value × Nat) => cs.setIfInBounds (off + x.2) x.1) us = (vs.toList.zipIdx).foldl (fun cs (x : Value × Nat) => cs.setIfInBounds (off + x.2) x.1) us := by
  rw [← Array.foldl_toList]
  simp

theorem Cells.put {cs new : List PV} {us vs : Array Value} {off : Nat} (hc : Cells A m h w cs us) (hn : Cells A m h w new vs) (hl : off + new.length ≤ cs.length) :
    Cells A m h w (putAt cs off new) (vs.zipIdx.foldl (fun cs (x : Value × Nat) => cs.setIfInBounds (off + x.2) x.1) us) := by
  rw [foldl_arr]
  have hv : vs.toList.length = new.length := by simpa using hn.1
  have g := fun j => fold_get off vs.toList 0 us j (by rw [hc.1, hv]; omega)
  refine ⟨by rw [(g 0).1, putAt_length hl, hc.1], fun j c hj => ?_⟩
  rw [putAt_get hl] at hj
  rw [Array.getD_eq_getD_getElem?, (g j).2]
  simp only [Nat.add_zero, hv]
  split at hj
  · rename_i hh
    rw [if_pos hh]
    have := hn.2 _ c hj
    rwa [Array.getD_eq_getD_getElem?, ← Array.getElem?_toList] at this
  · rename_i hh
    rw [if_neg hh]
    have := hc.2 _ c hj
    rwa [Array.getD_eq_getD_getElem?] at this

theorem cells_of_rep {p : PV} {v : Value} (hp : (flatV p).all oneC = true) (hr : RepO A m h w p v) : Cells A m h w (flatV p) v.cells :=
  ⟨(cells_rep hp hr).1, fun j c hc => ((cells_rep hp hr).2 j c hc).1⟩

theorem fill_rep (place : Nat → Option (Nat × Nat)) (f : Nat → Nat) : ∀ (ps : List (Nat × Operand)) (cs : List PV) (us : Array Value), Cells A m h w cs us → Opnd A m h w fr a →
    (∀ x ∈ ps, okv fr x.2 ∧ (flatV (ev fr x.2)).all oneC = true ∧ place x.1 = some (f x.1, (flatV (ev fr x.2)).length) ∧ f x.1 + (flatV (ev fr x.2)).length ≤ cs.length) →
    ∃ vs, Instr.fill place us (ps.map fun x => (x.1, a.eval x.2)) = some vs ∧ Cells A m h w (ps.foldl (fun cs x => putAt cs (f x.1) (flatV (ev fr x.2))) cs) vs
  | [], cs, us, hc, _, _ => ⟨us, rfl, hc⟩
  | x :: ps, cs, us, hc, hO, hps => by
    obtain ⟨h1, h2, h3, h4⟩ := hps x (by simp)
    have hn := cells_of_rep h2 (hO.ev h1)
    have hput := hc.put hn h4
    simp only [List.map_cons, Instr.fill, h3, List.foldl_cons]
    rw [if_neg (by simp [hn.1, hc.1]; omega)]
    exact fill_rep place f ps _ _ hput hO fun y hy => by
      obtain ⟨g1, g2, g3, g4⟩ := hps y (by simp [hy])
      exact ⟨g1, g2, g3, by rw [putAt_length h4]; exact g4⟩

theorem flatV_ofV_cells {v : Value} (hz : (flatV (ofV v)).all oneC = true) : Cells A m h w (flatV (ofV v)) v.cells := cells_of_rep hz (.imm (ofV_rep v))

theorem buildV_eq (t : TypeId) : ∀ (ps : List (Nat × Operand)) (cs : List PV), buildV P fr t ps cs = ps.foldl (fun cs x => putAt cs (((fldT P t x.1).map (·.1)).getD 0) (flatV (ev fr x.2))) cs
  | [], _ => rfl
  | (_, _) :: r, _ => buildV_eq t r _

theorem buildOk_mem (t : TypeId) {n : Nat} : ∀ (ps : List (Nat × Operand)), buildOk P fr t n ps → ∀ x ∈ ps, okv fr x.2 ∧ (flatV (ev fr x.2)).all oneC = true ∧ 0 < (flatV (ev fr x.2)).length ∧
    ∃ o a, fldT P t x.1 = some (o, a, (flatV (ev fr x.2)).length) ∧ o + (flatV (ev fr x.2)).length ≤ n
  | [], _ => by simp
  | (i, x) :: r, hb => by
    obtain ⟨h1, h2, h3, h4, h5⟩ := hb
    intro y hy
    rcases List.mem_cons.1 hy with rfl | hy
    · exact ⟨h1, h4, h3, h2⟩
    · exact buildOk_mem t r h5 y hy

theorem mapM_run {α β : Type} (g : α → Sem β) (r : α → β) (w : World) : ∀ (l : List α), (∀ x ∈ l, (g x).run P w = .ok (r x) w) → (l.mapM g).run P w = .ok (l.map r) w
  | [], _ => rfl
  | x :: l, hg => by
    rw [List.mapM_cons, Sem.run_bind, hg x (by simp), Result.andThen_ok, Sem.run_bind, mapM_run g r w l (fun y hy => hg y (by simp [hy]))]
    rfl

theorem build_rep (hO : Opnd A m h w fr a) {t : TypeId} {ps : List (Nat × Operand)} (hv : vok P fr H (.build t ps.toArray)) :
    ∃ u, (Instr.build t (ps.toArray.map fun (i, x) => (i, a.eval x))).run P w = .ok u w ∧ RepO A m h w (.agg (buildV P fr t ps ((zeroT P t).getD []))) u := by
  obtain ⟨cs, hz, ho, hst, hb⟩ := hv
  unfold zeroT at hz
  obtain ⟨v, hv, rfl⟩ := Option.map_eq_some_iff.1 hz
  obtain ⟨i, hi, hiz⟩ := Option.bind_eq_some_iff.1 hv
  unfold structT at hst
  split at hst
  case h_2 => cases hst
  rename_i fs hfs
  have hzero : (zeroValue t).run P w = .ok v w := by simp [zeroValue, typeInfo, hi, hiz]
  have hmap : (fs.mapM fun f => do pure (f.offset, ← sizeOf f.type) : Sem (Array (Nat × Nat))).run P w = .ok (fs.map fun f => (f.offset, sizeT P f.type)) w := by
    rw [← Array.toArray_toList (xs := fs), List.mapM_toArray]
    have := mapM_run (P := P) (fun f : Field => do pure (f.offset, ← sizeOf f.type)) (fun f => (f.offset, sizeT P f.type)) w fs.toList (fun f hf => by
      obtain ⟨i, hi⟩ := Option.isSome_iff_exists.1 (Array.all_eq_true'.1 hst f (by simpa using hf))
      simp [sizeOf, typeInfo, hi, sizeT])
    simp only [Sem.run_map, this, Result.andThen_ok]
    congr 1
    apply Array.ext'
    simp
  have hb' := buildOk_mem t ps hb
  obtain ⟨vs, hfill, hcells⟩ := fill_rep (A := A) (m := m) (h := h) (w := w) (fr := fr) (a := a) (fun k => (fs.map fun f => (f.offset, sizeT P f.type))[k]?) (fun k => ((fldT P t k).map (·.1)).getD 0) ps _ _ (flatV_ofV_cells ho) hO (fun x hx => by
    obtain ⟨g1, g2, g3, o, ag, g4, g5⟩ := hb' x hx
    obtain ⟨fs', f, e1, e2, e3, e4, e5, e6⟩ := fldT_spec g4
    rw [hfs] at e1
    cases e1
    refine ⟨g1, g2, ?_, ?_⟩
    · simp [e2, g4, e3, e5]
    · simpa [g4] using g5)
  refine ⟨.agg vs, ?_, ?_⟩
  · simp only [Instr.build, Sem.run_bind, hzero, Result.andThen_ok, run_underlying hfs, hmap]
    have e : (ps.toArray.map fun (i, x) => (i, a.eval x)).toList = ps.map fun x => (x.1, a.eval x.2) := by simp
    rw [e, hfill]
    rfl
  · have e : (zeroT P t).getD [] = flatV (ofV v) := by simp [zeroT, hi, hiz]
    rw [e, buildV_eq]
    exact .agg _ _ hcells.1 hcells.2

theorem eval_list (hO : Opnd A m h w fr a) : ∀ (xs : List Operand), okvs fr xs → ∀ (i : Nat) (c : PV), (xs.map (ev fr))[i]? = some c → RepO A m h w c ((xs.map a.eval).toArray.getD i undef)
  | [], _, i, c, hc => by simp at hc
  | x :: r, hk, i, c, hc => by
    cases i with
    | zero =>
      simp only [List.map_cons, List.getElem?_cons_zero, Option.some.injEq] at hc
      subst hc
      simpa using hO.ev hk.1
    | succ i =>
      have := eval_list hO r hk.2 i c (by simpa using hc)
      simpa [Array.getD_eq_getD_getElem?] using this

/-- EVERY QUIET OPERATION. -/
theorem quiet_run (hs : Sub h H) (hC : ConcO A m h w) (hO : Opnd A m h w fr a) {o : Oper} (hv : vok P fr H o.op) : ∃ v, (execOp a.eval o).run P w = .ok (.value v) w ∧ RepO A m h w (vop P fr H o.op) v := by
  obtain ⟨dst, op, ty, pos, after, guard⟩ := o
  simp only at hv ⊢
  cases op <;> try exact hv.elim
  case move x => exact ⟨_, rfl, hO.ev hv⟩
  case assign x => exact ⟨_, rfl, hO.ev hv⟩
  case nilCheck x =>
    obtain ⟨b, o, e⟩ := (hO.ev hv.1).ptr hv.2
    refine ⟨a.eval x, ?_, hO.ev hv.1⟩
    simp only [execOp, e]
    rfl
  case pick c x y =>
    obtain ⟨h1, h2⟩ := hv
    cases hc : ev fr c <;> simp only [hc] at h2
    rename_i t
    have hr := hO.ev h1
    rw [hc] at hr
    obtain h0 := hr.bool
    refine ⟨if t then a.eval x else a.eval y, ?_, ?_⟩
    · simp only [execOp, h0, asBool]
      rfl
    · simp only [vop, hc]
      exact pickV_rep (fun ht => hO.ev (h2.1 ht)) (fun ht => hO.ev (h2.2 ht))
  case binOp op t x y u =>
    obtain ⟨h1, h2, h3⟩ := hv
    obtain ⟨r, hr, hrep⟩ := bv_rep (x := x) (y := y) h3 (hO.ev h1) (hO.ev h2)
    refine ⟨r, ?_, hrep⟩
    simp only [execOp, Sem.run_bind] at hr ⊢
    rw [hr]
    rfl
  case unOp op t x =>
    obtain ⟨h1, h3⟩ := hv
    obtain ⟨r, hr, hrep⟩ := uv_rep (P := P) h3 (hO.ev h1)
    refine ⟨r, ?_, hrep⟩
    simp only [execOp, Sem.run_bind, hr]
    rfl
  case convert s t x =>
    obtain ⟨h1, h2⟩ := hv
    have hr := hO.ev h1
    cases hc : ev fr x <;> simp only [hc] at h2 hr
    case int k n =>
      obtain ⟨h2, h3⟩ := h2
      obtain ⟨d, hd⟩ := knownT_spec h2
      obtain ⟨k', hk'⟩ := Option.isSome_iff_exists.1 h3
      have hd' := kindT_spec hk'
      obtain h0 := hr.int
      refine ⟨.int k' (k'.wrap n), ?_, ?_⟩
      · simp only [execOp, convert, Sem.run_bind, run_underlying hd, run_underlying hd', Result.andThen_ok, h0]
        cases d <;> rfl
      · simp only [vop, hc, hk']
        exact .imm (.int _ _)
    case str l =>
      obtain ⟨b, h0, hb⟩ := hr.str
      refine ⟨.string b, ?_, ?_⟩
      · simp only [execOp, convert, Sem.run_bind, run_underlying (strT_spec h2.1), run_underlying (strT_spec h2.2), Result.andThen_ok, h0]
        rfl
      · simp only [vop, hc]
        exact .imm (.str _ _ hb)
  case load t x =>
    obtain ⟨h1, h2, h3, h4⟩ := hv
    obtain ⟨u, hu, hrep⟩ := loadV_rep hC hs h2 h3 (hO.ev h1) h4
    exact ⟨u, by simp only [execOp, Sem.run_bind, hu]; rfl, hrep⟩
  case fieldAddr t x f =>
    obtain ⟨h1, ⟨o, ag, n, hf⟩, h3⟩ := hv
    obtain ⟨u, hu, hrep⟩ := offV_rep hf (hO.ev h1) h3
    refine ⟨u, by simp only [execOp, Sem.run_bind, hu]; rfl, ?_⟩
    simpa [vop, hf] using hrep
  case field t x f =>
    obtain ⟨h1, o, ag, n, cs, hf, he, hl⟩ := hv
    have hr := hO.ev h1
    rw [he] at hr
    obtain ⟨us, h0, hl', hh⟩ := hr.aggI
    obtain ⟨fs, y, e1, e2, e3, e4, e5, e6⟩ := fldT_spec hf
    obtain ⟨u, hu, hrep⟩ := takeT_rep (P := P) (off := o) hl' hh e6 (by omega) (by omega)
    refine ⟨u, ?_, ?_⟩
    · simp only [execOp, Instr.field, Sem.run_bind, run_underlying e1, Result.andThen_ok, e2, h0, asAgg, Sem.run_pure, e3, hu]
    · simp only [vop, hf, he]
      rw [← e4, ← e5]
      exact hrep
  case indexAddr t x i =>
    obtain ⟨h1, h2, h3, e, h4, h5, h6⟩ := hv
    have hr := hO.ev h2
    cases hc : ev fr i <;> simp only [hc, isInt] at h3
    rename_i k n
    rw [hc] at hr h6
    simp only [intV] at h6
    obtain h0 := hr.int
    obtain ⟨u, hu, hrep⟩ := idxV_rep (k := k) hs h4 h5 (hO.ev h1) h6
    refine ⟨u, by simp only [execOp, Sem.run_bind, h0, hu]; rfl, ?_⟩
    simpa [vop, h4, hc, intV] using hrep
  case index t x i =>
    obtain ⟨h1, h2, h3, h4, h5⟩ := hv
    have hr := hO.ev h2
    have hr1 := hO.ev h1
    cases hc : ev fr i <;> simp only [hc, isInt] at h3
    rename_i k n
    cases hd : ev fr x <;> simp only [hd] at h5
    rename_i s
    rw [hc] at hr h5
    rw [hd] at hr1
    obtain h0 := hr.int
    obtain ⟨b, h0', rfl⟩ := hr1.str
    simp only [intV] at h5
    have hlt : n.toNat < b.size := by
      have e1 : b.size = b.data.toList.length := by simp
      omega
    refine ⟨.int .u8 (b[n.toNat].toNat), ?_, ?_⟩
    · simp [execOp, Instr.index, asIntOf, h0, h0', run_underlying (strT_spec h4), h5.1, hlt]
    · simp only [vop, hd, hc, intV]
      have : (b.data.toList.getD n.toNat 0) = b[n.toNat] := by
        have : n.toNat < b.data.toList.length := by simpa using hlt
        simp [List.getD, List.getElem?_eq_getElem this]
        rfl
      rw [this]
      exact .imm (.int _ _)
  case slice t x l hi mx =>
    obtain ⟨u, hu, hrep⟩ := cutV_rep hs hC hO hv
    exact ⟨u, by simp only [execOp, Sem.run_bind, hu]; rfl, hrep⟩
  case extract x i =>
    obtain ⟨h1, h2⟩ := hv
    have hr := hO.ev h1
    cases hc : ev fr x <;> simp only [hc] at h2
    rename_i cs
    rw [hc] at hr
    obtain ⟨us, h0, hl, hh⟩ := hr.tupI
    have hlt : i < us.size := by omega
    refine ⟨us[i], ?_, ?_⟩
    · simp [execOp, Instr.extract, h0, hlt]
    · simp only [vop, hc, List.getD]
      rw [List.getElem?_eq_getElem h2]
      have := hh i _ (List.getElem?_eq_getElem h2)
      simpa [Array.getD_eq_getD_getElem?, hlt] using this
  case build t ps =>
    have hv' : vok P fr H (.build t ps.toList.toArray) := by simpa using hv
    obtain ⟨u, hu, hrep⟩ := build_rep hO hv'
    refine ⟨u, ?_, ?_⟩
    · simp only [Array.toArray_toList] at hu
      simp only [execOp, Sem.run_bind, hu]
      rfl
    · exact hrep
  case makeFunc f first caps =>
    cases f <;> try exact hv.elim
    rename_i f
    obtain ⟨rfl, h2⟩ := hv
    refine ⟨.func (.func f) #[] (caps.map a.eval), by simp [execOp, Instr.makeFunc], ?_⟩
    simp only [vop]
    have e : caps.map a.eval = (caps.toList.map a.eval).toArray := by apply Array.ext'; simp
    rw [e]
    exact .fn f _ _ (by simp) (eval_list hO caps.toList h2)
  case call c =>
    simp only [vok] at hv
    cases hl : isLen c with
    | none =>
      rw [hl] at hv
      simp only at hv
      cases hm : isMM c with
      | none => rw [hm] at hv; exact hv.elim
      | some bxy =>
        obtain ⟨b, x, y⟩ := bxy
        rw [hm] at hv
        obtain ⟨h1, h2, h3⟩ := hv
        have hr1 := hO.ev h1
        have hr2 := hO.ev h2
        simp only [vop, hl, hm]
        cases hx : ev fr x <;> rw [hx] at h3 hr1 <;> cases hy : ev fr y <;> rw [hy] at h3 hr2 <;> try exact h3.elim
        rename_i k n k' n'
        have e1 := hr1.int
        have e2 := hr2.int
        obtain ⟨callee, args, argTypes⟩ := c
        unfold isMM at hm
        simp only at hm
        split at hm
        · rename_i ea
          simp only [Option.some.injEq, Prod.mk.injEq] at hm
          obtain ⟨rfl, rfl, rfl⟩ := hm
          have ea' : args = _ := Array.ext' ea
          subst ea'
          refine ⟨.int k (max n n'), ?_, by simp only [mmV, cond_true]; exact .imm (.int _ _)⟩
          have : (if n < n' then n' else n) = max n n' := by rw [Int.max_def]; split <;> split <;> omega
          simp [execOp, resolve, invoke, builtin, Builtin.max_, Builtin.max2, e1, e2, this]
        · rename_i ea
          simp only [Option.some.injEq, Prod.mk.injEq] at hm
          obtain ⟨rfl, rfl, rfl⟩ := hm
          have ea' : args = _ := Array.ext' ea
          subst ea'
          refine ⟨.int k (min n n'), ?_, by simp only [mmV, cond_false]; exact .imm (.int _ _)⟩
          have : (if n' < n then n' else n) = min n n' := by rw [Int.min_def]; split <;> split <;> omega
          simp [execOp, resolve, invoke, builtin, Builtin.min_, Builtin.min2, e1, e2, this]
        · cases hm
    | some xt =>
      obtain ⟨x, t⟩ := xt
      rw [hl] at hv
      obtain ⟨h1, h2, h3⟩ := hv
      obtain ⟨e1, e2, e3⟩ : c.callee = .builtin .len ∧ c.args = #[x] ∧ c.argTypes = #[t] := by
        obtain ⟨callee, args, argTypes⟩ := c
        unfold isLen at hl
        simp only at hl
        split at hl
        · simp only [Option.some.injEq, Prod.mk.injEq] at hl
          obtain ⟨rfl, rfl⟩ := hl
          refine ⟨rfl, ?_, ?_⟩
          · exact Array.ext' (by assumption)
          · exact Array.ext' (by assumption)
        · cases hl
      refine ⟨.int .i64 (lenV H (ev fr x)), ?_, ?_⟩
      · rcases lenV_rep hs hC (hO.ev h1) h2 with ⟨s, g1, g2, g3⟩ | ⟨ao, cap, g1, g2, g3⟩
        · rw [g2] at h3
          have hu := strT_spec h3
          simp [execOp, resolve, invoke, builtin, e1, e2, e3, Builtin.len_, g1, run_underlying hu, goInt, g3]
        · obtain ⟨e, he⟩ : ∃ e, elemT P t = some e := by
            cases hc : ev fr x <;> rw [hc] at h3 <;> first | exact absurd hc (g3 _) | exact Option.isSome_iff_exists.1 h3
          have hu := elemT_spec he
          simp [execOp, resolve, invoke, builtin, e1, e2, e3, Builtin.len_, g1, run_underlying hu, goInt]
      · simp only [vop, hl]
        exact .imm (.int _ _)

end Go.Ab
