/- Contracts: bells whose metal is traced. No condition. -/
import Derived.Test.YtcjpfjklhhclmaaGreatDoorBd
namespace Go.Proofs.YtcjpfjklhhclmaaGreatDoor
open Go Go.Ab
set_option maxRecDepth 100000
def haveB (ms : List Melt) (b : Bell) : Bool := b.shares.all fun s => hasId Melt.id ms s.melt
def haveL (ms : List Melt) (bs : List Bell) : Bool := bs.all (haveB ms)
def qaS (s : List UInt8) : List Share → Int
 | [] => 0
 | x :: r => (if x.melt = s then x.mass else 0) + qaS s r
def qax (s : List UInt8) : List Bell → Int
 | [] => 0
 | b :: r => qaS s b.shares + qax s r
theorem qpW (s : List UInt8) (a b : List Share) : qaS s (a ++ b) = qaS s a + qaS s b := by
 induction a with
 | nil => simp [qaS]
 | cons x r ih => simp [qaS, ih]; omega
theorem qpX (s : List UInt8) (a b : List Bell) : qax s (a ++ b) = qax s a + qax s b := by
 induction a with
 | nil => simp [qax]
 | cons x r ih => simp [qax, ih]; omega
structure BelOk (bs : List Bell) : Prop where
 len : bs.length ≤ 24
 shr : ∀ b ∈ bs, b.shares.length ≤ 4
 mass : ∀ b ∈ bs, ∀ s ∈ b.shares, 1 ≤ s.mass ∧ s.mass ≤ 20000000
theorem qdN {bs : List Bell} (h : qbW bs = true) : BelOk bs := by
 simp only [qbW, Bool.and_eq_true, decide_eq_true_eq] at h
 have hu := qc1 h.1
 refine ⟨by omega, fun b hb => ?_, fun b hb s hs => ?_⟩
 · have := hu b hb
   simp only [qbk, Bool.and_eq_true, decide_eq_true_eq] at this
   omega
 · have := hu b hb
   simp only [qbk, Bool.and_eq_true] at this
   have := qc1 this.1 s hs
   simp only [qcd, Bool.and_eq_true, decide_eq_true_eq] at this
   omega
theorem qj8 (s : List UInt8) (l : List Share) (h : ∀ x ∈ l, 1 ≤ x.mass ∧ x.mass ≤ 20000000) : 0 ≤ qaS s l ∧ qaS s l ≤ 20000000 * l.length := by
 induction l with
 | nil => simp [qaS]
 | cons x r ih =>
   have h1 := h x List.mem_cons_self
   have h2 := ih fun y hy => h y (List.mem_cons_of_mem _ hy)
   simp only [qaS, List.length_cons]
   split <;> omega
theorem qpY (s : List UInt8) (l : List Bell) (h : ∀ b ∈ l, b.shares.length ≤ 4) (hm : ∀ b ∈ l, ∀ x ∈ b.shares, 1 ≤ x.mass ∧ x.mass ≤ 20000000) : 0 ≤ qax s l ∧ qax s l ≤ 80000000 * l.length := by
 induction l with
 | nil => simp [qax]
 | cons b r ih =>
   have h1 := h b List.mem_cons_self
   have h2 := qj8 s b.shares (hm b List.mem_cons_self)
   have h3 := ih (fun y hy => h y (List.mem_cons_of_mem _ hy)) (fun y hy => hm y (List.mem_cons_of_mem _ hy))
   simp only [qax, List.length_cons]
   omega
theorem qj9 (s : List UInt8) (l : List Bell) {i : Nat} (hi : i < l.length) : qax s (l.take (i + 1)) = qax s (l.take i) + qaS s l[i].shares := by
 rw [← List.take_append_getElem hi, qpX]
 simp [qax]
theorem qka (s : List UInt8) (l : List Share) {i : Nat} (hi : i < l.length) : qaS s (l.take (i + 1)) = qaS s (l.take i) + (if l[i].melt = s then l[i].mass else 0) := by
 rw [← List.take_append_getElem hi, qpW]
 simp [qaS]
theorem qfR {bs : List Bell} (h : BelOk bs) (s : List UInt8) {i : Nat} (hi : i < bs.length) {k : Nat} : 0 ≤ qax s (bs.take i) + qaS s (bs[i].shares.take k) ∧ qax s (bs.take i) + qaS s (bs[i].shares.take k) ≤ 2000000000 := by
 have h1 := qpY s (bs.take i) (fun b hb => h.shr b (List.mem_of_mem_take hb)) (fun b hb => h.mass b (List.mem_of_mem_take hb))
 have h2 := qj8 s (bs[i].shares.take k) (fun x hx => h.mass _ (List.getElem_mem hi) x (List.mem_of_mem_take hx))
 have h3 := h.shr _ (List.getElem_mem hi)
 have h4 := h.len
 rw [List.length_take] at h1 h2
 omega
def qem (ms : List Melt) (bs : List Bell) : Bool := !ms.any fun x => decide (x.mass < qax x.id bs)
def qcx (is : List Ingot) (ms : List Melt) (bs : List Bell) : Bool := qcw is ms && haveL ms bs && qem ms bs
theorem qkb {ms : List Melt} {bs : List Bell} {i k : Nat} (hi : i < bs.length) (hk : k < bs[i].shares.length) (h : hasId Melt.id ms bs[i].shares[k].melt = false) : haveL ms bs = false := by
 rw [haveL, List.all_eq_false]
 refine ⟨_, List.getElem_mem hi, ?_⟩
 rw [Bool.not_eq_true, haveB, List.all_eq_false]
 exact ⟨_, List.getElem_mem hk, by simp [h]⟩
theorem qkc {ms : List Melt} {b : Bell} (h : ∀ j (hj : j < b.shares.length), j < b.shares.length → hasId Melt.id ms b.shares[j].melt = true) : haveB ms b = true := by
 rw [haveB, List.all_eq_true]
 intro s hs
 obtain ⟨j, hj, rfl⟩ := List.getElem_of_mem hs
 exact h j hj hj
theorem qkd {ms : List Melt} {bs : List Bell} (h : ∀ j (hj : j < bs.length), j < bs.length → haveB ms bs[j] = true) : haveL ms bs = true := by
 rw [haveL, List.all_eq_true]
 intro s hs
 obtain ⟨j, hj, rfl⟩ := List.getElem_of_mem hs
 exact h j hj hj
theorem qbX {n : Nat} {p : (j : Nat) → j < n → Prop} {i : Nat} (hi : i < n) (h : ∀ j (hj : j < n), j < i → p j hj) (hp : p i hi) : ∀ j (hj : j < n), j < i + 1 → p j hj := fun j hj hji => by
 by_cases e : j = i
 · subst e; exact hp
 · exact h j hj (by omega)
theorem qpZ (ms : List Melt) (s : List UInt8) (hs : MelOk ms) :
   ∃ m : PV, HFn Tryz.prog 275 [.sl 3 (Melt.rows ms), .str s] [] (.tup [m, .bool (hasId Melt.id ms s)]) [] ∧ ∃ x : Melt, m = .agg x.cells ∨ m = .agg [.str [], .nils, .int .i64 0] := by
 by_cases hh : hasId Melt.id ms s = true
 · obtain ⟨i, hi, hl, _⟩ := qgX hh
   have hc := qjV hs.rise hh
   rw [hi] at hc
   refine ⟨.agg ms[i].cells, ?_, ms[i], .inl rfl⟩
   have := hs.len
   have k := qjY ms s (by omega) hs.rise
   rw [hc, hh] at k
   refine qaa hm Tryz.func275 (by kernel_rfl) rfl (by kernel_rfl) rfl qab ?_
   simp
   refine CallZ.use0 k rfl rfl ?_
   simp [hh, hl, Melt.rows_len, Melt.row_get, Melt.cells]
 · have hh : hasId Melt.id ms s = false := by simpa using hh
   have := hs.len
   have k := qjY ms s (by omega) hs.rise
   rw [hh] at k
   refine ⟨.agg [.str [], .nils, .int .i64 0], ?_, ⟨[], [], 0⟩, .inr rfl⟩
   refine qaa hm Tryz.func275 (by kernel_rfl) rfl (by kernel_rfl) rfl qab ?_
   simp
   refine CallZ.use0 k rfl rfl ?_
   simp [hh]
set_option maxHeartbeats 2000000 in
theorem qp0 (ms : List Melt) (bs : List Bell) (hs : MelOk ms) (hb : BelOk bs) :
   HFn Tryz.prog 201 [.sl 3 (Melt.rows ms), .sl 5 (Bell.rows bs)] [] (.bool (haveL ms bs)) [] := by
 have := hb.len
 refine qaa hm Tryz.func201 (by kernel_rfl) rfl (by kernel_rfl) rfl qab ?_
 simp [Bell.rows_len]
 refine qac hm bs.length (fun i => ⟨[(0, .sl 3 (Melt.rows ms)), (11, .sl 5 (Bell.rows bs)), (12, .int .i64 bs.length), (13, .int .i64 i)], []⟩) (fun i => ∀ j (h : j < bs.length), j < i → haveB ms bs[j] = true) (by kernel_rfl) ?_ (by simp) (fun i hi hI => ?_) (fun hI => ?_)
 · exact Wk.weak (ρ := []) (φ := []) (by simp)
 · have w1 : IntKind.i64.wrap ((i : Int) + 1) = (i : Int) + 1 := w64 (by omega) (by omega)
   have h4 := hb.shr _ (List.getElem_mem hi)
   simp [Bell.rows_len, Bell.row_get, Bell.cells, hi, Share.rows_len]
   refine qac hm bs[i].shares.length (fun k => ⟨[(0, .sl 3 (Melt.rows ms)), (11, .sl 5 (Bell.rows bs)), (12, .int .i64 bs.length), (13, .int .i64 i), (18, .sl 2 (Share.rows bs[i].shares)), (19, .int .i64 bs[i].shares.length), (20, .int .i64 k)], []⟩) (fun k => ∀ j (h : j < bs[i].shares.length), j < k → hasId Melt.id ms bs[i].shares[j].melt = true) (by kernel_rfl) ?_ (by simp) (fun k hk hK => ?_) (fun hK => ?_)
   · exact Wk.weak (ρ := []) (φ := []) (by simp)
   · obtain ⟨m, km, x, hm'⟩ := qpZ ms bs[i].shares[k].melt hs
     have w2 : IntKind.i64.wrap ((k : Int) + 1) = (k : Int) + 1 := w64 (by omega) (by omega)
     simp [Share.rows, Share.cells, hk]
     rcases hm' with rfl | rfl
     · simp only [Melt.cells] at km
       refine CallZ.use0 km rfl rfl ?_
       simp
       refine ⟨fun h => qkb hi hk h, fun h => ⟨qbX hk hK h, Wk.weak (ρ := []) (φ := []) ?_⟩⟩
       simp [w2]
     · refine CallZ.use0 km rfl rfl ?_
       simp
       refine ⟨fun h => qkb hi hk h, fun h => ⟨qbX hk hK h, Wk.weak (ρ := []) (φ := []) ?_⟩⟩
       simp [w2]
   · simp
     refine ⟨qbX hi hI (qkc hK), Wk.weak (ρ := []) (φ := []) ?_⟩
     simp [w1]
 · simp
   exact qkd hI
set_option maxHeartbeats 2000000 in
theorem qp1 (bs : List Bell) (x : Melt) (hb : BelOk bs) (hx : 1 ≤ x.mass ∧ x.mass ≤ 320000000) :
   HFn Tryz.prog 277 [.sl 5 (Bell.rows bs), .agg x.cells] [] (.int .i64 (x.mass - qax x.id bs)) [] := by
 have := hb.len
 refine qaa hm Tryz.func277 (by kernel_rfl) rfl (by kernel_rfl) rfl qab ?_
 simp [Bell.rows_len, Melt.cells]
 refine qac hm bs.length (fun i => ⟨[(3, .pb 0 0), (5, .int .i64 (x.mass - qax x.id (bs.take i))), (12, .sl 5 (Bell.rows bs)), (13, .int .i64 bs.length), (14, .int .i64 i)], [some (.box [.str x.id, .sl 1 (qag x.ingots), .int .i64 x.mass])]⟩) (fun _ => True) (by kernel_rfl) ?_ trivial (fun i hi _ => ?_) (fun _ => ?_)
 · exact Wk.weak (ρ := [0]) (φ := []) (by simp [qax])
 · have w1 : IntKind.i64.wrap ((i : Int) + 1) = (i : Int) + 1 := w64 (by omega) (by omega)
   have h4 := hb.shr _ (List.getElem_mem hi)
   simp [Bell.rows_len, Bell.row_get, Bell.cells, hi, Share.rows_len]
   refine qac hm bs[i].shares.length (fun k => ⟨[(3, .pb 0 0), (5, .int .i64 (x.mass - (qax x.id (bs.take i) + qaS x.id (bs[i].shares.take k)))), (12, .sl 5 (Bell.rows bs)), (13, .int .i64 bs.length), (14, .int .i64 i), (19, .sl 2 (Share.rows bs[i].shares)), (20, .int .i64 bs[i].shares.length), (21, .int .i64 k)], [some (.box [.str x.id, .sl 1 (qag x.ingots), .int .i64 x.mass])]⟩) (fun _ => True) (by kernel_rfl) ?_ trivial (fun k hk _ => ?_) (fun _ => ?_)
   · exact Wk.weak (ρ := [0]) (φ := []) (by simp [qaS])
   · have w2 : IntKind.i64.wrap ((k : Int) + 1) = (k : Int) + 1 := w64 (by omega) (by omega)
     have hs := qka x.id bs[i].shares hk
     have hin := qfR hb x.id hi (k := k)
     have hin2 := qfR hb x.id hi (k := k + 1)
     have hmk := hb.mass _ (List.getElem_mem hi) _ (List.getElem_mem hk)
     rw [hs]
     generalize qax x.id (bs.take i) = A at *
     generalize qaS x.id (bs[i].shares.take k) = B at *
     simp [Share.rows, Share.cells, hk]
     refine ⟨fun h => Wk.weak (ρ := [0]) (φ := []) ?_, fun h => Wk.weak (ρ := [0]) (φ := []) ?_⟩
     · simp [w2, h]
       rw [w64 (by omega) (by omega)]
       omega
     · simp [w2, h]
   · rw [List.take_length, qj9 _ _ hi]
     simp
     refine Wk.weak (ρ := [0]) (φ := []) ?_
     simp [w1]
 · rw [List.take_length]
   simp
theorem qp3 (bs : List Bell) (x : Melt) (rows : List (List PV)) (i0 : Nat) (hr : rows[i0]? = some [.sl 5 (Bell.rows bs)]) (hb : BelOk bs) (hx : 1 ≤ x.mass ∧ x.mass ≤ 320000000) :
   HFn Tryz.prog 276 [.agg x.cells, .pe 1 rows i0 0] [] (.bool (decide (x.mass < qax x.id bs))) [] := by
 have hi : i0 < rows.length := (List.getElem?_eq_some_iff.1 hr).1
 have hx0 : rows[i0] = [.sl 5 (Bell.rows bs)] := (List.getElem?_eq_some_iff.1 hr).2
 have kc := qp1 bs x hb hx
 simp only [Melt.cells] at kc
 refine qaa hm Tryz.func276 (by kernel_rfl) rfl (by kernel_rfl) rfl qab ?_
 simp [Melt.cells, hi, hx0]
 refine CallZ.use0 kc rfl rfl ?_
 simp
 omega
theorem qp4 (ms : List Melt) (bs : List Bell) (hs : MelOk ms) (hb : BelOk bs) :
   HFn Tryz.prog 202 [.sl 3 (Melt.rows ms), .sl 5 (Bell.rows bs)] [] (.bool (qem ms bs)) [] := by
 have := hs.len
 have k := qfO 276 1 [[.sl 5 (Bell.rows bs)]] 0 0 (fun x => decide (x.mass < qax x.id bs)) ms (fun x hx => qp3 bs x _ 0 rfl hb (hs.mass x hx)) (by omega)
 refine qaa hm Tryz.func202 (by kernel_rfl) rfl (by kernel_rfl) rfl qab ?_
 simp
 refine CallZ.use0 k rfl rfl ?_
 simp only [put]
 simp [qem, -List.any_eq_true, -Bool.not_eq_true]
theorem qke (is : List Ingot) (ms : List Melt) (hi : qbn is = true) (hs : qa3 ms = true) :
   HFn Tryz.prog 200 [.sl 5 (Ingot.rows is), .sl 3 (Melt.rows ms)] [] (.bool (qcw is ms)) [] := by
 have hI := qj6 hi
 have hM := qeM hs
 have := hM.len
 refine qaa hm Tryz.func200 (by kernel_rfl) rfl (by kernel_rfl) rfl qab ?_
 simp
 refine CallZ.use0 (qjF is hI.len) rfl rfl ?_
 simp [hi]
 first | refine CallZ.use0 (qgS ms (by omega) (fun x hx => by have := hM.ing x hx; omega)) rfl rfl ?_ | refine CallY.use (fun _ => ⟨rfl, qgS ms (by omega) (fun x hx => by have := hM.ing x hx; omega)⟩) rfl rfl ?_
 simp [hs]
 first | refine CallZ.use0 (qj7 is ms hI hM) rfl rfl ?_ | refine CallY.use (fun _ => ⟨rfl, qj7 is ms hI hM⟩) rfl rfl ?_
 simp
theorem qp5 (is : List Ingot) (ms : List Melt) (bs : List Bell) (hi : qbn is = true) (hs : qa3 ms = true) (hb : qbW bs = true) :
   HFn Tryz.prog 109 [.sl 5 (Ingot.rows is), .sl 3 (Melt.rows ms), .sl 5 (Bell.rows bs)] [] (.bool (qcx is ms bs)) [] := by
 have hM := qeM hs
 have hB := qdN hb
 have := hB.len
 refine qaa hm Tryz.func109 (by kernel_rfl) rfl (by kernel_rfl) rfl qab ?_
 simp
 refine CallZ.use0 (qjH bs (by omega) (fun x hx => by have := hB.shr x hx; omega)) rfl rfl ?_
 simp [hb]
 first | refine CallZ.use0 (qke is ms hi hs) rfl rfl ?_ | refine CallY.use (fun _ => ⟨rfl, qke is ms hi hs⟩) rfl rfl ?_
 simp
 first | refine CallY.use (fun _ => ⟨rfl, qp0 ms bs hM hB⟩) rfl rfl ?_
 simp
 repeat refine ⟨by grind, ?_⟩
 first | refine CallY.use (fun _ => ⟨rfl, qp4 ms bs hM hB⟩) rfl rfl ?_
 simp [qcx]
def seenI (l : List Ingot) (s : List UInt8) (k : Nat) : Bool := (l.take k).any fun y => decide (y.id = s)
theorem qp6 (l : List Ingot) (s : List UInt8) : seenI l s 0 = false := by simp [seenI]
theorem qp7 (l : List Ingot) (s : List UInt8) {k : Nat} (hk : k < l.length) : seenI l s (k + 1) = (seenI l s k || decide (l[k].id = s)) := by
 unfold seenI
 rw [← List.take_append_getElem hk, List.any_append]
 simp
theorem qp8 (l : List Ingot) (s : List UInt8) : seenI l s l.length = hasId Ingot.id l s := by
 unfold seenI hasId
 rw [List.take_length]
theorem qp9 {l : List Ingot} {s : List UInt8} (h : qbe Ingot.id l) {k : Nat} (hk : k < l.length) (e : l[k].id = s) : seenI l s k = false := by
 unfold seenI
 rw [List.any_eq_false]
 intro y hy
 obtain ⟨j, hj, rfl⟩ := List.mem_take_iff_getElem.1 hy
 intro e2
 simp only [decide_eq_true_eq] at e2
 have := qpJ h (by omega) hk (e2.trans e.symm)
 omega
theorem qqa {l : List Ingot} {s : List UInt8} {k : Nat} (hk : k < l.length) (e : l[k].id = s) (hn : seenI l s k = false) : ixOf Ingot.id l s = k := qb4 hk (by simpa using e) fun j hj hjk => by
 have := List.any_eq_false.1 hn l[j] (List.mem_take_iff_getElem.2 ⟨j, by omega, rfl⟩)
 simpa using this
set_option maxHeartbeats 2000000 in
theorem qkf (l : List Ingot) (x : Melt) (rows : List (List PV)) (i0 : Nat) (hr : rows[i0]? = some x.cells) (hl : l.length ≤ 1048576) (hx : x.ingots.length ≤ 1048576) (h : qbe Ingot.id l) :
   HFn Tryz.prog 214 [.sl 5 (Ingot.rows l), .pe 3 rows i0 0] [] (.tup [.sf 0 1, .bool (qbw l x.ingots)]) [some (.arr 1 (qad (choN l x.ingots)))] := by
 have hi0 : i0 < rows.length := (List.getElem?_eq_some_iff.1 hr).1
 have hx0 : rows[i0] = x.cells := (List.getElem?_eq_some_iff.1 hr).2
 rw [Melt.cells] at hr hx0
 refine qaa hm Tryz.func214 (by kernel_rfl) rfl (by kernel_rfl) rfl (fun _ _ h => h) ?_
 simp
 refine qac hm x.ingots.length (fun i => ⟨[(0, .sl 5 (Ingot.rows l)), (1, .pe 3 rows i0 0), (6, .sf 0 1), (7, .int .i64 i)], [some (.arr 1 (qad ((ixN l x.ingots).take i)))]⟩) (fun i => ∀ j (h : j < x.ingots.length), j < i → hasId Ingot.id l x.ingots[j] = true) (by kernel_rfl) ?_ (by simp) (fun i hi hI => ?_) (fun hI => ?_)
 · exact (qaI (t := 6) (z := 1) rfl).trans (Wk.weak (ρ := [0]) (φ := []) (by simp [qad]))
 · have w1 : IntKind.i64.wrap ((i : Int) + 1) = (i : Int) + 1 := w64 (by omega) (by omega)
   have hlen : ((ixN l x.ingots).take i).length = i := by rw [List.length_take, qfQ]; omega
   rw [qj1 l x.ingots hi]
   generalize (ixN l x.ingots).take i = T at hlen ⊢
   simp [hi0, hx0, qaG, hi]
   refine qac hm l.length (fun k => ⟨[(0, .sl 5 (Ingot.rows l)), (1, .pe 3 rows i0 0), (6, .sf 0 1), (7, .int .i64 i), (8, .bool (seenI l x.ingots[i] k)), (9, .int .i64 k)], [some (.arr 1 (qad (if seenI l x.ingots[i] k = true then T ++ [ixOf Ingot.id l x.ingots[i]] else T)))]⟩) (fun _ => True) (by kernel_rfl) ?_ trivial (fun k hk _ => ?_) (fun _ => ?_)
   · exact Wk.weak (ρ := [0]) (φ := []) (by simp [qp6])
   · have w2 : IntKind.i64.wrap ((k : Int) + 1) = (k : Int) + 1 := w64 (by omega) (by omega)
     rw [qp7 l _ hk]
     by_cases e : l[k].id = x.ingots[i]
     · have hnone := qp9 h hk e
       have hix := qqa hk e hnone
       simp [hi0, hx0, qaG, qdK, Ingot.rows, Ingot.cells, hi, hk, e, hnone, hix, qar]
       refine ⟨by simp [rowsOne], by omega, by omega, Wk.weak (ρ := [0]) (φ := []) ?_⟩
       simp [w2, qcv]
       rfl
     · simp [hi0, hx0, qaG, qdK, Ingot.rows, Ingot.cells, hi, hk, e]
       refine Wk.weak (ρ := [0]) (φ := []) ?_
       simp [w2]
   · rw [qp8]
     simp [Ingot.rows_len]
     refine ⟨fun hn => ?_, fun hn => ⟨qbX hi hI hn, Wk.weak (ρ := [0]) (φ := []) ?_⟩⟩
     · have hk := qj2 hi hn
       refine (qdi (t := 0) 0 1 rfl rfl).trans (Wk.weak (ρ := [1]) (φ := []) ?_)
       simp [choN, hk, qad]
     · simp [w1, hn]
 · simp [hi0, hx0, qaG]
   have hk := qj3 hI
   refine Wk.weak (ρ := [0]) (φ := []) ?_
   simp [hk, choN, ← qfQ l x.ingots]
set_option maxHeartbeats 1000000 in
theorem qqb (l : List Ingot) (x : Melt) (rows : List (List PV)) (i0 : Nat) (hr : rows[i0]? = some x.cells) (hl : l.length ≤ 1048576) (hx : x.ingots.length ≤ 1048576) (h : qbe Ingot.id l) :
   HFn Tryz.prog 285 [.sl 5 (Ingot.rows l), .pe 3 rows i0 0] [] (.int .i64 (qa5 l x.ingots)) [] := by
 have hlen := qgZ l x.ingots
 have hmem : ∀ k ∈ choN l x.ingots, 0 ≤ k ∧ k < l.length := fun k hk => qjZ hk
 refine qaa hm Tryz.func285 (by kernel_rfl) rfl (by kernel_rfl) rfl qab ?_
 simp
 refine CallZ.use (qkf l x rows i0 hr hl hx h) rfl (.inr ⟨qcm _, trivial⟩) rfl rfl ?_
 unfold qa5
 generalize choN l x.ingots = ks at hlen hmem ⊢
 simp
 refine qac hm ks.length (fun i => ⟨[(0, .sl 5 (Ingot.rows l)), (5, .sf 0 1), (7, .int .i64 (sumA l ks i)), (8, .int .i64 i)], [some (.arr 1 (qad ks))]⟩) (fun _ => True) (by kernel_rfl) ?_ trivial (fun i hi _ => ?_) (fun _ => ?_)
 · exact Wk.weak (ρ := [0]) (φ := []) (by simp [sumA])
 · have w1 : IntKind.i64.wrap ((i : Int) + 1) = (i : Int) + 1 := w64 (by omega) (by omega)
   obtain ⟨h0, h1⟩ := hmem ks[i] (List.getElem_mem hi)
   have hn : ks[i].toNat < l.length := by omega
   rw [qgY l ks hi, qj5 l h0 h1]
   simp [qar, qcf, hi, Ingot.rows, Ingot.cells, h0, h1, hn]
   refine Wk.weak (ρ := [0]) (φ := []) ?_
   simp [w1]
 · simp [qar]
theorem qqc (l : List Ingot) (x : Melt) (rows : List (List PV)) (i0 : Nat) (hr : rows[i0]? = some x.cells) (hl : IngOk l) (hx : x.ingots.length ≤ 16) :
   HFn Tryz.prog 215 [.sl 5 (Ingot.rows l), .pe 3 rows i0 0] [] (.int .i64 (mostN l x.ingots)) [] := by
 have km := qqb l x rows i0 hr hl.len (by omega) hl.rise
 obtain ⟨b1, b2⟩ := qj0 hl.mass hx
 have w1 : IntKind.i64.wrap (qa5 l x.ingots * 20000) = qa5 l x.ingots * 20000 := w64 (by omega) (by omega)
 have kn := qbC (qa5 l x.ingots * 20000) 1000000 ⟨by omega, by omega⟩ (by omega) (by omega)
 have hv : nearV (qa5 l x.ingots * 20000) 1000000 = (2 * (qa5 l x.ingots * 20000) + 1000000) / (2 * 1000000) := by
   unfold nearV
   rw [if_neg (by omega), Int.tdiv_eq_ediv_of_nonneg (by omega)]
 refine qaa hm Tryz.func215 (by kernel_rfl) rfl (by kernel_rfl) rfl qab ?_
 simp
 refine CallZ.use0 km rfl rfl ?_
 simp [w1]
 refine CallZ.use0 kn rfl rfl ?_
 simp [mostN]
 exact w64 (by omega) (by omega)
theorem qqd {l : List Ingot} {ms : List Melt} {i : Nat} (hi : i < ms.length) (h : qbw l ms[i].ingots = false ∨ mostN l ms[i].ingots < ms[i].mass) : qcw l ms = false := by
 rcases h with h | h
 · have : (ms.any fun x => !qbw l x.ingots) = true := List.any_eq_true.2 ⟨_, List.getElem_mem hi, by simp [h]⟩
   simp only [qcw, qeL, this, Bool.not_true, Bool.false_and]
 · have : (ms.any fun x => decide (mostN l x.ingots < x.mass)) = true := List.any_eq_true.2 ⟨_, List.getElem_mem hi, by simp [h]⟩
   simp only [qcw, this, Bool.not_true, Bool.and_false]
theorem qqe {l : List Ingot} {ms : List Melt} (h : ∀ j (hj : j < ms.length), j < ms.length → qbw l ms[j].ingots = true ∧ ms[j].mass ≤ mostN l ms[j].ingots) : qcw l ms = true := by
 have h1 : (ms.any fun x => !qbw l x.ingots) = false := by
   rw [List.any_eq_false]
   intro y hy
   obtain ⟨j, hj, rfl⟩ := List.getElem_of_mem hy
   simp [(h j hj hj).1]
 have h2 : (ms.any fun x => decide (mostN l x.ingots < x.mass)) = false := by
   rw [List.any_eq_false]
   intro y hy
   obtain ⟨j, hj, rfl⟩ := List.getElem_of_mem hy
   simpa using (h j hj hj).2
 simp only [qcw, qeL, h1, h2, Bool.not_false, Bool.and_true]
set_option maxHeartbeats 1000000 in
theorem qkg (l : List Ingot) (ms : List Melt) (hl : IngOk l) (hs : MelOk ms) :
   HFn Tryz.prog 126 [.sl 5 (Ingot.rows l), .sl 3 (Melt.rows ms)] [] (.bool (qcw l ms)) [] := by
 have := hs.len
 refine qaa hm Tryz.func126 (by kernel_rfl) rfl (by kernel_rfl) rfl qab ?_
 simp
 refine qac hm ms.length (fun i => ⟨[(0, .sl 5 (Ingot.rows l)), (1, .sl 3 (Melt.rows ms)), (5, .int .i64 i)], []⟩) (fun i => ∀ j (h : j < ms.length), j < i → qbw l ms[j].ingots = true ∧ ms[j].mass ≤ mostN l ms[j].ingots) (by kernel_rfl) ?_ (by simp) (fun i hi hI => ?_) (fun hI => ?_)
 · exact Wk.weak (ρ := []) (φ := []) (by simp)
 · have w1 : IntKind.i64.wrap ((i : Int) + 1) = (i : Int) + 1 := w64 (by omega) (by omega)
   have h16 := hs.ing _ (List.getElem_mem hi)
   have hr : (Melt.rows ms)[i]? = some ms[i].cells := by simp [Melt.rows, hi]
   simp [Melt.rows_len, hi]
   refine CallZ.use (qkf l ms[i] (Melt.rows ms) i hr hl.len (by omega) hl.rise) rfl (.inr ⟨qcm _, trivial⟩) rfl rfl ?_
   simp [Melt.rows_len, Melt.row_get, Melt.cells, hi]
   repeat refine ⟨by grind, ?_⟩
   refine CallY.use (fun _ => ⟨rfl, qqc l ms[i] (Melt.rows ms) i hr hl h16⟩) rfl rfl ?_
   simp
   repeat refine ⟨by grind, ?_⟩
   refine ⟨fun h => qqd hi (by grind), fun h1 h2 => ⟨qbX hi hI ⟨h1, by grind⟩, Wk.weak (ρ := []) (φ := []) ?_⟩⟩
   simp [w1]
 · simp [Melt.rows_len]
   exact qqe hI
theorem qqf (is : List Ingot) (ms : List Melt) (hi : qbn is = true) (hs : qa3 ms = true) :
   HFn Tryz.prog 39 [.sl 5 (Ingot.rows is), .sl 3 (Melt.rows ms)] [] (.bool (qcw is ms)) [] := by
 have hI := qj6 hi
 have hM := qeM hs
 have := hM.len
 refine qaa hm Tryz.func39 (by kernel_rfl) rfl (by kernel_rfl) rfl qab ?_
 simp
 refine CallZ.use0 (qjG is hI.len) rfl rfl ?_
 simp [hi]
 first | refine CallZ.use0 (qeJ ms (by omega) (fun x hx => by have := hM.ing x hx; omega)) rfl rfl ?_ | refine CallY.use (fun _ => ⟨rfl, qeJ ms (by omega) (fun x hx => by have := hM.ing x hx; omega)⟩) rfl rfl ?_
 simp [hs]
 first | refine CallZ.use0 (qkg is ms hI hM) rfl rfl ?_ | refine CallY.use (fun _ => ⟨rfl, qkg is ms hI hM⟩) rfl rfl ?_
 simp
theorem qqg (ms : List Melt) (s : List UInt8) (hl : ms.length ≤ 1048576) :
   HFn Tryz.prog 216 [.sl 3 (Melt.rows ms), .str s] [] (.int .i64 (ixOf Melt.id ms s)) [] := by
 refine qaa hm Tryz.func216 (by kernel_rfl) rfl (by kernel_rfl) rfl qab ?_
 simp
 refine qac hm ms.length (fun i => ⟨[(0, .sl 3 (Melt.rows ms)), (1, .str s), (5, .int .i64 i)], []⟩) (fun i => ∀ j (h : j < ms.length), j < i → decide (ms[j].id = s) = false) (by kernel_rfl) ?_ (by simp) (fun i hi hI => ?_) (fun hI => ?_)
 · exact Wk.weak (ρ := []) (φ := []) (by simp)
 · have w1 : IntKind.i64.wrap ((i : Int) + 1) = (i : Int) + 1 := w64 (by omega) (by omega)
   simp [Melt.rows_len, Melt.row_get, Melt.cells, hi]
   refine ⟨fun h => (qb4 hi (by simpa using h) hI).symm, fun h => ⟨?_, Wk.weak (ρ := []) (φ := []) ?_⟩⟩
   · simpa using qbX (p := fun j hj => decide (ms[j].id = s) = false) hi hI (by simpa using h)
   · simp [w1]
 · simp [Melt.rows_len]
   exact (qb5 fun j hj => hI j hj hj).symm
theorem qqh (ms : List Melt) (b : Bell) (rows : List (List PV)) (i0 : Nat) (hr : rows[i0]? = some b.cells) (hl : ms.length ≤ 1048576) (hb : b.shares.length ≤ 1048576) :
   HFn Tryz.prog 127 [.sl 3 (Melt.rows ms), .pe 5 rows i0 0] [] (.bool (haveB ms b)) [] := by
 have hi0 : i0 < rows.length := (List.getElem?_eq_some_iff.1 hr).1
 have hx0 : rows[i0] = b.cells := (List.getElem?_eq_some_iff.1 hr).2
 rw [Bell.cells] at hr hx0
 refine qaa hm Tryz.func127 (by kernel_rfl) rfl (by kernel_rfl) rfl qab ?_
 simp
 refine qac hm b.shares.length (fun i => ⟨[(0, .sl 3 (Melt.rows ms)), (1, .pe 5 rows i0 0), (5, .int .i64 i)], []⟩) (fun i => ∀ j (h : j < b.shares.length), j < i → hasId Melt.id ms b.shares[j].melt = true) (by kernel_rfl) ?_ (by simp) (fun i hi hI => ?_) (fun hI => ?_)
 · exact Wk.weak (ρ := []) (φ := []) (by simp)
 · have w1 : IntKind.i64.wrap ((i : Int) + 1) = (i : Int) + 1 := w64 (by omega) (by omega)
   have hx := qjU Melt.id ms b.shares[i].melt
   simp [hi0, hx0, Share.rows, Share.cells, hi]
   refine CallZ.use0 (qqg ms b.shares[i].melt hl) rfl rfl ?_
   simp
   refine ⟨fun h => ?_, fun h => ⟨qbX hi hI ?_, Wk.weak (ρ := []) (φ := []) ?_⟩⟩
   · rw [haveB, List.all_eq_false]
     exact ⟨_, List.getElem_mem hi, by rw [← hx]; simpa using h⟩
   · rw [← hx]; simpa using h
   · simp [w1]
 · simp [hi0, hx0, Share.rows]
   exact qkc hI
theorem qqi (ms : List Melt) (bs : List Bell) (hs : qa3 ms = true) (hb : qbW bs = true) :
   HFn Tryz.prog 40 [.sl 3 (Melt.rows ms), .sl 5 (Bell.rows bs)] [] (.int .i64 (if haveL ms bs = true then 0 else 3)) [] := by
 have hM := qeM hs
 have hB := qdN hb
 have h1 := hM.len
 have h2 := hB.len
 refine qaa hm Tryz.func40 (by kernel_rfl) rfl (by kernel_rfl) rfl qab ?_
 simp
 first | refine CallZ.use0 (qeJ ms (by omega) (fun x hx => by have := hM.ing x hx; omega)) rfl rfl ?_ | refine CallY.use (fun _ => ⟨rfl, qeJ ms (by omega) (fun x hx => by have := hM.ing x hx; omega)⟩) rfl rfl ?_
 simp [hs]
 first | refine CallZ.use0 (qgR bs (by omega) (fun x hx => by have := hB.shr x hx; omega)) rfl rfl ?_ | refine CallY.use (fun _ => ⟨rfl, qgR bs (by omega) (fun x hx => by have := hB.shr x hx; omega)⟩) rfl rfl ?_
 simp [hb]
 refine qac hm bs.length (fun i => ⟨[(0, .sl 3 (Melt.rows ms)), (1, .sl 5 (Bell.rows bs)), (5, .int .i64 i)], []⟩) (fun i => ∀ j (h : j < bs.length), j < i → haveB ms bs[j] = true) (by kernel_rfl) ?_ (by simp) (fun i hi hI => ?_) (fun hI => ?_)
 · exact Wk.weak (ρ := []) (φ := []) (by simp)
 · have w1 : IntKind.i64.wrap ((i : Int) + 1) = (i : Int) + 1 := w64 (by omega) (by omega)
   have h3 := hB.shr _ (List.getElem_mem hi)
   simp [Bell.rows_len, hi]
   refine CallZ.use0 (qqh ms bs[i] (Bell.rows bs) i (by simp [Bell.rows, hi]) (by omega) (by omega)) rfl rfl ?_
   simp
   refine ⟨fun h => ?_, fun h => ⟨qbX hi hI h, Wk.weak (ρ := []) (φ := []) ?_⟩⟩
   · have : haveL ms bs = false := by
       rw [haveL, List.all_eq_false]
       exact ⟨_, List.getElem_mem hi, by simp [h]⟩
     simp [this]
   · simp [w1]
 · simp [Bell.rows_len]
   simp [qkd hI]
set_option maxHeartbeats 2000000 in
theorem qqj (bs : List Bell) (s : List UInt8) (hb : BelOk bs) :
   HFn Tryz.prog 128 [.sl 5 (Bell.rows bs), .str s] [] (.int .i64 (qax s bs)) [] := by
 have := hb.len
 refine qaa hm Tryz.func128 (by kernel_rfl) rfl (by kernel_rfl) rfl qab ?_
 simp
 refine qac hm bs.length (fun i => ⟨[(0, .sl 5 (Bell.rows bs)), (1, .str s), (5, .int .i64 (qax s (bs.take i))), (6, .int .i64 i)], []⟩) (fun _ => True) (by kernel_rfl) ?_ trivial (fun i hi _ => ?_) (fun _ => ?_)
 · exact Wk.weak (ρ := []) (φ := []) (by simp [qax])
 · have w1 : IntKind.i64.wrap ((i : Int) + 1) = (i : Int) + 1 := w64 (by omega) (by omega)
   have h4 := hb.shr _ (List.getElem_mem hi)
   simp [Bell.rows_len, hi]
   refine qac hm bs[i].shares.length (fun k => ⟨[(0, .sl 5 (Bell.rows bs)), (1, .str s), (5, .int .i64 (qax s (bs.take i) + qaS s (bs[i].shares.take k))), (6, .int .i64 i), (7, .int .i64 k)], []⟩) (fun _ => True) (by kernel_rfl) ?_ trivial (fun k hk _ => ?_) (fun _ => ?_)
   · exact Wk.weak (ρ := []) (φ := []) (by simp [qaS])
   · have w2 : IntKind.i64.wrap ((k : Int) + 1) = (k : Int) + 1 := w64 (by omega) (by omega)
     have hs := qka s bs[i].shares hk
     have hin := qfR hb s hi (k := k)
     have hin2 := qfR hb s hi (k := k + 1)
     have hmk := hb.mass _ (List.getElem_mem hi) _ (List.getElem_mem hk)
     rw [hs]
     generalize qax s (bs.take i) = A at *
     generalize qaS s (bs[i].shares.take k) = B at *
     simp [Bell.rows_len, Bell.row_get, Bell.cells, Share.rows, Share.cells, hi, hk]
     refine ⟨fun h => Wk.weak (ρ := []) (φ := []) ?_, fun h => Wk.weak (ρ := []) (φ := []) ?_⟩
     · simp [w2, h]
       rw [w64 (by omega) (by omega)]
       omega
     · simp [w2, h]
   · rw [List.take_length, qj9 _ _ hi]
     simp [Bell.rows_len, Bell.row_get, Bell.cells, Share.rows_len, hi]
     refine Wk.weak (ρ := []) (φ := []) ?_
     simp [w1]
 · rw [List.take_length]
   simp [Bell.rows_len]
theorem qqk (ms : List Melt) (bs : List Bell) (hs : MelOk ms) (hb : BelOk bs) :
   HFn Tryz.prog 41 [.sl 3 (Melt.rows ms), .sl 5 (Bell.rows bs)] [] (.bool (qem ms bs)) [] := by
 have := hs.len
 refine qaa hm Tryz.func41 (by kernel_rfl) rfl (by kernel_rfl) rfl qab ?_
 simp
 refine qac hm ms.length (fun i => ⟨[(0, .sl 3 (Melt.rows ms)), (1, .sl 5 (Bell.rows bs)), (5, .int .i64 i)], []⟩) (fun i => ∀ j (h : j < ms.length), j < i → qax ms[j].id bs ≤ ms[j].mass) (by kernel_rfl) ?_ (by simp) (fun i hi hI => ?_) (fun hI => ?_)
 · exact Wk.weak (ρ := []) (φ := []) (by simp)
 · have w1 : IntKind.i64.wrap ((i : Int) + 1) = (i : Int) + 1 := w64 (by omega) (by omega)
   simp [Melt.rows_len, Melt.row_get, Melt.cells, hi]
   refine CallZ.use0 (qqj bs ms[i].id hb) rfl rfl ?_
   simp [Melt.rows_len, Melt.row_get, Melt.cells, hi]
   refine ⟨fun h => ?_, fun h => ⟨qbX hi hI h, Wk.weak (ρ := []) (φ := []) ?_⟩⟩
   · have : (ms.any fun x => decide (x.mass < qax x.id bs)) = true := List.any_eq_true.2 ⟨_, List.getElem_mem hi, by simpa using h⟩
     simp only [qem, this, Bool.not_true]
   · simp [w1]
 · simp [Melt.rows_len]
   have : (ms.any fun x => decide (x.mass < qax x.id bs)) = false := by
     rw [List.any_eq_false]
     intro y hy
     obtain ⟨j, hj, rfl⟩ := List.getElem_of_mem hy
     simpa using hI j hj hj
   simp only [qem, this, Bool.not_false]
theorem qql (is : List Ingot) (ms : List Melt) (bs : List Bell) (hi : qbn is = true) (hs : qa3 ms = true) (hb : qbW bs = true) :
   HFn Tryz.prog 9 [.sl 5 (Ingot.rows is), .sl 3 (Melt.rows ms), .sl 5 (Bell.rows bs)] [] (.bool (qcx is ms bs)) [] := by
 have hM := qeM hs
 have hB := qdN hb
 refine qaa hm Tryz.func9 (by kernel_rfl) rfl (by kernel_rfl) rfl qab ?_
 simp
 refine CallZ.use0 (qqf is ms hi hs) rfl rfl ?_
 simp
 refine CallY.use (fun _ => ⟨rfl, qqi ms bs hs hb⟩) rfl rfl ?_
 simp
 repeat refine ⟨by grind, ?_⟩
 refine CallY.use (fun _ => ⟨rfl, qqk ms bs hM hB⟩) rfl rfl ?_
 simp [qcx]
 try grind
end Go.Proofs.YtcjpfjklhhclmaaGreatDoor
