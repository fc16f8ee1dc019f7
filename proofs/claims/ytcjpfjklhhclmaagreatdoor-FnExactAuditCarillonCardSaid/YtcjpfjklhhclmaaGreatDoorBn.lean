/- Contracts: the audit of a carillon. No condition. -/
import Derived.Test.YtcjpfjklhhclmaaGreatDoorBm
import Derived.Test.YtcjpfjklhhclmaaGreatDoorBp
namespace Go.Proofs.YtcjpfjklhhclmaaGreatDoor
open Go Go.Ab
set_option maxRecDepth 100000
def catTo (g : Nat → List Trouble) (i : Nat) : List Trouble := ((List.range i).map g).flatten
theorem qk4 (g : Nat → List Trouble) (i : Nat) : catTo g (i + 1) = catTo g i ++ g i := by
 unfold catTo
 rw [List.range_succ]
 simp
theorem qrM {g : Nat → List Trouble} (hg : ∀ k, (g k).length ≤ 2000) (i : Nat) : (catTo g i).length ≤ 2000 * i := by
 induction i with
 | zero => simp [catTo]
 | succ i ih =>
   rw [qk4, List.length_append]
   have := hg i
   omega
def auR (c : Carillon) (L : List Trouble) : List Trouble := if carOk c = true then L else []
def auC (c : Carillon) : Int := if carOk c = true then 0 else 1
set_option maxHeartbeats 4000000 in
theorem qrN (c : Carillon) (hs : c.small) (fs : List Nat) (g : Nat → List Trouble) (hn : fs.length ≤ 4) (hg : ∀ k, (g k).length ≤ 2000)
   (hf : CarOk c → ∀ k (h : k < fs.length), HFn Tryz.prog fs[k] [.agg c.cells] [] (.sf 0 3) [trO (g k)]) :
   HFn Tryz.prog 34 [.agg c.cells, .sl 1 (qb2 fs)] [] (.tup [.sf 0 3, .int .i64 (auC c)]) [trO (auR c (catTo g fs.length))] := by
 have kV := qpA c hs
 simp only [Carillon.cells] at kV
 refine qaa hm Tryz.func34 (by kernel_rfl) rfl (by kernel_rfl) rfl (fun _ _ h => h) ?_
 simp [Carillon.cells]
 refine CallZ.use0 kV rfl rfl ?_
 cases hv : carOk c
 · simp
   refine (qdi (t := 0) 0 3 rfl rfl).trans (Wk.weak (ρ := [1]) (φ := []) ?_)
   simp [auR, auC, hv, Trouble.rows]
 · have hc := qfS hs hv
   have kF := hf hc
   simp only [Carillon.cells] at kF
   simp [qk3]
   refine qac hm fs.length (fun i => ⟨[(2, .pb 0 0), (6, .sf 1 3), (12, .sl 1 (qb2 fs)), (13, .int .i64 fs.length), (14, .int .i64 i)], [some (.box c.cells), trO (catTo g i)]⟩) (fun _ => True) (by kernel_rfl) ?_ trivial (fun i hi _ => ?_) (fun _ => ?_)
   · exact (qaI (t := 6) (z := 3) rfl).trans (Wk.weak (ρ := [0, 1]) (φ := []) (by simp [Carillon.cells, catTo, Trouble.rows]))
   · have w1 : IntKind.i64.wrap ((i : Int) + 1) = (i : Int) + 1 := w64 (by omega) (by omega)
     have hle := qrM hg i
     have hgi := hg i
     rw [qk4]
     generalize catTo g i = T at hle ⊢
     simp [Carillon.cells, qb2, hi]
     refine CallZ.use (kF i hi) rfl (.inr ⟨Trouble.flat _, trivial⟩) rfl rfl ?_
     generalize g i = G at hgi ⊢
     simp [Trouble.rows_len]
     refine ⟨Trouble.one _, by omega, by omega, Wk.weak (ρ := [0, 1]) (φ := []) ?_⟩
     simp [w1, qkh]
   · simp
     refine Wk.weak (ρ := [1]) (φ := []) ?_
     simp [auR, auC, hv]
theorem qhh {c : Carillon} (hc : CarOk c) : (qbY c).length ≤ 2000 := by
 have h1 := qeP c c.hung.length
 have h2 := hc.hl
 unfold qbY
 omega
theorem qhi {c : Carillon} (hc : CarOk c) : (roomL c).length ≤ 2000 := by
 have h1 := qcL (qeW c.places) c.hung c.hung.length
 have h2 := hc.hl
 have hp := qeo hc.plac
 have hol : (outsL c).length ≤ 24 := Nat.le_trans (qeU _ _ _ _) hp
 have hcl : (qcN c).length ≤ 576 := Nat.le_trans (qeV _ _ _) (Nat.mul_le_mul hp hp)
 unfold roomL
 rw [List.length_append, List.length_append, List.length_map, List.length_map]
 omega
theorem qhj {c : Carillon} (hc : CarOk c) : (qbI c).length ≤ 2000 := by
 have h1 := qdW c c.frame.length
 have h2 := (qhf hc.fram).1
 unfold qbI
 omega
theorem qhk {c : Carillon} (hc : CarOk c) : (qc6 c).length ≤ 2000 := by
 have h1 := qcL (qhg c) (qa8 c.tune) (qa8 c.tune).length
 have h2 := (qg9 hc.tune).1
 unfold qc6
 omega
def partL (c : Carillon) (k : Nat) : List Trouble := if carOk c = true then (if k = 0 then qbY c else if k = 1 then roomL c else if k = 2 then qbI c else qc6 c) else []
theorem qrO {c : Carillon} (hs : c.small) (k : Nat) : (partL c k).length ≤ 2000 := by
 unfold partL
 split
 · rename_i hv
   have hc := qfS hs hv
   split
   · exact qhh hc
   · split
     · exact qhi hc
     · split
       · exact qhj hc
       · exact qhk hc
 · simp
def allL (c : Carillon) : List Trouble := qbY c ++ roomL c ++ qbI c ++ qc6 c
theorem qrP (c : Carillon) (hs : c.small) : HFn Tryz.prog 8 [.agg c.cells] [] (.tup [.sf 0 3, .int .i64 (auC c)]) [trO (auR c (allL c))] := by
 have k := qrN c hs [35, 36, 37, 38] (partL c) (by decide) (qrO hs) (fun hc k hk => by
   have hv : carOk c = true := by simp [carOk, hc.ing, hc.mel, hc.bel, hc.hung, hc.cham, hc.plac, hc.gap, hc.tow, hc.fram, hc.stress, hc.bend, hc.clav, hc.tune]
   match k, hk with
   | 0, _ => simpa [partL, hv] using qqn c hc
   | 1, _ => simpa [partL, hv] using qrw c hc
   | 2, _ => simpa [partL, hv] using qrD c hc
   | 3, _ => simpa [partL, hv] using qrH c hc)
 have e : auR c (catTo (partL c) 4) = auR c (allL c) := by
   unfold auR catTo allL partL
   cases hv : carOk c <;> simp [List.range_succ]
 simp only [List.length_cons, List.length_nil, Nat.zero_add, Nat.reduceAdd] at k
 rw [e] at k
 simp only [Carillon.cells, qb2, List.map_cons, List.map_nil] at k
 refine qmc [1] hm Tryz.func8 (by kernel_rfl) rfl (by kernel_rfl) rfl (fun _ _ h => h) ?_
 simp [Carillon.cells]
 refine qrL (fs := [35, 36, 37, 38]) 1 (by kernel_rfl) rfl rfl rfl (by simp) (by simp) ?_
 simp [qb2]
 refine CallZ.use k rfl (.inr ⟨Trouble.flat _, trivial⟩) rfl rfl ?_
 simp
 exact Wk.weak (ρ := [1]) (φ := []) (by simp)
theorem qk5 {c : Carillon} (hc : CarOk c) : (qbY c ++ roomL c).length ≤ 4000 ∧ (qbY c ++ roomL c ++ qbI c).length ≤ 6000 ∧ (allL c).length ≤ 8000 := by
 have h1 := qhh hc
 have h2 := qhi hc
 have h3 := qhj hc
 have h4 := qhk hc
 unfold allL
 simp only [List.length_append]
 omega
set_option maxHeartbeats 4000000 in
theorem qrQ (c : Carillon) (tl : List PV) (w : Nat) (rows : List (List PV)) (i0 : Nat) (hr : rows[i0]? = some (c.cells ++ tl)) (hc : CarOk c) : HFn Tryz.prog 65 [.pe (w + 20) rows i0 0] [] (.sf 0 3) [trO (allL c)] := by
 obtain ⟨h1, h2, h3⟩ := qk5 hc
 have m1 := qhh hc
 have m2 := qhi hc
 have m3 := qhj hc
 have m4 := qhk hc
 have k1 := qqp c tl w rows i0 hr hc
 have k2 := qry c tl w rows i0 hr hc
 have k3 := qrE c tl w rows i0 hr hc
 have k4 := qrJ c tl w rows i0 hr hc
 refine qaa hm Tryz.func65 (by kernel_rfl) rfl (by kernel_rfl) rfl (fun _ _ h => h) ?_
 unfold allL at h3 ⊢
 generalize qbY c = A at *
 generalize roomL c = B at *
 generalize qbI c = C at *
 generalize qc6 c = D at *
 simp
 refine CallZ.use k1 rfl (.inr ⟨Trouble.flat _, trivial⟩) rfl rfl ?_
 simp [Trouble.rows_len]
 refine ⟨Trouble.one _, by omega, by omega, ?_⟩
 refine CallZ.use k2 rfl (.inr ⟨Trouble.flat _, trivial⟩) rfl rfl ?_
 simp [Trouble.rows_len]
 refine ⟨Trouble.one _, by omega, by omega, ?_⟩
 refine CallZ.use k3 rfl (.inr ⟨Trouble.flat _, trivial⟩) rfl rfl ?_
 simp [Trouble.rows_len]
 refine ⟨Trouble.one _, by omega, by omega, ?_⟩
 refine CallZ.use k4 rfl (.inr ⟨Trouble.flat _, trivial⟩) rfl rfl ?_
 simp [Trouble.rows_len]
 refine ⟨Trouble.one _, by omega, by omega, Wk.weak (ρ := [1]) (φ := []) ?_⟩
 simp [qkh]
end Go.Proofs.YtcjpfjklhhclmaaGreatDoor
