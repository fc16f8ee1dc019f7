/- Contracts: a pin is removed, whole. -/
import Derived.Test.YtoeklljhjhidbaaGreatDoorFe
import Derived.Test.YtoeklljhjhidbaaGreatDoorKc
namespace Go.Proofs.YtoeklljhjhidbaaGreatDoor
open Go Go.Ab
set_option maxRecDepth 100000

def remCode (d : Drum) (p : Pin) : Int := if validDrum d = true then (if findP d.pins p < 0 then 3 else 0) else 1
def remD (d : Drum) (p : Pin) : Drum := if remCode d p = 0 then ⟨d.steps, d.rest, d.notes, d.pins.take (findP d.pins p).toNat ++ d.pins.drop ((findP d.pins p).toNat + 1)⟩ else ⟨0, 0, [], []⟩
theorem remD_le (d : Drum) (p : Pin) : (remD d p).notes.length ≤ d.notes.length ∧ (remD d p).pins.length ≤ d.pins.length := by
  unfold remD
  split
  · simp only
    rw [List.length_append, List.length_take, List.length_drop]
    omega
  · simp
/-- A drum as a result: of two own slices. -/
@[simp] def Drum.res (d : Drum) : PV := .agg [.int .i64 d.steps, .int .i64 d.rest, .sf 0 1, .sf 1 2]
@[simp] def Drum.objs (d : Drum) : Heap := [some (.arr 1 (intRows d.notes)), some (.arr 2 (Pin.rows d.pins))]

/-- No drum. -/
theorem weak_nodrum [Go.Ab.Drwn] {H : Heap} {c : Int} : Weak ⟨[(0, .tup [.agg [.int .i64 0, .int .i64 0, .nils, .nils], .int .i64 c])], H⟩ ⟨[(0, .tup [.agg [.int .i64 0, .int .i64 0, .sf 0 1, .sf 1 2], .int .i64 c])], [some (.arr 1 []), some (.arr 2 [])]⟩ := by
  refine (weak_nilTA (t := 0) 0 2 1 rfl rfl rfl).trans ?_
  refine (weak_nilTA (t := 0) 0 3 2 rfl rfl rfl).trans (Wk.weak (ρ := [H.length, H.length + 1]) (φ := []) ?_)
  simp

theorem remD_bad {d : Drum} {p : Pin} {c : Int} (hc : remCode d p = c) (h : c ≠ 0) : remD d p = ⟨0, 0, [], []⟩ := by unfold remD; rw [hc, if_neg h]
theorem remD_good {d : Drum} {p : Pin} {k : Nat} (h : validDrum d = true) (hf : findP d.pins p = k) : remCode d p = 0 ∧ remD d p = ⟨d.steps, d.rest, d.notes, d.pins.take k ++ d.pins.drop (k + 1)⟩ := by
  have hc : remCode d p = 0 := by simp [remCode, h, hf]
  exact ⟨hc, by unfold remD; rw [if_pos hc, hf]; rfl⟩

theorem c_impl_RemovePin [Go.Ab.Drwn] (d : Drum) (p : Pin) (hn : d.notes.length ≤ 1048576) (hp : d.pins.length ≤ 1048576) :
    HFn Tryz.prog 13 [.agg d.cells, .agg p.cells] [] (.tup [(remD d p).res, .int .i64 (remCode d p)]) (remD d p).objs := by
  refine hfn_intro hm Tryz.func13 (by kernel_rfl) rfl (by kernel_rfl) rfl (fun _ _ h => h) ?_
  simp [Drum.cells, Pin.cells]
  refine CallZ.use0 (c_impl_ValidDrum d hn hp) rfl rfl ?_
  simp
  refine ⟨fun h => ?_, fun h => ?_⟩
  · have hb : remCode d p = 1 := by simp [remCode, h]
    rw [remD_bad hb (by decide), hb]
    exact weak_nodrum
  have hc := cutG_cut (pins_order h p)
  refine CallZ.use0 (c_BSearchPin d.pins p (cAt d.pins fun x => cmpPin x p) (cutG d.pins fun x => cmpPin x p) hp hc (fun i hi => cAt_eq hi)) rfl rfl ?_
  rw [← foundG_at]
  simp
  have hf := findG_eq (pins_order h p)
  rw [← findP_eq] at hf
  refine ⟨fun hk => ?_, fun hk => ?_⟩
  · rw [hk, if_neg (by simp)] at hf
    have hb : remCode d p = 3 := by simp [remCode, h, hf]
    rw [remD_bad hb (by decide), hb]
    exact weak_nodrum
  rw [hk, if_pos rfl] at hf
  have hlt := foundG_lt hk
  generalize cutG d.pins (fun x => cmpPin x p) = k at *
  have hw : IntKind.i64.wrap ((k : Int) + 1) = ((k + 1 : Nat) : Int) := by rw [w64 (by omega) (by omega)]; omega
  refine CallZ.use (c_copyDrum d hn hp) rfl (.inr ⟨flat_intRows _, Pin.flat _, trivial⟩) rfl rfl ?_
  simp [hw, -Int.natCast_add]
  refine CallZ.useM [4] [] [4] (c_DeletePin (Pin.rows d.pins) k (k + 1) (Pin.rowsOne _) (by omega) (by rw [Pin.rows_len]; exact hlt) (by rw [Pin.rows_len]; exact hp)) (by simp) rfl rfl (by simp) rfl rfl rfl (.inl rfl) ?_
  simp
  obtain ⟨hb, hD⟩ := remD_good h hf
  refine Wk.weak (ρ := [3, 4]) (φ := []) ?_
  simp [hb, hD, Pin.rows]

end Go.Proofs.YtoeklljhjhidbaaGreatDoor
