/- The swings of hung bells: contracts. No condition. Contract of the law SwingsOf. -/
import Derived.Test.YtdnflnpihcghcaaGreatDoorZc
namespace Go.Proofs.YtdnflnpihcghcaaGreatDoor
open Go Go.Ab
set_option maxRecDepth 100000

def swFine (h : Hung) : Bool := swingOk (swingV h)
/-- All swings are fine. -/
def sfine (l : List Hung) : Bool := l.all swFine
def sCode (l : List Hung) : Int := if sfine l = true then 0 else 6
def swingsL (l : List Hung) : List Swing := if sfine l = true then l.map swingV else []
theorem swingsL_len (l : List Hung) : (swingsL l).length ≤ l.length := by
  unfold swingsL
  split <;> simp
theorem all_upto {l : List Hung} (h : ∀ j, j < l.length → ∀ (hj : j < l.length), swFine l[j] = true) : sfine l = true := show l.all swFine = true from List.all_eq_true.2 fun x hx => by
  obtain ⟨i, hi, rfl⟩ := List.getElem_of_mem hx
  exact h i hi hi
theorem all_not {l : List Hung} {i : Nat} (hi : i < l.length) (h : swFine l[i] = false) : sfine l = false := by
  cases e : sfine l with
  | false => rfl
  | true =>
    have := List.all_eq_true.1 (show l.all swFine = true from e) _ (List.getElem_mem hi)
    rw [h] at this
    cases this
theorem swing_succ {l : List Hung} {i : Nat} (hi : i < l.length) : (l.take (i + 1)).map swingV = (l.take i).map swingV ++ [swingV l[i]] := by
  rw [← List.take_append_getElem hi, List.map_append]
  rfl
theorem upto_fine {l : List Hung} {i : Nat} (hI : ∀ j, j < i → ∀ (hj : j < l.length), swFine l[j] = true) {hi : i < l.length} (h : swFine l[i] = true) : ∀ j, j < i + 1 → ∀ (hj : j < l.length), swFine l[j] = true := fun j hj hjl => by
  by_cases e : j = i
  · subst e; exact h
  · exact hI j (by omega) hjl
set_option maxHeartbeats 2000000 in
theorem c_swingsOf (l : List Hung) (hl : l.length ≤ 1048576) (hv : ∀ h ∈ l, hungOk h = true) : HFn Tryz.prog 188 [.sl 5 (Hung.rows l)] [] (.tup [.sf 0 3, .bool (sfine l)]) [some (.arr 3 (Swing.rows (swingsL l)))] := by
  refine hfn_intro hm Tryz.func188 (by kernel_rfl) rfl (by kernel_rfl) rfl (fun _ _ h => h) ?_
  simp [Hung.rows_len]
  refine loop_upto hm l.length (fun i => ⟨[(4, .sf 0 3), (11, .sl 5 (Hung.rows l)), (12, .int .i64 l.length), (13, .int .i64 i)], [some (.arr 3 (Swing.rows ((l.take i).map swingV)))]⟩) (fun i => ∀ j, j < i → ∀ (hj : j < l.length), swFine l[j] = true) (by kernel_rfl) ?_ (by simp) (fun i hi hI => ?_) (fun hI => ?_)
  · refine (weak_nil (t := 4) (z := 3) rfl).trans (Wk.weak (ρ := [0]) (φ := []) ?_)
    simp [Swing.rows]
  · have w1 : IntKind.i64.wrap ((i : Int) + 1) = (i : Int) + 1 := w64 (by omega) (by omega)
    have hk := hv _ (List.getElem_mem hi)
    have k := hung_in hk
    obtain ⟨_, _, _, _, p0, p1⟩ := per_le k
    have kg := c_GreatestHorizontal l[i] hk
    have kp := c_periodOf l[i] k
    have kn := c_nearest 1000000 (max (perV l[i]) 1) ⟨by decide, by decide⟩ (by omega) (by omega)
    have er : nearV 1000000 (max (perV l[i]) 1) = rateV l[i] := rfl
    rw [er] at kn
    have ks := c_validSwing (swingV l[i])
    have hs : (swingV l[i]).cells = [.str l[i].bell, .int .i64 (rateV l[i]), .int .i64 (bestV l[i] l[i].angle.toNat).1] := rfl
    have hf : swingOk (swingV l[i]) = swFine l[i] := rfl
    rw [hs, hf] at ks
    have hsc := swing_succ hi
    have hget : (Hung.rows l)[i]'(by rw [Hung.rows_len]; exact hi) = [.str l[i].bell, .int .i64 l[i].mass, .int .i64 l[i].arm, .int .i64 l[i].form, .int .i64 l[i].angle] := by simp [Hung.rows, Hung.cells]
    have hrl : (Swing.rows ((l.take i).map swingV)).length = i := by rw [Swing.rows_len, List.length_map, List.length_take]; omega
    have hrs : Swing.rows ((l.take (i + 1)).map swingV) = Swing.rows ((l.take i).map swingV) ++ [[.str l[i].bell, .int .i64 (rateV l[i]), .int .i64 (bestV l[i] l[i].angle.toNat).1]] := by
      rw [hsc]
      simp [Swing.rows, ← hs]
    simp only [Hung.cells] at kg kp
    simp [Hung.rows_len, hi, hget]
    refine CallZ.use0 kg rfl rfl ?_
    simp
    refine CallZ.use0 kp rfl rfl ?_
    simp
    refine CallZ.use0 kn rfl rfl ?_
    simp
    refine CallZ.use0 ks rfl rfl ?_
    simp [← List.map_take, hrl]
    refine ⟨fun g => ?_, fun g => ?_⟩
    · have e1 : sfine l = false := all_not hi g
      have e2 : swingsL l = [] := by unfold swingsL; rw [if_neg (by rw [e1]; decide)]
      rw [e1, e2]
      refine (weak_nilT (t := 0) 0 3 rfl rfl).trans (Wk.weak (ρ := [3]) (φ := []) ?_)
      simp [Swing.rows]
    · refine ⟨by simp [rowsOne], by omega, by omega, fun j hj hjl => upto_fine hI g j hj hjl, Wk.weak (ρ := [0]) (φ := []) ?_⟩
      simp [w1, hrs, -List.map_take]
  · have e1 := all_upto (l := l) hI
    have e2 : swingsL l = l.map swingV := by unfold swingsL; rw [if_pos e1]
    rw [e1, e2]
    simp
    refine Wk.weak (ρ := [0]) (φ := []) ?_
    simp

set_option maxHeartbeats 2000000 in
theorem c_l31Swings (l : List Hung) (hl : l.length ≤ 1048576) (hv : ∀ h ∈ l, hungOk h = true) : HFn Tryz.prog 106 [.sl 5 (Hung.rows l)] [] (.tup [.sf 0 3, .int .i64 (sCode l)]) [some (.arr 3 (Swing.rows (swingsL l)))] := by
  refine hfn_intro hm Tryz.func106 (by kernel_rfl) rfl (by kernel_rfl) rfl (fun _ _ h => h) ?_
  simp
  refine loop_upto hm l.length (fun i => ⟨[(0, .sl 5 (Hung.rows l)), (4, .sf 0 3), (5, .int .i64 i)], [some (.arr 3 (Swing.rows ((l.take i).map swingV)))]⟩) (fun i => ∀ j, j < i → ∀ (hj : j < l.length), swFine l[j] = true) (by kernel_rfl) ?_ (by simp) (fun i hi hI => ?_) (fun hI => ?_)
  · refine (weak_nil (t := 4) (z := 3) rfl).trans (Wk.weak (ρ := [0]) (φ := []) ?_)
    simp [Swing.rows]
  · have w1 : IntKind.i64.wrap ((i : Int) + 1) = (i : Int) + 1 := w64 (by omega) (by omega)
    have hk := hv _ (List.getElem_mem hi)
    have k := hung_in hk
    obtain ⟨_, _, _, _, p0, p1⟩ := per_le k
    have hg0 : (Hung.rows l)[i]? = some l[i].cells := by simp [Hung.rows, hi]
    have kg := c_l19Most l[i] hk (Hung.rows l) i hg0
    have kp := c_l19Period l[i] k (Hung.rows l) i hg0
    have kn := c_l01Div 1000000 (max 1 (perV l[i])) ⟨by decide, by decide⟩ (by omega) (by omega)
    have er : nearV 1000000 (max 1 (perV l[i])) = rateV l[i] := by unfold rateV; rw [Int.max_comm]
    rw [er] at kn
    have ks := c_l22One (swingV l[i]) [(swingV l[i]).cells] 0 rfl
    have hs : (swingV l[i]).cells = [.str l[i].bell, .int .i64 (rateV l[i]), .int .i64 (bestV l[i] l[i].angle.toNat).1] := rfl
    have hf : swingOk (swingV l[i]) = swFine l[i] := rfl
    rw [hs, hf] at ks
    have hsc := swing_succ hi
    have hget : (Hung.rows l)[i]'(by rw [Hung.rows_len]; exact hi) = [.str l[i].bell, .int .i64 l[i].mass, .int .i64 l[i].arm, .int .i64 l[i].form, .int .i64 l[i].angle] := by simp [Hung.rows, Hung.cells]
    have hrl : (Swing.rows ((l.take i).map swingV)).length = i := by rw [Swing.rows_len, List.length_map, List.length_take]; omega
    have hrs : Swing.rows ((l.take (i + 1)).map swingV) = Swing.rows ((l.take i).map swingV) ++ [[.str l[i].bell, .int .i64 (rateV l[i]), .int .i64 (bestV l[i] l[i].angle.toNat).1]] := by
      rw [hsc]
      simp [Swing.rows, ← hs]
    simp [Hung.rows_len, hi]
    refine CallZ.use0 kg rfl rfl ?_
    simp [Hung.rows_len, hi, hget]
    refine CallZ.use0 kp rfl rfl ?_
    simp
    refine CallZ.use0 (c_l00Max _ _) rfl rfl ?_
    simp
    refine CallZ.use0 kn rfl rfl ?_
    simp
    refine CallZ.use0 ks rfl rfl ?_
    simp [← List.map_take, hrl]
    refine ⟨fun g => ?_, fun g => ?_⟩
    · have e1 : sfine l = false := all_not hi g
      have e2 : swingsL l = [] := by unfold swingsL; rw [if_neg (by rw [e1]; decide)]
      have e3 : sCode l = 6 := by unfold sCode; rw [if_neg (by rw [e1]; decide)]
      rw [e2, e3]
      refine (weak_nilT (t := 0) 0 3 rfl rfl).trans (Wk.weak (ρ := [2]) (φ := []) ?_)
      simp [Swing.rows]
    · refine ⟨by simp [rowsOne], by omega, by omega, fun j hj hjl => upto_fine hI g j hj hjl, Wk.weak (ρ := [0]) (φ := []) ?_⟩
      simp [w1, hrs, -List.map_take]
  · have e1 := all_upto (l := l) hI
    have e2 : swingsL l = l.map swingV := by unfold swingsL; rw [if_pos e1]
    have e3 : sCode l = 0 := by unfold sCode; rw [if_pos e1]
    rw [e2, e3]
    simp [Hung.rows_len]
    refine Wk.weak (ρ := [0]) (φ := []) ?_
    simp

def swCode (l : List Hung) : Int := if hungsOk l = true then (sCode l) else 1
def swOut (l : List Hung) : List Swing := if hungsOk l = true then swingsL l else []
theorem swOut_len (l : List Hung) : (swOut l).length ≤ l.length := by
  unfold swOut
  split
  · exact swingsL_len l
  · simp
theorem c_impl_SwingsOf (l : List Hung) (hl : l.length ≤ 1048576) : HFn Tryz.prog 129 [.sl 5 (Hung.rows l)] [] (.tup [.sf 0 3, .int .i64 (swCode l)]) [some (.arr 3 (Swing.rows (swOut l)))] := by
  refine hfn_intro hm Tryz.func129 (by kernel_rfl) rfl (by kernel_rfl) rfl (fun _ _ h => h) ?_
  simp
  refine CallZ.use0 (c_validHungs l hl) rfl rfl ?_
  simp
  refine ⟨fun g => ?_, fun g => ?_⟩
  · have e1 : swCode l = 1 := by unfold swCode; rw [if_neg (by rw [g]; decide)]
    have e2 : swOut l = [] := by unfold swOut; rw [if_neg (by rw [g]; decide)]
    rw [e1, e2]
    refine (weak_nilT (t := 0) 0 3 rfl rfl).trans (Wk.weak (ρ := [0]) (φ := []) ?_)
    simp [Swing.rows]
  · have e1 : swCode l = sCode l := by unfold swCode; rw [if_pos g]
    have e2 : swOut l = swingsL l := by unfold swOut; rw [if_pos g]
    rw [e1, e2]
    have ks := c_swingsOf l hl (hungs_mem g).2
    simp only [swingsL, sCode] at ks ⊢
    refine CallZ.use ks rfl (.inr ⟨Swing.flat _, trivial⟩) rfl rfl ?_
    cases sfine l with
    | true =>
      simp
      refine Wk.weak (ρ := [0]) (φ := []) ?_
      simp
    | false =>
      simp
      refine (weak_nilT (t := 0) 0 3 rfl rfl).trans (Wk.weak (ρ := [1]) (φ := []) ?_)
      simp [Swing.rows]
end Go.Proofs.YtdnflnpihcghcaaGreatDoor

namespace Go.Proofs.YtdnflnpihcghcaaGreatDoor
open Go Go.Ab
set_option maxRecDepth 100000

end Go.Proofs.YtdnflnpihcghcaaGreatDoor

