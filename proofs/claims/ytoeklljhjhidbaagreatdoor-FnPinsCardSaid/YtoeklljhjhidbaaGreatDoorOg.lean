/- Contracts: drums read back from their texts. No condition. -/
import Derived.Test.YtoeklljhjhidbaaGreatDoorOi
import Derived.Test.YtoeklljhjhidbaaGreatDoorKc
import Derived.Test.YtoeklljhjhidbaaGreatDoorDd
namespace Go.Proofs.YtoeklljhjhidbaaGreatDoor
open Go Go.Ab
set_option maxRecDepth 100000

theorem weak_nodrumB [Go.Ab.Drwn] {fr : Fr} {H : Heap} {c : Bool} : Weak ⟨(0, .tup [.agg [.int .i64 0, .int .i64 0, .nils, .nils], .bool c]) :: fr, H⟩ ⟨[(0, .tup [.agg [.int .i64 0, .int .i64 0, .sf 0 1, .sf 1 2], .bool c])], [some (.arr 1 []), some (.arr 2 [])]⟩ := by
  refine (weak_nilTA (t := 0) 0 2 1 rfl rfl rfl).trans ?_
  refine (weak_nilTA (t := 0) 0 3 2 rfl rfl rfl).trans (Wk.weak (ρ := [H.length, H.length + 1]) (φ := []) ?_)
  simp

set_option maxHeartbeats 4000000 in
theorem c_impl_ReadDrum [Go.Ab.Drwn] [Go.Ab.DrwOff] (s : List UInt8) (hs : s.length ≤ 1048576) : HFn Tryz.prog 8 [.str s] [] (drumRP s) (drumRO s) := by
  refine hfn_intro hm Tryz.func8 (by kernel_rfl) rfl (by kernel_rfl) rfl (fun _ _ h => h) ?_
  simp
  refine CallZ.use (c_Split s 32 (by omega)) rfl (.inr ⟨flat_strRows _, trivial⟩) rfl rfl ?_
  simp [strRows_len]
  have hpc := spl_piece 32 s
  have hcount := spl_len 32 s
  refine ⟨fun h => ?_, fun h => ?_⟩
  · refine weak_nodrumB.trans (Wk.weak (ρ := [0, 1]) (φ := []) ?_)
    simp [drumR_three (show (spl 32 s).length < 3 by omega), zeroDrum, intRows, Pin.rows]
  · obtain ⟨a, b, c, r, hw⟩ := len_over (show 3 ≤ (spl 32 s).length by omega)
    have hR : drumR s = if wordsOk a b c r = true ∧ validDrum (drumV a b c r) = true then some (drumV a b c r) else none := by unfold drumR; rw [hw]
    have hV := drumV_iff hw
    rw [hw] at hpc hcount
    simp [hw, strRows]
    have ha := hpc a (by simp)
    have hb := hpc b (by simp)
    have hc := hpc c (by simp)
    simp at hcount
    refine CallZ.use0 (c_ReadDecimal a (by omega)) rfl rfl ?_
    simp
    refine ⟨by omega, ?_⟩
    refine CallZ.use0 (c_ReadDecimal b (by omega)) rfl rfl ?_
    simp
    refine ⟨by omega, ?_⟩
    refine CallZ.use (c_impl_ReadList c (by omega)) rfl (.inr ⟨flat_intRows _, trivial⟩) rfl rfl ?_
    simp
    have hget : ∀ i (hi : i < r.length), ([PV.str a] :: [PV.str b] :: [PV.str c] :: List.map (fun s => [PV.str s]) r)[3 + i]? = some [.str r[i]] := fun i hi => by
      have e : 3 + i = i + 1 + 1 + 1 := by omega
      rw [e]
      simp [hi]
    refine loop_upto hm r.length (fun i => ⟨[(0, .str s), (2, .pb 0 0), (5, .pb 2 0), (43, .so 1 1 3 r.length), (44, .int .i64 r.length), (45, .int .i64 i)], [some (.box [.int .i64 0, .int .i64 0, .nils, .nils]), some (.arr 1 ([PV.str a] :: [PV.str b] :: [PV.str c] :: List.map (fun s => [PV.str s]) r)), some (.box [.int .i64 (nv a), .int .i64 (nv b), .sf 3 1, .sf 4 2]), some (.arr 1 (intRows ((listR c).getD []))), some (.arr 2 (Pin.rows ((r.map cutP).take i)))]⟩) (fun _ => True) (by kernel_rfl) ?_ trivial (fun i hi _ => ?_) (fun _ => ?_)
    · refine (weak_nilB 2 3 2 rfl rfl).trans (Wk.weak (ρ := [0, 1, 2, 3, 4]) (φ := []) ?_)
      simp [Pin.rows, nv]
    · have w1 : IntKind.i64.wrap ((i : Int) + 1) = (i : Int) + 1 := w64 (by omega) (by omega)
      have hp := hpc r[i] (by simp)
      have hk := cut_len r[i] [58]
      have hs1 : (r.map cutP).take (i + 1) = (r.map cutP).take i ++ [cutP r[i]] := by rw [← List.take_append_getElem (by simpa using hi), List.getElem_map]
      have hpl : (Pin.rows ((r.map cutP).take i)).length = i := by rw [Pin.rows_len, List.length_take, List.length_map]; omega
      simp [hi, hget]
      refine ⟨by omega, by omega, ?_⟩
      refine CallZ.use0 (c_Cut r[i] 58 (by omega)) rfl rfl ?_
      simp
      refine CallZ.use0 (c_ReadDecimal (Lib.cut r[i] [58]).1 (by omega)) rfl rfl ?_
      simp
      refine CallZ.use0 (c_ReadDecimal (Lib.cut r[i] [58]).2.1 (by omega)) rfl rfl ?_
      simp
      refine ⟨by simp [rowsOne], by omega, by omega, Wk.weak (ρ := [0, 1, 2, 3, 4]) (φ := []) ?_⟩
      rw [hs1]
      simp [w1, Pin.rows, Pin.cells, cutP, nv]
    · rw [List.take_of_length_le (show (r.map cutP).length ≤ r.length by simp)]
      have hcl : (drumV a b c r).cells = [.int .i64 (nv a), .int .i64 (nv b), .sl 1 (intRows ((listR c).getD [])), .sl 2 (Pin.rows (r.map cutP))] := rfl
      have hnl : ((listR c).getD []).length ≤ 64 := by
        cases hl : listR c with
        | none => simp
        | some l =>
          have := (listR_text hl).1
          simp [listOk] at this
          exact this.1
      have k1 := c_impl_ValidDrum (drumV a b c r) (by simp only [drumV]; omega) (by simp only [drumV, List.length_map]; omega)
      have k2 := c_impl_DrumText (drumV a b c r) (by simp only [drumV]; omega) (by simp only [drumV, List.length_map]; omega)
      rw [hcl] at k1 k2
      simp
      refine CallZ.use0 k1 rfl rfl ?_
      simp
      refine CallY.use (fun _ => ⟨rfl, k2⟩) rfl rfl ?_
      simp
      refine ⟨fun g => ?_, fun g1 g2 => ?_⟩
      · have hno : ¬ (wordsOk a b c r = true ∧ validDrum (drumV a b c r) = true) := fun ⟨e1, e2⟩ => by
          rcases g with g | g
          · rw [g] at e2; cases e2
          · apply g
            unfold drumTx
            rw [if_pos e2]
            exact hV.2 e1
        rw [if_neg hno] at hR
        refine weak_nodrumB.trans (Wk.weak (ρ := [0, 1]) (φ := []) ?_)
        simp [hR, zeroDrum, intRows, Pin.rows]
      · have h2 : wordsOk a b c r = true := hV.1 (by unfold drumTx at g2; rwa [if_pos g1] at g2)
        rw [if_pos ⟨h2, g1⟩] at hR
        refine Wk.weak (ρ := [3, 4]) (φ := []) ?_
        simp [hR, drumV]

end Go.Proofs.YtoeklljhjhidbaaGreatDoor
