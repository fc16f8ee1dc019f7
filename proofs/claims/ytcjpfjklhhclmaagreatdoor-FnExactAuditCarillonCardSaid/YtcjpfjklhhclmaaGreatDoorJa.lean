/- Contracts: numbers and lists of numbers as text. -/
import Derived.Test.YtcjpfjklhhclmaaGreatDoorTI
import Derived.Test.YtcjpfjklhhclmaaGreatDoorBa
import Derived.Lib.ItoaNum
import Derived.Lib.ItoaLen
import Derived.Lib.Join
namespace Go.Proofs.YtcjpfjklhhclmaaGreatDoor
open Go Go.Ab
set_option maxRecDepth 100000
theorem qdR (l : List UInt8) : (qaq l).length = l.length := by simp [qaq]
theorem qkG (l : List UInt8) {i : Nat} (h : i < (qaq l).length) : (qaq l)[i] = [PV.int .u8 (l[i]'(by rw [qdR] at h; exact h)).toNat] := by simp [qaq]
theorem qeS (a b : List UInt8) : qaq (a ++ b) = qaq a ++ qaq b := by simp [qaq]
theorem qeT (b : UInt8) : qaq [b] = [[.int .u8 b.toNat]] := rfl
theorem qkH (l : List UInt8) : ∀ r ∈ qaq l, byteC r = true := fun r hr => by
 obtain ⟨b, _, rfl⟩ := List.mem_map.1 hr
 have := b.toNat_lt
 simp [byteC]
 omega
theorem qkI (l : List UInt8) : (qaq l).map byteV = l := by
 unfold qaq
 rw [List.map_map]
 conv => rhs; rw [← List.map_id l]
 refine List.map_congr_left fun b _ => ?_
 simp [byteV]
def qa9 (u : Nat) : List UInt8 := if h : u = 0 then [] else UInt8.ofNat (48 + u % 10) :: qa9 (u / 10)
termination_by u
decreasing_by omega
theorem qfX : qa9 0 = [] := by rw [qa9, dif_pos rfl]
theorem qg7 {u : Nat} (h : u ≠ 0) : qa9 u = UInt8.ofNat (48 + u % 10) :: qa9 (u / 10) := by rw [qa9, dif_neg h]
theorem qg8 : ∀ {u : Nat}, u ≠ 0 → Lib.decDigits u = (qa9 u).reverse
 | u, h => by
   rw [Lib.decDigits, qg7 h]
   by_cases h1 : u < 10
   · rw [dif_pos h1]
     have e : u / 10 = 0 := by omega
     rw [e, qfX, Nat.mod_eq_of_lt h1]
     rfl
   · rw [dif_neg h1, qg8 (u := u / 10) (by omega), List.reverse_cons]
termination_by u => u
decreasing_by omega
theorem qkJ : ∀ (k u : Nat), u < 10 ^ k → (qa9 u).length ≤ k
 | 0, u, h => by
   have : u = 0 := by simpa using h
   subst this; rw [qfX]; exact Nat.le_refl _
 | k + 1, u, h => by
   by_cases h0 : u = 0
   · subst h0; rw [qfX]; exact Nat.zero_le _
   · rw [qg7 h0, List.length_cons]
     have := qkJ k (u / 10) (by rw [Nat.pow_succ] at h; omega)
     omega
theorem qq5 : qa9 (0 : Int).natAbs = [] := qfX
theorem qq6 : Lib.itoa 0 = [48] := by simp [Lib.itoa, Lib.decDigits_one]
theorem qq7 {n : Int} (h : 0 < n) : Lib.itoa n = (qa9 n.natAbs).reverse := by
 unfold Lib.itoa
 rw [if_neg (by omega), qg8 (by omega)]
 congr 2
 omega
theorem qq8 {n : Int} (h : n < 0) : Lib.itoa n = 45 :: (qa9 n.natAbs).reverse := by
 unfold Lib.itoa
 rw [if_pos h, qg8 (by omega)]
theorem tq10 (x : Int) : (x.tdiv 10).natAbs = x.natAbs / 10 ∧ (x.tmod 10).natAbs = x.natAbs % 10 ∧ (0 ≤ x → 0 ≤ x.tdiv 10 ∧ 0 ≤ x.tmod 10) ∧ (x ≤ 0 → x.tdiv 10 ≤ 0 ∧ x.tmod 10 ≤ 0) := by
 rcases Int.le_total 0 x with h | h
 · rw [Int.tdiv_eq_ediv_of_nonneg h, Int.tmod_eq_emod_of_nonneg h]
   omega
 · obtain ⟨y, rfl⟩ : ∃ y, x = -y := ⟨-x, by omega⟩
   have hy : 0 ≤ y := by omega
   rw [Int.neg_tdiv, Int.neg_tmod, Int.tdiv_eq_ediv_of_nonneg hy, Int.tmod_eq_emod_of_nonneg hy]
   omega
theorem dig8 {d : Nat} (h : d < 10) : IntKind.u8.wrap (IntKind.i64.wrap (48 + (d : Int))) = ((UInt8.ofNat (48 + d)).toNat : Int) := by
 rw [w64 (by omega) (by omega), w8 (by omega) (by omega)]
 have : (UInt8.ofNat (48 + d)).toNat = 48 + d := by simp; omega
 rw [this]
 omega
theorem qq9 (n : Int) (hn : I64 n) : HFn Tryz.prog 99 [.int .i64 n] [] (.str (Lib.itoa n)) [] := by
 obtain ⟨hn1, hn2⟩ := hn
 refine qaa hm Tryz.func99 (by kernel_rfl) rfl (by kernel_rfl) rfl qab ?_
 simp
 refine ⟨fun h => by subst h; exact qq6.symm, fun h0 => ?_⟩
 have hu : (qa9 n.natAbs).length ≤ 20 := qkJ 20 _ (by omega)
 refine qeC hm (ι := {x : List UInt8 × Int // x.1 ++ qa9 x.2.natAbs = qa9 n.natAbs ∧ I64 x.2 ∧ (0 < n → 0 ≤ x.2) ∧ (n < 0 → x.2 ≤ 0)}) (fun x => ⟨[(0, .int .i64 n), (3, .sf 0 1), (4, .int .i64 x.1.2)], [some (.arr 1 (qaq x.1.1))]⟩) (fun x => x.1.2.natAbs) (by kernel_rfl) ⟨([], n), by simp, ⟨hn1, hn2⟩, by simp; omega, by simp; omega⟩ ?_ ?_
 · refine (qaI (t := 3) (z := 1) rfl).trans (Wk.weak (ρ := [0]) (φ := []) ?_)
   simp [qaq]
 · rintro ⟨⟨D, x⟩, h1, ⟨h2, h3⟩, h4, h5⟩
   simp only at h1 h2 h3 h4 h5 ⊢
   simp
   obtain ⟨q1, q2, q3, q4⟩ := tq10 x
   have hd : x.natAbs % 10 < 10 := Nat.mod_lt _ (by omega)
   have hl : (qaq D).length ≤ 20 := by
     rw [qdR]
     have := congrArg List.length h1
     rw [List.length_append] at this
     omega
   have wq : IntKind.i64.wrap (x.tdiv 10) = x.tdiv 10 := w64 (by omega) (by omega)
   refine ⟨fun hx => ?_, fun hx => ?_⟩
   · have hr : qa9 x.natAbs = UInt8.ofNat (48 + x.natAbs % 10) :: qa9 (x.tdiv 10).natAbs := by rw [qg7 (by omega), q1]
     have key : (D ++ [UInt8.ofNat (48 + x.natAbs % 10)]) ++ qa9 (x.tdiv 10).natAbs = qa9 n.natAbs := by rw [← h1, hr]; simp
     refine ⟨fun h => ?_, fun h => ?_⟩
     · have e : IntKind.i64.wrap (-x.tmod 10) = ((x.natAbs % 10 : Nat) : Int) := by rw [w64 (by omega) (by omega)]; omega
       rw [e, dig8 hd, wq]
       refine ⟨by simp [rowsOne], by omega, by omega, D ++ [UInt8.ofNat (48 + x.natAbs % 10)], x.tdiv 10, Wk.weak (ρ := [0]) (φ := []) ?_, ⟨key, ⟨by omega, by omega⟩, by omega, by omega⟩, by omega⟩
       simp [qeS, qeT]
     · have e : x.tmod 10 = ((x.natAbs % 10 : Nat) : Int) := by omega
       rw [e, dig8 hd, wq]
       refine ⟨by simp [rowsOne], by omega, by omega, D ++ [UInt8.ofNat (48 + x.natAbs % 10)], x.tdiv 10, Wk.weak (ρ := [0]) (φ := []) ?_, ⟨key, ⟨by omega, by omega⟩, by omega, by omega⟩, by omega⟩
       simp [qeS, qeT]
   · have hx' : x = 0 := by omega
     subst hx'
     rw [qq5, List.append_nil] at h1
     have hDl : (qaq D).length = D.length := qdR D
     refine ⟨fun hneg => ?_, fun hpos => ?_⟩
     · refine ⟨by simp [rowsOne], by omega, by omega, ?_⟩
       obtain ⟨L, hL⟩ : ∃ L, D ++ [45] = L := ⟨_, rfl⟩
       have hLr : L.reverse = Lib.itoa n := by rw [← hL, qq8 hneg, ← h1]; simp
       have hLl : L.length ≤ 21 := by rw [← hL]; simp; omega
       refine qac hm L.length (fun i => ⟨[(3, .sf 0 1), (6, .sf 1 1), (7, .int .i64 ((L.length : Int) - 1 - i))], [some (.arr 1 (qaq L)), some (.arr 1 (qaq (L.reverse.take i)))]⟩) (fun _ => True) (by kernel_rfl) ?_ trivial (fun i hi _ => ?_) (fun _ => ?_)
       · refine (qaI (t := 6) (z := 1) rfl).trans (Wk.weak (ρ := [0, 2]) (φ := []) ?_)
         simp [qdR, ← hL, qeS, qeT]
         simp [qaq]
         try rw [w64 (by omega) (by omega)]
         try omega
       · obtain ⟨k, hk⟩ : ∃ k, k = L.length - 1 - i := ⟨_, rfl⟩
         have ek : (L.length : Int) - 1 - i = (k : Int) := by omega
         have kl : k < L.length := by omega
         have ek1 : IntKind.i64.wrap ((k : Int) - 1) = (k : Int) - 1 := w64 (by omega) (by omega)
         have hre : L.reverse.take (i + 1) = L.reverse.take i ++ [L[k]] := by
           rw [← List.take_append_getElem (by simp; omega)]
           congr 2
           rw [List.getElem_reverse]
           congr 1
           omega
         rw [ek]
         simp [qdR, qkG, kl]
         refine ⟨by simp [rowsOne], by omega, by omega, Wk.weak (ρ := [0, 1]) (φ := []) ?_⟩
         simp [ek1, hre, qeS, qeT]
         omega
       · simp [qkI, hLr]
         exact ⟨by omega, fun _ => ⟨qkH _, by rw [← hLr, List.take_of_length_le (by simp)]⟩⟩
     · obtain ⟨L, hL⟩ : ∃ L, D = L := ⟨_, rfl⟩
       have hLr : L.reverse = Lib.itoa n := by rw [← hL, qq7 (by omega), ← h1]
       have hLl : L.length ≤ 21 := by rw [← hL]; omega
       refine qac hm L.length (fun i => ⟨[(3, .sf 0 1), (6, .sf 1 1), (7, .int .i64 ((L.length : Int) - 1 - i))], [some (.arr 1 (qaq L)), some (.arr 1 (qaq (L.reverse.take i)))]⟩) (fun _ => True) (by kernel_rfl) ?_ trivial (fun i hi _ => ?_) (fun _ => ?_)
       · refine (qaI (t := 6) (z := 1) rfl).trans (Wk.weak (ρ := [0, 1]) (φ := []) ?_)
         simp [qdR, ← hL]
         simp [qaq]
         try rw [w64 (by omega) (by omega)]
         try omega
       · obtain ⟨k, hk⟩ : ∃ k, k = L.length - 1 - i := ⟨_, rfl⟩
         have ek : (L.length : Int) - 1 - i = (k : Int) := by omega
         have kl : k < L.length := by omega
         have ek1 : IntKind.i64.wrap ((k : Int) - 1) = (k : Int) - 1 := w64 (by omega) (by omega)
         have hre : L.reverse.take (i + 1) = L.reverse.take i ++ [L[k]] := by
           rw [← List.take_append_getElem (by simp; omega)]
           congr 2
           rw [List.getElem_reverse]
           congr 1
           omega
         rw [ek]
         simp [qdR, qkG, kl]
         refine ⟨by simp [rowsOne], by omega, by omega, Wk.weak (ρ := [0, 1]) (φ := []) ?_⟩
         simp [ek1, hre, qeS, qeT]
         omega
       · simp [qkI, hLr]
         exact ⟨by omega, fun _ => ⟨qkH _, by rw [← hLr, List.take_of_length_le (by simp)]⟩⟩
end Go.Proofs.YtcjpfjklhhclmaaGreatDoor
