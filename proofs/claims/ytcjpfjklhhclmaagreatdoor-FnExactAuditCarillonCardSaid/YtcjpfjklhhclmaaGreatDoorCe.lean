/- Contracts: names of troubles. Contracts: names, numbers in bounds. Contracts: orders. -/
import Derived.Test.YtcjpfjklhhclmaaGreatDoorTy
import Derived.Test.YtcjpfjklhhclmaaGreatDoorKc
namespace Go.Proofs.YtcjpfjklhhclmaaGreatDoor
open Go Go.Ab
set_option maxRecDepth 100000
theorem qah (n lo hi : Int) : HFn Tryz.prog 146 [.int .i64 n, .int .i64 lo, .int .i64 hi] [] (.bool (decide (lo ≤ n) && decide (n ≤ hi))) [] := by
 refine qaa hm Tryz.func146 (by kernel_rfl) rfl (by kernel_rfl) rfl qab ?_
 simp
theorem qaj (n lo hi : Int) : HFn Tryz.prog 107 [.int .i64 n, .int .i64 lo, .int .i64 hi] [] (.bool (decide (lo ≤ n) && decide (n ≤ hi))) [] := by
 refine qaa hm Tryz.func107 (by kernel_rfl) rfl (by kernel_rfl) rfl qab ?_
 simp
end Go.Proofs.YtcjpfjklhhclmaaGreatDoor

namespace Go.Proofs.YtcjpfjklhhclmaaGreatDoor
open Go Go.Ab
set_option maxRecDepth 100000
def qds (b : UInt8) : Bool := decide ((97 : Int) ≤ b.toNat) && decide ((b.toNat : Int) ≤ 122)
def qej (b : UInt8) : Bool := decide ((48 : Int) ≤ b.toNat) && decide ((b.toNat : Int) ≤ 57)
def qb9 (s : List UInt8) (i : Nat) : Bool := qds (s.getD i 0) || (decide (i ≠ 0) && qej (s.getD i 0))
def qaC (s : List UInt8) : Bool := decide (1 ≤ s.length) && decide (s.length ≤ 10) && (List.range s.length).all (qb9 s)
theorem qjm (b : UInt8) : HFn Tryz.prog 228 [.int .u8 b.toNat] [] (.bool (qds b)) [] := by
 refine qaa hm Tryz.func228 (by kernel_rfl) rfl (by kernel_rfl) rfl qab ?_
 simp [qds]
theorem qoD (b : UInt8) : HFn Tryz.prog 229 [.int .u8 b.toNat] [] (.bool (qej b)) [] := by
 refine qaa hm Tryz.func229 (by kernel_rfl) rfl (by kernel_rfl) rfl qab ?_
 simp [qej]
theorem qbc (s : List UInt8) : HFn Tryz.prog 218 [.str s] [] (.bool (qaC s)) [] := by
 refine qaa hm Tryz.func218 (by kernel_rfl) rfl (by kernel_rfl) rfl qab ?_
 simp
 refine ⟨fun h => ?_, fun h1 h2 => ?_⟩
 · simp only [qaC]
   rcases h with h | h
   · simp [show ¬ 1 ≤ s.length by omega]
   · simp [show ¬ s.length ≤ 10 by omega]
 · have hN : qaC s = (List.range s.length).all (qb9 s) := by simp only [qaC]; simp [show 1 ≤ s.length by omega, show s.length ≤ 10 by omega]
   rw [hN]
   refine qac hm s.length (fun i => ⟨[(16, .sl 1 (qaq s)), (17, .int .i64 s.length), (18, .int .i64 i)], []⟩) (fun i => ∀ j, j < i → qb9 s j = true) (by kernel_rfl) ?_ (by simp) (fun i hi hI => ?_) (fun hI => ?_)
   · exact Wk.weak (ρ := []) (φ := []) (by simp [qaq])
   · have hn : qb9 s i = true ↔ (((97 : Int) ≤ s[i].toNat ∧ (s[i].toNat : Int) ≤ 122) ∨ (¬ i = 0 ∧ (48 : Int) ≤ s[i].toNat ∧ (s[i].toNat : Int) ≤ 57)) := by
       simp [qb9, hi, qds, qej]
     simp [qaq, hi]
     refine ⟨by omega, by omega, fun h3 h4 => ⟨i, hi, ?_⟩, fun h => ⟨fun j hj => ?_, ?_⟩⟩
     · rw [← Bool.not_eq_true, hn]
       omega
     · by_cases e : j = i
       · subst e
         rw [hn]
         omega
       · exact hI j (by omega)
     · refine Wk.weak (ρ := []) (φ := []) ?_
       simp
       exact w64 (by omega) (by omega)
   · simp [qaq]
     exact fun j hj => hI j hj
theorem qbd (s : List UInt8) : HFn Tryz.prog 139 [.str s] [] (.bool (qaC s)) [] := by
 refine qaa hm Tryz.func139 (by kernel_rfl) rfl (by kernel_rfl) rfl qab ?_
 simp
 have hlen : ¬ s = [] → 0 < s.length := fun h => List.length_pos_iff.2 h
 refine ⟨fun h1 h2 => ⟨⟨h1, h2⟩, hlen h1⟩, fun h1 h2 => ⟨h1, h2⟩, CallY.use (res := .bool (qds (s.getD 0 0))) (fun _ => ⟨rfl, ?_⟩) rfl rfl ?_⟩
 · have := qjm (s.getD 0 0)
   simpa using this
 simp
 have hat : ∀ i, ∀ h : i < s.length, qb9 s i = (qds s[i] || (decide (i ≠ 0) && qej s[i])) := fun i h => by simp [qb9, h]
 refine ⟨fun h1 h2 => ⟨h1, h2⟩, fun h => ?_, fun h1 h2 h3 => ?_⟩
 · rcases h with (h | h) | h
   · simp [qaC, h]
   · simp [qaC, show ¬ s.length ≤ 10 by omega]
   · by_cases h0 : s = []
     · simp [qaC, h0]
     · have := hlen h0
       have hz : qb9 s 0 = false := by simpa [qb9] using h
       have : (List.range s.length).all (qb9 s) = false := by
         rw [← Bool.not_eq_true, List.all_eq_true]
         exact fun hc => by rw [hc 0 (List.mem_range.2 this)] at hz; cases hz
       simp only [qaC, this, Bool.and_false]
 · have h0 := hlen h1
   have hN : qaC s = (List.range s.length).all (qb9 s) := by simp only [qaC]; simp [show 1 ≤ s.length by omega, show s.length ≤ 10 by omega]
   rw [hN]
   refine qac hm s.length (fun i => ⟨[(0, .str s), (3, .int .i64 i)], []⟩) (fun i => ∀ j, j < i → qb9 s j = true) (by kernel_rfl) ?_ (by simp) (fun i hi hI => ?_) (fun hI => ?_)
   · exact Wk.weak (ρ := []) (φ := []) (by simp)
   · simp [hi]
     refine CallZ.use0 (qjm _) rfl rfl ?_
     simp
     refine ⟨fun h => ⟨h, hi⟩, CallY.use (res := .bool (qej s[i])) (fun _ => ⟨rfl, by simpa [hi] using qoD s[i]⟩) rfl rfl ?_⟩
     simp
     refine ⟨fun h4 h5 => ⟨i, hi, ?_⟩, fun h => ⟨fun j hj => ?_, ?_⟩⟩
     · simp [hat i hi, h4, h5]
     · by_cases e : j = i
       · subst e
         rw [hat j hi]
         by_cases h5 : qds s[j] = true
         · simp [h5]
         · have h6 : qds s[j] = false := by simpa using h5
           have h7 : j ≠ 0 := fun e => by subst e; simp [hi] at h3; rw [h3] at h6; cases h6
           simp [h6, h7, h h6]
       · exact hI j (by omega)
     · refine Wk.weak (ρ := []) (φ := []) ?_
       simp
       exact w64 (by omega) (by omega)
   · simp
     exact fun j hj => hI j hj
end Go.Proofs.YtcjpfjklhhclmaaGreatDoor

namespace Go.Proofs.YtcjpfjklhhclmaaGreatDoor
open Go Go.Ab
set_option maxRecDepth 100000
theorem qfK (n : Int) : HFn Tryz.prog 219 [.int .i64 n] [] (.bool (decide (1 ≤ n) && decide (n ≤ 20000000))) [] := by
 refine qaa hm Tryz.func219 (by kernel_rfl) rfl (by kernel_rfl) rfl qab ?_
 simp
 refine CallZ.use0 (qah _ _ _) rfl rfl ?_
 simp
theorem qjn (n : Int) : HFn Tryz.prog 212 [.int .i64 n] [] (.bool (decide (0 ≤ n) && decide (n ≤ 127))) [] := by
 refine qaa hm Tryz.func212 (by kernel_rfl) rfl (by kernel_rfl) rfl qab ?_
 simp
 refine CallZ.use0 (qah _ _ _) rfl rfl ?_
 simp
theorem qoE (n : Int) : HFn Tryz.prog 233 [.int .i64 n] [] (.bool (decide (0 ≤ n) && decide (n ≤ 127))) [] := by
 refine qaa hm Tryz.func233 (by kernel_rfl) rfl (by kernel_rfl) rfl qab ?_
 simp
 try refine CallZ.use0 (qaj _ _ _) rfl rfl ?_
 try simp
end Go.Proofs.YtcjpfjklhhclmaaGreatDoor
