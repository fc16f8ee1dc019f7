/- Contracts: the carillon of an input; what an audit finds. No condition. -/
import Derived.Test.YtcjpfjklhhclmaaGreatDoorAdc
import Derived.Test.YtcjpfjklhhclmaaGreatDoorBn
namespace Go.Proofs.YtcjpfjklhhclmaaGreatDoor
open Go Go.Ab
set_option maxRecDepth 100000

/-- The carillon where what is drawn is none. -/
def lastCar : Carillon := ⟨[], [], [], [], ⟨1, 1, 1⟩, [], 0, ⟨oldT, 2500, 50, 5000, 10⟩, [], 0, 0, [], ⟨[110, 111, 110, 101], []⟩⟩
theorem c_R8Carillon (code : List Int) (hc : ∀ c ∈ code, 0 ≤ c ∧ c < 256) (hl : code.length ≤ 9223372036854775807) : GFn Tryz.prog 6 [.sl 1 (byteRows code)] [] [] (fun c : Carillon => c.small ∧ carOk c = true) (fun c => .agg c.cells) (fun _ => []) := by
  have h0 : (Src.mk code 0 0).ok 0 := ⟨hc, hl, by simp, by simp, by simp⟩
  refine gfn_intro [] hm Tryz.func6 (by kernel_rfl) rfl (by kernel_rfl) rfl (by simp) (by simp) ?_
  simp
  refine CallZ.useM [] [] [] (c_l00From code) (by simp) rfl rfl (by simp) rfl rfl rfl (.inl rfl) ?_
  simp
  refine CallZ.useG [1] [] [] (c_l31Draw h0 (by omega)) (by simp) rfl (by simp) rfl (fun x _ => ⟨rfl, rfl, rfl, .inl rfl⟩) (fun x hx => ?_)
  obtain ⟨c, s1⟩ := x
  obtain ⟨hs, h1⟩ := hx
  simp only at hs h1 ⊢
  have kO := c_l31OkC c [] 0 [c.cells] 0 (by simp) hs
  simp only [Carillon.cells, Nat.zero_add] at kO
  simp [Carillon.cells]
  refine CallZ.use0 kO rfl rfl ?_
  cases hv : carOk c
  · simp
    refine ⟨lastCar, ⟨⟨by simp [lastCar], by simp [lastCar], by simp [lastCar], by simp [lastCar], by simp [lastCar], by simp [lastCar], by simp [lastCar], by simp [lastCar], by simp [lastCar], by simp [lastCar], by simp [lastCar], by simp [lastCar]⟩, by decide⟩, ?_⟩
    exact (weak_nilA (t := 0) 0 5 (by rfl) (by rfl)).trans ((weak_nilA (t := 0) 1 3 (by rfl) (by rfl)).trans ((weak_nilA (t := 0) 2 5 (by rfl) (by rfl)).trans ((weak_nilA (t := 0) 3 5 (by rfl) (by rfl)).trans ((weak_nilA (t := 0) 7 5 (by rfl) (by rfl)).trans ((weak_nilA (t := 0) 14 6 (by rfl) (by rfl)).trans ((weak_nilA (t := 0) 17 4 (by rfl) (by rfl)).trans ((weak_nilA (t := 0) 19 3 (by rfl) (by rfl)).trans (Wk.weak (ρ := []) (φ := [3, 4, 5, 6, 7, 8, 9, 10]) (by simp [lastCar, oldT, Ingot.rows, Melt.rows, Bell.rows, Hung.rows, Place.rows, Beam.rows, Action.rows, Tone.rows])))))))))
  · simp
    exact ⟨c, ⟨hs, hv⟩, Wk.weak (ρ := []) (φ := []) (by simp)⟩
end Go.Proofs.YtcjpfjklhhclmaaGreatDoor
