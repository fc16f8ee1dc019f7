/- Contracts: lists, notes and orders as text. -/
import Derived.Test.YtmdablalfmcgnaaGreatDoorJc
import Derived.Test.YtmdablalfmcgnaaGreatDoorCf
namespace Go.Proofs.YtmdablalfmcgnaaGreatDoor
open Go Go.Ab
set_option maxRecDepth 100000

def valB (n : Int) : Bool := decide (-1000000000000 ≤ n) && decide (n ≤ 1000000000000)
theorem c_isValue (n : Int) : HFn Tryz.prog 119 [.int .i64 n] [] (.bool (valB n)) [] := by
  refine hfn_intro hm Tryz.func119 (by kernel_rfl) rfl (by kernel_rfl) rfl ret0_ok ?_
  simp
  refine CallZ.use0 (c_within _ _ _) rfl rfl ?_
  simp [valB]
theorem c_ListText1 (n : Int) : HFn Tryz.prog 118 [.int .i64 n] [] (.bool (!valB n)) [] := by
  refine hfn_intro hm Tryz.func118 (by kernel_rfl) rfl (by kernel_rfl) rfl ret0_ok ?_
  simp
  refine CallZ.use0 (c_isValue _) rfl rfl ?_
  simp

theorem c_IndexFuncI (f : Nat) (p : Int → Bool) (hf : ∀ b : Int, HFn Tryz.prog f [.int .i64 b] [] (.bool (p b)) []) (s : List Int) (hs : s.length ≤ 9223372036854775807) :
    HFn Tryz.prog 162 [.sl 1 (intRows s), .fn f []] [] (.int .i64 (findI p s)) [] := by
  refine hfn_intro hm Tryz.func162 (by kernel_rfl) rfl (by kernel_rfl) rfl ret0_ok ?_
  simp [intRows]
  refine loop_upto hm s.length (fun i => ⟨[(0, .sl 1 (intRows s)), (1, .fn f []), (7, .int .i64 s.length), (8, .int .i64 i)], []⟩) (fun i => ∀ j (h : j < s.length), j < i → p s[j] = false) (by kernel_rfl) ?_ (by simp) (fun i hi hI => ?_) (fun hI => ?_)
  · exact Wk.weak (ρ := []) (φ := []) (by simp [intRows])
  · simp [intRows, hi]
    refine CallZ.use0 (hf _) rfl rfl ?_
    simp
    refine ⟨fun h => (findI_at hi h hI).symm, fun h => ⟨fun j hj hji => ?_, ?_⟩⟩
    · by_cases e : j = i
      · subst e; exact h
      · exact hI j hj (by omega)
    · refine Wk.weak (ρ := []) (φ := []) ?_
      simp
      exact w64 (by omega) (by omega)
  · simp [intRows]
    exact (findI_none fun j hj => hI j hj hj).symm

theorem c_ContainsFuncI (f : Nat) (p : Int → Bool) (hf : ∀ b : Int, HFn Tryz.prog f [.int .i64 b] [] (.bool (p b)) []) (s : List Int) (hs : s.length ≤ 9223372036854775807) :
    HFn Tryz.prog 117 [.sl 1 (intRows s), .fn f []] [] (.bool (s.any p)) [] := by
  refine hfn_intro hm Tryz.func117 (by kernel_rfl) rfl (by kernel_rfl) rfl ret0_ok ?_
  simp
  refine CallZ.use0 (c_IndexFuncI f p hf s hs) rfl rfl ?_
  simp
  exact findI_any

/-- Whether a list of numbers has a text. -/
def listOk (l : List Int) : Bool := decide (l.length ≤ 64) && l.all valB
def listTx (l : List Int) : List UInt8 := if listOk l = true then listT l else []
theorem valB_I64 {n : Int} (h : valB n = true) : I64 n := by
  simp [valB] at h
  exact ⟨by omega, by omega⟩
theorem listOk_I64 {l : List Int} (h : listOk l = true) : ∀ x ∈ l, I64 x := fun x hx => by
  simp [listOk] at h
  exact valB_I64 (h.2 x hx)

theorem c_ListText (l : List Int) (hn : l.length ≤ 9223372036854775807) : HFn Tryz.prog 70 [.sl 1 (intRows l)] [] (.str (listTx l)) [] := by
  refine hfn_intro hm Tryz.func70 (by kernel_rfl) rfl (by kernel_rfl) rfl ret0_ok ?_
  simp [intRows_len]
  refine CallY.use (fun _ => ⟨rfl, c_ContainsFuncI _ _ c_ListText1 l (by omega)⟩) rfl rfl ?_
  simp [intRows_len]
  refine ⟨fun h => ?_, fun h1 h2 => ⟨fun h => by subst h; rfl, fun h0 => ?_⟩⟩
  · unfold listTx
    rw [if_neg]
    simp [listOk]
    intro hle
    rcases h with h | h
    · omega
    · exact h
  have hok : listOk l = true := by simp [listOk]; exact ⟨by omega, h2⟩
  have hI := listOk_I64 hok
  have hT : listTx l = Lib.join (l.map Lib.itoa) [44] := by unfold listTx listT; rw [if_pos hok, if_neg h0]
  refine loop_upto hm l.length (fun i => ⟨[(3, .sf 0 1), (16, .sl 1 (intRows l)), (17, .int .i64 l.length), (18, .int .i64 i)], [some (.arr 1 (strRows ((l.map Lib.itoa).take i)))]⟩) (fun _ => True) (by kernel_rfl) ?_ trivial (fun i hi _ => ?_) (fun _ => ?_)
  · refine (weak_nil (t := 3) (z := 1) rfl).trans (Wk.weak (ρ := [0]) (φ := []) ?_)
    simp [strRows]
  · have w1 : IntKind.i64.wrap ((i : Int) + 1) = (i : Int) + 1 := w64 (by omega) (by omega)
    have hs : (l.map Lib.itoa).take (i + 1) = (l.map Lib.itoa).take i ++ [Lib.itoa l[i]] := by rw [← List.take_append_getElem (by simpa using hi)]; simp
    have hsl : (strRows ((l.map Lib.itoa).take i)).length ≤ 64 := by simp [strRows]; omega
    simp [hi, intRows_len, intRows_getE]
    refine CallZ.use0 (c_Decimal l[i] (hI _ (List.getElem_mem hi))) rfl rfl ?_
    simp
    refine ⟨by simp [rowsOne], by omega, by omega, Wk.weak (ρ := [0]) (φ := []) ?_⟩
    simp only [hs]
    simp [w1, strRows]
  · have htk : (l.map Lib.itoa).take l.length = l.map Lib.itoa := List.take_of_length_le (by simp)
    rw [htk]
    simp
    refine CallZ.use0 (c_Join (l.map Lib.itoa) [44] (by simp; omega) ?_) rfl rfl ?_
    · have := listT_len l hI
      unfold listT at this
      rw [if_neg h0] at this
      omega
    · simp [hT]

def noteNames : List (List UInt8) := [[99], [99, 115], [100], [100, 115], [101], [102], [102, 115], [103], [103, 115], [97], [97, 115], [98]]
/-- The name of a note. -/
def noteT (n : Int) : List UInt8 := noteNames.getD (n.toNat % 12) [] ++ Lib.itoa (n / 12 - 1)
theorem note_row (k : Nat) (hk : k < 12) : (strRows noteNames)[k]? = some [.str (noteNames.getD k [])] := by
  have : k < noteNames.length := hk
  simp [strRows, List.getD, this]
end Go.Proofs.YtmdablalfmcgnaaGreatDoor
