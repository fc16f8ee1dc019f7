/- Records read back from their texts: plain law and contracts. No condition. -/
import Derived.Test.YtmdablalfmcgnaaDoorOf
import Derived.Test.YtmdablalfmcgnaaDoorHg
import Derived.Test.YtmdablalfmcgnaaDoorJi
namespace Go.Proofs.YtmdablalfmcgnaaDoor
open Go Go.Ab
set_option maxRecDepth 100000

theorem index_none {c : UInt8} : ∀ {x : List UInt8}, c ∉ x → Lib.index x [c] = -1
  | [], _ => rfl
  | b :: x, h => by
    have h1 : ¬ b = c := fun e => h (by simp [e])
    rw [index_one_ne h1, index_none (c := c) (x := x) fun e => h (by simp [e])]
    rfl
theorem cut_one {c : UInt8} {s w : List UInt8} (h : spl c s = [w]) : s = w ∧ Lib.cut s [c] = (w, [], false) := by
  have hs : s = w := by rw [← join_spl c s, h, join_one]
  have hf : c ∉ s := by rw [hs]; exact spl_mem w (by rw [h]; simp)
  refine ⟨hs, ?_⟩
  unfold Lib.cut
  rw [index_none hf, if_neg (by omega), hs]
theorem cut_more {c : UInt8} {s x y : List UInt8} {r : List (List UInt8)} (h : spl c s = x :: y :: r) :
    s = x ++ c :: Lib.join (y :: r) [c] ∧ Lib.cut s [c] = (x, Lib.join (y :: r) [c], true) ∧ spl c (Lib.join (y :: r) [c]) = y :: r := by
  have hx : c ∉ x := spl_mem x (by rw [h]; simp)
  have hs : s = x ++ c :: Lib.join (y :: r) [c] := by
    have := join_spl c s
    rw [h, join_two] at this
    rw [← this]
    simp
  refine ⟨hs, ?_, spl_join (by simp) fun z hz => spl_mem z (by rw [h]; exact List.mem_cons_of_mem _ hz)⟩
  conv => lhs; rw [hs]
  exact cut_free hx _
theorem isName_sp {s : List UInt8} (h : (32 : UInt8) ∈ s) : isName s = false := by
  cases e : isName s with
  | false => rfl
  | true =>
    exfalso
    simp only [isName, Bool.and_eq_true, List.all_eq_true] at e
    obtain ⟨i, hi, h32⟩ := List.getElem_of_mem h
    have := e.2 i (List.mem_range.2 hi)
    simp [nameAt, hi, h32, isSmall, isDigit] at this

def wSet : List UInt8 := [115, 101, 116]
def wDrop : List UInt8 := [100, 114, 111, 112]
def wUndo : List UInt8 := [117, 110, 100, 111]
/-- The text of a record. -/
def recTx (r : Record) : List UInt8 := if r.kind = 1 then wSet ++ 32 :: r.key ++ 32 :: r.text else if r.kind = 2 then wDrop ++ 32 :: r.key else wUndo
/-- The record that the program sees in a text. -/
def readV (s : List UInt8) : Record :=
  if (Lib.cut s [32]).1 = wSet then ⟨1, (Lib.cut (Lib.cut s [32]).2.1 [32]).1, (Lib.cut (Lib.cut s [32]).2.1 [32]).2.1⟩
  else if (Lib.cut s [32]).1 = wDrop then ⟨2, (Lib.cut s [32]).2.1, []⟩ else ⟨3, [], []⟩
def fineV (s : List UInt8) : Bool := validRecord (readV s) && decide (recTx (readV s) = s)
/-- What the reference sees. -/
def specV (s : List UInt8) : Record × Bool :=
  if s = wUndo then (⟨3, [], []⟩, true)
  else if (spl 32 s).getD 0 [] = wDrop ∧ (spl 32 s).length = 2 then (⟨2, (spl 32 s).getD 1 [], []⟩, validRecord ⟨2, (spl 32 s).getD 1 [], []⟩)
  else if (spl 32 s).getD 0 [] = wSet ∧ 3 ≤ (spl 32 s).length then (⟨1, (spl 32 s).getD 1 [], s.drop (5 + ((spl 32 s).getD 1 []).length)⟩, validRecord ⟨1, (spl 32 s).getD 1 [], s.drop (5 + ((spl 32 s).getD 1 []).length)⟩)
  else (⟨0, [], []⟩, false)
theorem validUndo : validRecord ⟨3, [], []⟩ = true := by decide
theorem validBad1 (t : List UInt8) : validRecord ⟨1, [], t⟩ = false := by simp [validRecord, isName]
theorem validBad2 : validRecord ⟨2, [], []⟩ = false := by simp [validRecord, isName]
theorem spec_fine (s : List UInt8) : (specV s).2 = fineV s ∧ (fineV s = true → (specV s).1 = readV s) := by
  match hs : spl 32 s with
  | [] => exact absurd hs (spl_ne _ _)
  | [w] =>
    obtain ⟨rfl, hc⟩ := cut_one hs
    by_cases h1 : s = wUndo
    · have e1 : (specV s) = (⟨3, [], []⟩, true) := by unfold specV; rw [if_pos h1]
      have e2 : readV s = ⟨3, [], []⟩ := by unfold readV; rw [hc, h1]; rfl
      have e3 : fineV s = true := by unfold fineV; rw [e2, validUndo, h1]; rfl
      rw [e1, e2, e3]
      exact ⟨rfl, fun _ => rfl⟩
    · have e1 : (specV s).2 = false := by unfold specV; rw [if_neg h1, hs]; simp
      have e3 : fineV s = false := by
        have hc2 : Lib.cut [] [32] = ([], [], false) := rfl
        unfold fineV readV
        rw [hc]
        simp only
        split
        · rw [hc2, validBad1]; rfl
        · split
          · rw [validBad2]; rfl
          · simp [recTx, Ne.symm h1]
      rw [e1, e3]
      exact ⟨rfl, fun h => by cases h⟩
  | w :: y :: r =>
    obtain ⟨e, hc, hr⟩ := cut_more hs
    have hsp : (32 : UInt8) ∈ s := by rw [e]; simp
    have h1 : ¬ s = wUndo := fun g => by rw [g] at hsp; revert hsp; decide
    by_cases hS : w = wSet
    · have hnD : ¬ wSet = wDrop := by decide
      match r, hr with
      | [], hr =>
        obtain ⟨_, hc2⟩ := cut_one hr
        have e1 : (specV s).2 = false := by unfold specV; rw [if_neg h1, hs]; simp [hS, hnD]
        have e3 : fineV s = false := by
          have : ¬ recTx (readV s) = s := by
            unfold readV
            rw [hc]
            simp only
            rw [if_pos hS, hc2]
            intro g
            have := congrArg List.length g
            conv at this => rhs; rw [e, join_one, hS]
            simp [recTx, wSet] at this
          unfold fineV
          simp [this]
        rw [e1, e3]
        exact ⟨rfl, fun h => by cases h⟩
      | z :: r, hr =>
        obtain ⟨e2, hc2, _⟩ := cut_more hr
        have hd : s.drop (5 + y.length) = Lib.join (z :: r) [32] := by
          rw [e, e2, hS]
          have : wSet ++ 32 :: (y ++ 32 :: Lib.join (z :: r) [32]) = (wSet ++ 32 :: y ++ [32]) ++ Lib.join (z :: r) [32] := by simp
          rw [this]
          exact List.drop_left' (by simp [wSet]; omega)
        have hv : readV s = ⟨1, y, Lib.join (z :: r) [32]⟩ := by
          unfold readV
          rw [hc]
          simp only
          rw [if_pos hS, hc2]
        have e1 : specV s = (⟨1, y, Lib.join (z :: r) [32]⟩, validRecord ⟨1, y, Lib.join (z :: r) [32]⟩) := by
          unfold specV
          rw [if_neg h1, hs, if_neg (by simp), if_pos (by simp [hS])]
          simp [hd]
        have e3 : recTx (readV s) = s := by
          rw [hv]
          conv => rhs; rw [e, e2, hS]
          simp [recTx]
        unfold fineV
        rw [e1, e3, hv]
        simp
    · by_cases hD : w = wDrop
      · have hv : readV s = ⟨2, Lib.join (y :: r) [32], []⟩ := by
          unfold readV
          rw [hc]
          simp only
          rw [if_neg hS, if_pos hD]
        match r, hr, hv with
        | [], hr, hv =>
          rw [join_one] at hv
          have e1 : specV s = (⟨2, y, []⟩, validRecord ⟨2, y, []⟩) := by
            unfold specV
            rw [if_neg h1, hs, if_pos (by simp [hD])]
            rfl
          have e3 : recTx (readV s) = s := by
            rw [hv]
            conv => rhs; rw [e, join_one, hD]
            simp [recTx]
          unfold fineV
          rw [e1, e3, hv]
          simp
        | z :: r, hr, hv =>
          have e1 : (specV s).2 = false := by unfold specV; rw [if_neg h1, hs]; simp [hS]
          have e3 : fineV s = false := by
            unfold fineV
            rw [hv]
            have : validRecord ⟨2, Lib.join (y :: z :: r) [32], []⟩ = false := by
              simp [validRecord, isName_sp (s := Lib.join (y :: z :: r) [32]) (by rw [join_two]; simp)]
            rw [this]
            rfl
          rw [e1, e3]
          exact ⟨rfl, fun h => by cases h⟩
      · have e1 : (specV s).2 = false := by unfold specV; rw [if_neg h1, hs]; simp [hS, hD]
        have e3 : fineV s = false := by
          have hv : readV s = ⟨3, [], []⟩ := by
            unfold readV
            rw [hc]
            simp only
            rw [if_neg hS, if_neg hD]
          unfold fineV
          rw [hv]
          simp [recTx, Ne.symm h1]
        rw [e1, e3]
        exact ⟨rfl, fun h => by cases h⟩
theorem readV_len (s : List UInt8) : (readV s).key.length ≤ s.length ∧ (readV s).text.length ≤ s.length ∧ 0 ≤ (readV s).kind ∧ (readV s).kind ≤ 3 := by
  have h1 := cut_len s [32]
  have h2 := cut_len (Lib.cut s [32]).2.1 [32]
  unfold readV
  split
  · exact ⟨by simp only; omega, by simp only; omega, by simp, by simp⟩
  · split
    · exact ⟨by simp only; omega, by simp, by simp, by simp⟩
    · exact ⟨by simp, by simp, by simp, by simp⟩
theorem readV_wf {s : List UInt8} (hs : s.length ≤ 1048576) : (readV s).wf := by
  have := readV_len s
  unfold Record.wf
  omega

theorem c_recordText (r : Record) (h1 : r.key.length ≤ 1048576) (h2 : r.text.length ≤ 1048576) : HFn Tryd.prog 45 [.agg r.cells] [] (.str (recTx r)) [] := by
  refine hfn_intro hm Tryd.func45 (by kernel_rfl) rfl (by kernel_rfl) rfl ret0_ok ?_
  simp [Record.cells]
  refine ⟨fun h => ⟨by omega, by omega, by omega, by simp [recTx, h, wSet]⟩, fun h => ⟨fun h2 => ⟨by omega, by simp [recTx, h2, wDrop]⟩, fun h2 => by simp [recTx, h, h2, wUndo]⟩⟩
end Go.Proofs.YtmdablalfmcgnaaDoor
