/- The lines of a ledger read back: plain law and contracts. No condition.; Contracts: ledgers read back, whole or in part; the laws on them. No condition.; Contracts: whole ledgers read back; the law on them. No condition. -/
import Derived.Test.YtmdablalfmcgnaaGreatDoorOi
-- from Oj
namespace Go.Proofs.YtmdablalfmcgnaaGreatDoor
open Go Go.Ab
set_option maxRecDepth 100000

def numX (x : List UInt8) : Int := nv (Lib.cut x [32]).1
def txtX (x : List UInt8) : List UInt8 := (Lib.cut x [32]).2.1
def recX (x : List UInt8) : Record := readV (txtX x)
def lineF (x : List UInt8) : Bool := (((Lib.cut x [32]).2.2 && (num (Lib.cut x [32]).1).isSome) && (decide (0 ≤ numX x) && decide (numX x ≤ 65535))) && fineV (txtX x)
def codeX (l : List Record) (last : Int) (x : List UInt8) : Int := if lineF x = true then (if numX x = crc16 (txtX x) last then arCode l (recX x) else 10) else 9
/-- The records of lines up to the first with an error, and this error. -/
def runX : List (List UInt8) → List Record → Int → List Record × Int
  | [], l, _ => (l, 0)
  | x :: t, l, last => if codeX l last x = 0 then runX t (l ++ [recX x]) (numX x) else (l, codeX l last x)
def preX (xs : List (List UInt8)) (i : Nat) : List Record := (xs.map recX).take i
def lastX (xs : List (List UInt8)) : Nat → Int
  | 0 => 65535
  | i + 1 => numX (xs.getD i [])
theorem cut_whole (x : List UInt8) : x = (Lib.cut x [32]).1 ++ 32 :: (Lib.cut x [32]).2.1 ↔ (Lib.cut x [32]).2.2 = true := by
  match hs : spl 32 x with
  | [] => exact absurd hs (spl_ne _ _)
  | [w] =>
    obtain ⟨rfl, hc⟩ := cut_one hs
    rw [hc]
    simp
  | w :: y :: r =>
    obtain ⟨e, hc, _⟩ := cut_more hs
    rw [hc]
    simpa using e
theorem nextOk_take {l : List Record} {k n : Nat} (h : n ≤ k) (r : Record) : nextOk (l.take k) n r = nextOk l n r := by
  unfold nextOk
  rw [act_take h]
  cases hs : act l n with
  | none => rfl
  | some S =>
    have := stateF_take l k (S := S) fun x hx => by have := act_mem hs x hx; omega
    simp only [this]
theorem recAt_take {l : List Record} {k i : Nat} (h : i < k) : recAt (l.take k) i = recAt l i := by
  unfold recAt
  rw [List.getD_eq_getElem?_getD, List.getD_eq_getElem?_getD, List.getElem?_take, if_pos h]
theorem ledger_snoc {l : List Record} {r : Record} (h : arCode l r = 0) : ledgerOk (l ++ [r]) = true ∧ arL l r = l ++ [r] := by
  refine ⟨?_, by unfold arL; rw [if_pos h]⟩
  unfold arCode at h
  split at h
  · rename_i h1
    split at h
    · rename_i h2
      split at h
      · rename_i h3
        split at h
        · cases h
        · rename_i h4
          obtain ⟨g1, g2⟩ := ledgerOk_iff.1 h1
          have ht : (l ++ [r]).take l.length = l := by simp
          have hi : l.length < (l ++ [r]).length := by simp
          have hr : (l ++ [r])[l.length] = r := by simp
          refine ledgerOk_iff.2 ⟨by simp; omega, ?_⟩
          rw [show (l ++ [r]).length = l.length + 1 by simp]
          refine fineTo_succ hi (fun i hi => ?_) (by rw [hr]; exact h2) ?_
          · have := g2 i hi
            rw [← recAt_take (l := l ++ [r]) hi, ← nextOk_take (l := l ++ [r]) (Nat.le_of_lt hi), ht]
            exact this
          · rw [hr, ← nextOk_take (l := l ++ [r]) (Nat.le_refl _), ht]
            exact h3
      · cases h
    · cases h
  · cases h
/-- How far the lines have been read. -/
structure Ran (xs : List (List UInt8)) (i : Nat) : Prop where
  run : runX xs [] 65535 = runX (xs.drop i) (preX xs i) (lastX xs i)
  ok : ledgerOk (preX xs i) = true
theorem ran_zero (xs : List (List UInt8)) : Ran xs 0 := ⟨by simp [preX, lastX], by unfold preX; rw [List.take_zero]; decide⟩
theorem preX_succ {xs : List (List UInt8)} {i : Nat} (hi : i < xs.length) : preX xs (i + 1) = preX xs i ++ [recX xs[i]] := by
  unfold preX
  rw [← List.take_append_getElem (by simpa using hi), List.getElem_map]
theorem preX_len {xs : List (List UInt8)} {i : Nat} (hi : i ≤ xs.length) : (preX xs i).length = i := by
  unfold preX
  rw [List.length_take, List.length_map]
  omega
theorem run_at {xs : List (List UInt8)} {i : Nat} (hi : i < xs.length) (h : Ran xs i) : runX xs [] 65535 = if codeX (preX xs i) (lastX xs i) xs[i] = 0 then runX (xs.drop (i + 1)) (preX xs (i + 1)) (lastX xs (i + 1)) else (preX xs i, codeX (preX xs i) (lastX xs i) xs[i]) := by
  rw [h.run, List.drop_eq_getElem_cons hi, runX, preX_succ hi]
  have : lastX xs (i + 1) = numX xs[i] := by simp [lastX, hi]
  rw [this]
theorem ran_bad {xs : List (List UInt8)} {i : Nat} (hi : i < xs.length) (h : Ran xs i) (hc : codeX (preX xs i) (lastX xs i) xs[i] ≠ 0) : runX xs [] 65535 = (preX xs i, codeX (preX xs i) (lastX xs i) xs[i]) := by
  rw [run_at hi h, if_neg hc]
theorem ran_good {xs : List (List UInt8)} {i : Nat} (hi : i < xs.length) (h : Ran xs i) (hc : codeX (preX xs i) (lastX xs i) xs[i] = 0) : Ran xs (i + 1) := by
  refine ⟨by rw [run_at hi h, if_pos hc], ?_⟩
  have : arCode (preX xs i) (recX xs[i]) = 0 := by
    unfold codeX at hc
    split at hc
    · split at hc
      · exact hc
      · cases hc
    · cases hc
  rw [preX_succ hi]
  exact (ledger_snoc this).1
theorem ran_all {xs : List (List UInt8)} (h : Ran xs xs.length) : runX xs [] 65535 = (preX xs xs.length, 0) := by
  rw [h.run, List.drop_length]
  rfl
theorem preX_wf {xs : List (List UInt8)} (hx : ∀ x ∈ xs, x.length ≤ 1048576) (i : Nat) : ∀ r ∈ preX xs i, r.wf := fun r hr => by
  obtain ⟨x, hx', rfl⟩ := List.mem_map.1 (List.mem_of_mem_take hr)
  have h1 := cut_len x [32]
  have h2 := hx x hx'
  exact readV_wf (s := txtX x) (by unfold txtX; omega)

set_option maxHeartbeats 4000000 in
theorem c_readLines (xs : List (List UInt8)) (hn : xs.length ≤ 1048577) (hx : ∀ x ∈ xs, x.length ≤ 1048576) :
    HFn Tryz.prog 50 [.sl 1 (strRows xs)] [] (.tup [.sf 0 3, .int .i64 (runX xs [] 65535).2]) [some (.arr 3 (Record.rows (runX xs [] 65535).1))] := by
  refine hfn_intro hm Tryz.func50 (by kernel_rfl) rfl (by kernel_rfl) rfl (fun _ _ h => h) ?_
  simp [strRows_len]
  refine loop_upto hm xs.length (fun i => ⟨[(4, .sf 0 3), (5, .int .i64 (lastX xs i)), (17, .sl 1 (strRows xs)), (18, .int .i64 xs.length), (19, .int .i64 i)], [some (.arr 3 (Record.rows (preX xs i)))]⟩) (fun i => Ran xs i) (by kernel_rfl) ?_ (ran_zero xs) (fun i hi hI => ?_) (fun hI => ?_)
  · refine (weak_nil (t := 4) (z := 3) rfl).trans (Wk.weak (ρ := [0]) (φ := []) ?_)
    simp [preX, lastX, Record.rows]
  · have w1 : IntKind.i64.wrap ((i : Int) + 1) = (i : Int) + 1 := w64 (by omega) (by omega)
    have hg : (strRows xs)[i]'(by rw [strRows_len]; exact hi) = [.str xs[i]] := by simp [strRows]
    have hlx := hx xs[i] (List.getElem_mem hi)
    have hk := cut_len xs[i] [32]
    have hbad := ran_bad hi hI
    have hgood := ran_good hi hI
    have hcode : codeX (preX xs i) (lastX xs i) xs[i] = if lineF xs[i] = true then (if numX xs[i] = crc16 (txtX xs[i]) (lastX xs i) then arCode (preX xs i) (recX xs[i]) else 10) else 9 := rfl
    have hsucc : lastX xs (i + 1) = numX xs[i] := by simp [lastX, hi]
    have hpl := preX_len (xs := xs) (i := i) (by omega)
    have hwf := preX_wf hx i
    have hps := preX_succ hi
    simp [hi, strRows_len, hg]
    refine CallZ.use0 (c_Cut xs[i] 32 (by omega)) rfl rfl ?_
    simp
    refine CallZ.use0 (c_ReadDecimal (Lib.cut xs[i] [32]).1 (by omega)) rfl rfl ?_
    simp
    have hrd := c_readRecord (txtX xs[i]) (by unfold txtX; omega)
    have hrw : (recX xs[i]).wf := readV_wf (s := txtX xs[i]) (by unfold txtX; omega)
    have hcr := c_impl_Crc16 (txtX xs[i]) (lastX xs i) (by unfold txtX; omega)
    have har := c_impl_AddRecord (preX xs i) (recX xs[i]) (by omega) hwf hrw
    have har2 : arCode (preX xs i) (recX xs[i]) = 0 → arL (preX xs i) (recX xs[i]) = preX xs i ++ [recX xs[i]] := fun h' => (ledger_snoc h').2
    have hwh := cut_whole xs[i]
    have hrx : readV (txtX xs[i]) = recX xs[i] := rfl
    have htx : (Lib.cut xs[i] [32]).2.1 = txtX xs[i] := rfl
    have hF : lineF xs[i] = true ↔ (((Lib.cut xs[i] [32]).2.2 = true ∧ (num (Lib.cut xs[i] [32]).1).isSome = true) ∧ (0 ≤ (num (Lib.cut xs[i] [32]).1).getD 0 ∧ (num (Lib.cut xs[i] [32]).1).getD 0 ≤ 65535)) ∧ fineV (txtX xs[i]) = true := by
      simp only [lineF, Bool.and_eq_true, decide_eq_true_eq]
      exact Iff.rfl
    have hnx : numX xs[i] = (num (Lib.cut xs[i] [32]).1).getD 0 := rfl
    rw [hnx] at hcode hsucc
    rw [hrx] at hrd
    rw [htx] at hwh hk
    simp only [Record.cells] at hrd har
    generalize recX xs[i] = r at *
    generalize txtX xs[i] = tx at *
    generalize hcc : (Lib.cut xs[i] [32]).2.2 = whole at *
    generalize hnn : (Lib.cut xs[i] [32]).1 = nn at *
    generalize lineF xs[i] = lf at *
    generalize codeX (preX xs i) (lastX xs i) xs[i] = cd at *
    generalize lastX xs i = la at *
    generalize arL (preX xs i) r = aL at *
    generalize arCode (preX xs i) r = aC at *
    rw [htx]
    refine CallZ.use0 hrd rfl rfl ?_
    simp
    refine ⟨fun a b => ⟨a, b⟩, ?_⟩
    refine CallY.use (fun _ => ⟨rfl, c_within _ _ _⟩) rfl rfl ?_
    simp
    refine ⟨fun a b => ⟨a, b⟩, fun a b c d => ⟨⟨⟨a, b⟩, c, d⟩, by omega⟩, fun a b c d => ⟨⟨⟨a, b⟩, c, d⟩, by omega⟩, fun a b c d => ⟨⟨a, b⟩, c, d⟩, fun g => ?_, fun a b c d e => ?_⟩
    · have hl : ¬ lf = true := fun hl => by
        obtain ⟨⟨⟨e1, e2⟩, e3, e4⟩, e5⟩ := hF.1 hl
        rcases g with ((g | g) | g | g) | g
        · rw [g] at e2; cases e2
        · rw [g] at e5; cases e5
        · omega
        · omega
        · exact g (hwh.2 e1)
      rw [if_neg hl] at hcode
      rw [hbad (by rw [hcode]; decide), hcode]
      refine Wk.weak (ρ := [0]) (φ := []) ?_
      simp
    · have hl : lf = true := hF.2 ⟨⟨⟨hwh.1 e, a⟩, c, d⟩, b⟩
      rw [if_pos hl] at hcode
      refine CallZ.use0 hcr rfl rfl ?_
      simp
      refine ⟨fun g => ?_, fun g => ?_⟩
      · rw [if_neg g] at hcode
        rw [hbad (by rw [hcode]; decide), hcode]
        refine Wk.weak (ρ := [0]) (φ := []) ?_
        simp
      · rw [if_pos g] at hcode
        refine CallZ.use har rfl (.inr ⟨Record.flat _, trivial⟩) rfl rfl ?_
        simp
        refine ⟨fun g2 => ?_, fun g2 => ⟨hgood (by rw [hcode]; exact g2), Wk.weak (ρ := [2]) (φ := []) ?_⟩⟩
        · rw [hbad (by rw [hcode]; exact g2), hcode]
          refine Wk.weak (ρ := [0]) (φ := []) ?_
          simp
        · rw [hps, hsucc, har2 g2]
          simp [w1]
  · rw [ran_all hI]
    simp
    exact Weak.refl _

theorem spl_last {s : List UInt8} : (spl 10 s).getLast (spl_ne _ _) = [] ↔ ¬ (0 < s.length ∧ s.getD (s.length - 1) 0 ≠ 10) := by
  have key : ∀ s : List UInt8, ∀ h, (spl 10 s).getLast h = [] ↔ (s = [] ∨ s.getLast? = some 10) := by
    intro s
    induction s with
    | nil => intro h; simp [spl]
    | cons b r ih =>
      intro h
      have e := spl_cons 10 b r
      by_cases hb : b = 10
      · rw [if_pos hb] at e
        simp only [e, List.getLast_cons (spl_ne 10 r)]
        rw [ih (spl_ne 10 r)]
        subst hb
        cases r <;> simp
      · rw [if_neg hb] at e
        cases hs : spl 10 r with
        | nil => exact absurd hs (spl_ne _ _)
        | cons y t =>
          rw [hs] at e
          simp only at e
          have i2 := ih (spl_ne 10 r)
          simp only [hs] at i2
          simp only [e]
          cases t with
          | nil =>
            simp at i2 ⊢
            have hr : ¬ r.getLast? = some 10 := fun g => by
              have hy : y = [] := i2.2 (.inr g)
              have hf := spl_mem (c := 10) (s := r)
              have hj := join_spl 10 r
              rw [hs, join_one, hy] at hj
              rw [← hj] at g
              cases g
            cases r with
            | nil => simp [hb]
            | cons z r => simpa using hr
          | cons z t =>
            simp at i2 ⊢
            rw [i2]
            cases r with
            | nil => cases hs
            | cons z r => simp
  rw [key]
  cases hs : s with
  | nil => simp
  | cons b r =>
    have : (b :: r).getLast? = some ((b :: r).getD ((b :: r).length - 1) 0) := by
      rw [List.getLast?_eq_getElem?, List.getD_eq_getElem?_getD, List.getElem?_eq_getElem (by simp)]
      rfl
    rw [this]
    simp
/-- A part that begins with its object, within a tuple, becomes the whole of it. -/
theorem weak_cutT {S : St} {t k z len i : Nat} {cs : List PV} {rows : List (List PV)} (hk : S.H[k]? = some (some (.arr z rows))) (ht : slot S.fr t = .tup cs) (hi : cs[i]? = some (.so k z 0 len)) (hl : len ≤ rows.length) :
    Weak S ⟨(t, .tup ((cs.map (scrubA k)).set i (.sf k z))) :: scrubF k S.fr, (S.H.map (scrubO k)).set k (some (.arr z (rows.take len)))⟩ := fun x n a w A m hI => by
  have hk' : getO S.H k = some (.arr z rows) := by simp [getO, hk]
  have hr := hI.fr t
  rw [ht] at hr
  obtain ⟨us, hus, hul, huh⟩ := hr.tupI
  obtain ⟨rows', ob, C, cap, hk2, hm, hv⟩ := (huh i _ hi).soI
  obtain rfl : rows' = rows := by rw [hk'] at hk2; cases hk2; rfl
  have hlt : (rows'.take len).length = len := by rw [List.length_take]; omega
  refine ⟨A, m, inv_look hI hk' hm (fun h' => ?_) fun t' => ?_⟩
  · obtain ⟨ob', C', hm', ho⟩ := hI.conc.at_ k _ hk'
    rw [hm] at hm'
    cases hm'
    cases ob with
    | none => obtain ⟨rfl, rfl⟩ := ho; exact ⟨by simp, rfl⟩
    | some b =>
      obtain ⟨g1, g2, g3, g4, g5, cur, e, q1, q2, q3⟩ := ho
      have key : ∀ (i : Nat) (r : List PV), (rows'.take len)[i]? = some r → rows'[i]? = some r := fun i r hr => by
        rw [List.getElem?_take] at hr
        split at hr
        · exact hr
        · cases hr
      exact ⟨g1, g2, by omega, g4, fun i r hr => g5 i r (key i r hr), cur, e, q1, q2, fun i j r c hr hc => q3 i j r c (key i r hr) hc⟩
  · simp only [slot]
    cases e : t == t' with
    | true =>
      have : t = t' := by simpa using e
      subst this
      have hs := scrub_keep (o' := .arr z (rows'.take len)) hm hr
      obtain ⟨us', hus', hul', huh'⟩ := hs.tupI
      obtain rfl : us' = us := by rw [hus] at hus'; cases hus'; rfl
      have hil : i < cs.length := (List.getElem?_eq_some_iff.1 hi).1
      show RepO A m _ w (.tup _) _
      rw [hus]
      refine .tup _ us' (by simpa using hul) fun j c hc => ?_
      rw [List.getElem?_set] at hc
      by_cases hij : i = j
      · subst hij
        rw [if_pos rfl] at hc
        simp [hil] at hc
        subst hc
        rcases hv with ⟨rfl, ao, hao, h0⟩ | ⟨b, rfl, hao, _, hcap⟩
        · obtain ⟨rfl, rfl, rfl⟩ := h0 rfl
          rw [hao]
          exact .sfN k z C ao (by simp [turnO]) hm
        · rw [hao, Nat.zero_mul]
          obtain rfl : cap = C := by omega
          have := RepO.sf (A := A) (m := m) (w := w) (h := turnO (getO S.H) k (.arr z (rows'.take len))) k z cap b (rows'.take len) (by simp [turnO]) hm
          rw [hlt] at this
          exact this
      · rw [if_neg hij] at hc
        exact huh' j c hc
    | false =>
      simp only [cond_false]
      rw [slot_scrub]
      exact scrub_keep hm (hI.fr t')

theorem c_endedLines (s : List UInt8) (hs : s.length ≤ 1048576) : HFn Tryz.prog 49 [.str s] [] (.tup [.sf 0 1, .str ((spl 10 s).getLast (spl_ne _ _))]) [some (.arr 1 (strRows (spl 10 s).dropLast))] := by
  have hl := spl_len 10 s
  have hne := List.length_pos_iff.2 (spl_ne 10 s)
  have hg : (strRows (spl 10 s))[(spl 10 s).length - 1]? = some [.str ((spl 10 s).getLast (spl_ne _ _))] := by
    unfold strRows
    rw [List.getElem?_map, ← List.getLast?_eq_getElem?, List.getLast?_eq_some_getLast (spl_ne _ _)]
    rfl
  refine hfn_intro hm Tryz.func49 (by kernel_rfl) rfl (by kernel_rfl) rfl (fun _ _ h => h) ?_
  simp
  refine CallZ.use (c_Split s 10 (by omega)) rfl (.inr ⟨flat_strRows _, trivial⟩) rfl rfl ?_
  have w1 : IntKind.i64.wrap (((spl 10 s).length : Int) - 1) = ((spl 10 s).length - 1 : Nat) := by rw [w64 (by omega) (by omega)]; omega
  simp [strRows_len, w1, hg]
  refine ⟨by omega, ?_⟩
  have hd : (strRows (spl 10 s)).take ((spl 10 s).length - 1) = strRows (spl 10 s).dropLast := by
    unfold strRows
    rw [← List.map_take, List.dropLast_eq_take]
  refine (weak_cutT (t := 0) (i := 0) rfl rfl rfl (by rw [strRows_len]; omega)).trans (Wk.weak (ρ := [0]) (φ := []) ?_)
  simp [hd]

end Go.Proofs.YtmdablalfmcgnaaGreatDoor
-- from Ok
namespace Go.Proofs.YtmdablalfmcgnaaGreatDoor
open Go Go.Ab
set_option maxRecDepth 100000

def salvR (s : List UInt8) : List Record × Int := runX (spl 10 s).dropLast [] 65535
theorem lines_len (s : List UInt8) : (spl 10 s).dropLast.length ≤ s.length ∧ ∀ x ∈ (spl 10 s).dropLast, x.length ≤ s.length := by
  have := spl_len 10 s
  exact ⟨by rw [List.length_dropLast]; omega, fun x hx => spl_piece 10 s x ((List.dropLast_sublist _).subset hx)⟩
theorem runX_len : ∀ (xs : List (List UInt8)) (l : List Record) (last : Int), (runX xs l last).1.length ≤ l.length + xs.length
  | [], l, _ => by simp [runX]
  | x :: t, l, last => by
    unfold runX
    split
    · have := runX_len t (l ++ [recX x]) (numX x)
      simp at this ⊢
      omega
    · simp
theorem salvR_len {s : List UInt8} (hs : s.length ≤ 1048576) : (salvR s).1.length ≤ 1048576 := by
  have h1 := runX_len (spl 10 s).dropLast [] 65535
  have h2 := (lines_len s).1
  unfold salvR
  simp only [List.length_nil, Nat.zero_add] at h1
  omega

theorem c_impl_SalvageLedger (s : List UInt8) (hs : s.length ≤ 1048576) : HFn Tryz.prog 14 [.str s] [] (.sf 0 3) [some (.arr 3 (Record.rows (salvR s).1))] := by
  have hl := lines_len s
  have kr := c_readLines (spl 10 s).dropLast (by omega) (fun x hx => Nat.le_trans (hl.2 x hx) hs)
  refine hfn_intro hm Tryz.func14 (by kernel_rfl) rfl (by kernel_rfl) rfl (fun _ _ h => h) ?_
  simp
  refine CallZ.use (c_endedLines s hs) rfl (.inr ⟨flat_strRows _, trivial⟩) rfl rfl ?_
  simp
  refine CallZ.use kr rfl (.inr ⟨Record.flat _, trivial⟩) rfl rfl ?_
  simp
  refine Wk.weak (ρ := [1]) (φ := []) ?_
  simp [salvR]

end Go.Proofs.YtmdablalfmcgnaaGreatDoor
-- from Ol
namespace Go.Proofs.YtmdablalfmcgnaaGreatDoor
open Go Go.Ab
set_option maxRecDepth 100000

/-- What the loading of a ledger answers. -/
def loadR (s : List UInt8) : List Record × Int := if (spl 10 s).getLast (spl_ne _ _) = [] then (if (salvR s).2 = 0 then ((salvR s).1, 0) else ([], (salvR s).2)) else ([], 11)
theorem loadR_len {s : List UInt8} (hs : s.length ≤ 1048576) : (loadR s).1.length ≤ 1048576 := by
  have := salvR_len hs
  unfold loadR
  split
  · split
    · exact this
    · simp
  · simp

theorem c_impl_LoadLedger (s : List UInt8) (hs : s.length ≤ 1048576) : HFn Tryz.prog 11 [.str s] [] (.tup [.sf 0 3, .int .i64 (loadR s).2]) [some (.arr 3 (Record.rows (loadR s).1))] := by
  have hl := lines_len s
  have kr := c_readLines (spl 10 s).dropLast (by omega) (fun x hx => Nat.le_trans (hl.2 x hx) hs)
  refine hfn_intro hm Tryz.func11 (by kernel_rfl) rfl (by kernel_rfl) rfl (fun _ _ h => h) ?_
  simp
  refine CallZ.use (c_endedLines s hs) rfl (.inr ⟨flat_strRows _, trivial⟩) rfl rfl ?_
  simp
  refine ⟨fun h => ?_, fun h => ?_⟩
  · have e : loadR s = ([], 11) := by unfold loadR; rw [if_neg h]
    rw [e]
    refine (weak_nilT (t := 0) 0 3 rfl rfl).trans (Wk.weak (ρ := [1]) (φ := []) ?_)
    simp [Record.rows]
  · have e : loadR s = if (salvR s).2 = 0 then ((salvR s).1, 0) else ([], (salvR s).2) := by unfold loadR; rw [if_pos h]
    have es : salvR s = runX (spl 10 s).dropLast [] 65535 := rfl
    rw [← es] at kr
    refine CallZ.use kr rfl (.inr ⟨Record.flat _, trivial⟩) rfl rfl ?_
    simp
    refine ⟨fun g => ?_, fun g => ?_⟩
    · rw [if_neg g] at e
      rw [e]
      refine (weak_nilT (t := 0) 0 3 rfl rfl).trans (Wk.weak (ρ := [2]) (φ := []) ?_)
      simp [Record.rows]
    · rw [if_pos g] at e
      rw [e]
      refine Wk.weak (ρ := [1]) (φ := []) ?_
      simp

end Go.Proofs.YtmdablalfmcgnaaGreatDoor
