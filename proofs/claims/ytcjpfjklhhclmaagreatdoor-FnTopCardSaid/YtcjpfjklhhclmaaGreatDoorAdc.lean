/- Contracts: a carillon that is drawn. No condition. -/
import Derived.Test.YtcjpfjklhhclmaaGreatDoorAdb
import Derived.Test.YtcjpfjklhhclmaaGreatDoorBl
import Derived.Test.YtcjpfjklhhclmaaGreatDoorFm
import Derived.Test.YtcjpfjklhhclmaaGreatDoorJa
namespace Go.Proofs.YtcjpfjklhhclmaaGreatDoor
open Go Go.Ab
set_option maxRecDepth 100000

theorem _root_.Go.Ab.HFn.mfn {P : Program} {f : FuncId} {args : List PV} {Hin : Heap} {res : PV} {Hout : Heap} (h : HFn P f args Hin res Hout) : MFn P f args Hin [] res Hout := fun A m w vs hA hC hvs hargs =>
  (h A m w vs hA hC hvs hargs).mono fun _ _ ⟨v, A', m', h1, h2⟩ => ⟨v, A', m', h1, h2, fun _ hk => by cases hk⟩
theorem c_NotesUsedG (t : Tune) (hl : t.tones.length ≤ 1048576) : GFn Tryz.prog 14 [.agg t.cells] [] [] (fun y : List Int × Int => y.1.length ≤ 128) (fun y => .tup [.sf 0 1, .int .i64 y.2]) (fun y => [some (.arr 1 (intRows y.1))]) := by
  cases ht : tuneOk t
  · have kO := c_l25Ok t hl
    rw [ht] at kO
    simp only [Tune.ptr, Tune.cells] at kO
    refine gfn_intro [] hm Tryz.func14 (by kernel_rfl) rfl (by kernel_rfl) rfl (by simp) (by simp) ?_
    simp [Tune.cells]
    refine CallZ.use0 kO rfl rfl ?_
    simp
    exact ⟨([], 1), by simp, (weak_nilT (t := 0) 0 1 rfl rfl).trans (Wk.weak (ρ := [1]) (φ := []) (by simp [intRows]))⟩
  · exact MFn.gfn (notesL t, 0) (notesL_in ht).1 (HFn.mfn (c_NotesUsed t ht))

/-- The lists of a carillon that is drawn. -/
structure CarD where
  hu : List Hung
  pl : List Place
  to : List Tone
  st : Int
  s : Src
def CarD.ok (x : CarD) (n m : Nat) : Prop := x.hu.length ≤ n ∧ x.pl.length ≤ n ∧ x.to.length ≤ n ∧ x.s.ok m
def oldT : List UInt8 := [111, 108, 100]
def songT : List UInt8 := [115, 111, 110, 103]
def noCar : List PV := [.nils, .nils, .nils, .nils, .int .i64 0, .int .i64 0, .int .i64 0, .nils, .int .i64 0, .str [], .int .i64 0, .int .i64 0, .int .i64 0, .int .i64 0, .nils, .int .i64 0, .int .i64 0, .nils, .str [], .nils]
def carB (l : List Ingot) (ms : List Melt) (bs : List Bell) : List PV := [.sl 5 (Ingot.rows l), .sl 3 (Melt.rows ms), .sl 5 (Bell.rows bs), .sf 3 5, .int .i64 20000, .int .i64 20000, .int .i64 5000, .sf 4 5, .int .i64 50, .str oldT, .int .i64 2500, .int .i64 50, .int .i64 5000, .int .i64 100000, .nils, .int .i64 20000, .int .i64 40000, .nils, .str songT, .sf 5 3]
/-- What is known while a hung bell is drawn: how far the source is read, whether the new row is laid. -/
def drJ (n : Nat) (E : Nat → Prop) (y : Src × Option (Int × Int)) : Prop := (¬ E 13 → ¬ E 16 → y.1.ok n) ∧ (¬ E 13 → y.1.ok (n + 2)) ∧ (¬ E 16 → y.1.ok (n + 2)) ∧ y.1.ok (n + 4) ∧ (y.2.isSome = true ↔ E 19)
theorem drJ.keep {n : Nat} {E : Nat → Prop} {y : Src × Option (Int × Int)} {j : Nat} (h19 : j ≠ 19) (h : drJ n E y) : drJ n (fun i => E i ∨ i = j) y :=
  ⟨fun h1 h2 => h.1 (fun h => h1 (.inl h)) fun h => h2 (.inl h), fun h1 => h.2.1 fun h => h1 (.inl h), fun h1 => h.2.2.1 fun h => h1 (.inl h), h.2.2.2.1, h.2.2.2.2.trans ⟨.inl, fun h => h.resolve_right (Ne.symm h19)⟩⟩
def drI (b : Bell) (bs : List Bell) (i : Nat) (j : Nat) (p : PV) : Prop := match j with
  | 0 => p = .pb 2 3
  | 1 => p = .sf 3 5
  | 2 | 7 => p = .sl 5 (Bell.rows bs)
  | 3 | 8 => p = .int .i64 i
  | 4 | 9 | 5 => p = .pe 5 (Bell.rows bs) i 0
  | 6 => p = .str b.id
  | 10 => p = .pe 5 (Bell.rows bs) i 2
  | 11 => p = .int .i64 b.mass
  | 12 | 15 => p = .pb 0 0
  | 13 | 14 | 16 | 17 => ∃ k, p = .int .i64 k
  | 18 => ∃ a c, p = .agg [.str b.id, .int .i64 a, .int .i64 c, .int .i64 800, .int .i64 60]
  | 19 => p = .sf 6 5
  | _ => True
def drH (b : Bell) (l : List Ingot) (ms : List Melt) (bs : List Bell) (hu : List Hung) (pl : List Place) (to : List Tone) (y : Src × Option (Int × Int)) : Heap :=
  match y with
  | (s, none) => [s.box, some (.box noCar), some (.box (carB l ms bs)), some (.arr 5 (Hung.rows hu)), some (.arr 5 (Place.rows pl)), some (.arr 3 (Tone.rows to))]
  | (s, some q) => [s.box, some (.box noCar), some (.box (carB l ms bs)), some (.arr 5 (Hung.rows hu)), some (.arr 5 (Place.rows pl)), some (.arr 3 (Tone.rows to)), some (.arr 5 [[.str b.id, .int .i64 q.1, .int .i64 q.2, .int .i64 800, .int .i64 60]])]
def carB2 (l : List Ingot) (ms : List Melt) (bs : List Bell) (hu : List Hung) (pl : List Place) (to : List Tone) (fr cl : PV) : List PV := [.sl 5 (Ingot.rows l), .sl 3 (Melt.rows ms), .sl 5 (Bell.rows bs), .sl 5 (Hung.rows hu), .int .i64 20000, .int .i64 20000, .int .i64 5000, .sl 5 (Place.rows pl), .int .i64 50, .str oldT, .int .i64 2500, .int .i64 50, .int .i64 5000, .int .i64 100000, fr, .int .i64 20000, .int .i64 40000, cl, .str songT, .sl 3 (Tone.rows to)]
def clH (s : Src) (l : List Ingot) (ms : List Melt) (bs : List Bell) (hu : List Hung) (pl : List Place) (to : List Tone) (cl : List Action) (n : Int) (b : Bool) : Heap :=
  match b with
  | false => [s.box, some (.box noCar), some (.box (carB2 l ms bs hu pl to .nils (.sf 3 4))), some (.arr 4 (Action.rows cl))]
  | true => [s.box, some (.box noCar), some (.box (carB2 l ms bs hu pl to .nils (.sf 3 4))), some (.arr 4 (Action.rows cl)), some (.arr 4 [[.int .i64 n, .sl 2 [[.int .i64 100, .int .i64 200]], .int .i64 1, .int .i64 100]])]
def clI (ns : List Int) (i : Nat) (n : Int) (j : Nat) (p : PV) : Prop := match j with
  | 0 => p = .pb 2 17
  | 1 => p = .sf 3 4
  | 2 => p = .sl 1 (intRows ns)
  | 3 => p = .int .i64 i
  | 4 => p = .pe 1 (intRows ns) i 0
  | 5 => p = .int .i64 n
  | 6 => p = .agg [.int .i64 100, .int .i64 200]
  | 7 => p = .sl 2 [[.int .i64 100, .int .i64 200]]
  | 8 => p = .agg [.int .i64 n, .sl 2 [[.int .i64 100, .int .i64 200]], .int .i64 1, .int .i64 100]
  | 9 => p = .sf 4 4
  | _ => True
theorem small_of {l : List Ingot} {ms : List Melt} {bs : List Bell} {hu : List Hung} {pl : List Place} {to : List Tone} {fr : List Beam} {cl : List Action} {ch : Chamber} {ga st be : Int} {tw : Tower} {nm : List UInt8}
    (hl : l.length ≤ 7) (hms : MelD 5 ms) (hbs : BellD 5 bs) (h1 : hu.length ≤ 5) (h2 : pl.length ≤ 5) (h3 : to.length ≤ 5) (h4 : fr.length ≤ 3) (h5 : ∀ x ∈ fr, x.loads.length ≤ 4) (h6 : cl.length ≤ 128) (h7 : ∀ x ∈ cl, x.levers.length ≤ 1) : Carillon.small ⟨l, ms, bs, hu, ch, pl, ga, tw, fr, st, be, cl, ⟨nm, to⟩⟩ :=
  ⟨by simp only; omega, by have := hms.1; simp only; omega, fun x hx => by have := hms.2 x hx; omega, by have := hbs.1; simp only; omega, fun x hx => by have := hbs.2 x hx; omega, by simp only; omega, by simp only; omega, by simp only; omega, fun x hx => by have := h5 x hx; omega, by simp only; omega, fun x hx => by have := h7 x hx; omega, by simp only; omega⟩
set_option maxHeartbeats 32000000 in
theorem c_l31Draw {m : Nat} {s : Src} (h : s.ok m) (hb : m + 2000 ≤ 4611686018427387904) : GFn Tryz.prog 32 [.pb 0 0] [s.box] [0] (fun x : Carillon × Src => x.1.small ∧ x.2.ok (m + 2000)) (fun x => .agg x.1.cells) (fun x => [x.2.box]) := by
  refine gfn_introL [] [0] hm Tryz.func32 (by kernel_rfl) rfl (by kernel_rfl) rfl (by simp) (by simp) ?_
  simp
  refine CallZ.useG [0] [] [] (c_l18DrawOk h (by omega)) (by simp) rfl (by simp) rfl (fun x _ => ⟨rfl, rfl, rfl, .inl rfl⟩) (fun x hx => ?_)
  obtain ⟨l, ms, bs, s1⟩ := x
  obtain ⟨hl, hms, hbs, h1⟩ := hx
  simp only at hl hms hbs h1 ⊢
  have hbl := hbs.1
  simp
  refine loop_uptoGL hm [11, 12] bs.length (fun i (y : CarD) => ⟨[(0, .pb 0 0), (2, .pb 1 0), (5, .sl 5 (Bell.rows bs)), (6, .pb 2 0), (7, .int .i64 y.st), (8, .int .i64 i), (178, .own 0)], [y.s.box, some (.box noCar),
      some (.box (carB l ms bs)),
      some (.arr 5 (Hung.rows y.hu)), some (.arr 5 (Place.rows y.pl)), some (.arr 3 (Tone.rows y.to))]⟩)
    (fun i y => y.ok i (m + 600 + 20 * i)) (by kernel_rfl) ⟨⟨[], [], [], 0, s1⟩, ⟨by simp, by simp, by simp, h1⟩, ?_⟩ (fun i y hi hI => ?_) (fun y hI => ?_)
  · refine (weak_nilB 2 3 5 rfl rfl).trans ((weak_nilB 2 7 5 rfl rfl).trans ((weak_nilB 2 19 3 rfl rfl).trans (Wk.weak (ρ := [0, 1, 2, 3, 4, 5]) (φ := []) ?_)))
    simp [Hung.rows, Place.rows, Tone.rows, noCar, oldT, songT, carB]
  · obtain ⟨hu, pl, to, st, s2⟩ := y
    obtain ⟨i1, i2, i3, h2⟩ := hI
    simp only at i1 i2 i3 h2 ⊢
    have w1 : IntKind.i64.wrap ((i : Int) + 1) = (i : Int) + 1 := w64 (by omega) (by omega)
    have g16 : (i : Int) < 16 := by omega
    have k3 := c_pick h2 (by omega) 5
    obtain ⟨p3, q3, h3⟩ := h2.pick (by omega) 5
    generalize s2.pick 5 = b at k3 p3 q3 h3
    obtain ⟨v3, s3⟩ := b
    simp only at k3 p3 q3 h3
    simp [Bell.rows_len, hi, g16]
    refine CallY.useM [0] [] [] k3 (by simp) rfl rfl (by simp) rfl rfl rfl (.inl rfl) ?_
    simp
    have x1 : IntKind.i64.wrap (1500 * (i : Int)) = 1500 * i := w64 (by omega) (by omega)
    have x2 : IntKind.i64.wrap (900 + 1500 * (i : Int)) = 900 + 1500 * i := w64 (by omega) (by omega)
    by_cases g : 0 < v3
    case' pos =>
      have g' : ¬ v3 ≤ 0 := by omega
      simp [g, g']
      refine ends_loose (Hf := drH bs[i] l ms bs hu pl to) (y0 := (s3, none)) hm 20 [1, 19] [[], [0], [], [], [2, 3], [4], [5], [], [], [7, 8], [9], [10], [], [12], [11, 13], [], [15], [16], [6, 14, 17], [18]] [43, 44, 45, 46, 47, 48, 49, 50, 51, 52, 53, 54, 55, 56, 57, 58, 59, 60, 61, 62]
        (drJ (m + 600 + 20 * i + 2)) (drI bs[i] bs i) (by kernel_rfl) ⟨fun _ _ => h3, fun _ => h3.mono (by omega) (by omega), fun _ => h3.mono (by omega) (by omega), h3.mono (by omega) (by omega), by simp⟩ ?hs ?hf ?he
      case hf => simp
      case hs =>
        refine And.intro (fun E fr y hE hJ hb hd _ _ => ?_) (And.intro (fun E fr y hE hJ hb hd _ _ => ?_) (And.intro (fun E fr y hE hJ hb hd _ _ => ?_) (And.intro (fun E fr y hE hJ hb hd _ _ => ?_) (And.intro (fun E fr y hE hJ hb hd _ _ => ?_) (And.intro (fun E fr y hE hJ hb hd _ _ => ?_) (And.intro (fun E fr y hE hJ hb hd _ _ => ?_) (And.intro (fun E fr y hE hJ hb hd _ _ => ?_) (And.intro (fun E fr y hE hJ hb hd _ _ => ?_) (And.intro (fun E fr y hE hJ hb hd _ _ => ?_) (And.intro (fun E fr y hE hJ hb hd _ _ => ?_) (And.intro (fun E fr y hE hJ hb hd _ _ => ?_) (And.intro (fun E fr y hE hJ hb hd _ _ => ?_) (And.intro (fun E fr y hE hJ hb hd _ _ => ?_) (And.intro (fun E fr y hE hJ hb hd _ _ => ?_) (And.intro (fun E fr y hE hJ hb hd _ _ => ?_) (And.intro (fun E fr y hE hJ hb hd _ _ => ?_) (And.intro (fun E fr y hE hJ hb hd _ _ => ?_) (And.intro (fun E fr y hE hJ hb hd _ _ => ?_) (And.intro (fun E fr y hE hJ hb hd _ _ => ?_) trivial)))))))))))))))))))
        · have b := hb 6 (by decide)
          simp [slot] at b
          simp [b]
          exact .inl ⟨_, y, rfl, rfl, hJ.keep (by decide)⟩
        · have d0 := hd 0 (by simp)
          simp [drI] at d0
          obtain ⟨s4, q⟩ := y
          cases q <;> simp [drH, d0, carB] <;> exact .inl ⟨_, (s4, _), rfl, rfl, hJ.keep (by decide)⟩
        · have b := hb 5 (by decide)
          simp [slot] at b
          simp [b]
          exact .inl ⟨_, y, rfl, rfl, hJ.keep (by decide)⟩
        · have b := hb 8 (by decide)
          simp [slot] at b
          simp [b]
          exact .inl ⟨_, y, rfl, rfl, hJ.keep (by decide)⟩
        · have d0 := hd 2 (by simp)
          have d1 := hd 3 (by simp)
          simp [drI] at d0 d1
          obtain ⟨s4, q⟩ := y
          cases q <;> simp [drH, d0, d1, carB, Bell.rows_len, hi] <;> exact .inl ⟨_, (s4, _), rfl, rfl, hJ.keep (by decide)⟩
        · have d0 := hd 4 (by simp)
          simp [drI] at d0
          obtain ⟨s4, q⟩ := y
          cases q <;> simp [drH, d0, carB] <;> exact .inl ⟨_, (s4, _), rfl, rfl, hJ.keep (by decide)⟩
        · have d0 := hd 5 (by simp)
          simp [drI] at d0
          obtain ⟨s4, q⟩ := y
          cases q <;> simp [drH, d0, carB, Bell.rows_len, Bell.row_get, Bell.cells, hi] <;> exact .inl ⟨_, (s4, _), rfl, rfl, hJ.keep (by decide)⟩
        · have b := hb 5 (by decide)
          simp [slot] at b
          simp [b]
          exact .inl ⟨_, y, rfl, rfl, hJ.keep (by decide)⟩
        · have b := hb 8 (by decide)
          simp [slot] at b
          simp [b]
          exact .inl ⟨_, y, rfl, rfl, hJ.keep (by decide)⟩
        · have d0 := hd 7 (by simp)
          have d1 := hd 8 (by simp)
          simp [drI] at d0 d1
          obtain ⟨s4, q⟩ := y
          cases q <;> simp [drH, d0, d1, carB, Bell.rows_len, hi] <;> exact .inl ⟨_, (s4, _), rfl, rfl, hJ.keep (by decide)⟩
        · have d0 := hd 9 (by simp)
          simp [drI] at d0
          obtain ⟨s4, q⟩ := y
          cases q <;> simp [drH, d0, carB] <;> exact .inl ⟨_, (s4, _), rfl, rfl, hJ.keep (by decide)⟩
        · have d0 := hd 10 (by simp)
          simp [drI] at d0
          obtain ⟨s4, q⟩ := y
          cases q <;> simp [drH, d0, carB, Bell.rows_len, Bell.row_get, Bell.cells, hi] <;> exact .inl ⟨_, (s4, _), rfl, rfl, hJ.keep (by decide)⟩
        · have b := hb 0 (by decide)
          simp [slot] at b
          simp [b]
          exact .inl ⟨_, y, rfl, rfl, hJ.keep (by decide)⟩
        · have d0 := hd 12 (by simp)
          simp [drI] at d0
          obtain ⟨s4, q⟩ := y
          simp [d0]
          by_cases e16 : E 16
          · have h4 := hJ.2.1 hE
            obtain ⟨_, _, h5⟩ := h4.pick (by omega) 2000
            cases q <;> simp only [drH] <;> refine CallZ.useM [0] [] [] (c_pick h4 (by omega) 2000) (by simp) rfl rfl (by simp) rfl rfl rfl (.inl rfl) ?_ <;>
              exact .inl ⟨_, ((s4.pick 2000).2, _), rfl, ⟨_, rfl⟩, fun h => absurd (.inr rfl) h, fun h => absurd (.inr rfl) h, fun h => absurd (.inl e16) h, h5, hJ.2.2.2.2.trans ⟨.inl, fun h => h.resolve_right (by decide)⟩⟩
          · have h4 := hJ.1 hE e16
            obtain ⟨_, _, h5⟩ := h4.pick (by omega) 2000
            cases q <;> simp only [drH] <;> refine CallZ.useM [0] [] [] (c_pick h4 (by omega) 2000) (by simp) rfl rfl (by simp) rfl rfl rfl (.inl rfl) ?_ <;>
              exact .inl ⟨_, ((s4.pick 2000).2, _), rfl, ⟨_, rfl⟩, fun h => absurd (.inr rfl) h, fun h => absurd (.inr rfl) h, fun _ => h5, h5.mono (by omega) (by omega), hJ.2.2.2.2.trans ⟨.inl, fun h => h.resolve_right (by decide)⟩⟩
        · have d0 := hd 11 (by simp)
          obtain ⟨k, d1⟩ := hd 13 (by simp)
          simp [drI] at d0 d1
          simp [d0, d1]
          exact .inl ⟨_, y, rfl, ⟨_, rfl⟩, hJ.keep (by decide)⟩
        · have b := hb 0 (by decide)
          simp [slot] at b
          simp [b]
          exact .inl ⟨_, y, rfl, rfl, hJ.keep (by decide)⟩
        · have d0 := hd 15 (by simp)
          simp [drI] at d0
          obtain ⟨s4, q⟩ := y
          simp [d0]
          by_cases e13 : E 13
          · have h4 := hJ.2.2.1 hE
            obtain ⟨_, _, h5⟩ := h4.pick (by omega) 3000
            cases q <;> simp only [drH] <;> refine CallZ.useM [0] [] [] (c_pick h4 (by omega) 3000) (by simp) rfl rfl (by simp) rfl rfl rfl (.inl rfl) ?_ <;>
              exact .inl ⟨_, ((s4.pick 3000).2, _), rfl, ⟨_, rfl⟩, fun _ h => absurd (.inr rfl) h, fun h => absurd (.inl e13) h, fun h => absurd (.inr rfl) h, h5, hJ.2.2.2.2.trans ⟨.inl, fun h => h.resolve_right (by decide)⟩⟩
          · have h4 := hJ.1 e13 hE
            obtain ⟨_, _, h5⟩ := h4.pick (by omega) 3000
            cases q <;> simp only [drH] <;> refine CallZ.useM [0] [] [] (c_pick h4 (by omega) 3000) (by simp) rfl rfl (by simp) rfl rfl rfl (.inl rfl) ?_ <;>
              exact .inl ⟨_, ((s4.pick 3000).2, _), rfl, ⟨_, rfl⟩, fun _ h => absurd (.inr rfl) h, fun _ => h5, fun h => absurd (.inr rfl) h, h5.mono (by omega) (by omega), hJ.2.2.2.2.trans ⟨.inl, fun h => h.resolve_right (by decide)⟩⟩
        · obtain ⟨k, d1⟩ := hd 16 (by simp)
          simp at d1
          simp [d1]
          exact .inl ⟨_, y, rfl, ⟨_, rfl⟩, hJ.keep (by decide)⟩
        · have d0 := hd 6 (by simp)
          obtain ⟨k, d1⟩ := hd 14 (by simp)
          obtain ⟨k2, d2⟩ := hd 17 (by simp)
          simp [drI] at d0 d1 d2
          simp [d0, d1, d2]
          exact .inl ⟨_, y, rfl, ⟨_, _, rfl⟩, hJ.keep (by decide)⟩
        · obtain ⟨a, c, d1⟩ := hd 18 (by simp)
          simp at d1
          obtain ⟨s4, q⟩ := y
          cases q
          · simp [drH, d1]
            exact .inl ⟨_, (s4, some (a, c)), rfl, rfl, fun h1 h2 => hJ.1 (fun h => h1 (.inl h)) fun h => h2 (.inl h), fun h1 => hJ.2.1 fun h => h1 (.inl h), fun h1 => hJ.2.2.1 fun h => h1 (.inl h), hJ.2.2.2.1, ⟨fun _ => .inr rfl, fun _ => rfl⟩⟩
          · exact absurd (hJ.2.2.2.2.1 rfl) hE
      intro vs y hJ hs
      have e1 := hs 1 (by decide)
      have e19 := hs 19 (by decide)
      simp [drI] at e1 e19
      obtain ⟨s4, q⟩ := y
      cases q
      · have := hJ.2.2.2.2.2 (by decide); cases this
      rename_i q
      have h4 := hJ.2.2.2.1
      simp only at h4
      simp [e1, e19, drH, carB, Hung.rows_len]
      refine ⟨by simp [rowsOne], by omega, by omega, ?_⟩
      have k5 := c_pick h4 (by omega) 100
      obtain ⟨p5, q5, h5⟩ := h4.pick (by omega) 100
      have q5 := q5 (by omega)
      generalize s4.pick 100 = b at k5 p5 q5 h5
      obtain ⟨v5, s5⟩ := b
      simp only at k5 p5 q5 h5
      have x3 : IntKind.i64.wrap (10 * v5) = 10 * v5 := w64 (by omega) (by omega)
      have x4 : IntKind.i64.wrap (2000 + 10 * v5) = 2000 + 10 * v5 := w64 (by omega) (by omega)
      refine ends_late hm 11 [[0, 1, 2, 3, 4, 5, 6, 7, 8, 9], [0, 1, 2, 3, 4, 5, 6, 7, 8, 9], [0, 1, 2, 3, 4, 5, 6, 7, 8, 9], [0, 1], [0, 1], []] (by kernel_rfl) ?_
      simp [Bell.rows_len, Bell.row_get, Bell.cells, hi, x1, x2]
      refine CallZ.useM [0] [] [] k5 (by simp) rfl rfl (by simp) rfl rfl rfl (.inl rfl) ?_
      simp [Bell.rows_len, Bell.row_get, Bell.cells, hi, x1, x2, x3, x4, Place.rows_len]
      refine ⟨by simp [rowsOne], by omega, by omega, ?_⟩
      obtain ⟨hu', ehu, lhu⟩ : ∃ hu' : List Hung, Hung.rows hu ++ [[PV.str bs[i].id, .int .i64 q.1, .int .i64 q.2, .int .i64 800, .int .i64 60]] = Hung.rows hu' ∧ hu'.length ≤ i + 1 := ⟨hu ++ [⟨bs[i].id, q.1, q.2, 800, 60⟩], by simp [Hung.rows, Hung.cells], by simp; omega⟩
      obtain ⟨pl', epl, lpl⟩ : ∃ pl' : List Place, Place.rows pl ++ [[PV.str bs[i].id, .int .i64 (900 + 1500 * (i : Int)), .int .i64 (2000 + 10 * v5), .int .i64 2000, .int .i64 600]] = Place.rows pl' ∧ pl'.length ≤ i + 1 := ⟨pl ++ [⟨bs[i].id, 900 + 1500 * i, 2000 + 10 * v5, 2000, 600⟩], by simp [Place.rows, Place.cells], by simp; omega⟩
      have k7 := c_pick h5 (by omega) 4
      obtain ⟨_, _, h7⟩ := h5.pick (by omega) 4
      generalize s5.pick 4 = b at k7 h7
    case' neg =>
      have g' : v3 ≤ 0 := by omega
      simp [g, g']
      obtain ⟨hu', ehu, lhu⟩ : ∃ hu' : List Hung, Hung.rows hu = Hung.rows hu' ∧ hu'.length ≤ i + 1 := ⟨hu, rfl, by omega⟩
      obtain ⟨pl', epl, lpl⟩ : ∃ pl' : List Place, Place.rows pl = Place.rows pl' ∧ pl'.length ≤ i + 1 := ⟨pl, rfl, by omega⟩
      have k7 := c_pick h3 (by omega) 4
      obtain ⟨_, _, h7⟩ := h3.pick (by omega) 4
      generalize s3.pick 4 = b at k7 h7
    all_goals
      obtain ⟨v7, s7⟩ := b
      simp only at k7 h7
      refine CallZ.useM [0] [] [] k7 (by simp) rfl rfl (by simp) rfl rfl rfl (.inl rfl) ?_
      simp
      refine ⟨fun _ => ?_, fun _ => ?_⟩
      · simp [Bell.rows_len, Bell.row_get, Bell.cells, hi, Tone.rows_len, carB]
        refine ⟨by simp [rowsOne], rfl, by omega, by omega, ⟨hu', pl', to ++ [⟨bs[i].note, st, 4⟩], IntKind.i64.wrap (st + 4), s7⟩, ⟨lhu, lpl, by simp; omega, h7.mono (by omega) (by omega)⟩, Wk.weak (ρ := [0, 1, 2, 3, 4, 5]) (φ := []) ?_⟩
        simp [w1, ehu, epl, Tone.rows, Tone.cells, noCar]
      · refine ⟨⟨hu', pl', to, st, s7⟩, ⟨lhu, lpl, by simp only; omega, h7.mono (by omega) (by omega)⟩, Wk.weak (ρ := [0, 1, 2, 3, 4, 5]) (φ := []) ?_⟩
        simp [w1, ehu, epl, carB, noCar]
  · obtain ⟨hu, pl, to, st, s2⟩ := y
    obtain ⟨i1, i2, i3, h2⟩ := hI
    simp only at i1 i2 i3 h2 ⊢
    have kN := c_NotesUsedG ⟨songT, to⟩ (by simp only; omega)
    simp only [Tune.cells] at kN
    simp [Bell.rows_len, carB]
    refine CallZ.useG [] [5] [] kN (by simp) rfl (by simp) rfl (fun x _ => ⟨rfl, rfl, rfl, .inr ⟨rfl, by simp [intRows]⟩⟩) (fun y hy => ?_)
    obtain ⟨ns, cd⟩ := y
    simp only at hy
    simp
    refine loop_uptoGL hm [20] ns.length (fun i (cl : List Action) => ⟨[(0, .pb 0 0), (2, .pb 1 0), (6, .pb 2 0), (9, .sl 1 (intRows ns)), (11, .int .i64 i), (178, .own 0)], [s2.box, some (.box noCar), some (.box (carB2 l ms bs hu pl to .nils (.sf 3 4))), some (.arr 4 (Action.rows cl))]⟩)
      (fun i cl => cl.length ≤ i ∧ ∀ x ∈ cl, x.levers.length ≤ 1) (by kernel_rfl) ⟨[], ⟨by simp, by simp⟩, ?_⟩ (fun i cl hi hI => ?_) (fun cl hI => ?_)
    · refine (weak_nilB 2 17 4 rfl rfl).trans (Wk.weak (ρ := [0, 1, 2, 7]) (φ := [6, 3, 4, 5]) ?_)
      simp [Action.rows, carB2, noCar]
    · obtain ⟨j1, j2⟩ := hI
      have w1 : IntKind.i64.wrap ((i : Int) + 1) = (i : Int) + 1 := w64 (by omega) (by omega)
      simp [intRows_len, hi]
      have keep : ∀ {E : Nat → Prop} {b : Bool} {j : Nat}, j ≠ 9 → (b = true ↔ E 9) → (b = true ↔ E 9 ∨ 9 = j) := fun {E b j} hj h => h.trans ⟨.inl, fun h => h.resolve_right (Ne.symm hj)⟩
      refine ends_loose (Hf := clH s2 l ms bs hu pl to cl ns[i]) (y0 := false) hm 10 [1, 9] [[], [0], [], [], [2, 3], [4], [], [6], [5, 7], [8]] [114, 115, 116, 117, 118, 119, 120, 121, 122, 123] (fun E b => b = true ↔ E 9) (clI ns i ns[i]) (by kernel_rfl) (by simp) ?hs2 ?hf2 ?he2
      case hf2 => simp
      case hs2 =>
        refine And.intro (fun E fr y hE hJ hb hd _ _ => ?_) (And.intro (fun E fr y hE hJ hb hd _ _ => ?_) (And.intro (fun E fr y hE hJ hb hd _ _ => ?_) (And.intro (fun E fr y hE hJ hb hd _ _ => ?_) (And.intro (fun E fr y hE hJ hb hd _ _ => ?_) (And.intro (fun E fr y hE hJ hb hd _ _ => ?_) (And.intro (fun E fr y hE hJ hb hd _ _ => ?_) (And.intro (fun E fr y hE hJ hb hd hall hcl => ?_) (And.intro (fun E fr y hE hJ hb hd _ _ => ?_) (And.intro (fun E fr y hE hJ hb hd _ _ => ?_) trivial)))))))))
        · have b := hb 6 (by decide)
          simp [slot] at b
          simp [b]
          exact .inl ⟨_, y, rfl, rfl, keep (by decide) hJ⟩
        · have d0 := hd 0 (by simp)
          simp [clI] at d0
          cases y <;> simp [clH, d0, carB2] <;> exact .inl ⟨_, _, rfl, rfl, keep (by decide) hJ⟩
        · have b := hb 9 (by decide)
          simp [slot] at b
          simp [b]
          exact .inl ⟨_, y, rfl, rfl, keep (by decide) hJ⟩
        · have b := hb 11 (by decide)
          simp [slot] at b
          simp [b]
          exact .inl ⟨_, y, rfl, rfl, keep (by decide) hJ⟩
        · have d0 := hd 2 (by simp)
          have d1 := hd 3 (by simp)
          simp [clI] at d0 d1
          simp [d0, d1, intRows_len, hi]
          exact .inl ⟨_, y, rfl, rfl, keep (by decide) hJ⟩
        · have d0 := hd 4 (by simp)
          simp [clI] at d0
          simp [d0, intRows_len, intRows_get, hi]
          exact .inl ⟨_, y, rfl, rfl, keep (by decide) hJ⟩
        · simp
          exact .inl ⟨_, y, rfl, rfl, keep (by decide) hJ⟩
        · have d0 := hd 6 (by simp)
          simp [clI] at d0
          have n8 : ¬ E 8 := fun h => hE (hcl 8 (by decide) h 7 (by decide))
          have n9 : ¬ E 9 := fun h => n8 (hcl 9 (by decide) h 8 (by decide))
          cases y
          rotate_left
          · exact absurd (hJ.1 rfl) n9
          letI : DecidablePred E := fun _ => Classical.propDecidable _
          simp [clH, d0]
          have off : ∀ {es : Fr} {t : Nat}, (∀ p ∈ es, p.1 ∈ [114, 115, 116, 117, 118, 119, 120, 121]) → ([114, 115, 116, 117, 118, 119, 120, 121, 122, 123] : List Nat).contains t = false → ∀ p ∈ es, p.1 ≠ t := fun {es t} h ht p hp e => by
            have h2 := h p hp
            rw [e] at h2
            have h3 : t ∈ ([114, 115, 116, 117, 118, 119, 120, 121, 122, 123] : List Nat) := by simp only [List.mem_cons, List.not_mem_nil, or_false] at h2 ⊢; omega
            rw [List.contains_eq_mem] at ht
            simp [h3] at ht
          refine .inr ⟨[(114, if E 0 then slot fr 114 else .top), (115, if E 1 then slot fr 115 else .top), (116, if E 2 then slot fr 116 else .top), (117, if E 3 then slot fr 117 else .top), (118, if E 4 then slot fr 118 else .top), (119, if E 5 then slot fr 119 else .top), (120, slot fr 120), (121, .sl 2 [[.int .i64 100, .int .i64 200]])] ++ [(111, .bool true), (110, .int .i64 ns.length), (109, .sl 1 (intRows ns)), (108, .int .i64 i), (0, .pb 0 0), (2, .pb 1 0), (6, .pb 2 0), (9, .sl 1 (intRows ns)), (11, .int .i64 i), (178, .own 0)], false, (weak_frame (fr' := [(114, if E 0 then slot fr 114 else .top), (115, if E 1 then slot fr 115 else .top), (116, if E 2 then slot fr 116 else .top), (117, if E 3 then slot fr 117 else .top), (118, if E 4 then slot fr 118 else .top), (119, if E 5 then slot fr 119 else .top), (120, slot fr 120), (121, .sf 4 2)] ++ [(111, .bool true), (110, .int .i64 ns.length), (109, .sl 1 (intRows ns)), (108, .int .i64 i), (0, .pb 0 0), (2, .pb 1 0), (6, .pb 2 0), (9, .sl 1 (intRows ns)), (11, .int .i64 i), (178, .own 0)]) fun t => ?f).trans ?w, fun t ht => slot_over (off (by simp) ht), ?i, keep (by decide) hJ⟩
          case f =>
            by_cases ht : ([114, 115, 116, 117, 118, 119, 120, 121, 122, 123] : List Nat).contains t = true
            · simp only [List.contains_eq_mem, List.mem_cons, List.not_mem_nil, or_false, decide_eq_true_eq] at ht
              rcases ht with rfl | rfl | rfl | rfl | rfl | rfl | rfl | rfl | rfl | rfl
              all_goals simp [slot]
              all_goals grind
            · have ht' : ([114, 115, 116, 117, 118, 119, 120, 121, 122, 123] : List Nat).contains t = false := by simpa using ht
              right
              rw [slot_over (off (by simp) ht'), ← hb t ht']
              have : (121 == t) = false := by simpa using fun e : 121 = t => by subst e; simp at ht
              simp [slot, this]
          case i =>
            intro k hk hk'
            match k, hk with
            | 0, _ => have e := hk'.resolve_right (by decide); simpa [slot, e] using hall 0 (by decide) e
            | 1, _ => have e := hk'.resolve_right (by decide); simpa [slot, e] using hall 1 (by decide) e
            | 2, _ => have e := hk'.resolve_right (by decide); simpa [slot, e] using hall 2 (by decide) e
            | 3, _ => have e := hk'.resolve_right (by decide); simpa [slot, e] using hall 3 (by decide) e
            | 4, _ => have e := hk'.resolve_right (by decide); simpa [slot, e] using hall 4 (by decide) e
            | 5, _ => have e := hk'.resolve_right (by decide); simpa [slot, e] using hall 5 (by decide) e
            | 6, _ => simpa [slot, clI] using d0
            | 7, _ => exact rfl
            | 8, _ => exact absurd (hk'.resolve_right (by decide)) n8
            | 9, _ => exact absurd (hk'.resolve_right (by decide)) n9
          case w =>
            have b1 := hb 0 (by decide)
            have b2 := hb 2 (by decide)
            have b3 := hb 6 (by decide)
            have b4 := hb 9 (by decide)
            have b5 := hb 11 (by decide)
            have b6 := hb 178 (by decide)
            simp [slot] at b1 b2 b3 b4 b5 b6
            have h0 : E 0 → slot fr 114 = .pb 2 17 := fun e => hall 0 (by decide) e
            have h1 : E 1 → slot fr 115 = .sf 3 4 := fun e => hall 1 (by decide) e
            have h2 : E 2 → slot fr 116 = .sl 1 (intRows ns) := fun e => hall 2 (by decide) e
            have h3 : E 3 → slot fr 117 = .int .i64 i := fun e => hall 3 (by decide) e
            have h4 : E 4 → slot fr 118 = .pe 1 (intRows ns) i 0 := fun e => hall 4 (by decide) e
            have h5 : E 5 → slot fr 119 = .int .i64 ns[i] := fun e => hall 5 (by decide) e
            refine Wk.weak (ρ := [0, 1, 2, 3]) (φ := [4]) ?_
            simp +contextual [wkV_ite, clH, d0, h0, h1, h2, h3, h4, h5, carB2, noCar]
        · have d0 := hd 5 (by simp)
          have d1 := hd 7 (by simp)
          simp [clI] at d0 d1
          simp [d0, d1]
          exact .inl ⟨_, y, rfl, rfl, keep (by decide) hJ⟩
        · have d0 := hd 8 (by simp)
          simp [clI] at d0
          cases y
          · simp [clH, d0]
            exact .inl ⟨_, true, rfl, rfl, ⟨fun _ => .inr rfl, fun _ => rfl⟩⟩
          · exact absurd (hJ.1 rfl) hE
      intro vs y hJ hs
      obtain rfl : y = true := hJ.2 (by decide)
      have e1 := hs 1 (by decide)
      have e9 := hs 9 (by decide)
      simp [clI] at e1 e9
      simp [e1, e9, clH, carB2, Action.rows_len]
      refine ⟨by simp [rowsOne], by omega, by omega, cl ++ [⟨ns[i], [⟨100, 200⟩], 1, 100⟩], ⟨by simp; omega, fun x hx => ?_⟩, Wk.weak (ρ := [0, 1, 2, 3]) (φ := []) ?_⟩
      · rcases List.mem_append.1 hx with h | h
        · exact j2 x h
        · rw [List.mem_singleton.1 h]; simp
      · simp [w1, Action.rows, Action.cells, Lever.rows, Lever.cells, noCar]
    · obtain ⟨j1, j2⟩ := hI
      have k3 := c_pick h2 (by omega) 3
      obtain ⟨p3, q3, h3⟩ := h2.pick (by omega) 3
      have q3 := q3 (by omega)
      generalize s2.pick 3 = b at k3 p3 q3 h3
      obtain ⟨v3, s3⟩ := b
      simp only at k3 p3 q3 h3
      obtain ⟨K, rfl⟩ : ∃ K : Nat, v3 = K := ⟨v3.toNat, by omega⟩
      simp [intRows_len]
      refine CallZ.useM [0] [] [] k3 (by simp) rfl rfl (by simp) rfl rfl rfl (.inl rfl) ?_
      simp
      refine loop_uptoG hm K (fun i (y : List Beam × Src) => ⟨[(0, .pb 0 0), (2, .pb 1 0), (6, .pb 2 0), (12, .int .i64 ((K : Int) - i)), (178, .own 0)], [y.2.box, some (.box noCar), some (.box (carB2 l ms bs hu pl to (.sf 3 6) (.sl 4 (Action.rows cl)))), some (.arr 6 (Beam.rows y.1))]⟩)
        (fun i y => y.1.length ≤ i ∧ (∀ x ∈ y.1, x.loads.length ≤ 4) ∧ y.2.ok (m + 702 + 50 * i)) (by kernel_rfl) ⟨([], s3), ⟨by simp, by simp, h3.mono (by omega) (by omega)⟩, ?_⟩ (fun i y hi hI => ?_) (fun y hI => ?_)
      · refine (weak_nilB 2 14 6 rfl rfl).trans (Wk.weak (ρ := [0, 1, 2, 4]) (φ := [3]) ?_)
        simp [Beam.rows, carB2, noCar]
      · obtain ⟨fr, s4⟩ := y
        obtain ⟨f1, f2, h4⟩ := hI
        simp only at f1 f2 h4 ⊢
        have w1 : IntKind.i64.wrap ((K : Int) - i - 1) = (K : Int) - (i + 1) := by rw [w64 (by omega) (by omega)]; omega
        simp [show (i : Int) < K by omega]
        refine CallZ.useG [0] [] [] (c_l21Draw h4 (by omega)) (by simp) rfl (by simp) rfl (fun x _ => ⟨rfl, rfl, rfl, .inl rfl⟩) (fun x hx => ?_)
        obtain ⟨⟨nm, sp, wi, de, wo, lo⟩, s5⟩ := x
        obtain ⟨hx, h5⟩ := hx
        simp only at hx h5 ⊢
        simp [Beam.cells]
        refine CallZ.use0 (c_l01Dec _ ⟨by omega, by omega⟩) rfl rfl ?_
        simp [carB2, Beam.rows_len]
        refine ⟨by have := itoa_len (n := (K : Int) - i) ⟨by omega, by omega⟩; omega, Beam.one _, by omega, by omega, (⟨98 :: Lib.itoa ((K : Int) - i), sp, wi, de, wo, lo⟩ :: fr, s5), ⟨by simp; omega, fun x hx' => ?_, h5.mono (by omega) (by omega)⟩, Wk.weak (ρ := [0, 1, 2, 5]) (φ := []) ?_⟩
        · rcases List.mem_cons.1 hx' with h | h
          · rw [h]; exact hx
          · exact f2 x h
        · simp [w1, Beam.rows, Beam.cells, noCar]
      · obtain ⟨fr, s4⟩ := y
        obtain ⟨f1, f2, h4⟩ := hI
        simp only at f1 f2 h4 ⊢
        have k8 := c_pick h4 (by omega) 8
        obtain ⟨p8, q8, h8⟩ := h4.pick (by omega) 8
        generalize s4.pick 8 = b at k8 p8 q8 h8
        obtain ⟨v8, s8⟩ := b
        simp only at k8 p8 q8 h8
        have sm := @small_of l ms bs hu pl to fr
        simp
        refine CallZ.useM [0] [] [] k8 (by simp) rfl rfl (by simp) rfl rfl rfl (.inl rfl) ?_
        have k9 := c_among h8 (by omega) [0, 2000] (by simp) (by simp)
        have h9 := h8.among (by omega) [0, 2000]
        generalize s8.among [0, 2000] = b at k9 h9
        obtain ⟨v9, s9⟩ := b
        simp only at k9 h9
        have j1' : cl.length ≤ 128 := by omega
        have f1' : fr.length ≤ 3 := by omega
        have o8 : s8.ok (m + 2000) := h8.mono (by omega) (by omega)
        simp [carB2, noCar]
        refine ⟨fun g0 => ?_, fun g0 => ⟨fun g1 => ?_, fun g1 => ⟨fun g2 => ?_, fun g2 => ⟨fun g3 => ?_, fun g3 => ⟨fun g4 => ?_, fun g4 => ⟨fun g5 => ?_, fun g5 => ?_⟩⟩⟩⟩⟩⟩
        · exact ⟨(⟨l, ms, bs, hu, ⟨20000, 20000, 5000⟩, pl, 700, ⟨oldT, 2500, 50, 5000, 100000⟩, fr, 20000, 40000, cl, ⟨songT, to⟩⟩, s8), ⟨small_of hl hms hbs (by omega) (by omega) (by omega) f1' f2 j1' j2, o8⟩, Wk.weak (ρ := [0]) (φ := [3]) (by simp [Carillon.cells])⟩
        · exact ⟨(⟨l, ms, bs, hu, ⟨20000, 20000, 5000⟩, pl, 50, ⟨oldT, 2500, 50, 5000, 0⟩, fr, 20000, 40000, cl, ⟨songT, to⟩⟩, s8), ⟨small_of hl hms hbs (by omega) (by omega) (by omega) f1' f2 j1' j2, o8⟩, Wk.weak (ρ := [0]) (φ := [3]) (by simp [Carillon.cells])⟩
        · refine ⟨fun g => ⟨by omega, ?_⟩, fun g => ?_⟩
          · exact ⟨(⟨l, ms, bs, hu, ⟨20000, 20000, 5000⟩, pl, 50, ⟨oldT, 2500, 50, 5000, 100000⟩, fr, 20000, 40000, cl.drop 1, ⟨songT, to⟩⟩, s8), ⟨small_of hl hms hbs (by omega) (by omega) (by omega) f1' f2 (by rw [List.length_drop]; omega) (fun x hx => j2 x (List.mem_of_mem_drop hx)), o8⟩, Wk.weak (ρ := [0]) (φ := [3]) (by simp [Carillon.cells, Action.rows]; rw [List.take_of_length_le (by simp)])⟩
          · exact ⟨(⟨l, ms, bs, hu, ⟨20000, 20000, 5000⟩, pl, 50, ⟨oldT, 2500, 50, 5000, 100000⟩, fr, 20000, 40000, cl, ⟨songT, to⟩⟩, s8), ⟨small_of hl hms hbs (by omega) (by omega) (by omega) f1' f2 j1' j2, o8⟩, Wk.weak (ρ := [0]) (φ := [3]) (by simp [Carillon.cells])⟩
        · exact ⟨(⟨l, [], bs, hu, ⟨20000, 20000, 5000⟩, pl, 50, ⟨oldT, 2500, 50, 5000, 100000⟩, fr, 20000, 40000, cl, ⟨songT, to⟩⟩, s8), ⟨small_of hl ⟨by simp, by simp⟩ hbs (by omega) (by omega) (by omega) f1' f2 j1' j2, o8⟩, (weak_nilA (t := 0) 1 3 (by rfl) (by rfl)).trans (Wk.weak (ρ := [0]) (φ := [3, 4]) (by simp [Carillon.cells, Melt.rows]))⟩
        · refine CallZ.useM [0, 4] [] [] k9 (by simp [intRows]) rfl rfl (by simp) rfl rfl rfl (.inl rfl) ?_
          simp
          exact ⟨(⟨l, ms, bs, hu, ⟨20000, 20000, 5000⟩, pl, 50, ⟨oldT, 2500, 50, 5000, 100000⟩, fr, v9, 40000, cl, ⟨songT, to⟩⟩, s9), ⟨small_of hl hms hbs (by omega) (by omega) (by omega) f1' f2 j1' j2, h9.mono (by omega) (by omega)⟩, Wk.weak (ρ := [0]) (φ := [3]) (by simp [Carillon.cells])⟩
        · exact ⟨(⟨l, ms, [], hu, ⟨20000, 20000, 5000⟩, pl, 50, ⟨oldT, 2500, 50, 5000, 100000⟩, fr, 20000, 40000, cl, ⟨songT, to⟩⟩, s8), ⟨small_of hl hms ⟨by simp, by simp⟩ (by omega) (by omega) (by omega) f1' f2 j1' j2, o8⟩, (weak_nilA (t := 0) 2 5 (by rfl) (by rfl)).trans (Wk.weak (ρ := [0]) (φ := [3, 4]) (by simp [Carillon.cells, Bell.rows]))⟩
        · exact ⟨(⟨l, ms, bs, hu, ⟨20000, 20000, 5000⟩, pl, 50, ⟨oldT, 2500, 50, 5000, 100000⟩, fr, 20000, 40000, cl, ⟨songT, to⟩⟩, s8), ⟨small_of hl hms hbs (by omega) (by omega) (by omega) f1' f2 j1' j2, o8⟩, Wk.weak (ρ := [0]) (φ := [3]) (by simp [Carillon.cells])⟩

end Go.Proofs.YtcjpfjklhhclmaaGreatDoor
