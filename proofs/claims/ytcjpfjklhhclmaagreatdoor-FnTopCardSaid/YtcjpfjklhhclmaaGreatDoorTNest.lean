/- The types Melt, Bell, Beam, Action, Tune, Carillon as plain data, and what the functions of package laws do with them. No condition. -/
import Derived.Test.YtcjpfjklhhclmaaGreatDoorXs
import Derived.Test.YtcjpfjklhhclmaaGreatDoorTFlat
import Derived.Test.YtcjpfjklhhclmaaGreatDoorTTone
namespace Go.Proofs.YtcjpfjklhhclmaaGreatDoor
open Go Go.Ab
set_option maxRecDepth 100000

structure Melt where
  id : List UInt8
  ingots : List (List UInt8)
  mass : Int
theorem Melt.eq_iff {a b : Melt} : a = b ↔ a.id = b.id ∧ a.ingots = b.ingots ∧ a.mass = b.mass := by cases a; cases b; simp
instance : DecidableEq Melt := fun _ _ => decidable_of_iff _ Melt.eq_iff.symm
def Melt.cells (x : Melt) : List PV := [.str x.id, .sl 1 (strRows x.ingots), .int .i64 x.mass]
def Melt.rows (l : List Melt) : List (List PV) := l.map Melt.cells
/-- The values that arguments have. -/
structure Melt.wf (x : Melt) : Prop where
  id : x.id.length ≤ 9223372036854775807
  ingots : (x.ingots.length ≤ 9223372036854775807 ∧ ∀ y ∈ x.ingots, y.length ≤ 9223372036854775807)
  mass : I64 x.mass
theorem Melt.rows_len (l : List Melt) : (Melt.rows l).length = l.length := by simp [Melt.rows]
theorem Melt.row_get (l : List Melt) {i : Nat} (h : i < (Melt.rows l).length) : (Melt.rows l)[i] = (l[i]'(by rw [Melt.rows_len] at h; exact h)).cells := by simp [Melt.rows]
end Go.Proofs.YtcjpfjklhhclmaaGreatDoor

namespace Go.Proofs.YtcjpfjklhhclmaaGreatDoor
open Go Go.Ab
set_option maxRecDepth 100000

structure Bell where
  id : List UInt8
  note : Int
  mass : Int
  feed : Int
  shares : List Share
theorem Bell.eq_iff {a b : Bell} : a = b ↔ a.id = b.id ∧ a.note = b.note ∧ a.mass = b.mass ∧ a.feed = b.feed ∧ a.shares = b.shares := by cases a; cases b; simp
instance : DecidableEq Bell := fun _ _ => decidable_of_iff _ Bell.eq_iff.symm
def Bell.cells (x : Bell) : List PV := [.str x.id, .int .i64 x.note, .int .i64 x.mass, .int .i64 x.feed, .sl 2 (Share.rows x.shares)]
def Bell.rows (l : List Bell) : List (List PV) := l.map Bell.cells
/-- The values that arguments have. -/
structure Bell.wf (x : Bell) : Prop where
  id : x.id.length ≤ 9223372036854775807
  note : I64 x.note
  mass : I64 x.mass
  feed : I64 x.feed
  shares : (x.shares.length ≤ 9223372036854775807 ∧ ∀ y ∈ x.shares, y.wf)
theorem Bell.rows_len (l : List Bell) : (Bell.rows l).length = l.length := by simp [Bell.rows]
theorem Bell.row_get (l : List Bell) {i : Nat} (h : i < (Bell.rows l).length) : (Bell.rows l)[i] = (l[i]'(by rw [Bell.rows_len] at h; exact h)).cells := by simp [Bell.rows]
end Go.Proofs.YtcjpfjklhhclmaaGreatDoor

namespace Go.Proofs.YtcjpfjklhhclmaaGreatDoor
open Go Go.Ab
set_option maxRecDepth 100000

structure Beam where
  name : List UInt8
  span : Int
  width : Int
  depth : Int
  wood : Int
  loads : List Load
theorem Beam.eq_iff {a b : Beam} : a = b ↔ a.name = b.name ∧ a.span = b.span ∧ a.width = b.width ∧ a.depth = b.depth ∧ a.wood = b.wood ∧ a.loads = b.loads := by cases a; cases b; simp
instance : DecidableEq Beam := fun _ _ => decidable_of_iff _ Beam.eq_iff.symm
def Beam.cells (x : Beam) : List PV := [.str x.name, .int .i64 x.span, .int .i64 x.width, .int .i64 x.depth, .int .i64 x.wood, .sl 2 (Load.rows x.loads)]
def Beam.rows (l : List Beam) : List (List PV) := l.map Beam.cells
/-- The values that arguments have. -/
structure Beam.wf (x : Beam) : Prop where
  name : x.name.length ≤ 9223372036854775807
  span : I64 x.span
  width : I64 x.width
  depth : I64 x.depth
  wood : I64 x.wood
  loads : (x.loads.length ≤ 9223372036854775807 ∧ ∀ y ∈ x.loads, y.wf)
theorem Beam.rows_len (l : List Beam) : (Beam.rows l).length = l.length := by simp [Beam.rows]
theorem Beam.one (l : List Beam) : Go.Ab.rowsOne (Beam.rows l) := fun r hr => by obtain ⟨x, _, rfl⟩ := List.mem_map.1 hr; rfl
theorem Beam.row_get (l : List Beam) {i : Nat} (h : i < (Beam.rows l).length) : (Beam.rows l)[i] = (l[i]'(by rw [Beam.rows_len] at h; exact h)).cells := by simp [Beam.rows]
end Go.Proofs.YtcjpfjklhhclmaaGreatDoor

namespace Go.Proofs.YtcjpfjklhhclmaaGreatDoor
open Go Go.Ab
set_option maxRecDepth 100000

structure Action where
  note : Int
  levers : List Lever
  slack : Int
  weight : Int
theorem Action.eq_iff {a b : Action} : a = b ↔ a.note = b.note ∧ a.levers = b.levers ∧ a.slack = b.slack ∧ a.weight = b.weight := by cases a; cases b; simp
instance : DecidableEq Action := fun _ _ => decidable_of_iff _ Action.eq_iff.symm
def Action.cells (x : Action) : List PV := [.int .i64 x.note, .sl 2 (Lever.rows x.levers), .int .i64 x.slack, .int .i64 x.weight]
def Action.rows (l : List Action) : List (List PV) := l.map Action.cells
/-- The values that arguments have. -/
structure Action.wf (x : Action) : Prop where
  note : I64 x.note
  levers : (x.levers.length ≤ 9223372036854775807 ∧ ∀ y ∈ x.levers, y.wf)
  slack : I64 x.slack
  weight : I64 x.weight
theorem Action.rows_len (l : List Action) : (Action.rows l).length = l.length := by simp [Action.rows]
theorem Action.row_get (l : List Action) {i : Nat} (h : i < (Action.rows l).length) : (Action.rows l)[i] = (l[i]'(by rw [Action.rows_len] at h; exact h)).cells := by simp [Action.rows]
end Go.Proofs.YtcjpfjklhhclmaaGreatDoor

namespace Go.Proofs.YtcjpfjklhhclmaaGreatDoor
open Go Go.Ab
set_option maxRecDepth 100000

structure Tune where
  name : List UInt8
  tones : List Tone
theorem Tune.eq_iff {a b : Tune} : a = b ↔ a.name = b.name ∧ a.tones = b.tones := by cases a; cases b; simp
instance : DecidableEq Tune := fun _ _ => decidable_of_iff _ Tune.eq_iff.symm
def Tune.cells (x : Tune) : List PV := [.str x.name, .sl 3 (Tone.rows x.tones)]
/-- The values that arguments have. -/
structure Tune.wf (x : Tune) : Prop where
  name : x.name.length ≤ 9223372036854775807
  tones : (x.tones.length ≤ 9223372036854775807 ∧ ∀ y ∈ x.tones, y.wf)
end Go.Proofs.YtcjpfjklhhclmaaGreatDoor

namespace Go.Proofs.YtcjpfjklhhclmaaGreatDoor
open Go Go.Ab
set_option maxRecDepth 100000

structure Carillon where
  ingots : List Ingot
  melts : List Melt
  bells : List Bell
  hung : List Hung
  chamber : Chamber
  places : List Place
  gap : Int
  tower : Tower
  frame : List Beam
  stress : Int
  bending : Int
  clavier : List Action
  tune : Tune
theorem Carillon.eq_iff {a b : Carillon} : a = b ↔ a.ingots = b.ingots ∧ a.melts = b.melts ∧ a.bells = b.bells ∧ a.hung = b.hung ∧ a.chamber = b.chamber ∧ a.places = b.places ∧ a.gap = b.gap ∧ a.tower = b.tower ∧ a.frame = b.frame ∧ a.stress = b.stress ∧ a.bending = b.bending ∧ a.clavier = b.clavier ∧ a.tune = b.tune := by cases a; cases b; simp
instance : DecidableEq Carillon := fun _ _ => decidable_of_iff _ Carillon.eq_iff.symm
def Carillon.cells (x : Carillon) : List PV := [.sl 5 (Ingot.rows x.ingots), .sl 3 (Melt.rows x.melts), .sl 5 (Bell.rows x.bells), .sl 5 (Hung.rows x.hung), .int .i64 x.chamber.width, .int .i64 x.chamber.length, .int .i64 x.chamber.height, .sl 5 (Place.rows x.places), .int .i64 x.gap, .str x.tower.name, .int .i64 x.tower.sway, .int .i64 x.tower.damping, .int .i64 x.tower.stiffness, .int .i64 x.tower.limit, .sl 6 (Beam.rows x.frame), .int .i64 x.stress, .int .i64 x.bending, .sl 4 (Action.rows x.clavier), .str x.tune.name, .sl 3 (Tone.rows x.tune.tones)]
/-- The values that arguments have. -/
structure Carillon.wf (x : Carillon) : Prop where
  ingots : (x.ingots.length ≤ 9223372036854775807 ∧ ∀ y ∈ x.ingots, y.wf)
  melts : (x.melts.length ≤ 9223372036854775807 ∧ ∀ y ∈ x.melts, y.wf)
  bells : (x.bells.length ≤ 9223372036854775807 ∧ ∀ y ∈ x.bells, y.wf)
  hung : (x.hung.length ≤ 9223372036854775807 ∧ ∀ y ∈ x.hung, y.wf)
  chamber : Chamber.wf x.chamber
  places : (x.places.length ≤ 9223372036854775807 ∧ ∀ y ∈ x.places, y.wf)
  gap : I64 x.gap
  tower : Tower.wf x.tower
  frame : (x.frame.length ≤ 9223372036854775807 ∧ ∀ y ∈ x.frame, y.wf)
  stress : I64 x.stress
  bending : I64 x.bending
  clavier : (x.clavier.length ≤ 9223372036854775807 ∧ ∀ y ∈ x.clavier, y.wf)
  tune : Tune.wf x.tune
end Go.Proofs.YtcjpfjklhhclmaaGreatDoor
