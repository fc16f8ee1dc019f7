/- The types Alloy, Ingot, Hung, Chamber, Place, Tower, Share, Load, Lever, Swing, Trouble as plain data, and what the functions of package laws do with them. No condition. -/
import Derived.Test.YtcjpfjklhhclmaaGreatDoorCd
import Derived.Test.YtcjpfjklhhclmaaGreatDoorKc
namespace Go.Proofs.YtcjpfjklhhclmaaGreatDoor
open Go Go.Ab

set_option maxRecDepth 100000

structure Alloy where
  copper : Int
  tin : Int
  other : Int
theorem Alloy.eq_iff {a b : Alloy} : a = b ↔ a.copper = b.copper ∧ a.tin = b.tin ∧ a.other = b.other := by cases a; cases b; simp
instance : DecidableEq Alloy := fun _ _ => decidable_of_iff _ Alloy.eq_iff.symm
def Alloy.cells (x : Alloy) : List PV := [.int .i64 x.copper, .int .i64 x.tin, .int .i64 x.other]
end Go.Proofs.YtcjpfjklhhclmaaGreatDoor

namespace Go.Proofs.YtcjpfjklhhclmaaGreatDoor
open Go Go.Ab

set_option maxRecDepth 100000

structure Ingot where
  id : List UInt8
  mass : Int
  alloyCopper : Int
  alloyTin : Int
  alloyOther : Int
theorem Ingot.eq_iff {a b : Ingot} : a = b ↔ a.id = b.id ∧ a.mass = b.mass ∧ a.alloyCopper = b.alloyCopper ∧ a.alloyTin = b.alloyTin ∧ a.alloyOther = b.alloyOther := by cases a; cases b; simp
instance : DecidableEq Ingot := fun _ _ => decidable_of_iff _ Ingot.eq_iff.symm
def Ingot.cells (x : Ingot) : List PV := [.str x.id, .int .i64 x.mass, .int .i64 x.alloyCopper, .int .i64 x.alloyTin, .int .i64 x.alloyOther]
def Ingot.rows (l : List Ingot) : List (List PV) := l.map Ingot.cells
theorem Ingot.rows_len (l : List Ingot) : (Ingot.rows l).length = l.length := by simp [Ingot.rows]
end Go.Proofs.YtcjpfjklhhclmaaGreatDoor

namespace Go.Proofs.YtcjpfjklhhclmaaGreatDoor
open Go Go.Ab

set_option maxRecDepth 100000

structure Hung where
  bell : List UInt8
  mass : Int
  arm : Int
  form : Int
  angle : Int
theorem Hung.eq_iff {a b : Hung} : a = b ↔ a.bell = b.bell ∧ a.mass = b.mass ∧ a.arm = b.arm ∧ a.form = b.form ∧ a.angle = b.angle := by cases a; cases b; simp
instance : DecidableEq Hung := fun _ _ => decidable_of_iff _ Hung.eq_iff.symm
def Hung.cells (x : Hung) : List PV := [.str x.bell, .int .i64 x.mass, .int .i64 x.arm, .int .i64 x.form, .int .i64 x.angle]
def Hung.rows (l : List Hung) : List (List PV) := l.map Hung.cells
theorem Hung.rows_len (l : List Hung) : (Hung.rows l).length = l.length := by simp [Hung.rows]
end Go.Proofs.YtcjpfjklhhclmaaGreatDoor

namespace Go.Proofs.YtcjpfjklhhclmaaGreatDoor
open Go Go.Ab

set_option maxRecDepth 100000

structure Chamber where
  width : Int
  length : Int
  height : Int
theorem Chamber.eq_iff {a b : Chamber} : a = b ↔ a.width = b.width ∧ a.length = b.length ∧ a.height = b.height := by cases a; cases b; simp
instance : DecidableEq Chamber := fun _ _ => decidable_of_iff _ Chamber.eq_iff.symm
def Chamber.cells (x : Chamber) : List PV := [.int .i64 x.width, .int .i64 x.length, .int .i64 x.height]
/-- The values that arguments have. -/
def Chamber.wf (x : Chamber) : Prop := -9223372036854775808 ≤ x.width ∧ x.width ≤ 9223372036854775807 ∧ -9223372036854775808 ≤ x.length ∧ x.length ≤ 9223372036854775807 ∧ -9223372036854775808 ≤ x.height ∧ x.height ≤ 9223372036854775807
end Go.Proofs.YtcjpfjklhhclmaaGreatDoor

namespace Go.Proofs.YtcjpfjklhhclmaaGreatDoor
open Go Go.Ab

set_option maxRecDepth 100000

structure Place where
  bell : List UInt8
  x : Int
  y : Int
  z : Int
  reach : Int
theorem Place.eq_iff {a b : Place} : a = b ↔ a.bell = b.bell ∧ a.x = b.x ∧ a.y = b.y ∧ a.z = b.z ∧ a.reach = b.reach := by cases a; cases b; simp
instance : DecidableEq Place := fun _ _ => decidable_of_iff _ Place.eq_iff.symm
def Place.cells (x : Place) : List PV := [.str x.bell, .int .i64 x.x, .int .i64 x.y, .int .i64 x.z, .int .i64 x.reach]
def Place.rows (l : List Place) : List (List PV) := l.map Place.cells
theorem Place.rows_len (l : List Place) : (Place.rows l).length = l.length := by simp [Place.rows]
end Go.Proofs.YtcjpfjklhhclmaaGreatDoor

namespace Go.Proofs.YtcjpfjklhhclmaaGreatDoor
open Go Go.Ab

set_option maxRecDepth 100000

structure Tower where
  name : List UInt8
  sway : Int
  damping : Int
  stiffness : Int
  limit : Int
theorem Tower.eq_iff {a b : Tower} : a = b ↔ a.name = b.name ∧ a.sway = b.sway ∧ a.damping = b.damping ∧ a.stiffness = b.stiffness ∧ a.limit = b.limit := by cases a; cases b; simp
instance : DecidableEq Tower := fun _ _ => decidable_of_iff _ Tower.eq_iff.symm
def Tower.cells (x : Tower) : List PV := [.str x.name, .int .i64 x.sway, .int .i64 x.damping, .int .i64 x.stiffness, .int .i64 x.limit]
/-- The values that arguments have. -/
def Tower.wf (x : Tower) : Prop := x.name.length ≤ 9223372036854775807 ∧ -9223372036854775808 ≤ x.sway ∧ x.sway ≤ 9223372036854775807 ∧ -9223372036854775808 ≤ x.damping ∧ x.damping ≤ 9223372036854775807 ∧ -9223372036854775808 ≤ x.stiffness ∧ x.stiffness ≤ 9223372036854775807 ∧ -9223372036854775808 ≤ x.limit ∧ x.limit ≤ 9223372036854775807
end Go.Proofs.YtcjpfjklhhclmaaGreatDoor

namespace Go.Proofs.YtcjpfjklhhclmaaGreatDoor
open Go Go.Ab

set_option maxRecDepth 100000

structure Share where
  melt : List UInt8
  mass : Int
theorem Share.eq_iff {a b : Share} : a = b ↔ a.melt = b.melt ∧ a.mass = b.mass := by cases a; cases b; simp
instance : DecidableEq Share := fun _ _ => decidable_of_iff _ Share.eq_iff.symm
def Share.cells (x : Share) : List PV := [.str x.melt, .int .i64 x.mass]
def Share.rows (l : List Share) : List (List PV) := l.map Share.cells
theorem Share.rows_len (l : List Share) : (Share.rows l).length = l.length := by simp [Share.rows]
theorem Share.one (l : List Share) : Go.Ab.rowsOne (Share.rows l) := fun r hr => by obtain ⟨x, _, rfl⟩ := List.mem_map.1 hr; rfl
end Go.Proofs.YtcjpfjklhhclmaaGreatDoor

namespace Go.Proofs.YtcjpfjklhhclmaaGreatDoor
open Go Go.Ab

set_option maxRecDepth 100000

structure Load where
  k_at : Int
  weight : Int
theorem Load.eq_iff {a b : Load} : a = b ↔ a.k_at = b.k_at ∧ a.weight = b.weight := by cases a; cases b; simp
instance : DecidableEq Load := fun _ _ => decidable_of_iff _ Load.eq_iff.symm
def Load.cells (x : Load) : List PV := [.int .i64 x.k_at, .int .i64 x.weight]
def Load.rows (l : List Load) : List (List PV) := l.map Load.cells
theorem Load.rows_len (l : List Load) : (Load.rows l).length = l.length := by simp [Load.rows]
end Go.Proofs.YtcjpfjklhhclmaaGreatDoor

namespace Go.Proofs.YtcjpfjklhhclmaaGreatDoor
open Go Go.Ab

set_option maxRecDepth 100000

structure Lever where
  k_in : Int
  k_out : Int
theorem Lever.eq_iff {a b : Lever} : a = b ↔ a.k_in = b.k_in ∧ a.k_out = b.k_out := by cases a; cases b; simp
instance : DecidableEq Lever := fun _ _ => decidable_of_iff _ Lever.eq_iff.symm
def Lever.cells (x : Lever) : List PV := [.int .i64 x.k_in, .int .i64 x.k_out]
def Lever.rows (l : List Lever) : List (List PV) := l.map Lever.cells
theorem Lever.rows_len (l : List Lever) : (Lever.rows l).length = l.length := by simp [Lever.rows]
end Go.Proofs.YtcjpfjklhhclmaaGreatDoor

namespace Go.Proofs.YtcjpfjklhhclmaaGreatDoor
open Go Go.Ab

set_option maxRecDepth 100000

structure Swing where
  bell : List UInt8
  rate : Int
  force : Int
theorem Swing.eq_iff {a b : Swing} : a = b ↔ a.bell = b.bell ∧ a.rate = b.rate ∧ a.force = b.force := by cases a; cases b; simp
instance : DecidableEq Swing := fun _ _ => decidable_of_iff _ Swing.eq_iff.symm
def Swing.cells (x : Swing) : List PV := [.str x.bell, .int .i64 x.rate, .int .i64 x.force]
def Swing.rows (l : List Swing) : List (List PV) := l.map Swing.cells
theorem Swing.flat (l : List Swing) : flatRows (Swing.rows l) := fun r hr c hc => by
  obtain ⟨x, _, rfl⟩ := List.mem_map.1 hr
  simp only [Swing.cells, List.mem_cons, List.not_mem_nil, or_false] at hc
  rcases hc with rfl | rfl | rfl <;> rfl
theorem Swing.rows_len (l : List Swing) : (Swing.rows l).length = l.length := by simp [Swing.rows]
end Go.Proofs.YtcjpfjklhhclmaaGreatDoor

namespace Go.Proofs.YtcjpfjklhhclmaaGreatDoor
open Go Go.Ab

set_option maxRecDepth 100000

structure Trouble where
  kind : Int
  who : List UInt8
  what : List UInt8
theorem Trouble.eq_iff {a b : Trouble} : a = b ↔ a.kind = b.kind ∧ a.who = b.who ∧ a.what = b.what := by cases a; cases b; simp
instance : DecidableEq Trouble := fun _ _ => decidable_of_iff _ Trouble.eq_iff.symm
def Trouble.cells (x : Trouble) : List PV := [.int .i64 x.kind, .str x.who, .str x.what]
def Trouble.rows (l : List Trouble) : List (List PV) := l.map Trouble.cells
theorem Trouble.flat (l : List Trouble) : flatRows (Trouble.rows l) := fun r hr c hc => by
  obtain ⟨x, _, rfl⟩ := List.mem_map.1 hr
  simp only [Trouble.cells, List.mem_cons, List.not_mem_nil, or_false] at hc
  rcases hc with rfl | rfl | rfl <;> rfl
theorem Trouble.rows_len (l : List Trouble) : (Trouble.rows l).length = l.length := by simp [Trouble.rows]
theorem Trouble.one (l : List Trouble) : Go.Ab.rowsOne (Trouble.rows l) := fun r hr => by obtain ⟨x, _, rfl⟩ := List.mem_map.1 hr; rfl
def Alloy.wf (x : Alloy) : Prop := -9223372036854775808 ≤ x.copper ∧ x.copper ≤ 9223372036854775807 ∧ -9223372036854775808 ≤ x.tin ∧ x.tin ≤ 9223372036854775807 ∧ -9223372036854775808 ≤ x.other ∧ x.other ≤ 9223372036854775807
def Ingot.wf (x : Ingot) : Prop := x.id.length ≤ 9223372036854775807 ∧ -9223372036854775808 ≤ x.mass ∧ x.mass ≤ 9223372036854775807 ∧ -9223372036854775808 ≤ x.alloyCopper ∧ x.alloyCopper ≤ 9223372036854775807 ∧ -9223372036854775808 ≤ x.alloyTin ∧ x.alloyTin ≤ 9223372036854775807 ∧ -9223372036854775808 ≤ x.alloyOther ∧ x.alloyOther ≤ 9223372036854775807
def Hung.wf (x : Hung) : Prop := x.bell.length ≤ 9223372036854775807 ∧ -9223372036854775808 ≤ x.mass ∧ x.mass ≤ 9223372036854775807 ∧ -9223372036854775808 ≤ x.arm ∧ x.arm ≤ 9223372036854775807 ∧ -9223372036854775808 ≤ x.form ∧ x.form ≤ 9223372036854775807 ∧ -9223372036854775808 ≤ x.angle ∧ x.angle ≤ 9223372036854775807
def Place.wf (x : Place) : Prop := x.bell.length ≤ 9223372036854775807 ∧ -9223372036854775808 ≤ x.x ∧ x.x ≤ 9223372036854775807 ∧ -9223372036854775808 ≤ x.y ∧ x.y ≤ 9223372036854775807 ∧ -9223372036854775808 ≤ x.z ∧ x.z ≤ 9223372036854775807 ∧ -9223372036854775808 ≤ x.reach ∧ x.reach ≤ 9223372036854775807
def Share.wf (x : Share) : Prop := x.melt.length ≤ 9223372036854775807 ∧ -9223372036854775808 ≤ x.mass ∧ x.mass ≤ 9223372036854775807
def Load.wf (x : Load) : Prop := -9223372036854775808 ≤ x.k_at ∧ x.k_at ≤ 9223372036854775807 ∧ -9223372036854775808 ≤ x.weight ∧ x.weight ≤ 9223372036854775807
def Lever.wf (x : Lever) : Prop := -9223372036854775808 ≤ x.k_in ∧ x.k_in ≤ 9223372036854775807 ∧ -9223372036854775808 ≤ x.k_out ∧ x.k_out ≤ 9223372036854775807
def Swing.wf (x : Swing) : Prop := x.bell.length ≤ 9223372036854775807 ∧ -9223372036854775808 ≤ x.rate ∧ x.rate ≤ 9223372036854775807 ∧ -9223372036854775808 ≤ x.force ∧ x.force ≤ 9223372036854775807
def Trouble.wf (x : Trouble) : Prop := -9223372036854775808 ≤ x.kind ∧ x.kind ≤ 9223372036854775807 ∧ x.who.length ≤ 9223372036854775807 ∧ x.what.length ≤ 9223372036854775807
end Go.Proofs.YtcjpfjklhhclmaaGreatDoor
