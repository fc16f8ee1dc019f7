/- Plain values that stand in the place of memory; and what the package-level variables hold that the program reads. No condition. -/
import Derived.WalkKit
namespace Go.Ab

/-- A plain value. 'sl', 'pe': a slice, a pointer into a row of memory that nobody changes. 'sf', 'so', 'pa', 'pb': the whole of, a part of, a pointer into an object of the running function's own. 'opt c p': p where c holds, else nothing is known. 'own k': where own object k lies (in no frame of a run: kept in mind alone); 'cp k C': it has room for C rows (likewise). 'ef f': a mark of the proof's own: calls of f may turn own objects. 'err b': an error, nil or not. 'sb k z n': a slice of n rows over the cells of own variable k, from the first on. -/
inductive PV where
  | int (k : IntKind) (n : Int)
  | bool (b : Bool)
  | str (s : List UInt8)
  | agg (cs : List PV)
  | tup (vs : List PV)
  | nils
  | sl (z : Nat) (rows : List (List PV))
  | pe (z : Nat) (rows : List (List PV)) (i off : Nat)
  | sf (k z : Nat)
  | so (k z lo len : Nat)
  | pa (k z i off : Nat)
  | pb (k off : Nat)
  | sb (k z n : Nat)
  | fn (f : Nat) (caps : List PV)
  | opt (c : Bool) (p : PV)
  | raw (v : Value)
  | own (k : Nat)
  | cp (k C : Nat)
  | ef (f : Nat)
  | err (b : Bool)
  | top

instance : Inhabited PV := ⟨.top⟩

/-- The powers of ten. -/
def powT : List PV := (List.range 20).map fun i => .int .u64 (10 ^ i)
/-- What is known of package-level variables: the variable's number, its cells. -/
def tabs : List (Nat × List PV) := [
  (1, powT),
  ]
/-- Whether it is kept in mind that no draw is taken back. -/
def drwOn : Bool := false
/-- Package-level variables of which the make alone is known: 0 a number, 1 an error that is not nil. -/
def shps : List (Nat × Nat) := [
  ]
end Go.Ab
