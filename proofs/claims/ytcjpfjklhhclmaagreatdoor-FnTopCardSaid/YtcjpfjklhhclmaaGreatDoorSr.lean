/-
  DERIVED: THE SHELF's CONTRACTS AT THIS DUMP, IN PLAIN WORDS (tools/lay-plain.mjs out of 'TryzShelf.lean', which tools/lay-shelf.mjs wrote): THE SAME DECLARATIONS UNDER THE SAME NAMES: 'import', 'namespace', 'open', 'def', 'theorem' AND NOTHING ELSE: no command of the shelf's: FOR A HAND-IN. Each laying: the table of numbers ('.._ren') and one theorem, a field a fact of the dump's own or the kernel's comparison; each contract: ONE APPLICATION.
-/
import Derived.Shelf.Strconv.Itoa0
import Derived.Shelf.Strconv.Itoa1
import Derived.Shelf.LaysM
import Derived.Shelf.Strconv.Itoa2
import Derived.Shelf.Strconv.Itoa3
import Derived.Shelf.Strconv.Itoa4
import Derived.Ground.SlgnProg
import Derived.Shelf.SlicesG.CompactI
import Derived.Shelf.SlicesG.Cells
import Derived.Ground.SlgmProg
import Derived.Shelf.SortM.Plain
import Derived.Shelf.SortM.SortNone
import Derived.Test.YtcjpfjklhhclmaaGreatDoorProg
namespace Go.Proofs
open Go.Shelf
def Tryz.laysM173_ren : Go.Shelf.Ren := ⟨fun | 173 => 284 | 246 => 335 | 283 => 356 | 284 => 357 | 285 => 358 | 286 => 359 | 129 => 334 | 317 => 367 | 318 => 368 | 319 => 369 | 320 => 370 | 337 => 373 | 338 => 374 | n => n, fun | 2 => 2 | 3 => 3 | 9 => 9 | 4 => 4 | 171 => 410 | 0 => 0 | 53 => 167 | 37 => 22 | 5 => 5 | 173 => 412 | 212 => 422 | 51 => 392 | 20 => 20 | 213 => 423 | 46 => 335 | 232 => 427 | 233 => 428 | n => n, fun | 17 => 1 | 18 => 2 | 19 => 3 | n => n⟩
theorem Tryz.laysM173 : Go.Proofs.LaysM.n173 Tryz.prog Tryz.laysM173_ren := {
  mixed := by kernel_rfl
  f129 := Tryz.func334.trans (congrArg some (by kernel_rfl))
  f173 := Tryz.func284.trans (congrArg some (by kernel_rfl))
  f246 := Tryz.func335.trans (congrArg some (by kernel_rfl))
  f283 := Tryz.func356.trans (congrArg some (by kernel_rfl))
  f284 := Tryz.func357.trans (congrArg some (by kernel_rfl))
  f285 := Tryz.func358.trans (congrArg some (by kernel_rfl))
  f286 := Tryz.func359.trans (congrArg some (by kernel_rfl))
  f317 := Tryz.func367.trans (congrArg some (by kernel_rfl))
  f318 := Tryz.func368.trans (congrArg some (by kernel_rfl))
  f319 := Tryz.func369.trans (congrArg some (by kernel_rfl))
  f320 := Tryz.func370.trans (congrArg some (by kernel_rfl))
  f337 := Tryz.func373.trans (congrArg some (by kernel_rfl))
  f338 := Tryz.func374.trans (congrArg some (by kernel_rfl))
  t0 := Tryz.underlying0
  a0 := Tryz.isAgg0
  z0 := Tryz.sizeOf0
  v0 := Tryz.zeroValue0
  t2 := Tryz.underlying2
  a2 := Tryz.isAgg2
  z2 := Tryz.sizeOf2
  v2 := Tryz.zeroValue2
  t3 := Tryz.underlying3
  a3 := Tryz.isAgg3
  z3 := Tryz.sizeOf3
  v3 := Tryz.zeroValue3
  t4 := Tryz.underlying4
  a4 := Tryz.isAgg4
  z4 := Tryz.sizeOf4
  v4 := Tryz.zeroValue4
  t5 := Tryz.underlying5
  a5 := Tryz.isAgg5
  z5 := Tryz.sizeOf5
  v5 := Tryz.zeroValue5
  t9 := Tryz.underlying9
  a9 := Tryz.isAgg9
  z9 := Tryz.sizeOf9
  v9 := Tryz.zeroValue9
  t20 := Tryz.underlying20
  a20 := Tryz.isAgg20
  z20 := Tryz.sizeOf20
  v20 := Tryz.zeroValue20
  t37 := Tryz.underlying22
  a37 := Tryz.isAgg22
  z37 := Tryz.sizeOf22
  v37 := Tryz.zeroValue22
  t46 := Tryz.underlying335
  a46 := Tryz.isAgg335
  z46 := Tryz.sizeOf335
  v46 := Tryz.zeroValue335
  t51 := Tryz.underlying392
  a51 := Tryz.isAgg392
  z51 := Tryz.sizeOf392
  v51 := Tryz.zeroValue392
  t53 := Tryz.underlying167
  a53 := Tryz.isAgg167
  z53 := Tryz.sizeOf167
  v53 := Tryz.zeroValue167
  t171 := Tryz.underlying410
  a171 := Tryz.isAgg410
  z171 := Tryz.sizeOf410
  v171 := Tryz.zeroValue410
  t173 := Tryz.underlying412
  a173 := Tryz.isAgg412
  z173 := Tryz.sizeOf412
  v173 := Tryz.zeroValue412
  t212 := Tryz.underlying422
  a212 := Tryz.isAgg422
  z212 := Tryz.sizeOf422
  v212 := Tryz.zeroValue422
  t213 := Tryz.underlying423
  a213 := Tryz.isAgg423
  z213 := Tryz.sizeOf423
  t232 := Tryz.underlying427
  a232 := Tryz.isAgg427
  z232 := Tryz.sizeOf427
  v232 := Tryz.zeroValue427
  t233 := Tryz.underlying428
  a233 := Tryz.isAgg428
  z233 := Tryz.sizeOf428
  v233 := Tryz.zeroValue428
  g17 := by kernel_rfl
  g18 := by kernel_rfl
  g19 := by kernel_rfl
  i0 := by kernel_rfl
  i2 := by kernel_rfl
  i3 := by kernel_rfl
  i4 := by kernel_rfl
  i5 := by kernel_rfl
  i9 := by kernel_rfl
  i20 := by kernel_rfl
  i37 := by kernel_rfl
  i46 := by kernel_rfl
  i51 := by kernel_rfl
  i53 := by kernel_rfl
  i171 := by kernel_rfl
  i173 := by kernel_rfl
  i212 := by kernel_rfl
  i232 := by kernel_rfl
  i233 := by kernel_rfl
  m17 := by kernel_rfl
  m18 := by kernel_rfl
  m19 := by kernel_rfl }
open Go.RowKit Go.Sort Go.Lib in
/-- strconv.FormatInt: "FormatInt returns the string representation of i in the given base": AT BASE 10: i's decimal numeral, for every int64. (LAID: no walk: one application.) -/
theorem Tryz.strconv_FormatInt_10 (n : Int) (h0 : -9223372036854775808 ≤ n) (h1 : n ≤ 9223372036854775807) (w : World) (htab : Lib.TabIs Tryz.prog w "internal/strconv.uint64pow10" .u64 Lib.pow10Tab) :
    Calls Tryz.prog 284 #[.int .i64 n, .int .i64 10] w fun e w' => e = .returned (.string ⟨(Lib.itoa n).toArray⟩) ∧ ∃ k os, w' = grow (w.drewN k) os := Any.strconv_FormatInt_10 Tryz.laysM173 n h0 h1 w htab
end Go.Proofs
