/-
  DERIVED: THE SHELF's CONTRACTS AT THIS DUMP, IN PLAIN WORDS (tools/lay-plain.mjs out of 'TryShelf.lean', which tools/lay-shelf.mjs wrote): THE SAME DECLARATIONS UNDER THE SAME NAMES: 'import', 'namespace', 'open', 'def', 'theorem' AND NOTHING ELSE: no command of the shelf's: FOR A HAND-IN. Each laying: the table of numbers ('.._ren') and one theorem, a field a fact of the dump's own or the kernel's comparison; each contract: ONE APPLICATION.
-/
import Derived.Shelf.Small.Bits
import Derived.Shelf.Strconv.Itoa0
import Derived.Ground.SlgnProg
import Derived.Shelf.SlicesG.CompactI
import Derived.Shelf.SlicesG.Cells
import Derived.Shelf.SlicesE.Clone
import Derived.Ground.SlsfProg
import Derived.Shelf.SlSortCmp.Insertion
import Derived.Ground.SlgmProg
import Derived.Shelf.SortM.Plain
import Derived.Shelf.SortM.SortNone
import Derived.Shelf.SlSortCmp.Insertion1
import Derived.Shelf.SlSortCmp.NoneTotal
import Derived.Test.YteomgilojaibeaaProg
namespace Go.Proofs
open Go.Shelf
def Try.laysSortPin_ren : Go.Shelf.Ren := ⟨fun | 6 => 57 | 15 => 116 | 14 => 115 | 28 => 183 | 29 => 184 | 20 => 175 | 21 => 176 | 22 => 177 | 23 => 178 | 24 => 179 | 25 => 180 | 26 => 181 | 27 => 182 | 46 => 236 | 47 => 237 | 48 => 238 | 49 => 239 | 50 => 240 | 57 => 256 | n => n, fun | 22 => 27 | 24 => 99 | 25 => 108 | 3 => 3 | 39 => 164 | 0 => 0 | 53 => 223 | 55 => 183 | 4 => 4 | 46 => 216 | 45 => 215 | 50 => 220 | 5 => 5 | 9 => 9 | 66 => 277 | 70 => 281 | 76 => 301 | 77 => 302 | n => n, fun | n => n⟩
theorem Try.laysSortPin : Go.Proofs.SlLaysF0.n6 Try.prog Try.laysSortPin_ren := {
  mixed := by kernel_rfl
  f6 := ⟨Try.f57.name, by decide, Try.func57.trans (congrArg some (by kernel_rfl))⟩
  f14 := ⟨Try.f115.name, by decide, Try.func115.trans (congrArg some (by kernel_rfl))⟩
  f15 := Try.func116.trans (congrArg some (by kernel_rfl))
  f20 := ⟨Try.f175.name, by decide, Try.func175.trans (congrArg some (by kernel_rfl))⟩
  f21 := ⟨Try.f176.name, by decide, Try.func176.trans (congrArg some (by kernel_rfl))⟩
  f22 := ⟨Try.f177.name, by decide, Try.func177.trans (congrArg some (by kernel_rfl))⟩
  f23 := ⟨Try.f178.name, by decide, Try.func178.trans (congrArg some (by kernel_rfl))⟩
  f24 := ⟨Try.f179.name, by decide, Try.func179.trans (congrArg some (by kernel_rfl))⟩
  f25 := ⟨Try.f180.name, by decide, Try.func180.trans (congrArg some (by kernel_rfl))⟩
  f26 := ⟨Try.f181.name, by decide, Try.func181.trans (congrArg some (by kernel_rfl))⟩
  f27 := ⟨Try.f182.name, by decide, Try.func182.trans (congrArg some (by kernel_rfl))⟩
  f28 := Try.func183.trans (congrArg some (by kernel_rfl))
  f29 := Try.func184.trans (congrArg some (by kernel_rfl))
  f46 := ⟨Try.f236.name, by decide, Try.func236.trans (congrArg some (by kernel_rfl))⟩
  f47 := Try.func237.trans (congrArg some (by kernel_rfl))
  f48 := Try.func238.trans (congrArg some (by kernel_rfl))
  f49 := ⟨Try.f239.name, by decide, Try.func239.trans (congrArg some (by kernel_rfl))⟩
  f50 := ⟨Try.f240.name, by decide, Try.func240.trans (congrArg some (by kernel_rfl))⟩
  f57 := ⟨Try.f256.name, by decide, Try.func256.trans (congrArg some (by kernel_rfl))⟩
  t0 := Try.underlying0
  a0 := Try.isAgg0
  z0 := Try.sizeOf0
  v0 := Try.zeroValue0
  t3 := Try.underlying3
  a3 := Try.isAgg3
  z3 := Try.sizeOf3
  v3 := Try.zeroValue3
  t4 := Try.underlying4
  a4 := Try.isAgg4
  z4 := Try.sizeOf4
  v4 := Try.zeroValue4
  t5 := Try.underlying5
  a5 := Try.isAgg5
  z5 := Try.sizeOf5
  v5 := Try.zeroValue5
  t9 := Try.underlying9
  a9 := Try.isAgg9
  z9 := Try.sizeOf9
  v9 := Try.zeroValue9
  t22 := Try.underlying27
  a22 := Try.isAgg27
  z22 := Try.sizeOf27
  v22 := Try.zeroValue27
  t25 := Try.underlying108
  a25 := Try.isAgg108
  z25 := Try.sizeOf108
  v25 := Try.zeroValue108
  t39 := Try.underlying164
  a39 := Try.isAgg164
  z39 := Try.sizeOf164
  v39 := Try.zeroValue164
  t45 := Try.underlying215
  a45 := Try.isAgg215
  z45 := Try.sizeOf215
  v45 := Try.zeroValue215
  t46 := Try.underlying216
  a46 := Try.isAgg216
  z46 := Try.sizeOf216
  v46 := Try.zeroValue216
  t50 := Try.underlying220
  a50 := Try.isAgg220
  z50 := Try.sizeOf220
  v50 := Try.zeroValue220
  t53 := Try.underlying223
  a53 := Try.isAgg223
  z53 := Try.sizeOf223
  v53 := Try.zeroValue223
  t55 := Try.underlying183
  a55 := Try.isAgg183
  z55 := Try.sizeOf183
  v55 := Try.zeroValue183
  t66 := Try.underlying277
  a66 := Try.isAgg277
  z66 := Try.sizeOf277
  v66 := Try.zeroValue277
  t70 := Try.underlying281
  a70 := Try.isAgg281
  z70 := Try.sizeOf281
  v70 := Try.zeroValue281
  t76 := Try.underlying301
  a76 := Try.isAgg301
  z76 := Try.sizeOf301
  v76 := Try.zeroValue301
  t77 := Try.underlying302
  a77 := Try.isAgg302
  z77 := Try.sizeOf302
  v77 := Try.zeroValue302 }
def Try.laysSortTone_ren : Go.Shelf.Ren := ⟨fun | 6 => 74 | 15 => 116 | 14 => 131 | 28 => 183 | 29 => 184 | 20 => 192 | 21 => 193 | 22 => 194 | 23 => 195 | 24 => 196 | 25 => 197 | 26 => 198 | 27 => 199 | 46 => 241 | 47 => 237 | 48 => 238 | 49 => 242 | 50 => 243 | 57 => 257 | n => n, fun | 22 => 32 | 24 => 95 | 25 => 123 | 3 => 3 | 39 => 164 | 0 => 0 | 53 => 223 | 55 => 183 | 4 => 4 | 46 => 216 | 45 => 215 | 50 => 220 | 5 => 5 | 9 => 9 | 66 => 277 | 70 => 281 | 76 => 301 | 77 => 302 | n => n, fun | n => n⟩
theorem Try.laysSortTone : Go.Proofs.SlLaysF0.n6 Try.prog Try.laysSortTone_ren := {
  mixed := by kernel_rfl
  f6 := ⟨Try.f74.name, by decide, Try.func74.trans (congrArg some (by kernel_rfl))⟩
  f14 := ⟨Try.f131.name, by decide, Try.func131.trans (congrArg some (by kernel_rfl))⟩
  f15 := Try.func116.trans (congrArg some (by kernel_rfl))
  f20 := ⟨Try.f192.name, by decide, Try.func192.trans (congrArg some (by kernel_rfl))⟩
  f21 := ⟨Try.f193.name, by decide, Try.func193.trans (congrArg some (by kernel_rfl))⟩
  f22 := ⟨Try.f194.name, by decide, Try.func194.trans (congrArg some (by kernel_rfl))⟩
  f23 := ⟨Try.f195.name, by decide, Try.func195.trans (congrArg some (by kernel_rfl))⟩
  f24 := ⟨Try.f196.name, by decide, Try.func196.trans (congrArg some (by kernel_rfl))⟩
  f25 := ⟨Try.f197.name, by decide, Try.func197.trans (congrArg some (by kernel_rfl))⟩
  f26 := ⟨Try.f198.name, by decide, Try.func198.trans (congrArg some (by kernel_rfl))⟩
  f27 := ⟨Try.f199.name, by decide, Try.func199.trans (congrArg some (by kernel_rfl))⟩
  f28 := Try.func183.trans (congrArg some (by kernel_rfl))
  f29 := Try.func184.trans (congrArg some (by kernel_rfl))
  f46 := ⟨Try.f241.name, by decide, Try.func241.trans (congrArg some (by kernel_rfl))⟩
  f47 := Try.func237.trans (congrArg some (by kernel_rfl))
  f48 := Try.func238.trans (congrArg some (by kernel_rfl))
  f49 := ⟨Try.f242.name, by decide, Try.func242.trans (congrArg some (by kernel_rfl))⟩
  f50 := ⟨Try.f243.name, by decide, Try.func243.trans (congrArg some (by kernel_rfl))⟩
  f57 := ⟨Try.f257.name, by decide, Try.func257.trans (congrArg some (by kernel_rfl))⟩
  t0 := Try.underlying0
  a0 := Try.isAgg0
  z0 := Try.sizeOf0
  v0 := Try.zeroValue0
  t3 := Try.underlying3
  a3 := Try.isAgg3
  z3 := Try.sizeOf3
  v3 := Try.zeroValue3
  t4 := Try.underlying4
  a4 := Try.isAgg4
  z4 := Try.sizeOf4
  v4 := Try.zeroValue4
  t5 := Try.underlying5
  a5 := Try.isAgg5
  z5 := Try.sizeOf5
  v5 := Try.zeroValue5
  t9 := Try.underlying9
  a9 := Try.isAgg9
  z9 := Try.sizeOf9
  v9 := Try.zeroValue9
  t22 := Try.underlying32
  a22 := Try.isAgg32
  z22 := Try.sizeOf32
  v22 := Try.zeroValue32
  t25 := Try.underlying123
  a25 := Try.isAgg123
  z25 := Try.sizeOf123
  v25 := Try.zeroValue123
  t39 := Try.underlying164
  a39 := Try.isAgg164
  z39 := Try.sizeOf164
  v39 := Try.zeroValue164
  t45 := Try.underlying215
  a45 := Try.isAgg215
  z45 := Try.sizeOf215
  v45 := Try.zeroValue215
  t46 := Try.underlying216
  a46 := Try.isAgg216
  z46 := Try.sizeOf216
  v46 := Try.zeroValue216
  t50 := Try.underlying220
  a50 := Try.isAgg220
  z50 := Try.sizeOf220
  v50 := Try.zeroValue220
  t53 := Try.underlying223
  a53 := Try.isAgg223
  z53 := Try.sizeOf223
  v53 := Try.zeroValue223
  t55 := Try.underlying183
  a55 := Try.isAgg183
  z55 := Try.sizeOf183
  v55 := Try.zeroValue183
  t66 := Try.underlying277
  a66 := Try.isAgg277
  z66 := Try.sizeOf277
  v66 := Try.zeroValue277
  t70 := Try.underlying281
  a70 := Try.isAgg281
  z70 := Try.sizeOf281
  v70 := Try.zeroValue281
  t76 := Try.underlying301
  a76 := Try.isAgg301
  z76 := Try.sizeOf301
  v76 := Try.zeroValue301
  t77 := Try.underlying302
  a77 := Try.isAgg302
  z77 := Try.sizeOf302
  v77 := Try.zeroValue302 }
end Go.Proofs
