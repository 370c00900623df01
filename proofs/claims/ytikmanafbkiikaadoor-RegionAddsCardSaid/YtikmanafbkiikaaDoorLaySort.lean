/-
  DERIVED: THE SHELF's CONTRACTS AT THIS DUMP, IN PLAIN WORDS (tools/lay-plain.mjs out of 'YtikmanafbkiikaaDoorTmpLaySort.lean', which tools/lay-shelf.mjs wrote): THE SAME DECLARATIONS UNDER THE SAME NAMES: 'import', 'namespace', 'open', 'def', 'theorem' AND NOTHING ELSE: no command of the shelf's: FOR A HAND-IN. Each laying: the table of numbers ('.._ren') and one theorem, a field a fact of the dump's own or the kernel's comparison; each contract: ONE APPLICATION.
-/
import Derived.Shelf.SlGeneric
import Derived.Shelf.SlLaysF0
import Derived.Ground.SlsfProg
import Derived.Test.YtikmanafbkiikaaDoorProg
namespace Go.Proofs
open Go.Shelf
def Tryd.sortRegion_ren : Go.Shelf.Ren := ⟨fun | 6 => 105 | 15 => 114 | 14 => 113 | 28 => 123 | 29 => 124 | 20 => 115 | 21 => 116 | 22 => 117 | 23 => 118 | 24 => 119 | 25 => 120 | 26 => 121 | 27 => 122 | 46 => 125 | 47 => 126 | 48 => 127 | 49 => 128 | 50 => 129 | 57 => 130 | n => n, fun | 22 => 95 | 24 => 109 | 25 => 185 | 3 => 3 | 39 => 28 | 0 => 0 | 53 => 138 | 55 => 214 | 4 => 4 | 46 => 206 | 45 => 205 | 50 => 210 | 5 => 5 | 9 => 9 | 66 => 215 | 70 => 219 | 76 => 221 | 77 => 119 | n => n, fun | n => n⟩
theorem Tryd.sortRegion : Go.Proofs.SlLaysF0.n6 Tryd.prog Tryd.sortRegion_ren := {
  mixed := by kernel_rfl
  f6 := ⟨Tryd.f105.name, by decide, Tryd.func105.trans (congrArg some (by kernel_rfl))⟩
  f14 := ⟨Tryd.f113.name, by decide, Tryd.func113.trans (congrArg some (by kernel_rfl))⟩
  f15 := Tryd.func114.trans (congrArg some (by kernel_rfl))
  f20 := ⟨Tryd.f115.name, by decide, Tryd.func115.trans (congrArg some (by kernel_rfl))⟩
  f21 := ⟨Tryd.f116.name, by decide, Tryd.func116.trans (congrArg some (by kernel_rfl))⟩
  f22 := ⟨Tryd.f117.name, by decide, Tryd.func117.trans (congrArg some (by kernel_rfl))⟩
  f23 := ⟨Tryd.f118.name, by decide, Tryd.func118.trans (congrArg some (by kernel_rfl))⟩
  f24 := ⟨Tryd.f119.name, by decide, Tryd.func119.trans (congrArg some (by kernel_rfl))⟩
  f25 := ⟨Tryd.f120.name, by decide, Tryd.func120.trans (congrArg some (by kernel_rfl))⟩
  f26 := ⟨Tryd.f121.name, by decide, Tryd.func121.trans (congrArg some (by kernel_rfl))⟩
  f27 := ⟨Tryd.f122.name, by decide, Tryd.func122.trans (congrArg some (by kernel_rfl))⟩
  f28 := Tryd.func123.trans (congrArg some (by kernel_rfl))
  f29 := Tryd.func124.trans (congrArg some (by kernel_rfl))
  f46 := ⟨Tryd.f125.name, by decide, Tryd.func125.trans (congrArg some (by kernel_rfl))⟩
  f47 := Tryd.func126.trans (congrArg some (by kernel_rfl))
  f48 := Tryd.func127.trans (congrArg some (by kernel_rfl))
  f49 := ⟨Tryd.f128.name, by decide, Tryd.func128.trans (congrArg some (by kernel_rfl))⟩
  f50 := ⟨Tryd.f129.name, by decide, Tryd.func129.trans (congrArg some (by kernel_rfl))⟩
  f57 := ⟨Tryd.f130.name, by decide, Tryd.func130.trans (congrArg some (by kernel_rfl))⟩
  t0 := Tryd.underlying0
  a0 := Tryd.isAgg0
  z0 := Tryd.sizeOf0
  v0 := Tryd.zeroValue0
  t3 := Tryd.underlying3
  a3 := Tryd.isAgg3
  z3 := Tryd.sizeOf3
  v3 := Tryd.zeroValue3
  t4 := Tryd.underlying4
  a4 := Tryd.isAgg4
  z4 := Tryd.sizeOf4
  v4 := Tryd.zeroValue4
  t5 := Tryd.underlying5
  a5 := Tryd.isAgg5
  z5 := Tryd.sizeOf5
  v5 := Tryd.zeroValue5
  t9 := Tryd.underlying9
  a9 := Tryd.isAgg9
  z9 := Tryd.sizeOf9
  v9 := Tryd.zeroValue9
  t22 := Tryd.underlying95
  a22 := Tryd.isAgg95
  z22 := Tryd.sizeOf95
  v22 := Tryd.zeroValue95
  t25 := Tryd.underlying185
  a25 := Tryd.isAgg185
  z25 := Tryd.sizeOf185
  v25 := Tryd.zeroValue185
  t39 := Tryd.underlying28
  a39 := Tryd.isAgg28
  z39 := Tryd.sizeOf28
  v39 := Tryd.zeroValue28
  t45 := Tryd.underlying205
  a45 := Tryd.isAgg205
  z45 := Tryd.sizeOf205
  v45 := Tryd.zeroValue205
  t46 := Tryd.underlying206
  a46 := Tryd.isAgg206
  z46 := Tryd.sizeOf206
  v46 := Tryd.zeroValue206
  t50 := Tryd.underlying210
  a50 := Tryd.isAgg210
  z50 := Tryd.sizeOf210
  v50 := Tryd.zeroValue210
  t53 := Tryd.underlying138
  a53 := Tryd.isAgg138
  z53 := Tryd.sizeOf138
  v53 := Tryd.zeroValue138
  t55 := Tryd.underlying214
  a55 := Tryd.isAgg214
  z55 := Tryd.sizeOf214
  v55 := Tryd.zeroValue214
  t66 := Tryd.underlying215
  a66 := Tryd.isAgg215
  z66 := Tryd.sizeOf215
  v66 := Tryd.zeroValue215
  t70 := Tryd.underlying219
  a70 := Tryd.isAgg219
  z70 := Tryd.sizeOf219
  v70 := Tryd.zeroValue219
  t76 := Tryd.underlying221
  a76 := Tryd.isAgg221
  z76 := Tryd.sizeOf221
  v76 := Tryd.zeroValue221
  t77 := Tryd.underlying119
  a77 := Tryd.isAgg119
  z77 := Tryd.sizeOf119
  v77 := Tryd.zeroValue119 }
end Go.Proofs
