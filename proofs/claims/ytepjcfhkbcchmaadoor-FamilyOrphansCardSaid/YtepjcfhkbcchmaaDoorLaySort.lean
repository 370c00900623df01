/-
  DERIVED: THE SHELF's CONTRACTS AT THIS DUMP, IN PLAIN WORDS (tools/lay-plain.mjs out of 'YtepjcfhkbcchmaaDoorTmpLaySort.lean', which tools/lay-shelf.mjs wrote): THE SAME DECLARATIONS UNDER THE SAME NAMES: 'import', 'namespace', 'open', 'def', 'theorem' AND NOTHING ELSE: no command of the shelf's: FOR A HAND-IN. Each laying: the table of numbers ('.._ren') and one theorem, a field a fact of the dump's own or the kernel's comparison; each contract: ONE APPLICATION.
-/
import Derived.Shelf.SlGeneric
import Derived.Shelf.SlLaysF0
import Derived.Ground.SlsfProg
import Derived.Test.YtepjcfhkbcchmaaDoorProg
namespace Go.Proofs
open Go.Shelf
def Tryd.sortMember_ren : Go.Shelf.Ren := ⟨fun | 6 => 63 | 15 => 91 | 14 => 90 | 28 => 122 | 29 => 123 | 20 => 114 | 21 => 115 | 22 => 116 | 23 => 117 | 24 => 118 | 25 => 119 | 26 => 120 | 27 => 121 | 46 => 141 | 47 => 142 | 48 => 143 | 49 => 144 | 50 => 145 | 57 => 156 | n => n, fun | 22 => 46 | 24 => 57 | 25 => 116 | 3 => 3 | 39 => 138 | 0 => 0 | 53 => 22 | 55 => 175 | 4 => 4 | 46 => 168 | 45 => 167 | 50 => 111 | 5 => 5 | 9 => 9 | 66 => 199 | 70 => 203 | 76 => 213 | 77 => 214 | n => n, fun | n => n⟩
theorem Tryd.sortMember : Go.Proofs.SlLaysF0.n6 Tryd.prog Tryd.sortMember_ren := {
  mixed := by kernel_rfl
  f6 := ⟨Tryd.f63.name, by decide, Tryd.func63.trans (congrArg some (by kernel_rfl))⟩
  f14 := ⟨Tryd.f90.name, by decide, Tryd.func90.trans (congrArg some (by kernel_rfl))⟩
  f15 := Tryd.func91.trans (congrArg some (by kernel_rfl))
  f20 := ⟨Tryd.f114.name, by decide, Tryd.func114.trans (congrArg some (by kernel_rfl))⟩
  f21 := ⟨Tryd.f115.name, by decide, Tryd.func115.trans (congrArg some (by kernel_rfl))⟩
  f22 := ⟨Tryd.f116.name, by decide, Tryd.func116.trans (congrArg some (by kernel_rfl))⟩
  f23 := ⟨Tryd.f117.name, by decide, Tryd.func117.trans (congrArg some (by kernel_rfl))⟩
  f24 := ⟨Tryd.f118.name, by decide, Tryd.func118.trans (congrArg some (by kernel_rfl))⟩
  f25 := ⟨Tryd.f119.name, by decide, Tryd.func119.trans (congrArg some (by kernel_rfl))⟩
  f26 := ⟨Tryd.f120.name, by decide, Tryd.func120.trans (congrArg some (by kernel_rfl))⟩
  f27 := ⟨Tryd.f121.name, by decide, Tryd.func121.trans (congrArg some (by kernel_rfl))⟩
  f28 := Tryd.func122.trans (congrArg some (by kernel_rfl))
  f29 := Tryd.func123.trans (congrArg some (by kernel_rfl))
  f46 := ⟨Tryd.f141.name, by decide, Tryd.func141.trans (congrArg some (by kernel_rfl))⟩
  f47 := Tryd.func142.trans (congrArg some (by kernel_rfl))
  f48 := Tryd.func143.trans (congrArg some (by kernel_rfl))
  f49 := ⟨Tryd.f144.name, by decide, Tryd.func144.trans (congrArg some (by kernel_rfl))⟩
  f50 := ⟨Tryd.f145.name, by decide, Tryd.func145.trans (congrArg some (by kernel_rfl))⟩
  f57 := ⟨Tryd.f156.name, by decide, Tryd.func156.trans (congrArg some (by kernel_rfl))⟩
  t0 := Tryd.underlying0
  a0 := Tryd.isAgg0
  z0 := Tryd.sizeOf0
  v0 := Tryd.zeroValue0
  t3 := Tryd.underlying3
  a3 := Tryd.isAgg3
  z3 := Tryd.sizeOf3
  v3 := Tryd.zeroValue3
  t4 := Tryd.underlying4
  a4 := Tryd.isAgg4
  z4 := Tryd.sizeOf4
  v4 := Tryd.zeroValue4
  t5 := Tryd.underlying5
  a5 := Tryd.isAgg5
  z5 := Tryd.sizeOf5
  v5 := Tryd.zeroValue5
  t9 := Tryd.underlying9
  a9 := Tryd.isAgg9
  z9 := Tryd.sizeOf9
  v9 := Tryd.zeroValue9
  t22 := Tryd.underlying46
  a22 := Tryd.isAgg46
  z22 := Tryd.sizeOf46
  v22 := Tryd.zeroValue46
  t25 := Tryd.underlying116
  a25 := Tryd.isAgg116
  z25 := Tryd.sizeOf116
  v25 := Tryd.zeroValue116
  t39 := Tryd.underlying138
  a39 := Tryd.isAgg138
  z39 := Tryd.sizeOf138
  v39 := Tryd.zeroValue138
  t45 := Tryd.underlying167
  a45 := Tryd.isAgg167
  z45 := Tryd.sizeOf167
  v45 := Tryd.zeroValue167
  t46 := Tryd.underlying168
  a46 := Tryd.isAgg168
  z46 := Tryd.sizeOf168
  v46 := Tryd.zeroValue168
  t50 := Tryd.underlying111
  a50 := Tryd.isAgg111
  z50 := Tryd.sizeOf111
  v50 := Tryd.zeroValue111
  t53 := Tryd.underlying22
  a53 := Tryd.isAgg22
  z53 := Tryd.sizeOf22
  v53 := Tryd.zeroValue22
  t55 := Tryd.underlying175
  a55 := Tryd.isAgg175
  z55 := Tryd.sizeOf175
  v55 := Tryd.zeroValue175
  t66 := Tryd.underlying199
  a66 := Tryd.isAgg199
  z66 := Tryd.sizeOf199
  v66 := Tryd.zeroValue199
  t70 := Tryd.underlying203
  a70 := Tryd.isAgg203
  z70 := Tryd.sizeOf203
  v70 := Tryd.zeroValue203
  t76 := Tryd.underlying213
  a76 := Tryd.isAgg213
  z76 := Tryd.sizeOf213
  v76 := Tryd.zeroValue213
  t77 := Tryd.underlying214
  a77 := Tryd.isAgg214
  z77 := Tryd.sizeOf214
  v77 := Tryd.zeroValue214 }
end Go.Proofs
