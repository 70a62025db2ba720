/-
 DERIVED: THE SHELF's CONTRACTS AT THIS DUMP, IN PLAIN WORDS (tools/lay-plain.mjs out of 'ZzTrydS1.lean', which tools/lay-shelf.mjs wrote): THE SAME DECLARATIONS UNDER THE SAME NAMES: 'import', 'namespace', 'open', 'def', 'theorem' AND NOTHING ELSE: no command of the shelf's: FOR A HAND-IN. Each laying: the table of numbers ('.._ren') and one theorem, a field a fact of the dump's own or the kernel's comparison; each contract: ONE APPLICATION.
-/
import Derived.Shelf.Strings.FuncGrows
import Derived.Shelf.Strings.SlTrimAscii
import Derived.Test.YtjnagiaooecklabDoorProg
set_option linter.all false
namespace Go.Proofs
open Go.Shelf
def Tryd.l160_ren : Go.Shelf.Ren := ⟨fun | 160 => 63 | 232 => 76 | 231 => 75 | 227 => 77 | 234 => 79 | 233 => 78 | 236 => 81 | 235 => 80 | 228 => 86 | 271 => 88 | 151 => 87 | 197 => 73 | 120 => 91 | 152 => 90 | 260 => 85 | 137 => 92 | 119 => 93 | 224 => 70 | 225 => 69 | 217 => 68 | 266 => 83 | n => n, fun | 9 => 9 | 4 => 4 | 3 => 3 | 5 => 5 | 117 => 130 | 116 => 129 | 0 => 0 | 124 => 133 | 21 => 21 | 105 => 125 | 46 => 123 | 119 => 141 | 139 => 144 | 138 => 143 | n => n, fun | 3 => 1 | 4 => 2 | n => n⟩
theorem Tryd.l160 : Go.Proofs.Lays.n160 Tryd.prog Tryd.l160_ren := {
 mixed := by kernel_rfl
 f119 := Tryd.func93.trans (congrArg some (by kernel_rfl))
 f120 := Tryd.func91.trans (congrArg some (by kernel_rfl))
 f137 := Tryd.func92.trans (congrArg some (by kernel_rfl))
 f151 := Tryd.func87.trans (congrArg some (by kernel_rfl))
 f152 := Tryd.func90.trans (congrArg some (by kernel_rfl))
 f160 := Tryd.func63.trans (congrArg some (by kernel_rfl))
 f197 := Tryd.func73.trans (congrArg some (by kernel_rfl))
 f217 := Tryd.func68.trans (congrArg some (by kernel_rfl))
 f224 := Tryd.func70.trans (congrArg some (by kernel_rfl))
 f225 := Tryd.func69.trans (congrArg some (by kernel_rfl))
 f227 := Tryd.func77.trans (congrArg some (by kernel_rfl))
 f228 := Tryd.func86.trans (congrArg some (by kernel_rfl))
 f231 := Tryd.func75.trans (congrArg some (by kernel_rfl))
 f232 := Tryd.func76.trans (congrArg some (by kernel_rfl))
 f233 := Tryd.func78.trans (congrArg some (by kernel_rfl))
 f234 := Tryd.func79.trans (congrArg some (by kernel_rfl))
 f235 := Tryd.func80.trans (congrArg some (by kernel_rfl))
 f236 := Tryd.func81.trans (congrArg some (by kernel_rfl))
 f260 := Tryd.func85.trans (congrArg some (by kernel_rfl))
 f266 := Tryd.func83.trans (congrArg some (by kernel_rfl))
 f271 := Tryd.func88.trans (congrArg some (by kernel_rfl))
 t0 := Tryd.underlying0
 a0 := Tryd.isAgg0
 z0 := Tryd.sizeOf0
 v0 := Tryd.zeroValue0
 t3 := Tryd.underlying3
 a3 := Tryd.isAgg3
 z3 := Tryd.sizeOf3
 v3 := Tryd.zeroValue3
 t4 := Tryd.underlying4
 a4 := Tryd.isAgg4
 z4 := Tryd.sizeOf4
 v4 := Tryd.zeroValue4
 t5 := Tryd.underlying5
 a5 := Tryd.isAgg5
 z5 := Tryd.sizeOf5
 v5 := Tryd.zeroValue5
 t9 := Tryd.underlying9
 a9 := Tryd.isAgg9
 z9 := Tryd.sizeOf9
 v9 := Tryd.zeroValue9
 t21 := Tryd.underlying21
 a21 := Tryd.isAgg21
 z21 := Tryd.sizeOf21
 v21 := Tryd.zeroValue21
 t46 := Tryd.underlying123
 a46 := Tryd.isAgg123
 z46 := Tryd.sizeOf123
 v46 := Tryd.zeroValue123
 t105 := Tryd.underlying125
 a105 := Tryd.isAgg125
 z105 := Tryd.sizeOf125
 v105 := Tryd.zeroValue125
 t116 := Tryd.underlying129
 a116 := Tryd.isAgg129
 z116 := Tryd.sizeOf129
 t117 := Tryd.underlying130
 a117 := Tryd.isAgg130
 z117 := Tryd.sizeOf130
 v117 := Tryd.zeroValue130
 t119 := Tryd.underlying141
 a119 := Tryd.isAgg141
 z119 := Tryd.sizeOf141
 t124 := Tryd.underlying133
 a124 := Tryd.isAgg133
 z124 := Tryd.sizeOf133
 v124 := Tryd.zeroValue133
 t138 := Tryd.underlying143
 a138 := Tryd.isAgg143
 z138 := Tryd.sizeOf143
 v138 := Tryd.zeroValue143
 t139 := Tryd.underlying144
 a139 := Tryd.isAgg144
 z139 := Tryd.sizeOf144
 v139 := Tryd.zeroValue144
 g3 := by kernel_rfl
 g4 := by kernel_rfl }
def Tryd.l17_ren : Go.Shelf.Ren := ⟨fun | 17 => 64 | 15 => 82 | 20 => 89 | n => n, fun | 9 => 9 | 23 => 117 | 4 => 4 | 3 => 3 | 0 => 0 | 21 => 21 | n => n, fun | n => n⟩
theorem Tryd.l17 : Go.Proofs.LaysGw.n17 Tryd.prog Tryd.l17_ren := {
 mixed := by kernel_rfl
 f15 := Tryd.func82.trans (congrArg some (by kernel_rfl))
 f17 := Tryd.func64.trans (congrArg some (by kernel_rfl))
 f20 := Tryd.func89.trans (congrArg some (by kernel_rfl))
 t0 := Tryd.underlying0
 a0 := Tryd.isAgg0
 z0 := Tryd.sizeOf0
 v0 := Tryd.zeroValue0
 i0 := by kernel_rfl
 t3 := Tryd.underlying3
 a3 := Tryd.isAgg3
 z3 := Tryd.sizeOf3
 v3 := Tryd.zeroValue3
 i3 := by kernel_rfl
 t4 := Tryd.underlying4
 a4 := Tryd.isAgg4
 z4 := Tryd.sizeOf4
 v4 := Tryd.zeroValue4
 i4 := by kernel_rfl
 t9 := Tryd.underlying9
 a9 := Tryd.isAgg9
 z9 := Tryd.sizeOf9
 v9 := Tryd.zeroValue9
 i9 := by kernel_rfl
 t21 := Tryd.underlying21
 a21 := Tryd.isAgg21
 z21 := Tryd.sizeOf21
 v21 := Tryd.zeroValue21
 i21 := by kernel_rfl
 t23 := Tryd.underlying117
 a23 := Tryd.isAgg117
 z23 := Tryd.sizeOf117
 v23 := Tryd.zeroValue117
 i23 := by kernel_rfl }
end Go.Proofs
