/-
 DERIVED: THE SHELF's CONTRACTS AT THIS DUMP, IN PLAIN WORDS (tools/lay-plain.mjs out of 'ZzTryzS1.lean', which tools/lay-shelf.mjs wrote): THE SAME DECLARATIONS UNDER THE SAME NAMES: 'import', 'namespace', 'open', 'def', 'theorem' AND NOTHING ELSE: no command of the shelf's: FOR A HAND-IN. Each laying: the table of numbers ('.._ren') and one theorem, a field a fact of the dump's own or the kernel's comparison; each contract: ONE APPLICATION.
-/
import Derived.Shelf.Strings.FuncGrows
import Derived.Shelf.Strings.SlTrimAscii
import Derived.Test.YtjnagiaooecklabGreatDoorProg
set_option linter.all false
namespace Go.Proofs
open Go.Shelf
def Tryz.l160_ren:Go.Shelf.Ren:=⟨fun|160=>237|232=>262|231=>261|227=>263|234=>265|233=>264|236=>267|235=>266|228=>280|271=>283|151=>282|197=>281|120=>297|152=>296|260=>295|137=>309|119=>310|224=>291|225=>290|217=>289|266=>307|n=>n,fun|9=>9|4=>4|3=>3|5=>5|117=>301|116=>300|0=>0|124=>304|21=>21|105=>317|46=>191|119=>338|139=>341|138=>340|n=>n,fun|3=>1|4=>2|n=>n⟩
theorem Tryz.l160:Go.Proofs.Lays.n160 Tryz.prog Tryz.l160_ren:={
 mixed:=by kernel_rfl
 f119:=Tryz.func310.trans (congrArg some (by kernel_rfl))
 f120:=Tryz.func297.trans (congrArg some (by kernel_rfl))
 f137:=Tryz.func309.trans (congrArg some (by kernel_rfl))
 f151:=Tryz.func282.trans (congrArg some (by kernel_rfl))
 f152:=Tryz.func296.trans (congrArg some (by kernel_rfl))
 f160:=Tryz.func237.trans (congrArg some (by kernel_rfl))
 f197:=Tryz.func281.trans (congrArg some (by kernel_rfl))
 f217:=Tryz.func289.trans (congrArg some (by kernel_rfl))
 f224:=Tryz.func291.trans (congrArg some (by kernel_rfl))
 f225:=Tryz.func290.trans (congrArg some (by kernel_rfl))
 f227:=Tryz.func263.trans (congrArg some (by kernel_rfl))
 f228:=Tryz.func280.trans (congrArg some (by kernel_rfl))
 f231:=Tryz.func261.trans (congrArg some (by kernel_rfl))
 f232:=Tryz.func262.trans (congrArg some (by kernel_rfl))
 f233:=Tryz.func264.trans (congrArg some (by kernel_rfl))
 f234:=Tryz.func265.trans (congrArg some (by kernel_rfl))
 f235:=Tryz.func266.trans (congrArg some (by kernel_rfl))
 f236:=Tryz.func267.trans (congrArg some (by kernel_rfl))
 f260:=Tryz.func295.trans (congrArg some (by kernel_rfl))
 f266:=Tryz.func307.trans (congrArg some (by kernel_rfl))
 f271:=Tryz.func283.trans (congrArg some (by kernel_rfl))
 t0:=Tryz.underlying0
 a0:=Tryz.isAgg0
 z0:=Tryz.sizeOf0
 v0:=Tryz.zeroValue0
 t3:=Tryz.underlying3
 a3:=Tryz.isAgg3
 z3:=Tryz.sizeOf3
 v3:=Tryz.zeroValue3
 t4:=Tryz.underlying4
 a4:=Tryz.isAgg4
 z4:=Tryz.sizeOf4
 v4:=Tryz.zeroValue4
 t5:=Tryz.underlying5
 a5:=Tryz.isAgg5
 z5:=Tryz.sizeOf5
 v5:=Tryz.zeroValue5
 t9:=Tryz.underlying9
 a9:=Tryz.isAgg9
 z9:=Tryz.sizeOf9
 v9:=Tryz.zeroValue9
 t21:=Tryz.underlying21
 a21:=Tryz.isAgg21
 z21:=Tryz.sizeOf21
 v21:=Tryz.zeroValue21
 t46:=Tryz.underlying191
 a46:=Tryz.isAgg191
 z46:=Tryz.sizeOf191
 v46:=Tryz.zeroValue191
 t105:=Tryz.underlying317
 a105:=Tryz.isAgg317
 z105:=Tryz.sizeOf317
 v105:=Tryz.zeroValue317
 t116:=Tryz.underlying300
 a116:=Tryz.isAgg300
 z116:=Tryz.sizeOf300
 t117:=Tryz.underlying301
 a117:=Tryz.isAgg301
 z117:=Tryz.sizeOf301
 v117:=Tryz.zeroValue301
 t119:=Tryz.underlying338
 a119:=Tryz.isAgg338
 z119:=Tryz.sizeOf338
 t124:=Tryz.underlying304
 a124:=Tryz.isAgg304
 z124:=Tryz.sizeOf304
 v124:=Tryz.zeroValue304
 t138:=Tryz.underlying340
 a138:=Tryz.isAgg340
 z138:=Tryz.sizeOf340
 v138:=Tryz.zeroValue340
 t139:=Tryz.underlying341
 a139:=Tryz.isAgg341
 z139:=Tryz.sizeOf341
 v139:=Tryz.zeroValue341
 g3:=by kernel_rfl
 g4:=by kernel_rfl}
def Tryz.l17_ren:Go.Shelf.Ren:=⟨fun|17=>238|15=>268|20=>284|n=>n,fun|9=>9|23=>282|4=>4|3=>3|0=>0|21=>21|n=>n,fun|n=>n⟩
theorem Tryz.l17:Go.Proofs.LaysGw.n17 Tryz.prog Tryz.l17_ren:={
 mixed:=by kernel_rfl
 f15:=Tryz.func268.trans (congrArg some (by kernel_rfl))
 f17:=Tryz.func238.trans (congrArg some (by kernel_rfl))
 f20:=Tryz.func284.trans (congrArg some (by kernel_rfl))
 t0:=Tryz.underlying0
 a0:=Tryz.isAgg0
 z0:=Tryz.sizeOf0
 v0:=Tryz.zeroValue0
 i0:=by kernel_rfl
 t3:=Tryz.underlying3
 a3:=Tryz.isAgg3
 z3:=Tryz.sizeOf3
 v3:=Tryz.zeroValue3
 i3:=by kernel_rfl
 t4:=Tryz.underlying4
 a4:=Tryz.isAgg4
 z4:=Tryz.sizeOf4
 v4:=Tryz.zeroValue4
 i4:=by kernel_rfl
 t9:=Tryz.underlying9
 a9:=Tryz.isAgg9
 z9:=Tryz.sizeOf9
 v9:=Tryz.zeroValue9
 i9:=by kernel_rfl
 t21:=Tryz.underlying21
 a21:=Tryz.isAgg21
 z21:=Tryz.sizeOf21
 v21:=Tryz.zeroValue21
 i21:=by kernel_rfl
 t23:=Tryz.underlying282
 a23:=Tryz.isAgg282
 z23:=Tryz.sizeOf282
 v23:=Tryz.zeroValue282
 i23:=by kernel_rfl}
end Go.Proofs
