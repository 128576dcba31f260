import Derived.Shelf.Strings.Search1
import Derived.Shelf.Strings.Search2
import Derived.Shelf.Strings.Search3
import Derived.Shelf.LaysM
import Derived.Shelf.Strings.Shaped
import Derived.Test.YtcdjheflchglaaaProg
namespace Go.Proofs
open Go.Shelf
def Try.lays144_ren:Go.Shelf.Ren:=⟨fun |144=>138 |143=>142 |219=>145 |217=>146 |225=>147 |224=>148 |267=>149 |266=>150 |314=>151 |n=>n,fun |9=>9 |4=>4 |3=>3 |5=>5 |46=>138 |146=>178 |51=>177 |n=>n,fun |1=>0 |n=>n⟩
theorem Try.lays144:Go.Proofs.Lays.n144 Try.prog Try.lays144_ren:= {
 mixed:=by kernel_rfl
 f143:=Try.func142.trans (congrArg some (by kernel_rfl))
 f144:=Try.func138.trans (congrArg some (by kernel_rfl))
 f217:=Try.func146.trans (congrArg some (by kernel_rfl))
 f219:=Try.func145.trans (congrArg some (by kernel_rfl))
 f224:=Try.func148.trans (congrArg some (by kernel_rfl))
 f225:=Try.func147.trans (congrArg some (by kernel_rfl))
 f266:=Try.func150.trans (congrArg some (by kernel_rfl))
 f267:=Try.func149.trans (congrArg some (by kernel_rfl))
 f314:=Try.func151.trans (congrArg some (by kernel_rfl))
 t3:=Try.underlying3
 a3:=Try.isAgg3
 z3:=Try.sizeOf3
 v3:=Try.zeroValue3
 t4:=Try.underlying4
 a4:=Try.isAgg4
 z4:=Try.sizeOf4
 v4:=Try.zeroValue4
 t5:=Try.underlying5
 a5:=Try.isAgg5
 z5:=Try.sizeOf5
 v5:=Try.zeroValue5
 t9:=Try.underlying9
 a9:=Try.isAgg9
 z9:=Try.sizeOf9
 v9:=Try.zeroValue9
 t46:=Try.underlying138
 a46:=Try.isAgg138
 z46:=Try.sizeOf138
 v46:=Try.zeroValue138
 t51:=Try.underlying177
 a51:=Try.isAgg177
 z51:=Try.sizeOf177
 v51:=Try.zeroValue177
 t146:=Try.underlying178
 a146:=Try.isAgg178
 z146:=Try.sizeOf178
 v146:=Try.zeroValue178
 g1:=by kernel_rfl }
open Go.RowKit Go.Lib in
theorem Try.strings_Contains_one(s:ByteArray)(c:UInt8)(w:World):
 Calls Try.prog 138 #[.string s, .string ⟨#[c]⟩] w fun e w'=>e= .returned (.bool (decide (0≤Lib.indexByte s.data.toList c)))∧w'=w:=Any.strings_Contains_one Try.lays144 s c w
end Go.Proofs
