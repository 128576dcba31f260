import Derived.Shelf.Strings.Builder1
import Derived.Shelf.Strings.Builder2
import Derived.Shelf.Strings.OnBuilder
import Derived.Shelf.Small.Strs
import Derived.Shelf.Strings.BuilderF
import Derived.Shelf.Strings.BuilderK
import Derived.Shelf.Strings.Builder2Cap
import Derived.Shelf.Strconv.Itoa0
import Derived.Shelf.Strconv.Itoa1
import Derived.Shelf.LaysM
import Derived.Shelf.Strconv.Itoa2
import Derived.Shelf.Strconv.Itoa3
import Derived.Shelf.Strings.Search1
import Derived.Shelf.Strings.Prefix
import Derived.Shelf.Bits.Mul64
import Derived.Shelf.Strings.Repeat
import Derived.Shelf.Strings.BuilderCap
import Derived.Test.YtcdjheflchglaaaDoorProg
namespace Go.Proofs
open Go.Shelf
def Tryd.lays156_ren:Go.Shelf.Ren:=⟨fun |156=>111 |165=>122 |166=>31 |169=>34 |240=>68 |241=>136 |276=>103 |277=>146 |n=>n,fun |31=>124 |9=>9 |3=>3 |4=>4 |0=>0 |20=>20 |72=>63 |76=>66 |70=>60 |37=>61 |75=>65 |127=>108 |164=>137 |5=>5 |80=>71 |n=>n,fun |n=>n⟩
theorem Tryd.lays156:Go.Proofs.Lays.n156 Tryd.prog Tryd.lays156_ren:= {
 mixed:=by kernel_rfl
 f156:=Tryd.func111.trans (congrArg some (by kernel_rfl))
 f165:=Tryd.func122.trans (congrArg some (by kernel_rfl))
 f166:=Tryd.func31.trans (congrArg some (by kernel_rfl))
 f169:=Tryd.func34.trans (congrArg some (by kernel_rfl))
 f240:=Tryd.func68.trans (congrArg some (by kernel_rfl))
 f241:=Tryd.func136.trans (congrArg some (by kernel_rfl))
 f276:=Tryd.func103.trans (congrArg some (by kernel_rfl))
 f277:=Tryd.func146.trans (congrArg some (by kernel_rfl))
 t0:=Tryd.underlying0
 a0:=Tryd.isAgg0
 z0:=Tryd.sizeOf0
 v0:=Tryd.zeroValue0
 t3:=Tryd.underlying3
 a3:=Tryd.isAgg3
 z3:=Tryd.sizeOf3
 v3:=Tryd.zeroValue3
 t4:=Tryd.underlying4
 a4:=Tryd.isAgg4
 z4:=Tryd.sizeOf4
 v4:=Tryd.zeroValue4
 t9:=Tryd.underlying9
 a9:=Tryd.isAgg9
 z9:=Tryd.sizeOf9
 v9:=Tryd.zeroValue9
 t20:=Tryd.underlying20
 a20:=Tryd.isAgg20
 z20:=Tryd.sizeOf20
 v20:=Tryd.zeroValue20
 t31:=Tryd.underlying124
 a31:=Tryd.isAgg124
 z31:=Tryd.sizeOf124
 v31:=Tryd.zeroValue124
 t37:=Tryd.underlying61
 a37:=Tryd.isAgg61
 z37:=Tryd.sizeOf61
 v37:=Tryd.zeroValue61
 t70:=Tryd.underlying60
 a70:=Tryd.isAgg60
 z70:=Tryd.sizeOf60
 v70:=Tryd.zeroValue60
 t72:=Tryd.underlying63
 a72:=Tryd.isAgg63
 z72:=Tryd.sizeOf63
 v72:=Tryd.zeroValue63
 t75:=Tryd.underlying65
 a75:=Tryd.isAgg65
 z75:=Tryd.sizeOf65
 v75:=Tryd.zeroValue65
 t76:=Tryd.underlying66
 a76:=Tryd.isAgg66
 z76:=Tryd.sizeOf66
 v76:=Tryd.zeroValue66
 t127:=Tryd.underlying108
 a127:=Tryd.isAgg108
 z127:=Tryd.sizeOf108
 v127:=Tryd.zeroValue108
 t164:=Tryd.underlying137
 a164:=Tryd.isAgg137
 z164:=Tryd.sizeOf137
 v164:=Tryd.zeroValue137 }
theorem Tryd.Builder_Extra_156:Builder.Extra Tryd.prog Tryd.lays156_ren:= {
 sizeBuilder:=by kernel_rfl
 liesBuilder:=by kernel_rfl
 t5:=Tryd.underlying5
 a5:=Tryd.isAgg5
 z5:=Tryd.sizeOf5
 v5:=Tryd.zeroValue5
 infoByte:=by kernel_rfl
 cellsByte:=by kernel_rfl
 sizeByte:=by kernel_rfl
 neB5:=by decide }
open Go.RowKit in
theorem Tryd.strings_Join_none(a:Option Addr)(c:Nat)(sep:ByteArray)(w:World):
 Calls Tryd.prog 111 #[.slice a 0 c, .string sep] w fun e w'=>e= .returned (.string ⟨#[]⟩)∧w'=w:=Any.strings_Join_none Tryd.lays156 Tryd.Builder_Extra_156 a c sep w
open Go.RowKit in
theorem Tryd.strings_Join(bk o c:Nat)(xs:List ByteArray)(sep:ByteArray)(w:World)(hcells:∀(j:Nat) x,xs[j]? =some x→w.cell? ⟨bk,o+j,none⟩=some (.string x))(hbk:bk<w.heap.size)(hN:xs.length≤140737488355328)(hcap:xs.length≤c)(hlen:(Lib.join (xs.map (·.data.toList)) sep.data.toList).length≤140737488355328):
 Calls Tryd.prog 111 #[.slice (some ⟨bk,o,none⟩) xs.length c, .string sep] w fun e w'=>e= .returned (.string ⟨(Lib.join (xs.map (·.data.toList)) sep.data.toList).toArray⟩)∧Below w.heap.size w w':=Any.strings_Join Tryd.lays156 Tryd.Builder_Extra_156 bk o c xs sep w hcells hbk hN hcap hlen
def Tryd.lays137_ren:Go.Shelf.Ren:=⟨fun |137=>117 |217=>130 |266=>140 |n=>n,fun |9=>9 |5=>5 |3=>3 |n=>n,fun |n=>n⟩
theorem Tryd.lays137:Go.Proofs.Lays.n137 Tryd.prog Tryd.lays137_ren:= {
 mixed:=by kernel_rfl
 f137:=Tryd.func117.trans (congrArg some (by kernel_rfl))
 f217:=Tryd.func130.trans (congrArg some (by kernel_rfl))
 f266:=Tryd.func140.trans (congrArg some (by kernel_rfl))
 t3:=Tryd.underlying3
 a3:=Tryd.isAgg3
 z3:=Tryd.sizeOf3
 v3:=Tryd.zeroValue3
 t5:=Tryd.underlying5
 a5:=Tryd.isAgg5
 z5:=Tryd.sizeOf5
 v5:=Tryd.zeroValue5
 t9:=Tryd.underlying9
 a9:=Tryd.isAgg9
 z9:=Tryd.sizeOf9
 v9:=Tryd.zeroValue9 }
open Go.RowKit in
theorem Tryd.strings_IndexByte(s:ByteArray)(c:Int)(w:World):
 Calls Tryd.prog 117 #[.string s, .int .u8 c] w fun e w'=>e= .returned (.int .i64 (Lib.indexByte s.data.toList c.toNat.toUInt8))∧w'=w:=Any.strings_IndexByte Tryd.lays137 s c w
def Tryd.laysM171_ren:Go.Shelf.Ren:=⟨fun |171=>102 |243=>120 |246=>133 |283=>142 |284=>143 |285=>144 |286=>145 |129=>149 |317=>148 |318=>150 |319=>151 |320=>152 |337=>153 |338=>154 |n=>n,fun |3=>3 |9=>9 |2=>2 |4=>4 |171=>167 |0=>0 |53=>141 |37=>61 |5=>5 |173=>170 |212=>175 |51=>160 |20=>20 |213=>176 |46=>98 |232=>179 |233=>180 |n=>n,fun |17=>1 |18=>2 |19=>3 |n=>n⟩
theorem Tryd.laysM171:Go.Proofs.LaysM.n171 Tryd.prog Tryd.laysM171_ren:= {
 mixed:=by kernel_rfl
 f129:=Tryd.func149.trans (congrArg some (by kernel_rfl))
 f171:=Tryd.func102.trans (congrArg some (by kernel_rfl))
 f243:=Tryd.func120.trans (congrArg some (by kernel_rfl))
 f246:=Tryd.func133.trans (congrArg some (by kernel_rfl))
 f283:=Tryd.func142.trans (congrArg some (by kernel_rfl))
 f284:=Tryd.func143.trans (congrArg some (by kernel_rfl))
 f285:=Tryd.func144.trans (congrArg some (by kernel_rfl))
 f286:=Tryd.func145.trans (congrArg some (by kernel_rfl))
 f317:=Tryd.func148.trans (congrArg some (by kernel_rfl))
 f318:=Tryd.func150.trans (congrArg some (by kernel_rfl))
 f319:=Tryd.func151.trans (congrArg some (by kernel_rfl))
 f320:=Tryd.func152.trans (congrArg some (by kernel_rfl))
 f337:=Tryd.func153.trans (congrArg some (by kernel_rfl))
 f338:=Tryd.func154.trans (congrArg some (by kernel_rfl))
 t0:=Tryd.underlying0
 a0:=Tryd.isAgg0
 z0:=Tryd.sizeOf0
 v0:=Tryd.zeroValue0
 t2:=Tryd.underlying2
 a2:=Tryd.isAgg2
 z2:=Tryd.sizeOf2
 v2:=Tryd.zeroValue2
 t3:=Tryd.underlying3
 a3:=Tryd.isAgg3
 z3:=Tryd.sizeOf3
 v3:=Tryd.zeroValue3
 t4:=Tryd.underlying4
 a4:=Tryd.isAgg4
 z4:=Tryd.sizeOf4
 v4:=Tryd.zeroValue4
 t5:=Tryd.underlying5
 a5:=Tryd.isAgg5
 z5:=Tryd.sizeOf5
 v5:=Tryd.zeroValue5
 t9:=Tryd.underlying9
 a9:=Tryd.isAgg9
 z9:=Tryd.sizeOf9
 v9:=Tryd.zeroValue9
 t20:=Tryd.underlying20
 a20:=Tryd.isAgg20
 z20:=Tryd.sizeOf20
 v20:=Tryd.zeroValue20
 t37:=Tryd.underlying61
 a37:=Tryd.isAgg61
 z37:=Tryd.sizeOf61
 v37:=Tryd.zeroValue61
 t46:=Tryd.underlying98
 a46:=Tryd.isAgg98
 z46:=Tryd.sizeOf98
 v46:=Tryd.zeroValue98
 t51:=Tryd.underlying160
 a51:=Tryd.isAgg160
 z51:=Tryd.sizeOf160
 v51:=Tryd.zeroValue160
 t53:=Tryd.underlying141
 a53:=Tryd.isAgg141
 z53:=Tryd.sizeOf141
 v53:=Tryd.zeroValue141
 t171:=Tryd.underlying167
 a171:=Tryd.isAgg167
 z171:=Tryd.sizeOf167
 v171:=Tryd.zeroValue167
 t173:=Tryd.underlying170
 a173:=Tryd.isAgg170
 z173:=Tryd.sizeOf170
 v173:=Tryd.zeroValue170
 t212:=Tryd.underlying175
 a212:=Tryd.isAgg175
 z212:=Tryd.sizeOf175
 v212:=Tryd.zeroValue175
 t213:=Tryd.underlying176
 a213:=Tryd.isAgg176
 z213:=Tryd.sizeOf176
 t232:=Tryd.underlying179
 a232:=Tryd.isAgg179
 z232:=Tryd.sizeOf179
 v232:=Tryd.zeroValue179
 t233:=Tryd.underlying180
 a233:=Tryd.isAgg180
 z233:=Tryd.sizeOf180
 v233:=Tryd.zeroValue180
 g17:=by kernel_rfl
 g18:=by kernel_rfl
 g19:=by kernel_rfl
 i0:=by kernel_rfl
 i2:=by kernel_rfl
 i3:=by kernel_rfl
 i4:=by kernel_rfl
 i5:=by kernel_rfl
 i9:=by kernel_rfl
 i20:=by kernel_rfl
 i37:=by kernel_rfl
 i46:=by kernel_rfl
 i51:=by kernel_rfl
 i53:=by kernel_rfl
 i171:=by kernel_rfl
 i173:=by kernel_rfl
 i212:=by kernel_rfl
 i232:=by kernel_rfl
 i233:=by kernel_rfl
 m17:=by kernel_rfl
 m18:=by kernel_rfl
 m19:=by kernel_rfl }
open Go.RowKit Go.Sort Go.Lib in
theorem Tryd.strconv_Itoa(n:Int)(h0: -9223372036854775808≤n)(h1:n≤9223372036854775807)(w:World)(htab:Lib.TabIs Tryd.prog w "internal/strconv.uint64pow10" .u64 Lib.pow10Tab):
 Calls Tryd.prog 102 #[.int .i64 n] w fun e w'=>e= .returned (.string ⟨(Lib.itoa n).toArray⟩)∧∃k os,w'=grow (w.drewN k) os:=Any.strconv_Itoa Tryd.laysM171 n h0 h1 w htab
end Go.Proofs
