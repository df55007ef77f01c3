/-
  Contracts of the library's functions that the program calls: laid by the kit's tool at this seat's dump.
-/
import Derived.Shelf.Strings.Builder1
import Derived.Shelf.Strings.Builder2
import Derived.Shelf.Strings.BuilderF
import Derived.Shelf.Strconv.Atoi
import Derived.Shelf.Strconv.Itoa0
import Derived.Shelf.Strconv.Itoa1
import Derived.Shelf.LaysM
import Derived.Shelf.Strconv.Itoa2
import Derived.Shelf.Strconv.Itoa3
import Derived.Shelf.Strconv.AtoiErrFast
import Derived.Shelf.Strconv.ParseIntEmpty
import Derived.Shelf.Strconv.AtoiFail
import Derived.Shelf.Strconv.Clone
import Derived.Shelf.Strconv.SyntaxError
import Derived.Shelf.LaysC
import Derived.Shelf.Strconv.ToError
import Derived.Shelf.Strconv.Lower
import Derived.Shelf.Strconv.ParseUint10
import Derived.Shelf.Strconv.ParseUint10Empty
import Derived.Shelf.Strconv.ParseUint10Any
import Derived.Shelf.Strconv.ParseInt10
import Derived.Shelf.Strconv.AtoiLong
import Derived.Shelf.Strconv.AtoiInnerAll
import Derived.Shelf.Strconv.RangeError
import Derived.Shelf.Strconv.ToErrorRange
import Derived.Shelf.Strconv.AtoiAll
import Derived.Shelf.Strconv.ErrVarAll
import Derived.Shelf.Strings.Search1
import Derived.Shelf.Strings.Search2
import Derived.Shelf.Strings.Search3
import Derived.Shelf.Strings.Cut
import Derived.Shelf.Strings.Count
import Derived.Shelf.Strings.Shaped
import Derived.Shelf.Strings.Prefix
import Derived.Shelf.Bits.Mul64
import Derived.Shelf.Strings.Repeat
import Derived.Shelf.Unicode.DecodeSlow
import Derived.Shelf.Unicode.DecodeAny
import Derived.Shelf.Unicode.ValidAny
import Derived.Shelf.Slices.Equal
import Derived.Shelf.Slices.Empties2
import Derived.Lib.ItoaNum
import Derived.Lib.ItoaLen
import Derived.Lib.AtoiTie
import Derived.Test.YtcfpfnoldgnloaaGreatDoorBk00
import Derived.WideLaws
import Derived.Lib.SmallJoins
import Derived.ChangeSlices
import Derived.WideKeyArgs
import Derived.Lib.LaidU8T
import Derived.PinnedBridge
import Derived.Shelf.Vars
set_option linter.unusedVariables false
set_option linter.unusedSimpArgs false
namespace Go.Proofs
open Go.Shelf
def Tryz.laysM171_ren:Go.Shelf.Ren:=⟨fun|171=>35|243=>78|246=>133|283=>190|284=>191|285=>192|286=>193|129=>208|317=>207|318=>209|319=>210|320=>211|337=>225|338=>226|n=>n,fun|3=>3|9=>9|2=>2|4=>4|171=>197|0=>0|53=>194|37=>77|5=>5|173=>200|212=>211|51=>191|20=>20|213=>212|46=>163|232=>229|233=>230|n=>n,fun|17=>3|18=>6|19=>7|n=>n⟩
theorem Tryz.laysM171:Go.Proofs.LaysM.n171 Tryz.prog Tryz.laysM171_ren:= {
 mixed:=by kernel_rfl
 f129:=Tryz.func208.trans (congrArg some (by kernel_rfl))
 f171:=Tryz.func35.trans (congrArg some (by kernel_rfl))
 f243:=Tryz.func78.trans (congrArg some (by kernel_rfl))
 f246:=Tryz.func133.trans (congrArg some (by kernel_rfl))
 f283:=Tryz.func190.trans (congrArg some (by kernel_rfl))
 f284:=Tryz.func191.trans (congrArg some (by kernel_rfl))
 f285:=Tryz.func192.trans (congrArg some (by kernel_rfl))
 f286:=Tryz.func193.trans (congrArg some (by kernel_rfl))
 f317:=Tryz.func207.trans (congrArg some (by kernel_rfl))
 f318:=Tryz.func209.trans (congrArg some (by kernel_rfl))
 f319:=Tryz.func210.trans (congrArg some (by kernel_rfl))
 f320:=Tryz.func211.trans (congrArg some (by kernel_rfl))
 f337:=Tryz.func225.trans (congrArg some (by kernel_rfl))
 f338:=Tryz.func226.trans (congrArg some (by kernel_rfl))
 t0:=Tryz.underlying0
 a0:=Tryz.isAgg0
 z0:=Tryz.sizeOf0
 v0:=Tryz.zeroValue0
 t2:=Tryz.underlying2
 a2:=Tryz.isAgg2
 z2:=Tryz.sizeOf2
 v2:=Tryz.zeroValue2
 t3:=Tryz.underlying3
 a3:=Tryz.isAgg3
 z3:=Tryz.sizeOf3
 v3:=Tryz.zeroValue3
 t4:=Tryz.underlying4
 a4:=Tryz.isAgg4
 z4:=Tryz.sizeOf4
 v4:=Tryz.zeroValue4
 t5:=Tryz.underlying5
 a5:=Tryz.isAgg5
 z5:=Tryz.sizeOf5
 v5:=Tryz.zeroValue5
 t9:=Tryz.underlying9
 a9:=Tryz.isAgg9
 z9:=Tryz.sizeOf9
 v9:=Tryz.zeroValue9
 t20:=Tryz.underlying20
 a20:=Tryz.isAgg20
 z20:=Tryz.sizeOf20
 v20:=Tryz.zeroValue20
 t37:=Tryz.underlying77
 a37:=Tryz.isAgg77
 z37:=Tryz.sizeOf77
 v37:=Tryz.zeroValue77
 t46:=Tryz.underlying163
 a46:=Tryz.isAgg163
 z46:=Tryz.sizeOf163
 v46:=Tryz.zeroValue163
 t51:=Tryz.underlying191
 a51:=Tryz.isAgg191
 z51:=Tryz.sizeOf191
 v51:=Tryz.zeroValue191
 t53:=Tryz.underlying194
 a53:=Tryz.isAgg194
 z53:=Tryz.sizeOf194
 v53:=Tryz.zeroValue194
 t171:=Tryz.underlying197
 a171:=Tryz.isAgg197
 z171:=Tryz.sizeOf197
 v171:=Tryz.zeroValue197
 t173:=Tryz.underlying200
 a173:=Tryz.isAgg200
 z173:=Tryz.sizeOf200
 v173:=Tryz.zeroValue200
 t212:=Tryz.underlying211
 a212:=Tryz.isAgg211
 z212:=Tryz.sizeOf211
 v212:=Tryz.zeroValue211
 t213:=Tryz.underlying212
 a213:=Tryz.isAgg212
 z213:=Tryz.sizeOf212
 t232:=Tryz.underlying229
 a232:=Tryz.isAgg229
 z232:=Tryz.sizeOf229
 v232:=Tryz.zeroValue229
 t233:=Tryz.underlying230
 a233:=Tryz.isAgg230
 z233:=Tryz.sizeOf230
 v233:=Tryz.zeroValue230
 g17:=by kernel_rfl
 g18:=by kernel_rfl
 g19:=by kernel_rfl
 i0:=by kernel_rfl
 i2:=by kernel_rfl
 i3:=by kernel_rfl
 i4:=by kernel_rfl
 i5:=by kernel_rfl
 i9:=by kernel_rfl
 i20:=by kernel_rfl
 i37:=by kernel_rfl
 i46:=by kernel_rfl
 i51:=by kernel_rfl
 i53:=by kernel_rfl
 i171:=by kernel_rfl
 i173:=by kernel_rfl
 i212:=by kernel_rfl
 i232:=by kernel_rfl
 i233:=by kernel_rfl
 m17:=by kernel_rfl
 m18:=by kernel_rfl
 m19:=by kernel_rfl}
open Go.RowKit Go.Sort Go.Lib in
theorem Tryz.strconv_Itoa(n:Int)(h0: -9223372036854775808≤n)(h1:n≤9223372036854775807)(w:World)(htab:Lib.TabIs Tryz.prog w "internal/strconv.uint64pow10" .u64 Lib.pow10Tab):
  Calls Tryz.prog 35 #[.int .i64 n] w fun e w'=>e= .returned (.string ⟨(Lib.itoa n).toArray⟩)∧∃k os,w'=grow (w.drewN k) os:=Any.strconv_Itoa Tryz.laysM171 n h0 h1 w htab
def Tryz.laysC172_ren:Go.Shelf.Ren:=⟨fun|172=>145|244=>197|245=>198|247=>216|279=>217|280=>218|281=>219|282=>220|287=>229|316=>230|171=>35|205=>231|321=>232|322=>233|243=>78|246=>133|283=>190|284=>191|285=>192|286=>193|129=>208|317=>207|318=>209|319=>210|320=>211|337=>225|338=>226|n=>n,fun|9=>9|3=>3|75=>160|76=>161|4=>4|5=>5|167=>215|37=>77|0=>0|85=>216|2=>2|168=>218|53=>194|175=>223|46=>163|210=>227|127=>125|145=>234|143=>232|21=>21|171=>197|173=>200|212=>211|51=>191|20=>20|213=>212|232=>229|233=>230|80=>83|n=>n,fun|15=>4|16=>5|17=>3|18=>6|19=>7|n=>n⟩
theorem Tryz.laysC172:Go.Proofs.LaysC.n172 Tryz.prog Tryz.laysC172_ren:= {
 mixed:=by kernel_rfl
 f129:=Tryz.func208.trans (congrArg some (by kernel_rfl))
 f171:=Tryz.func35.trans (congrArg some (by kernel_rfl))
 f172:=Tryz.func145.trans (congrArg some (by kernel_rfl))
 f205:=Tryz.func231.trans (congrArg some (by kernel_rfl))
 f243:=Tryz.func78.trans (congrArg some (by kernel_rfl))
 f244:=Tryz.func197.trans (congrArg some (by kernel_rfl))
 f245:=Tryz.func198.trans (congrArg some (by kernel_rfl))
 f246:=Tryz.func133.trans (congrArg some (by kernel_rfl))
 f247:=Tryz.func216.trans (congrArg some (by kernel_rfl))
 f279:=Tryz.func217.trans (congrArg some (by kernel_rfl))
 f280:=Tryz.func218.trans (congrArg some (by kernel_rfl))
 f281:=Tryz.func219.trans (congrArg some (by kernel_rfl))
 f282:=Tryz.func220.trans (congrArg some (by kernel_rfl))
 f283:=Tryz.func190.trans (congrArg some (by kernel_rfl))
 f284:=Tryz.func191.trans (congrArg some (by kernel_rfl))
 f285:=Tryz.func192.trans (congrArg some (by kernel_rfl))
 f286:=Tryz.func193.trans (congrArg some (by kernel_rfl))
 f287:=Tryz.func229.trans (congrArg some (by kernel_rfl))
 f316:=Tryz.func230.trans (congrArg some (by kernel_rfl))
 f317:=Tryz.func207.trans (congrArg some (by kernel_rfl))
 f318:=Tryz.func209.trans (congrArg some (by kernel_rfl))
 f319:=Tryz.func210.trans (congrArg some (by kernel_rfl))
 f320:=Tryz.func211.trans (congrArg some (by kernel_rfl))
 f321:=Tryz.func232.trans (congrArg some (by kernel_rfl))
 f322:=Tryz.func233.trans (congrArg some (by kernel_rfl))
 f337:=Tryz.func225.trans (congrArg some (by kernel_rfl))
 f338:=Tryz.func226.trans (congrArg some (by kernel_rfl))
 t0:=Tryz.underlying0
 a0:=Tryz.isAgg0
 z0:=Tryz.sizeOf0
 v0:=Tryz.zeroValue0
 t2:=Tryz.underlying2
 a2:=Tryz.isAgg2
 z2:=Tryz.sizeOf2
 v2:=Tryz.zeroValue2
 t3:=Tryz.underlying3
 a3:=Tryz.isAgg3
 z3:=Tryz.sizeOf3
 v3:=Tryz.zeroValue3
 t4:=Tryz.underlying4
 a4:=Tryz.isAgg4
 z4:=Tryz.sizeOf4
 v4:=Tryz.zeroValue4
 t5:=Tryz.underlying5
 a5:=Tryz.isAgg5
 z5:=Tryz.sizeOf5
 v5:=Tryz.zeroValue5
 t9:=Tryz.underlying9
 a9:=Tryz.isAgg9
 z9:=Tryz.sizeOf9
 v9:=Tryz.zeroValue9
 t20:=Tryz.underlying20
 a20:=Tryz.isAgg20
 z20:=Tryz.sizeOf20
 v20:=Tryz.zeroValue20
 t21:=Tryz.underlying21
 a21:=Tryz.isAgg21
 z21:=Tryz.sizeOf21
 v21:=Tryz.zeroValue21
 t37:=Tryz.underlying77
 a37:=Tryz.isAgg77
 z37:=Tryz.sizeOf77
 v37:=Tryz.zeroValue77
 t46:=Tryz.underlying163
 a46:=Tryz.isAgg163
 z46:=Tryz.sizeOf163
 v46:=Tryz.zeroValue163
 t51:=Tryz.underlying191
 a51:=Tryz.isAgg191
 z51:=Tryz.sizeOf191
 v51:=Tryz.zeroValue191
 t53:=Tryz.underlying194
 a53:=Tryz.isAgg194
 z53:=Tryz.sizeOf194
 v53:=Tryz.zeroValue194
 t75:=Tryz.underlying160
 a75:=Tryz.isAgg160
 z75:=Tryz.sizeOf160
 v75:=Tryz.zeroValue160
 t76:=Tryz.underlying161
 a76:=Tryz.isAgg161
 z76:=Tryz.sizeOf161
 v76:=Tryz.zeroValue161
 t85:=Tryz.underlying216
 a85:=Tryz.isAgg216
 z85:=Tryz.sizeOf216
 v85:=Tryz.zeroValue216
 t127:=Tryz.underlying125
 a127:=Tryz.isAgg125
 z127:=Tryz.sizeOf125
 v127:=Tryz.zeroValue125
 t143:=Tryz.underlying232
 a143:=Tryz.isAgg232
 z143:=Tryz.sizeOf232
 v143:=Tryz.zeroValue232
 t145:=Tryz.underlying234
 a145:=Tryz.isAgg234
 z145:=Tryz.sizeOf234
 v145:=Tryz.zeroValue234
 t167:=Tryz.underlying215
 a167:=Tryz.isAgg215
 z167:=Tryz.sizeOf215
 v167:=Tryz.zeroValue215
 t168:=Tryz.underlying218
 a168:=Tryz.isAgg218
 z168:=Tryz.sizeOf218
 v168:=Tryz.zeroValue218
 t171:=Tryz.underlying197
 a171:=Tryz.isAgg197
 z171:=Tryz.sizeOf197
 v171:=Tryz.zeroValue197
 t173:=Tryz.underlying200
 a173:=Tryz.isAgg200
 z173:=Tryz.sizeOf200
 v173:=Tryz.zeroValue200
 t175:=Tryz.underlying223
 a175:=Tryz.isAgg223
 z175:=Tryz.sizeOf223
 v175:=Tryz.zeroValue223
 t210:=Tryz.underlying227
 a210:=Tryz.isAgg227
 z210:=Tryz.sizeOf227
 v210:=Tryz.zeroValue227
 t212:=Tryz.underlying211
 a212:=Tryz.isAgg211
 z212:=Tryz.sizeOf211
 v212:=Tryz.zeroValue211
 t213:=Tryz.underlying212
 a213:=Tryz.isAgg212
 z213:=Tryz.sizeOf212
 t232:=Tryz.underlying229
 a232:=Tryz.isAgg229
 z232:=Tryz.sizeOf229
 v232:=Tryz.zeroValue229
 t233:=Tryz.underlying230
 a233:=Tryz.isAgg230
 z233:=Tryz.sizeOf230
 v233:=Tryz.zeroValue230
 g15:=by kernel_rfl
 g16:=by kernel_rfl
 g17:=by kernel_rfl
 g18:=by kernel_rfl
 g19:=by kernel_rfl
 t80:=Tryz.underlying83
 a80:=Tryz.isAgg83
 z80:=Tryz.sizeOf83
 v80:=Tryz.zeroValue83
 i0:=by kernel_rfl
 i2:=by kernel_rfl
 i3:=by kernel_rfl
 i4:=by kernel_rfl
 i5:=by kernel_rfl
 i9:=by kernel_rfl
 i20:=by kernel_rfl
 i21:=by kernel_rfl
 i37:=by kernel_rfl
 i46:=by kernel_rfl
 i51:=by kernel_rfl
 i53:=by kernel_rfl
 i75:=by kernel_rfl
 i76:=by kernel_rfl
 i80:=by kernel_rfl
 i85:=by kernel_rfl
 i127:=by kernel_rfl
 i143:=by kernel_rfl
 i145:=by kernel_rfl
 i167:=by kernel_rfl
 i168:=by kernel_rfl
 i171:=by kernel_rfl
 i173:=by kernel_rfl
 i175:=by kernel_rfl
 i210:=by kernel_rfl
 i212:=by kernel_rfl
 i232:=by kernel_rfl
 i233:=by kernel_rfl
 m15:=by kernel_rfl
 m16:=by kernel_rfl
 m17:=by kernel_rfl
 m18:=by kernel_rfl
 m19:=by kernel_rfl
 c0:=by kernel_rfl
 c2:=by kernel_rfl
 c3:=by kernel_rfl
 c4:=by kernel_rfl
 c5:=by kernel_rfl
 c9:=by kernel_rfl
 c20:=by kernel_rfl
 c21:=by kernel_rfl
 c37:=by kernel_rfl
 c46:=by kernel_rfl
 c51:=by kernel_rfl
 c53:=by kernel_rfl
 c75:=by kernel_rfl
 c76:=by kernel_rfl
 c80:=by kernel_rfl
 c85:=by kernel_rfl
 c127:=by kernel_rfl
 c143:=by kernel_rfl
 c145:=by kernel_rfl
 c167:=by kernel_rfl
 c168:=by kernel_rfl
 c171:=by kernel_rfl
 c173:=by kernel_rfl
 c175:=by kernel_rfl
 c210:=by kernel_rfl
 c212:=by kernel_rfl
 c213:=by kernel_rfl
 c232:=by kernel_rfl
 c233:=by kernel_rfl}
open Go.RowKit in
theorem Tryz.strconv_Atoi_ok(s:ByteArray)(hmax:s.size≤9223372036854775806)(v:Int)(h:Lib.atoiAll s.data.toList= .ok v)(w:World):
  Calls Tryz.prog 145 #[.string s] w fun e w'=>e= .returned (.tuple #[.int .i64 v,.nilIface])∧(w'=w∨∃t,w'=Lib.bytesWorld w 5 t):=Any.strconv_Atoi_ok Tryz.laysC172 s hmax v h w
def Tryz.lays144_ren:Go.Shelf.Ren:=⟨fun|144=>142|143=>138|219=>194|217=>212|225=>213|224=>214|267=>215|266=>227|314=>228|n=>n,fun|9=>9|4=>4|3=>3|5=>5|46=>163|146=>192|51=>191|n=>n,fun|1=>0|n=>n⟩
theorem Tryz.lays144:Go.Proofs.Lays.n144 Tryz.prog Tryz.lays144_ren:= {
 mixed:=by kernel_rfl
 f143:=Tryz.func138.trans (congrArg some (by kernel_rfl))
 f144:=Tryz.func142.trans (congrArg some (by kernel_rfl))
 f217:=Tryz.func212.trans (congrArg some (by kernel_rfl))
 f219:=Tryz.func194.trans (congrArg some (by kernel_rfl))
 f224:=Tryz.func214.trans (congrArg some (by kernel_rfl))
 f225:=Tryz.func213.trans (congrArg some (by kernel_rfl))
 f266:=Tryz.func227.trans (congrArg some (by kernel_rfl))
 f267:=Tryz.func215.trans (congrArg some (by kernel_rfl))
 f314:=Tryz.func228.trans (congrArg some (by kernel_rfl))
 t3:=Tryz.underlying3
 a3:=Tryz.isAgg3
 z3:=Tryz.sizeOf3
 v3:=Tryz.zeroValue3
 t4:=Tryz.underlying4
 a4:=Tryz.isAgg4
 z4:=Tryz.sizeOf4
 v4:=Tryz.zeroValue4
 t5:=Tryz.underlying5
 a5:=Tryz.isAgg5
 z5:=Tryz.sizeOf5
 v5:=Tryz.zeroValue5
 t9:=Tryz.underlying9
 a9:=Tryz.isAgg9
 z9:=Tryz.sizeOf9
 v9:=Tryz.zeroValue9
 t46:=Tryz.underlying163
 a46:=Tryz.isAgg163
 z46:=Tryz.sizeOf163
 v46:=Tryz.zeroValue163
 t51:=Tryz.underlying191
 a51:=Tryz.isAgg191
 z51:=Tryz.sizeOf191
 v51:=Tryz.zeroValue191
 t146:=Tryz.underlying192
 a146:=Tryz.isAgg192
 z146:=Tryz.sizeOf192
 v146:=Tryz.zeroValue192
 g1:=by kernel_rfl}
open Go.RowKit Go.Lib in
theorem Tryz.strings_Contains(s sub:ByteArray)(m:Int)(w:World)(hs:s.size<4294967281)(hm:w.cell? ⟨0,0,none⟩=some (.int .i64 m)):
  Calls Tryz.prog 142 #[.string s,.string sub] w fun e w'=>e= .returned (.bool (Lib.contains s.data.toList sub.data.toList))∧w'=w:=Any.strings_Contains Tryz.lays144 s sub m w hs hm
def Tryz.lays145_ren:Go.Shelf.Ren:=⟨fun|145=>140|220=>195|219=>194|217=>212|225=>213|224=>214|267=>215|266=>227|314=>228|n=>n,fun|9=>9|4=>4|59=>172|3=>3|5=>5|46=>163|146=>192|51=>191|n=>n,fun|1=>0|n=>n⟩
theorem Tryz.lays145:Go.Proofs.Lays.n145 Tryz.prog Tryz.lays145_ren:= {
 mixed:=by kernel_rfl
 f145:=Tryz.func140.trans (congrArg some (by kernel_rfl))
 f217:=Tryz.func212.trans (congrArg some (by kernel_rfl))
 f219:=Tryz.func194.trans (congrArg some (by kernel_rfl))
 f220:=Tryz.func195.trans (congrArg some (by kernel_rfl))
 f224:=Tryz.func214.trans (congrArg some (by kernel_rfl))
 f225:=Tryz.func213.trans (congrArg some (by kernel_rfl))
 f266:=Tryz.func227.trans (congrArg some (by kernel_rfl))
 f267:=Tryz.func215.trans (congrArg some (by kernel_rfl))
 f314:=Tryz.func228.trans (congrArg some (by kernel_rfl))
 t3:=Tryz.underlying3
 a3:=Tryz.isAgg3
 z3:=Tryz.sizeOf3
 v3:=Tryz.zeroValue3
 t4:=Tryz.underlying4
 a4:=Tryz.isAgg4
 z4:=Tryz.sizeOf4
 v4:=Tryz.zeroValue4
 t5:=Tryz.underlying5
 a5:=Tryz.isAgg5
 z5:=Tryz.sizeOf5
 v5:=Tryz.zeroValue5
 t9:=Tryz.underlying9
 a9:=Tryz.isAgg9
 z9:=Tryz.sizeOf9
 v9:=Tryz.zeroValue9
 t46:=Tryz.underlying163
 a46:=Tryz.isAgg163
 z46:=Tryz.sizeOf163
 v46:=Tryz.zeroValue163
 t51:=Tryz.underlying191
 a51:=Tryz.isAgg191
 z51:=Tryz.sizeOf191
 v51:=Tryz.zeroValue191
 t59:=Tryz.underlying172
 a59:=Tryz.isAgg172
 z59:=Tryz.sizeOf172
 v59:=Tryz.zeroValue172
 t146:=Tryz.underlying192
 a146:=Tryz.isAgg192
 z146:=Tryz.sizeOf192
 v146:=Tryz.zeroValue192
 g1:=by kernel_rfl}
open Go.RowKit Go.Lib in
theorem Tryz.strings_Cut(s sep:ByteArray)(m:Int)(w:World)(hs:s.size<4294967281)(hm:w.cell? ⟨0,0,none⟩=some (.int .i64 m)):
  Calls Tryz.prog 140 #[.string s,.string sep] w fun e w'=>e= .returned (.tuple #[.string ⟨(Lib.cut s.data.toList sep.data.toList).1.toArray⟩,.string ⟨(Lib.cut s.data.toList sep.data.toList).2.1.toArray⟩,.bool (Lib.cut s.data.toList sep.data.toList).2.2])∧∃n,w'=w.drewN n:=Any.strings_Cut Tryz.lays145 s sep m w hs hm
def Tryz.lays138_ren:Go.Shelf.Ren:=⟨fun|138=>86|195=>136|218=>137|143=>138|219=>194|217=>212|225=>213|224=>214|267=>215|266=>227|314=>228|n=>n,fun|9=>9|3=>3|4=>4|5=>5|0=>0|46=>163|146=>192|51=>191|n=>n,fun|1=>0|n=>n⟩
theorem Tryz.lays138:Go.Proofs.Lays.n138 Tryz.prog Tryz.lays138_ren:= {
 mixed:=by kernel_rfl
 f138:=Tryz.func86.trans (congrArg some (by kernel_rfl))
 f143:=Tryz.func138.trans (congrArg some (by kernel_rfl))
 f195:=Tryz.func136.trans (congrArg some (by kernel_rfl))
 f217:=Tryz.func212.trans (congrArg some (by kernel_rfl))
 f218:=Tryz.func137.trans (congrArg some (by kernel_rfl))
 f219:=Tryz.func194.trans (congrArg some (by kernel_rfl))
 f224:=Tryz.func214.trans (congrArg some (by kernel_rfl))
 f225:=Tryz.func213.trans (congrArg some (by kernel_rfl))
 f266:=Tryz.func227.trans (congrArg some (by kernel_rfl))
 f267:=Tryz.func215.trans (congrArg some (by kernel_rfl))
 f314:=Tryz.func228.trans (congrArg some (by kernel_rfl))
 t0:=Tryz.underlying0
 a0:=Tryz.isAgg0
 z0:=Tryz.sizeOf0
 v0:=Tryz.zeroValue0
 t3:=Tryz.underlying3
 a3:=Tryz.isAgg3
 z3:=Tryz.sizeOf3
 v3:=Tryz.zeroValue3
 t4:=Tryz.underlying4
 a4:=Tryz.isAgg4
 z4:=Tryz.sizeOf4
 v4:=Tryz.zeroValue4
 t5:=Tryz.underlying5
 a5:=Tryz.isAgg5
 z5:=Tryz.sizeOf5
 v5:=Tryz.zeroValue5
 t9:=Tryz.underlying9
 a9:=Tryz.isAgg9
 z9:=Tryz.sizeOf9
 v9:=Tryz.zeroValue9
 t46:=Tryz.underlying163
 a46:=Tryz.isAgg163
 z46:=Tryz.sizeOf163
 v46:=Tryz.zeroValue163
 t51:=Tryz.underlying191
 a51:=Tryz.isAgg191
 z51:=Tryz.sizeOf191
 v51:=Tryz.zeroValue191
 t146:=Tryz.underlying192
 a146:=Tryz.isAgg192
 z146:=Tryz.sizeOf192
 v146:=Tryz.zeroValue192
 g1:=by kernel_rfl}
open Go.RowKit Go.Lib in
theorem Tryz.strings_Count_one(s:ByteArray)(c:UInt8)(w:World):
  Calls Tryz.prog 86 #[.string s,.string ⟨#[c]⟩] w fun e w'=>e= .returned (.int .i64 (Lib.countByte s.data.toList c))∧w'=w:=Any.strings_Count_one Tryz.lays138 s c w
def Tryz.lays99_ren:Go.Shelf.Ren:=⟨fun|99=>87|206=>139|n=>n,fun|9=>9|4=>4|3=>3|n=>n,fun|n=>n⟩
theorem Tryz.lays99:Go.Proofs.Lays.n99 Tryz.prog Tryz.lays99_ren:= {
 mixed:=by kernel_rfl
 f99:=Tryz.func87.trans (congrArg some (by kernel_rfl))
 f206:=Tryz.func139.trans (congrArg some (by kernel_rfl))
 t3:=Tryz.underlying3
 a3:=Tryz.isAgg3
 z3:=Tryz.sizeOf3
 v3:=Tryz.zeroValue3
 t4:=Tryz.underlying4
 a4:=Tryz.isAgg4
 z4:=Tryz.sizeOf4
 v4:=Tryz.zeroValue4
 t9:=Tryz.underlying9
 a9:=Tryz.isAgg9
 z9:=Tryz.sizeOf9
 v9:=Tryz.zeroValue9}
open Go.RowKit Go.Lib in
theorem Tryz.strings_HasPrefix(s p:ByteArray)(w:World):
  Calls Tryz.prog 87 #[.string s,.string p] w fun e w'=>e= .returned (.bool (Lib.hasPrefix s.data.toList p.data.toList))∧w'=w:=Any.strings_HasPrefix Tryz.lays99 s p w
def Tryz.lays105_ren:Go.Shelf.Ren:=⟨fun|105=>76|212=>130|99=>87|165=>131|166=>129|170=>132|169=>33|263=>187|264=>188|206=>139|240=>186|241=>189|276=>205|277=>206|n=>n,fun|9=>9|3=>3|4=>4|20=>20|0=>0|46=>163|109=>164|5=>5|72=>79|76=>161|51=>191|146=>192|53=>194|148=>195|70=>76|37=>77|75=>160|127=>125|164=>208|80=>83|n=>n,fun|n=>n⟩
theorem Tryz.lays105:Go.Proofs.Lays.n105 Tryz.prog Tryz.lays105_ren:= {
 mixed:=by kernel_rfl
 f99:=Tryz.func87.trans (congrArg some (by kernel_rfl))
 f105:=Tryz.func76.trans (congrArg some (by kernel_rfl))
 f165:=Tryz.func131.trans (congrArg some (by kernel_rfl))
 f166:=Tryz.func129.trans (congrArg some (by kernel_rfl))
 f169:=Tryz.func33.trans (congrArg some (by kernel_rfl))
 f170:=Tryz.func132.trans (congrArg some (by kernel_rfl))
 f206:=Tryz.func139.trans (congrArg some (by kernel_rfl))
 f212:=Tryz.func130.trans (congrArg some (by kernel_rfl))
 f240:=Tryz.func186.trans (congrArg some (by kernel_rfl))
 f241:=Tryz.func189.trans (congrArg some (by kernel_rfl))
 f263:=Tryz.func187.trans (congrArg some (by kernel_rfl))
 f264:=Tryz.func188.trans (congrArg some (by kernel_rfl))
 f276:=Tryz.func205.trans (congrArg some (by kernel_rfl))
 f277:=Tryz.func206.trans (congrArg some (by kernel_rfl))
 t0:=Tryz.underlying0
 a0:=Tryz.isAgg0
 z0:=Tryz.sizeOf0
 v0:=Tryz.zeroValue0
 t3:=Tryz.underlying3
 a3:=Tryz.isAgg3
 z3:=Tryz.sizeOf3
 v3:=Tryz.zeroValue3
 t4:=Tryz.underlying4
 a4:=Tryz.isAgg4
 z4:=Tryz.sizeOf4
 v4:=Tryz.zeroValue4
 t5:=Tryz.underlying5
 a5:=Tryz.isAgg5
 z5:=Tryz.sizeOf5
 v5:=Tryz.zeroValue5
 t9:=Tryz.underlying9
 a9:=Tryz.isAgg9
 z9:=Tryz.sizeOf9
 v9:=Tryz.zeroValue9
 t20:=Tryz.underlying20
 a20:=Tryz.isAgg20
 z20:=Tryz.sizeOf20
 v20:=Tryz.zeroValue20
 t37:=Tryz.underlying77
 a37:=Tryz.isAgg77
 z37:=Tryz.sizeOf77
 v37:=Tryz.zeroValue77
 t46:=Tryz.underlying163
 a46:=Tryz.isAgg163
 z46:=Tryz.sizeOf163
 v46:=Tryz.zeroValue163
 t51:=Tryz.underlying191
 a51:=Tryz.isAgg191
 z51:=Tryz.sizeOf191
 v51:=Tryz.zeroValue191
 t53:=Tryz.underlying194
 a53:=Tryz.isAgg194
 z53:=Tryz.sizeOf194
 v53:=Tryz.zeroValue194
 t70:=Tryz.underlying76
 a70:=Tryz.isAgg76
 z70:=Tryz.sizeOf76
 v70:=Tryz.zeroValue76
 t72:=Tryz.underlying79
 a72:=Tryz.isAgg79
 z72:=Tryz.sizeOf79
 v72:=Tryz.zeroValue79
 t75:=Tryz.underlying160
 a75:=Tryz.isAgg160
 z75:=Tryz.sizeOf160
 v75:=Tryz.zeroValue160
 t76:=Tryz.underlying161
 a76:=Tryz.isAgg161
 z76:=Tryz.sizeOf161
 v76:=Tryz.zeroValue161
 t109:=Tryz.underlying164
 a109:=Tryz.isAgg164
 z109:=Tryz.sizeOf164
 v109:=Tryz.zeroValue164
 t127:=Tryz.underlying125
 a127:=Tryz.isAgg125
 z127:=Tryz.sizeOf125
 v127:=Tryz.zeroValue125
 t146:=Tryz.underlying192
 a146:=Tryz.isAgg192
 z146:=Tryz.sizeOf192
 v146:=Tryz.zeroValue192
 t148:=Tryz.underlying195
 a148:=Tryz.isAgg195
 z148:=Tryz.sizeOf195
 v148:=Tryz.zeroValue195
 t164:=Tryz.underlying208
 a164:=Tryz.isAgg208
 z164:=Tryz.sizeOf208
 v164:=Tryz.zeroValue208}
theorem Tryz.Builder_Extra_105:Builder.Extra Tryz.prog Tryz.lays105_ren:= {
 sizeBuilder:=by kernel_rfl
 mU:=by kernel_rfl
 t5:=Tryz.underlying5
 a5:=Tryz.isAgg5
 z5:=Tryz.sizeOf5
 v5:=Tryz.zeroValue5
 rS:=by kernel_rfl
 pA:=by kernel_rfl
 sizeByte:=by kernel_rfl
 neB5:=by decide}
open Go.RowKit Go.Lib in
theorem Tryz.strings_Repeat(s:ByteArray)(c:Nat)(w:World)(hc:c≤9223372036854775807)(hlen:s.size*c≤140737488355328):
  Calls Tryz.prog 76 #[.string s,.int .i64 c] w fun e w'=>e= .returned (.string ⟨(Lib.repeatL s.data.toList c).toArray⟩)∧Below w.heap.size w w':=Any.strings_Repeat Tryz.lays105 Tryz.Builder_Extra_105 s c w hc hlen
def Tryz.lays197_ren:Go.Shelf.Ren:=⟨fun|197=>146|260=>199|n=>n,fun|9=>9|21=>21|3=>3|4=>4|5=>5|105=>174|119=>203|0=>0|46=>163|139=>206|138=>205|n=>n,fun|3=>1|4=>2|n=>n⟩
theorem Tryz.lays197:Go.Proofs.Lays.n197 Tryz.prog Tryz.lays197_ren:= {
 mixed:=by kernel_rfl
 f197:=Tryz.func146.trans (congrArg some (by kernel_rfl))
 f260:=Tryz.func199.trans (congrArg some (by kernel_rfl))
 t0:=Tryz.underlying0
 a0:=Tryz.isAgg0
 z0:=Tryz.sizeOf0
 v0:=Tryz.zeroValue0
 t3:=Tryz.underlying3
 a3:=Tryz.isAgg3
 z3:=Tryz.sizeOf3
 v3:=Tryz.zeroValue3
 t4:=Tryz.underlying4
 a4:=Tryz.isAgg4
 z4:=Tryz.sizeOf4
 v4:=Tryz.zeroValue4
 t5:=Tryz.underlying5
 a5:=Tryz.isAgg5
 z5:=Tryz.sizeOf5
 v5:=Tryz.zeroValue5
 t9:=Tryz.underlying9
 a9:=Tryz.isAgg9
 z9:=Tryz.sizeOf9
 v9:=Tryz.zeroValue9
 t21:=Tryz.underlying21
 a21:=Tryz.isAgg21
 z21:=Tryz.sizeOf21
 v21:=Tryz.zeroValue21
 t46:=Tryz.underlying163
 a46:=Tryz.isAgg163
 z46:=Tryz.sizeOf163
 v46:=Tryz.zeroValue163
 t105:=Tryz.underlying174
 a105:=Tryz.isAgg174
 z105:=Tryz.sizeOf174
 v105:=Tryz.zeroValue174
 t119:=Tryz.underlying203
 a119:=Tryz.isAgg203
 z119:=Tryz.sizeOf203
 t138:=Tryz.underlying205
 a138:=Tryz.isAgg205
 z138:=Tryz.sizeOf205
 v138:=Tryz.zeroValue205
 t139:=Tryz.underlying206
 a139:=Tryz.isAgg206
 z139:=Tryz.sizeOf206
 v139:=Tryz.zeroValue206
 g3:=by kernel_rfl
 g4:=by kernel_rfl}
open Go.RowKit Go.Lib in
theorem Tryz.utf8_DecodeRuneInString(s:ByteArray)(w:World)(hT:Lib.Utf8Tabs 1 2 w):
  Calls Tryz.prog 146 #[.string s] w fun e w'=>e= .returned (.tuple #[.int .i32 (Lib.decodeGo s).1,.int .i64 (Lib.decodeGo s).2])∧Below w.heap.size w w':=Any.utf8_DecodeRuneInString Tryz.lays197 s w hT
def Tryz.lays196_ren:Go.Shelf.Ren:=⟨fun|196=>141|259=>196|n=>n,fun|9=>9|4=>4|3=>3|5=>5|12=>12|119=>203|0=>0|46=>163|139=>206|138=>205|53=>194|n=>n,fun|3=>1|4=>2|n=>n⟩
theorem Tryz.lays196:Go.Proofs.Lays.n196 Tryz.prog Tryz.lays196_ren:= {
 mixed:=by kernel_rfl
 f196:=Tryz.func141.trans (congrArg some (by kernel_rfl))
 f259:=Tryz.func196.trans (congrArg some (by kernel_rfl))
 t0:=Tryz.underlying0
 a0:=Tryz.isAgg0
 z0:=Tryz.sizeOf0
 v0:=Tryz.zeroValue0
 t3:=Tryz.underlying3
 a3:=Tryz.isAgg3
 z3:=Tryz.sizeOf3
 v3:=Tryz.zeroValue3
 t4:=Tryz.underlying4
 a4:=Tryz.isAgg4
 z4:=Tryz.sizeOf4
 v4:=Tryz.zeroValue4
 t5:=Tryz.underlying5
 a5:=Tryz.isAgg5
 z5:=Tryz.sizeOf5
 v5:=Tryz.zeroValue5
 t9:=Tryz.underlying9
 a9:=Tryz.isAgg9
 z9:=Tryz.sizeOf9
 v9:=Tryz.zeroValue9
 t12:=Tryz.underlying12
 a12:=Tryz.isAgg12
 z12:=Tryz.sizeOf12
 v12:=Tryz.zeroValue12
 t46:=Tryz.underlying163
 a46:=Tryz.isAgg163
 z46:=Tryz.sizeOf163
 v46:=Tryz.zeroValue163
 t53:=Tryz.underlying194
 a53:=Tryz.isAgg194
 z53:=Tryz.sizeOf194
 v53:=Tryz.zeroValue194
 t119:=Tryz.underlying203
 a119:=Tryz.isAgg203
 z119:=Tryz.sizeOf203
 t138:=Tryz.underlying205
 a138:=Tryz.isAgg205
 z138:=Tryz.sizeOf205
 v138:=Tryz.zeroValue205
 t139:=Tryz.underlying206
 a139:=Tryz.isAgg206
 z139:=Tryz.sizeOf206
 v139:=Tryz.zeroValue206
 g3:=by kernel_rfl
 g4:=by kernel_rfl}
open Go.RowKit Go.Lib in
theorem Tryz.utf8_ValidString(s:ByteArray)(w:World)(hs:s.size≤9223372036854775807)(hT:Lib.Utf8Tabs 1 2 w):
  Calls Tryz.prog 141 #[.string s] w fun e w'=>e= .returned (.bool (Lib.validD s.data.toList))∧Below w.heap.size w w':=Any.utf8_ValidString Tryz.lays196 s w hs hT
end Go.Proofs
namespace Go.Proofs.YtcfpfnoldgnloaaGreatDoor
open Go.RowKit
set_option maxHeartbeats 20000000
set_option maxRecDepth 100000
open Go.Lib renaming hid→Za,decDigits→Zb,parseUint10→Ze
open Go.Proofs.Tryz renaming prog→Zc
open Below renaming refl→Zd
open List renaming length_append→Zf,length_cons→Zh
open Nat renaming le_refl→Zg
theorem gq(u:Nat):∀c,c∈Zb u→cF c=true:=by
 induction u using Nat.strongRecOn with
 |_ u ih=>
  intro c hc;have dig:∀d,d<10→cF (UInt8.ofNat (48+d))=true:=by decide
  rw[Zb]at hc
  by_cases h:u<10
  ·rw[dif_pos h]at hc
   rw[List.mem_singleton.1 hc];exact dig u h
  ·rw[dif_neg h]at hc
   rcases List.mem_append.1 hc with hc|hc
   ·exact ih (u / 10) (by omega) c hc
   ·rw[List.mem_singleton.1 hc];exact dig _ (by omega)
theorem mB(u:Nat):Zb u≠[]:=by
 rw[Zb];split
 ·exact List.cons_ne_nil _ _
 ·simp
theorem oT(b:UInt8)(d:Nat)(hb:b.toNat=48+d)(hd:d<10):∀(l:List UInt8) (acc n:Nat),Ze acc l= .ok n→n*10+d<18446744073709551616→Ze acc (l++[b])= .ok (n*10+d)
 |[],acc,n,h,hn=>by
  simp only[Ze]at h
  cases h
  show Ze acc [b]=_
  simp only[Ze];rw[if_pos (by omega),if_neg (by omega),if_neg (by omega)];congr 2;omega
 |c::l,acc,n,h,hn=>by
  simp only[Ze,List.cons_append]at h ⊢;split at h
  ·rename_i h1
   rw[if_pos h1];split at h
   ·cases h
   ·rename_i h2
    rw[if_neg h2];split at h
    ·cases h
    ·rename_i h3
     rw[if_neg h3];exact oT b d hb hd l _ n h hn
  ·cases h
theorem sk(u:Nat)(hu:u<18446744073709551616):Ze 0 (Zb u)= .ok u:=by
 induction u using Nat.strongRecOn with
 |_ u ih=>
  have hb:∀d,d<10→(UInt8.ofNat (48+d)).toNat=48+d:=fun d hd=>by rw[UInt8.toNat_ofNat'];exact Nat.mod_eq_of_lt (by omega)
  rw[Zb]
  by_cases h:u<10
  ·rw[dif_pos h]
   have:=oT (UInt8.ofNat (48+u)) u (hb u h) h [] 0 0 rfl (by omega);simpa using this
  ·rw[dif_neg h]
   have:=oT (UInt8.ofNat (48+u % 10)) (u % 10) (hb _ (by omega)) (by omega) _ 0 _ (ih (u / 10) (by omega) (by omega)) (by omega);rw[this];congr 1;omega
theorem yj(u:Nat)(hn:Zb u≠[])(hm:∀c,c∈Zb u→48≤c.toNat∧c.toNat≤57)(hu:u≤9223372036854775807):Lib.atoiAll (Zb u)= .ok (u:Int):=by
 have hp:=sk u (by omega);generalize Zb u=l at*
 cases l with
 |nil=>exact absurd rfl hn
 |cons c r=>
  have hc:=hm c List.mem_cons_self;show(match Lib.parseMag (if c.toNat=43∨c.toNat=45 then r else c::r)with| .syntax=>_| .range=>_| .ok u=>_)=_
  rw[if_neg (by omega)];unfold Lib.parseMag;rw[if_neg (by simp),hp];dsimp only;rw[if_neg (by omega),if_neg (by omega),if_neg (by omega)]
def rU(w:World):Prop:=Lib.TabIs Zc w "internal/strconv.uint64pow10" .u64 Lib.pow10Tab
theorem rU.keep {w w':World}(h:rU w)(hb:w'.heap[3]? =w.heap[3]?):rU w':=by
 have hg:Tryz.prog.globalNamed "internal/strconv.uint64pow10" =some 3:=by kernel_rfl
 unfold rU Lib.TabIs World.var? at*;simp only[hg,Option.bind_eq_bind,Option.bind_some]at*;rw[hb];exact h
theorem vp(n:Int)(h0: -9223372036854775808≤n)(h1:n≤9223372036854775807)(w:World)(ht:rU w):
  Calls Zc 35 #[.int .i64 n] w fun e w'=>e= .returned (.string (aB (Lib.itoa n)))∧Below w.heap.size w w':=by
 refine(Tryz.strconv_Itoa n h0 h1 w ht).mono ?_;rintro e w' ⟨rfl,k,os,rfl⟩;exact⟨rfl,rfl,rfl,rfl,by simp,fun i hi=>by simp [Sort.grow,World.drewN,Array.getElem?_append_left hi]⟩
theorem mc(u:Nat)(b:Bs)(hu:(Zb u).length≤19)(hi:u≤9223372036854775807)(hb:eu da b)(w:World)(hg:3<w.heap.size)(ht:rU w):
  Calls Zc 92 #[.string (aB (Zb u++b))] w fun e w'=>e= .returned (.tuple #[eQ 3 (Zb u) u 0,.bool true])∧Below w.heap.size w w':=by
 have hA:=yj u (mB u) (fun c hc=>by have:=gq u c hc;simp [cF,UInt8.le_iff_toNat_le]at this;omega) hi;have hI:Lib.itoa (u:Int)=Zb u:=by unfold Lib.itoa;rw[if_neg (by omega)];simp
 have ha:∀c,c∈Zb u→c.toNat<128∧da (c.toNat:Nat)=true:=fun c hc=>by
  have:=gq u c hc;refine⟨?_,by rw[gj];exact this⟩;simp [cF,UInt8.le_iff_toNat_le]at this;omega
 have HR:=Za (fun w1=>vO (Zb u) b ha hb w1);have HA:=Za hA;have HI:=Za hI;have HT:=Za ht;have HU:=Za hu;generalize Zb u=a at*;have hl1:(a.length:Int)≤((a++b).length:Int):=by rw[Zf];omega
 have hl2:a.length≤(a++b).length:=by rw[Zf];omega
 have HO:=Za (aG.new w [.int .i64 0,.string ⟨#[]⟩,.int .i64 0,.int .i64 0] 50);have HB0:=Za ((Zd w.heap.size w).alloc (Zg _) (.cells #[.int .i64 0,.string ⟨#[]⟩,.int .i64 0,.int .i64 0] 50));clear ha hb hA hI ht hu;go_enter Tryz.func92,Tryz.ntmps92
 go_wp2_with fail
 refine(HR.out _).mono ?_;rintro e w1 ⟨rfl,hb1⟩;have HO1:=Za (HO.out.old hb1);have HB1:=Za (HB0.out.trans (hb1.mono HB0.out.size));clear hb1;go_wp2_with fail
 rw[fL];refine(Tryz.strconv_Atoi_ok (aB a) (by show a.length≤_;have:=HU.out;omega) (u:Int) HA.out w1).mono ?_;rintro e w2 ⟨rfl,hw2⟩;have hb2:Below w1.heap.size w1 w2:=by
  rcases hw2 with rfl|⟨t,rfl⟩
  ·exact Zd _ _
  ·exact Joins.below_bytesWorld _ w1 5 t (Zg _)
 have HO2:=Za (HO1.out.old hb2);have HB2:=Za (HB1.out.trans (hb2.mono HB1.out.size));clear hb2 hw2;go_wp2_with fail
 have ht2:rU w2:=HT.out.keep (HB2.out.block _ hg);refine(vp (u:Int) (by omega) (by omega) w2 ht2).mono ?_;rw[HI.out];rintro e w3 ⟨rfl,hb3⟩;have HO3:=Za (HO2.out.old hb3);have HB3:=Za (HB2.out.trans (hb3.mono HB2.out.size));clear hb3 ht2;have q0:=HO3.out.at 0 _ rfl;have f0:=HO3.out.fz 0;have q1:=HO3.out.at 1 _ rfl;have f1:=HO3.out.fz 1;have q2:=HO3.out.at 2 _ rfl;have f2:=HO3.out.fz 2;have q3:=HO3.out.at 3 _ rfl;have f3:=HO3.out.fz 3;have ql:=HO3.out.lt;go_wp2_with fail
 have HS:=Za ((((HO3.out.set 0 (.int .i64 3)).set 1 (.string (aB a))).set 2 (.int .i64 u)).set 3 (.int .i64 0));have e0:=HS.out.at 0 _ rfl;have e1:=HS.out.at 1 _ rfl;have e2:=HS.out.at 2 _ rfl;have e3:=HS.out.at 3 _ rfl;exact bodyPost_ret (v:= .tuple #[eQ 3 a u 0,.bool true]) (by simp [results,Tryz.results92,go_sem,eQ,e0,e1,e2,e3]) rfl ⟨rfl,r7 w _ HB3.out _ _ _ _⟩
def sJ:List Bs:=[[61,61],[33,61],[60,61],[62,61],[60,60],[62,62],[40],[41],[123],[125],[91],[93],[44],[59],[61],[124],[94],[38],[43],[45],[42],[47],[37],[33],[126],[60],[62]]
def g9(l:Bs):Bool:=sJ.contains l
theorem ej {t:Bs}(h:g9 t=true):t=[61,61]∨t=[33,61]∨t=[60,61]∨t=[62,61]∨t=[60,60]∨t=[62,62]∨t=[40]∨t=[41]∨t=[123]∨t=[125]∨t=[91]∨t=[93]∨t=[44]∨t=[59]∨t=[61]∨t=[124]∨t=[94]∨t=[38]∨t=[43]∨t=[45]∨t=[42]∨t=[47]∨t=[37]∨t=[33]∨t=[126]∨t=[60]∨t=[62]:=by
 simpa [g9,sJ]using h
theorem lZ(a b:Bs)(ha:g9 a=true)(h1:a.length=1→∃c r,b=c::r∧(c==61)=false∧(c==60)=false∧(c==62)=false)(w:World):
  Calls Zc 94 #[.string (aB (a++b))] w fun e w'=>e= .returned (.tuple #[eQ 4 a 0 0,.bool true])∧Below w.heap.size w w':=by
 have hlen:a.length=1∨a.length=2:=by
  rcases ej ha with rfl|rfl|rfl|rfl|rfl|rfl|rfl|rfl|rfl|rfl|rfl|rfl|rfl|rfl|rfl|rfl|rfl|rfl|rfl|rfl|rfl|rfl|rfl|rfl|rfl|rfl|rfl<;>simp
 rcases hlen with hl|hl
 ·obtain⟨c,r,rfl,c1,c2,c3⟩:=h1 hl
  have hx2:(aB (a++c::r)).extract 0 2=aB (a++[c]):=by
   have:=fL (a++[c]) r;rw[Zf,hl]at this;simpa using this
  have hx1:(aB (a++c::r)).extract 0 1=aB a:=by
   have:=fL a (c::r)
   rwa[hl]at this
  have hz:2≤(a++c::r).length:=by rw[Zf,hl,Zh];omega
  have hz1:1≤(a++c::r).length:=by omega
  have hzI:(2:Int)≤((a++c::r).length:Int):=by omega
  have hm:min (2:Int) ((a++c::r).length:Int)=2:=by omega
  generalize a++c::r=l at*;rcases ej ha with rfl|rfl|rfl|rfl|rfl|rfl|rfl|rfl|rfl|rfl|rfl|rfl|rfl|rfl|rfl|rfl|rfl|rfl|rfl|rfl|rfl|rfl|rfl|rfl|rfl|rfl|rfl
  iterate 6 (simp at hl)
  all_goals
   clear h1 ha hl;go_enter Tryz.func94,Tryz.ntmps94
   go_wp2_with fail
   refine wp_loop_rounds 2 ?_;rw[rounds_succ];go_wp2_with fail
   rw[rounds_succ];go_wp2_with fail
   exact bodyPost_ret (v:= .tuple #[eQ 4 _ 0 0,.bool true]) (by simp [results,Tryz.results94,go_sem,eQ]) rfl ⟨rfl,bA⟩
 ·have hx2:(aB (a++b)).extract 0 2=aB a:=by
   have:=fL a b
   rwa[hl]at this
  have hz:2≤(a++b).length:=by rw[Zf,hl];omega
  have hzI:(2:Int)≤((a++b).length:Int):=by omega
  have hm:min (2:Int) ((a++b).length:Int)=2:=by omega
  generalize a++b=l at*;rcases ej ha with rfl|rfl|rfl|rfl|rfl|rfl|rfl|rfl|rfl|rfl|rfl|rfl|rfl|rfl|rfl|rfl|rfl|rfl|rfl|rfl|rfl|rfl|rfl|rfl|rfl|rfl|rfl
  iterate 6
   ·clear h1 ha hl
    go_enter Tryz.func94,Tryz.ntmps94
    go_wp2_with fail
    refine wp_loop_rounds 1 ?_;rw[rounds_succ];go_wp2_with fail
    exact bodyPost_ret (v:= .tuple #[eQ 4 _ 0 0,.bool true]) (by simp [results,Tryz.results94,go_sem,eQ]) rfl ⟨rfl,bA⟩
  all_goals simp at hl
theorem iw(c:UInt8)(s:Bs)(hc:bi c=true)(h7:c.toNat<128)(v1:Int)(v2:Bs)(v3:Int)(w:World)(hT:∀w1,Below w.heap.size w w1→Calls Zc 90 #[.string (aB (c::s))] w1 fun e w'=>e= .returned (.tuple #[eQ v1 v2 v3 0,.bool true])∧Below w1.heap.size w1 w'):
  Calls Zc 41 #[.string (aB (c::s))] w fun e w'=>e= .returned (.tuple #[eQ v1 v2 v3 0,.bool true])∧Below w.heap.size w w':=by
 have HT:=Za hT;have h0:0<(aB (c::s)).size:=by show 0<(c::s).length;simp
 have hz:(0:Int)<((c::s).length:Int):=by rw[Zh];omega
 have hzN:0<(c::s).length:=by simp
 have hwr:wrap32 (((aB (c::s))[0]'h0).toNat:Int)=(c.toNat:Int):=by
  show wrap32 (c.toNat:Int)=_
  unfold wrap32;omega
 have HWR:=Za hwr;have HO:=Za (aG.new w [.int .i64 0,.string ⟨#[]⟩,.int .i64 0,.int .i64 0] 50);have HB0:=Za ((Zd w.heap.size w).alloc (Zg _) (.cells #[.int .i64 0,.string ⟨#[]⟩,.int .i64 0,.int .i64 0] 50));have HL:=Za (show de (c.toNat:Nat)=true by rw[gG];exact hc);clear hc;clear hT hwr;go_enter Tryz.func41,Tryz.ntmps41
 go_wp2_with fail
 rw[HWR.out];refine(dk _ _).mono ?_;rw[HL.out];rintro e w1 ⟨rfl,rfl⟩;go_wp2_with fail
 refine(HT.out _ HB0.out).mono ?_;rintro e w3 ⟨rfl,hb3⟩;unfold eQ;have HO3:=Za (HO.out.old hb3);have HB3:=Za (HB0.out.trans (hb3.mono HB0.out.size));clear hb3;have q0:=HO3.out.at 0 _ rfl;have f0:=HO3.out.fz 0;have q1:=HO3.out.at 1 _ rfl;have f1:=HO3.out.fz 1;have q2:=HO3.out.at 2 _ rfl;have f2:=HO3.out.fz 2;have q3:=HO3.out.at 3 _ rfl;have f3:=HO3.out.fz 3;have ql:=HO3.out.lt;go_wp2_with fail
 have HS:=Za ((((HO3.out.set 0 (.int .i64 v1)).set 1 (.string (aB v2))).set 2 (.int .i64 v3)).set 3 (.int .i64 0));have e0:=HS.out.at 0 _ rfl;have e1:=HS.out.at 1 _ rfl;have e2:=HS.out.at 2 _ rfl;have e3:=HS.out.at 3 _ rfl;exact bodyPost_ret (v:= .tuple #[.agg #[.int .i64 v1,.string (aB v2),.int .i64 v3,.int .i64 0],.bool true]) (by simp [results,Tryz.results41,go_sem,e0,e1,e2,e3]) rfl ⟨rfl,r7 w _ HB3.out _ _ _ _⟩
theorem lN(c:UInt8)(s:Bs)(hc:cF c=true)(h7:c.toNat<128)(v1:Int)(v2:Bs)(v3:Int)(w:World)(hT:∀w1,Below w.heap.size w w1→Calls Zc 92 #[.string (aB (c::s))] w1 fun e w'=>e= .returned (.tuple #[eQ v1 v2 v3 0,.bool true])∧Below w1.heap.size w1 w'):
  Calls Zc 41 #[.string (aB (c::s))] w fun e w'=>e= .returned (.tuple #[eQ v1 v2 v3 0,.bool true])∧Below w.heap.size w w':=by
 have HT:=Za hT;have h0:0<(aB (c::s)).size:=by show 0<(c::s).length;simp
 have hz:(0:Int)<((c::s).length:Int):=by rw[Zh];omega
 have hzN:0<(c::s).length:=by simp
 have hwr:wrap32 (((aB (c::s))[0]'h0).toNat:Int)=(c.toNat:Int):=by
  show wrap32 (c.toNat:Int)=_
  unfold wrap32;omega
 have HWR:=Za hwr;have HO:=Za (aG.new w [.int .i64 0,.string ⟨#[]⟩,.int .i64 0,.int .i64 0] 50);have HB0:=Za ((Zd w.heap.size w).alloc (Zg _) (.cells #[.int .i64 0,.string ⟨#[]⟩,.int .i64 0,.int .i64 0] 50));have HL:=Za (show de (c.toNat:Nat)=false by rw[gG];simp [bi,cF,UInt8.le_iff_toNat_le,←UInt8.toNat_inj]at hc ⊢;omega);have HD:=Za (show da (c.toNat:Nat)=true by rw[gj];exact hc);clear hc;clear hT hwr;go_enter Tryz.func41,Tryz.ntmps41
 go_wp2_with fail
 rw[HWR.out];refine(dk _ _).mono ?_;rw[HL.out];rintro e w1 ⟨rfl,rfl⟩;go_wp2_with fail
 refine(fW _ _).mono ?_;rw[HD.out];rintro e w1 ⟨rfl,rfl⟩;go_wp2_with fail
 refine(HT.out _ HB0.out).mono ?_;rintro e w3 ⟨rfl,hb3⟩;unfold eQ;have HO3:=Za (HO.out.old hb3);have HB3:=Za (HB0.out.trans (hb3.mono HB0.out.size));clear hb3;have q0:=HO3.out.at 0 _ rfl;have f0:=HO3.out.fz 0;have q1:=HO3.out.at 1 _ rfl;have f1:=HO3.out.fz 1;have q2:=HO3.out.at 2 _ rfl;have f2:=HO3.out.fz 2;have q3:=HO3.out.at 3 _ rfl;have f3:=HO3.out.fz 3;have ql:=HO3.out.lt;go_wp2_with fail
 have HS:=Za ((((HO3.out.set 0 (.int .i64 v1)).set 1 (.string (aB v2))).set 2 (.int .i64 v3)).set 3 (.int .i64 0));have e0:=HS.out.at 0 _ rfl;have e1:=HS.out.at 1 _ rfl;have e2:=HS.out.at 2 _ rfl;have e3:=HS.out.at 3 _ rfl;exact bodyPost_ret (v:= .tuple #[.agg #[.int .i64 v1,.string (aB v2),.int .i64 v3,.int .i64 0],.bool true]) (by simp [results,Tryz.results41,go_sem,e0,e1,e2,e3]) rfl ⟨rfl,r7 w _ HB3.out _ _ _ _⟩
theorem rF(c:UInt8)(s:Bs)(hc:c=39)(h7:c.toNat<128)(v1:Int)(v2:Bs)(v3:Int)(w:World)(hT:∀w1,Below w.heap.size w w1→Calls Zc 93 #[.string (aB (c::s))] w1 fun e w'=>e= .returned (.tuple #[eQ v1 v2 v3 0,.bool true])∧Below w1.heap.size w1 w'):
  Calls Zc 41 #[.string (aB (c::s))] w fun e w'=>e= .returned (.tuple #[eQ v1 v2 v3 0,.bool true])∧Below w.heap.size w w':=by
 have HT:=Za hT;have h0:0<(aB (c::s)).size:=by show 0<(c::s).length;simp
 have hz:(0:Int)<((c::s).length:Int):=by rw[Zh];omega
 have hzN:0<(c::s).length:=by simp
 have hwr:wrap32 (((aB (c::s))[0]'h0).toNat:Int)=(c.toNat:Int):=by
  show wrap32 (c.toNat:Int)=_
  unfold wrap32;omega
 have HWR:=Za hwr;have HO:=Za (aG.new w [.int .i64 0,.string ⟨#[]⟩,.int .i64 0,.int .i64 0] 50);have HB0:=Za ((Zd w.heap.size w).alloc (Zg _) (.cells #[.int .i64 0,.string ⟨#[]⟩,.int .i64 0,.int .i64 0] 50));have HL:=Za (show de (c.toNat:Nat)=false by rw[hc];rfl);have HD:=Za (show da (c.toNat:Nat)=false by rw[hc];rfl);have hq:((c.toNat:Int)==39)=true:=by rw[hc];rfl
 clear hc;clear hT hwr;go_enter Tryz.func41,Tryz.ntmps41
 go_wp2_with fail
 rw[HWR.out];refine(dk _ _).mono ?_;rw[HL.out];rintro e w1 ⟨rfl,rfl⟩;go_wp2_with fail
 refine(fW _ _).mono ?_;rw[HD.out];rintro e w1 ⟨rfl,rfl⟩;go_wp2_with fail
 refine(HT.out _ HB0.out).mono ?_;rintro e w3 ⟨rfl,hb3⟩;unfold eQ;have HO3:=Za (HO.out.old hb3);have HB3:=Za (HB0.out.trans (hb3.mono HB0.out.size));clear hb3;have q0:=HO3.out.at 0 _ rfl;have f0:=HO3.out.fz 0;have q1:=HO3.out.at 1 _ rfl;have f1:=HO3.out.fz 1;have q2:=HO3.out.at 2 _ rfl;have f2:=HO3.out.fz 2;have q3:=HO3.out.at 3 _ rfl;have f3:=HO3.out.fz 3;have ql:=HO3.out.lt;go_wp2_with fail
 have HS:=Za ((((HO3.out.set 0 (.int .i64 v1)).set 1 (.string (aB v2))).set 2 (.int .i64 v3)).set 3 (.int .i64 0));have e0:=HS.out.at 0 _ rfl;have e1:=HS.out.at 1 _ rfl;have e2:=HS.out.at 2 _ rfl;have e3:=HS.out.at 3 _ rfl;exact bodyPost_ret (v:= .tuple #[.agg #[.int .i64 v1,.string (aB v2),.int .i64 v3,.int .i64 0],.bool true]) (by simp [results,Tryz.results41,go_sem,e0,e1,e2,e3]) rfl ⟨rfl,r7 w _ HB3.out _ _ _ _⟩
theorem jE(c:UInt8)(s:Bs)(hc:bi c=false∧cF c=false∧c≠39)(h7:c.toNat<128)(v1:Int)(v2:Bs)(v3:Int)(w:World)(hT:∀w1,Below w.heap.size w w1→Calls Zc 94 #[.string (aB (c::s))] w1 fun e w'=>e= .returned (.tuple #[eQ v1 v2 v3 0,.bool true])∧Below w1.heap.size w1 w'):
  Calls Zc 41 #[.string (aB (c::s))] w fun e w'=>e= .returned (.tuple #[eQ v1 v2 v3 0,.bool true])∧Below w.heap.size w w':=by
 have HT:=Za hT;have h0:0<(aB (c::s)).size:=by show 0<(c::s).length;simp
 have hz:(0:Int)<((c::s).length:Int):=by rw[Zh];omega
 have hzN:0<(c::s).length:=by simp
 have hwr:wrap32 (((aB (c::s))[0]'h0).toNat:Int)=(c.toNat:Int):=by
  show wrap32 (c.toNat:Int)=_
  unfold wrap32;omega
 have HWR:=Za hwr;have HO:=Za (aG.new w [.int .i64 0,.string ⟨#[]⟩,.int .i64 0,.int .i64 0] 50);have HB0:=Za ((Zd w.heap.size w).alloc (Zg _) (.cells #[.int .i64 0,.string ⟨#[]⟩,.int .i64 0,.int .i64 0] 50));have HL:=Za (show de (c.toNat:Nat)=false by rw[gG];exact hc.1);have HD:=Za (show da (c.toNat:Nat)=false by rw[gj];exact hc.2.1);have hq:((c.toNat:Int)==39)=false:=by
  rw[beq_eq_false_iff_ne];intro e;exact hc.2.2 (by rw[←UInt8.toNat_inj];show c.toNat=39;omega)
 clear hc;clear hT hwr;go_enter Tryz.func41,Tryz.ntmps41
 go_wp2_with fail
 rw[HWR.out];refine(dk _ _).mono ?_;rw[HL.out];rintro e w1 ⟨rfl,rfl⟩;go_wp2_with fail
 refine(fW _ _).mono ?_;rw[HD.out];rintro e w1 ⟨rfl,rfl⟩;go_wp2_with fail
 refine(HT.out _ HB0.out).mono ?_;rintro e w3 ⟨rfl,hb3⟩;unfold eQ;have HO3:=Za (HO.out.old hb3);have HB3:=Za (HB0.out.trans (hb3.mono HB0.out.size));clear hb3;have q0:=HO3.out.at 0 _ rfl;have f0:=HO3.out.fz 0;have q1:=HO3.out.at 1 _ rfl;have f1:=HO3.out.fz 1;have q2:=HO3.out.at 2 _ rfl;have f2:=HO3.out.fz 2;have q3:=HO3.out.at 3 _ rfl;have f3:=HO3.out.fz 3;have ql:=HO3.out.lt;go_wp2_with fail
 have HS:=Za ((((HO3.out.set 0 (.int .i64 v1)).set 1 (.string (aB v2))).set 2 (.int .i64 v3)).set 3 (.int .i64 0));have e0:=HS.out.at 0 _ rfl;have e1:=HS.out.at 1 _ rfl;have e2:=HS.out.at 2 _ rfl;have e3:=HS.out.at 3 _ rfl;exact bodyPost_ret (v:= .tuple #[.agg #[.int .i64 v1,.string (aB v2),.int .i64 v3,.int .i64 0],.bool true]) (by simp [results,Tryz.results41,go_sem,e0,e1,e2,e3]) rfl ⟨rfl,r7 w _ HB3.out _ _ _ _⟩
structure fT (w:World):Prop where
 pow:rU w
 max:∃m,w.cell? ⟨0,0,none⟩=some (.int .i64 m)
 utf:Lib.Utf8Tabs 1 2 w
theorem fT.lt {w:World}(h:fT w):3<w.heap.size:=by
 have gTab:Tryz.prog.globalNamed "internal/strconv.uint64pow10" =some 3:=by kernel_rfl
 exact World.block_lt_of_cell? _ _ (Lib.TabIs.cell h.pow gTab 0 (by decide))
theorem fT.old {w w':World}(h:fT w)(hb:Below w.heap.size w w'):fT w':=
 ⟨h.pow.keep (hb.block _ h.lt),by obtain⟨m,hm⟩:=h.max;exact⟨m,aE hb hm⟩,Utf8Tabs_below h.utf hb⟩
theorem ml {B:Nat}{a w:World}(h:Below B a w)(n:Nat):Below B a (w.drewN n):=⟨h.os,h.tape,h.output,h.size,h.block⟩
theorem rM(c s:Bs)(hcut:Lib.cut (c++s) [10]=(c,s.drop 1,true))(hval:Lib.validD c=true)(hcon:Lib.contains c [239,191,189]=false)(hz:(c++s).length≤1000000)(w:World)(hl:fT w):
  Calls Zc 88 #[.string (aB (c++s))] w fun e w'=>e= .returned (.tuple #[.string (aB c),.bool true])∧Below w.heap.size w w':=by
 have HL:=Za hl;have HV:=Za hval;have HC:=Za hcon;have HZ:=Za hz;obtain⟨m,hm⟩:=hl.max;have HM:=Za hm;have hcut':Lib.cut (aB (c++s)).data.toList (aB [10]).data.toList=(c,s.drop 1,true):=by simpa [aB]using hcut
 have HK:=Za hcut';clear hcut hval hcon hl hm hz hcut';go_enter Tryz.func88,Tryz.ntmps88
 go_wp2_with fail
 refine(Tryz.strings_Cut (aB (c++s)) (aB [10]) m w (by have:=HZ.out;show(c++s).length<_;omega) HM.out).mono ?_;rw[HK.out];rintro e w1 ⟨rfl,n1,rfl⟩;have hl1:fT (w.drewN n1):=HL.out.old (ml (Zd w.heap.size w) n1);have hcz:c.length≤1000000:=by have:=HZ.out;rw[Zf]at this;omega
 go_wp2_with fail
 refine(Tryz.utf8_ValidString (aB c) (w.drewN n1) (by show c.length≤_;omega) hl1.utf).mono ?_;rintro e w2 ⟨he,hb2⟩;have he2:e= .returned (.bool true):=by rw[he];show Ending.returned (.bool (Lib.validD c))=_;rw[HV.out]
 subst he2;have hl2:=hl1.old (hb2:Below (w.drewN n1).heap.size (w.drewN n1) w2);obtain⟨m2,hm2⟩:=hl2.max;have HM2:=Za hm2;have HB2:=Za ((ml (Zd w.heap.size w) n1).trans hb2);clear he hb2 hl1 hl2 hm2;go_wp2_with fail
 refine(Tryz.strings_Contains (aB c) (aB [239,191,189]) m2 w2 (by show c.length<_;omega) HM2.out).mono ?_;rintro e w3 ⟨he,hw3⟩;have he2:e= .returned (.bool false):=by rw[he];show Ending.returned (.bool (Lib.contains c [239,191,189]))=_;rw[HC.out]
 subst he2;obtain rfl:w2=w3:=hw3.symm;clear he;go_wp2_with fail
 go_ret2
 exact⟨rfl,HB2.out⟩
end Go.Proofs.YtcfpfnoldgnloaaGreatDoor
namespace Go.Proofs.YtcfpfnoldgnloaaGreatDoor
open Go.ChangeShapes Go.WideShapes Go.ChangeAt Go.RowKit
set_option maxHeartbeats 4000000
set_option maxRecDepth 100000
theorem zgTab:Tryz.prog.globalNamed "internal/strconv.uint64pow10" =some 3:=by kernel_rfl
theorem wK:(Tryz.prog.globals[3]?).map (·.type)=some 211:=by kernel_rfl
theorem vY:Tryz.prog.cellsOf 211=20:=by kernel_rfl
theorem zcellsU:Tryz.prog.cellsOf 194=1:=by kernel_rfl
theorem zU8:U8Extra Tryz.prog Tryz.lays196_ren:=⟨by kernel_rfl,by kernel_rfl,by kernel_rfl,by kernel_rfl,by kernel_rfl,by kernel_rfl,by kernel_rfl⟩
theorem zaccept:Rows.laid_unicode_utf8_acceptRanges=Lib.acceptData:=by kernel_rfl
theorem zlib_of {W:World}(h:laidMetH Tryz.prog Rows.parseDeepRow.laid W)(hsh:W.ShapedOpen Tryz.prog):fT W:=by
 have h':laidMet Tryz.prog Rows.parseDeepRow.laid W:=h;refine⟨?_,?_,?_⟩
 ·exact Lib.tabIs_of_head (rest:=_) zgTab wK Tryz.underlying211 Tryz.underlying194 zcellsU vY (lQ (lQ h'))
 ·exact cell_of_shapedOpen_int (zero:= #[.int .i64 0]) (t:=3) hsh (of_decide_eq_true (by kernel_rfl)) (by kernel_rfl) rfl (by kernel_rfl) (by kernel_rfl) Tryz.underlying3
 ·refine utf8Tabs_of_readsT (U8Types.of196 Tryz.lays196) zU8 ?_ ?_
  ·have:=Lib.laidMet.reads h' (n:= "unicode/utf8.first") (d:=Rows.laid_unicode_utf8_first) (.tail _ (.tail _ (.tail _ (.tail _ (.tail _ (.tail _ (.head _)))))))
   rw[←Pinned.utf8First_eq];exact this
  ·have:=Lib.laidMet.reads h' (n:= "unicode/utf8.acceptRanges") (d:=Rows.laid_unicode_utf8_acceptRanges) (.tail _ (.tail _ (.tail _ (.head _))))
   rw[←zaccept];exact this
end Go.Proofs.YtcfpfnoldgnloaaGreatDoor
namespace Go.Proofs.YtcfpfnoldgnloaaGreatDoor
open Go.RowKit
set_option maxHeartbeats 20000000
set_option maxRecDepth 100000
open Nat renaming not_lt_zero→Za,le_refl→Zb
open World renaming block_lt_of_cell?→Zc
theorem iX {D:Nat→Prop}{w:World}{l:List Bs}{a:Option Addr}{n cap:Nat}(h:ag D w l (.slice a n cap))(i:Nat)(hl:i<l.length):∃b off,a=some ⟨b,off,none⟩∧D b∧b<w.heap.size∧w.cell? ⟨b,off+i,none⟩=some (.string (aB (l.getD i []))):=by
 obtain⟨a',cap',b,off,hv,h1,h2,h3,h4⟩:=h
 cases hv
 rcases h3 with h3|⟨h3,hD⟩
 ·omega
 ·exact⟨b,off,h3,hD,Zc _ _ (h4 i hl),h4 i hl⟩
theorem ag.shape {D:Nat→Prop}{w:World}{l:List Bs}{v:Value}(h:ag D w l v):∃a cap,v= .slice a l.length cap:=by
 obtain⟨a',cap',b,off,hv,_⟩:=h;exact⟨_,_,hv⟩
theorem ag.fits {D:Nat→Prop}{w:World}{l:List Bs}{v:Value}(h:ag D w l v):br l.length:=by
 obtain⟨a',cap',b,off,hv,h1,h2,_⟩:=h;exact h2
theorem bK.mono {D D':Nat→Prop}{w:World}(hD:∀b,D b→D' b){l:List Ar}{v:Value}(h:bK D w l v):bK D' w l v:=by
 obtain⟨a,cap,b,off,hv,h1,h2,h3,h4⟩:=h;exact⟨a,cap,b,off,hv,h1,h2,h3.imp id fun h=>⟨h.1,hD _ h.2⟩,h4⟩
theorem bM.mono {D D':Nat→Prop}{w:World}(hD:∀b,D b→D' b){l:List Fu}{v:Value}(h:bM D w l v):bM D' w l v:=by
 obtain⟨a,cap,b,off,pv,lv,bv,hv,h1,h2,h3,h4⟩:=h;exact⟨a,cap,b,off,pv,lv,bv,hv,h1,h2,h3.imp id fun h=>⟨h.1,hD _ h.2⟩,fun i hi=>⟨(h4 i hi).1,(h4 i hi).2.1.mono hD,(h4 i hi).2.2.1.mono hD,(h4 i hi).2.2.2.mono hD⟩⟩
theorem bK.shape {D:Nat→Prop}{w:World}{l:List Ar}{v:Value}(h:bK D w l v):∃a cap,v= .slice a l.length cap:=by
 obtain⟨a,cap,b,off,hv,_⟩:=h;exact⟨a,cap,hv⟩
theorem bM.shape {D:Nat→Prop}{w:World}{l:List Fu}{v:Value}(h:bM D w l v):∃a cap,v= .slice a l.length cap:=by
 obtain⟨a,cap,b,off,pv,lv,bv,hv,_⟩:=h;exact⟨a,cap,hv⟩
theorem bK.fits {D:Nat→Prop}{w:World}{l:List Ar}{v:Value}(h:bK D w l v):br l.length:=by
 obtain⟨a,cap,b,off,hv,h1,h2,_⟩:=h;exact h2
theorem bM.fits {D:Nat→Prop}{w:World}{l:List Fu}{v:Value}(h:bM D w l v):br l.length:=by
 obtain⟨a,cap,b,off,pv,lv,bv,hv,h1,h2,_⟩:=h;exact h2
theorem bK.cellAt {D:Nat→Prop}{w:World}{l:List Ar}{a:Option Addr}{n cap:Nat}(h:bK D w l (.slice a n cap))(i:Nat)(hl:i<l.length):∃b off,a=some ⟨b,off,none⟩∧D b∧b<w.heap.size∧
  w.cell? ⟨b,off+i*2,none⟩=some (.string (aB (gV l i).name))∧w.cell? ⟨b,off+i*2+1,none⟩=some (.int .i64 (gV l i).size):=by
 obtain⟨a',cap',b,off,hv,h1,h2,h3,h4⟩:=h
 cases hv
 rcases h3 with h3|⟨h3,hD⟩
 ·omega
 ·exact⟨b,off,h3,hD,Zc _ _ (h4 i hl).1,(h4 i hl).1,(h4 i hl).2⟩
theorem bM.cellAt {D:Nat→Prop}{w:World}{l:List Fu}{a:Option Addr}{n cap:Nat}(h:bM D w l (.slice a n cap))(i:Nat)(hl:i<l.length):∃b off p v s,a=some ⟨b,off,none⟩∧D b∧b<w.heap.size∧
  w.cell? ⟨b,off+i*4,none⟩=some (.string (aB (cZ l i).name))∧w.cell? ⟨b,off+i*4+1,none⟩=some p∧w.cell? ⟨b,off+i*4+2,none⟩=some v∧w.cell? ⟨b,off+i*4+3,none⟩=some s∧
  ag D w (cZ l i).params p∧ag D w (cZ l i).locals v∧aR D w (cZ l i).body s:=by
 obtain⟨a',cap',b,off,pv,lv,bv,hv,h1,h2,h3,h4⟩:=h
 cases hv
 rcases h3 with h3|⟨h3,hD⟩
 ·omega
 ·obtain⟨⟨c0,c1,c2,c3⟩,e1,e2,e3⟩:=h4 i hl
  exact⟨b,off,pv i,lv i,bv i,h3,hD,Zc _ _ c0,c0,c1,c2,c3,e1,e2,e3⟩
abbrev exV(e:Ex)(s:Value):Value:= .agg #[.int .i64 e.kind,.int .i64 e.op,.int .i64 e.n,.string (aB e.name),s]
theorem fV {n:Int}(h: -1000000≤n∧n≤1000000):I64 n:=⟨by omega,by omega⟩
theorem kO:(Tryz.prog.info? 27).map (fun i=>(i.zero,i.size,i.bytes))=some (some (.agg #[.int .i64 0,.int .i64 0,.int .i64 0,.string ⟨#[]⟩,.slice none 0 0]),5,64):=by kernel_rfl
theorem aJ.zero {D:Nat→Prop}{w:World}:aJ D w [] (.slice none 0 0):=
 .mk [] none 0 0 0 (fun _=>undef) (Zb _) (by show _≤_;simp) (.inl rfl) (fun i hi=>absurd hi (Za _)) (fun i hi=>absurd hi (Za _)) (fun i hi=>absurd hi (Za _)) (fun i hi=>absurd hi (Za _)) (fun i hi=>absurd hi (Za _)) (fun i hi=>absurd hi (Za _)) (fun i hi=>absurd hi (Za _))
theorem aR.zero {D:Nat→Prop}{w:World}:aR D w [] (.slice none 0 0):=
 .mk [] none 0 0 0 (fun _=>undef) (fun _=>undef) (fun _=>undef) (Zb _) (by show _≤_;simp) (.inl rfl) (fun i hi=>absurd hi (Za _)) (fun i hi=>absurd hi (Za _)) (fun i hi=>absurd hi (Za _)) (fun i hi=>absurd hi (Za _)) (fun i hi=>absurd hi (Za _)) (fun i hi=>absurd hi (Za _)) (fun i hi=>absurd hi (Za _)) (fun i hi=>absurd hi (Za _))
theorem ag.zero {D:Nat→Prop}{w:World}:ag D w [] (.slice none 0 0):=
 ⟨_,0,0,0,rfl,Zb _,by show _≤_;simp,.inl rfl,fun i hi=>absurd hi (Za _)⟩
theorem bK.zero {D:Nat→Prop}{w:World}:bK D w [] (.slice none 0 0):=
 ⟨_,0,0,0,rfl,Zb _,by show _≤_;simp,.inl rfl,fun i hi=>absurd hi (Za _)⟩
theorem bM.zero {D:Nat→Prop}{w:World}:bM D w [] (.slice none 0 0):=
 ⟨_,0,0,0,fun _=>undef,fun _=>undef,fun _=>undef,rfl,Zb _,by show _≤_;simp,.inl rfl,fun i hi=>absurd hi (Za _)⟩
def aj(e:Ex)(s:Value):List Value:=[.int .i64 e.kind,.int .i64 e.op,.int .i64 e.n,.string (aB e.name),s]
theorem cN.new(w:World)(cs:List Value)(T:TypeId):cN (w.alloc (.cells cs.toArray T)) w.heap.size 0 cs:=fun i hi=>by simp
theorem cN.at {w:World}{b:Nat}{cs:List Value}(h:cN w b 0 cs)(i:Nat)(v:Value)(hi:cs[i]? =some v):w.cell? ⟨b,i,none⟩=some v:=by
 obtain⟨hl,e⟩:=List.getElem?_eq_some_iff.1 hi;have:=h i hl;rw[e]at this;simpa using this
theorem aJ.one {D:Nat→Prop}{w:World}{b:Nat}(e:Ex)(s:Value)(hD:D b)(h:cN w b 0 (aj e s))(hs:aJ D w e.args s)(hn:I64 e.n):aJ D w [e] (.slice (some ⟨b,0,none⟩) 1 1):=by
 refine .mk [e] _ 1 b 0 (fun _=>s) (Zb _) (by show _≤_;simp) (.inr ⟨rfl,hD⟩) ?_ ?_ ?_ ?_ ?_ ?_ ?_
 all_goals
  intro i hi;have hi0:i=0:=by simp at hi;omega
  subst hi0
 ·exact h.at 0 _ rfl
 ·exact h.at 1 _ rfl
 ·exact h.at 2 _ rfl
 ·exact h.at 3 _ rfl
 ·exact h.at 4 _ rfl
 ·exact hs
 ·exact hn
theorem aJ.two {D:Nat→Prop}{w:World}{b:Nat}(e f:Ex)(s t:Value)(hD:D b)(h:cN w b 0 (aj e s++aj f t))(hs:aJ D w e.args s)(hn:I64 e.n)(ht:aJ D w f.args t)(hm:I64 f.n):aJ D w [e,f] (.slice (some ⟨b,0,none⟩) 2 2):=by
 refine .mk [e,f] _ 2 b 0 (fun i=>if i=0 then s else t) (Zb _) (by show _≤_;simp) (.inr ⟨rfl,hD⟩) ?_ ?_ ?_ ?_ ?_ ?_ ?_
 all_goals
  intro i hi;have hi0:i=0∨i=1:=by simp at hi;omega
  rcases hi0 with rfl|rfl
 ·exact h.at 0 _ rfl
 ·exact h.at 5 _ rfl
 ·exact h.at 1 _ rfl
 ·exact h.at 6 _ rfl
 ·exact h.at 2 _ rfl
 ·exact h.at 7 _ rfl
 ·exact h.at 3 _ rfl
 ·exact h.at 8 _ rfl
 ·exact h.at 4 _ rfl
 ·exact h.at 9 _ rfl
 ·exact hs
 ·exact ht
 ·exact hn
 ·exact hm
def dr(x:St)(a t e:Value):List Value:=[.int .i64 x.kind,.string (aB x.name),a,t,e]
theorem aR.one {D:Nat→Prop}{w:World}{b:Nat}(x:St)(a t e:Value)(hD:D b)(h:cN w b 0 (dr x a t e))(ha:aJ D w x.args a)(ht:aR D w x.thn t)(he:aR D w x.els e):aR D w [x] (.slice (some ⟨b,0,none⟩) 1 1):=by
 refine .mk [x] _ 1 b 0 (fun _=>a) (fun _=>t) (fun _=>e) (Zb _) (by show _≤_;simp) (.inr ⟨rfl,hD⟩) ?_ ?_ ?_ ?_ ?_ ?_ ?_ ?_
 all_goals
  intro i hi;have hi0:i=0:=by simp at hi;omega
  subst hi0
 ·exact h.at 0 _ rfl
 ·exact h.at 1 _ rfl
 ·exact h.at 2 _ rfl
 ·exact h.at 3 _ rfl
 ·exact h.at 4 _ rfl
 ·exact ha
 ·exact ht
 ·exact he
def fuCells(f:Fu)(p l s:Value):List Value:=[.string (aB f.name),p,l,s]
theorem bM.one {D:Nat→Prop}{w:World}{b:Nat}(f:Fu)(p l s:Value)(hD:D b)(h:cN w b 0 (fuCells f p l s))(hp:ag D w f.params p)(hl:ag D w f.locals l)(hs:aR D w f.body s):bM D w [f] (.slice (some ⟨b,0,none⟩) 1 1):=by
 refine⟨_,1,b,0,fun _=>p,fun _=>l,fun _=>s,rfl,Zb _,by show _≤_;simp,.inr ⟨rfl,hD⟩,?_⟩;intro i hi;have hi0:i=0:=by simp at hi;omega
 subst hi0;exact⟨⟨h.at 0 _ rfl,h.at 1 _ rfl,h.at 2 _ rfl,h.at 3 _ rfl⟩,hp,hl,hs⟩
theorem cN.alloc {w:World}{b:Nat}{cs:List Value}(h:cN w b 0 cs)(o:Obj):cN (w.alloc o) b 0 cs:=h.below (bA)
end Go.Proofs.YtcfpfnoldgnloaaGreatDoor
