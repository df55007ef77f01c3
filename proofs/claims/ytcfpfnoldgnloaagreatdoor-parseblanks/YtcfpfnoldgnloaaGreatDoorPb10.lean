/-
  String and PrintExpr: the text that the printer holds; an expression's text. Conditions: the text takes at most 2^47 bytes; the library's table of powers is there.
-/
import Derived.Shelf.Strings.Builder1
import Derived.Shelf.Strings.Builder2
import Derived.Shelf.Strings.BuilderF
import Derived.Shelf.Utf8.RuneCount
import Derived.Shelf.Strconv.Atoi
import Derived.Shelf.Strconv.Itoa0
import Derived.Shelf.Strconv.Itoa1
import Derived.Shelf.LaysM
import Derived.Shelf.Strconv.Itoa2
import Derived.Shelf.Strconv.Itoa3
import Derived.Shelf.Strconv.AtoiErrFast
import Derived.Shelf.Strconv.ParseIntEmpty
import Derived.Shelf.Strconv.AtoiFail
import Derived.Shelf.Strconv.Clone
import Derived.Shelf.Strconv.SyntaxError
import Derived.Shelf.LaysC
import Derived.Shelf.Strconv.ToError
import Derived.Shelf.Strconv.Lower
import Derived.Shelf.Strconv.ParseUint10
import Derived.Shelf.Strconv.ParseUint10Empty
import Derived.Shelf.Strconv.ParseUint10Any
import Derived.Shelf.Strconv.ParseInt10
import Derived.Shelf.Strconv.AtoiLong
import Derived.Shelf.Strconv.AtoiInnerAll
import Derived.Shelf.Strconv.RangeError
import Derived.Shelf.Strconv.ToErrorRange
import Derived.Shelf.Strconv.AtoiAll
import Derived.Shelf.Strconv.ErrVarAll
import Derived.Shelf.Strings.Search1
import Derived.Shelf.Strings.Search2
import Derived.Shelf.Strings.Search3
import Derived.Shelf.Strings.Cut
import Derived.Shelf.Strings.Count
import Derived.Shelf.Strings.Shaped
import Derived.Shelf.Strings.Prefix
import Derived.Shelf.Strings.Split
import Derived.Shelf.Unicode.Decode
import Derived.Shelf.Strings.RuneCount
import Derived.Shelf.Bits.Mul64
import Derived.Shelf.Strings.Repeat
import Derived.Shelf.Unicode.DecodeSlow
import Derived.Shelf.Unicode.DecodeAny
import Derived.Shelf.Unicode.ValidAny
import Derived.Shelf.Slices.Equal
import Derived.Shelf.Slices.Empties2
import Derived.Lib.ItoaNum
import Derived.Lib.Strings
import Derived.Lib.Slices
import Derived.Lib.Walk
import Derived.Lib.Builder
import Derived.Lib.AppendStr
import Derived.Lib.UnsafeStr
import Derived.Lib.MakeNoZero
import Derived.Laws.Externs
import Derived.Test.YtcfpfnoldgnloaaGreatDoorPb03
import Derived.Shelf.RegionOpenPlain
import Derived.Laws.IdiomCopy
import Derived.Laws.BitsLemmas
set_option linter.unusedVariables false
set_option linter.unusedSimpArgs false
namespace Go.Proofs
open Go.Shelf
def Tryz.laysM171_ren:Go.Shelf.Ren:=⟨fun|171=>35|243=>78|246=>133|283=>190|284=>191|285=>192|286=>193|129=>208|317=>207|318=>209|319=>210|320=>211|337=>225|338=>226|n=>n,fun|3=>3|9=>9|2=>2|4=>4|171=>197|0=>0|53=>194|37=>77|5=>5|173=>200|212=>211|51=>191|20=>20|213=>212|46=>163|232=>229|233=>230|n=>n,fun|17=>3|18=>6|19=>7|n=>n⟩
theorem Tryz.laysM171:Go.Proofs.LaysM.n171 Tryz.prog Tryz.laysM171_ren:= {
 mixed:=by kernel_rfl
 f129:=Tryz.func208.trans (congrArg some (by kernel_rfl))
 f171:=Tryz.func35.trans (congrArg some (by kernel_rfl))
 f243:=Tryz.func78.trans (congrArg some (by kernel_rfl))
 f246:=Tryz.func133.trans (congrArg some (by kernel_rfl))
 f283:=Tryz.func190.trans (congrArg some (by kernel_rfl))
 f284:=Tryz.func191.trans (congrArg some (by kernel_rfl))
 f285:=Tryz.func192.trans (congrArg some (by kernel_rfl))
 f286:=Tryz.func193.trans (congrArg some (by kernel_rfl))
 f317:=Tryz.func207.trans (congrArg some (by kernel_rfl))
 f318:=Tryz.func209.trans (congrArg some (by kernel_rfl))
 f319:=Tryz.func210.trans (congrArg some (by kernel_rfl))
 f320:=Tryz.func211.trans (congrArg some (by kernel_rfl))
 f337:=Tryz.func225.trans (congrArg some (by kernel_rfl))
 f338:=Tryz.func226.trans (congrArg some (by kernel_rfl))
 t0:=Tryz.underlying0
 a0:=Tryz.isAgg0
 z0:=Tryz.sizeOf0
 v0:=Tryz.zeroValue0
 t2:=Tryz.underlying2
 a2:=Tryz.isAgg2
 z2:=Tryz.sizeOf2
 v2:=Tryz.zeroValue2
 t3:=Tryz.underlying3
 a3:=Tryz.isAgg3
 z3:=Tryz.sizeOf3
 v3:=Tryz.zeroValue3
 t4:=Tryz.underlying4
 a4:=Tryz.isAgg4
 z4:=Tryz.sizeOf4
 v4:=Tryz.zeroValue4
 t5:=Tryz.underlying5
 a5:=Tryz.isAgg5
 z5:=Tryz.sizeOf5
 v5:=Tryz.zeroValue5
 t9:=Tryz.underlying9
 a9:=Tryz.isAgg9
 z9:=Tryz.sizeOf9
 v9:=Tryz.zeroValue9
 t20:=Tryz.underlying20
 a20:=Tryz.isAgg20
 z20:=Tryz.sizeOf20
 v20:=Tryz.zeroValue20
 t37:=Tryz.underlying77
 a37:=Tryz.isAgg77
 z37:=Tryz.sizeOf77
 v37:=Tryz.zeroValue77
 t46:=Tryz.underlying163
 a46:=Tryz.isAgg163
 z46:=Tryz.sizeOf163
 v46:=Tryz.zeroValue163
 t51:=Tryz.underlying191
 a51:=Tryz.isAgg191
 z51:=Tryz.sizeOf191
 v51:=Tryz.zeroValue191
 t53:=Tryz.underlying194
 a53:=Tryz.isAgg194
 z53:=Tryz.sizeOf194
 v53:=Tryz.zeroValue194
 t171:=Tryz.underlying197
 a171:=Tryz.isAgg197
 z171:=Tryz.sizeOf197
 v171:=Tryz.zeroValue197
 t173:=Tryz.underlying200
 a173:=Tryz.isAgg200
 z173:=Tryz.sizeOf200
 v173:=Tryz.zeroValue200
 t212:=Tryz.underlying211
 a212:=Tryz.isAgg211
 z212:=Tryz.sizeOf211
 v212:=Tryz.zeroValue211
 t213:=Tryz.underlying212
 a213:=Tryz.isAgg212
 z213:=Tryz.sizeOf212
 t232:=Tryz.underlying229
 a232:=Tryz.isAgg229
 z232:=Tryz.sizeOf229
 v232:=Tryz.zeroValue229
 t233:=Tryz.underlying230
 a233:=Tryz.isAgg230
 z233:=Tryz.sizeOf230
 v233:=Tryz.zeroValue230
 g17:=by kernel_rfl
 g18:=by kernel_rfl
 g19:=by kernel_rfl
 i0:=by kernel_rfl
 i2:=by kernel_rfl
 i3:=by kernel_rfl
 i4:=by kernel_rfl
 i5:=by kernel_rfl
 i9:=by kernel_rfl
 i20:=by kernel_rfl
 i37:=by kernel_rfl
 i46:=by kernel_rfl
 i51:=by kernel_rfl
 i53:=by kernel_rfl
 i171:=by kernel_rfl
 i173:=by kernel_rfl
 i212:=by kernel_rfl
 i232:=by kernel_rfl
 i233:=by kernel_rfl
 m17:=by kernel_rfl
 m18:=by kernel_rfl
 m19:=by kernel_rfl}
open Go.RowKit Go.Sort Go.Lib in
theorem Tryz.strconv_Itoa(n:Int)(h0: -9223372036854775808≤n)(h1:n≤9223372036854775807)(w:World)(htab:Lib.TabIs Tryz.prog w "internal/strconv.uint64pow10" .u64 Lib.pow10Tab):
  Calls Tryz.prog 35 #[.int .i64 n] w fun e w'=>e=.returned (.string ⟨(Lib.itoa n).toArray⟩)∧∃k os,w'=grow (w.drewN k) os:=Any.strconv_Itoa Tryz.laysM171 n h0 h1 w htab
def Tryz.laysC172_ren:Go.Shelf.Ren:=⟨fun|172=>145|244=>197|245=>198|247=>216|279=>217|280=>218|281=>219|282=>220|287=>229|316=>230|171=>35|205=>231|321=>232|322=>233|243=>78|246=>133|283=>190|284=>191|285=>192|286=>193|129=>208|317=>207|318=>209|319=>210|320=>211|337=>225|338=>226|n=>n,fun|9=>9|3=>3|75=>160|76=>161|4=>4|5=>5|167=>215|37=>77|0=>0|85=>216|2=>2|168=>218|53=>194|175=>223|46=>163|210=>227|127=>125|145=>234|143=>232|21=>21|171=>197|173=>200|212=>211|51=>191|20=>20|213=>212|232=>229|233=>230|80=>83|n=>n,fun|15=>4|16=>5|17=>3|18=>6|19=>7|n=>n⟩
theorem Tryz.laysC172:Go.Proofs.LaysC.n172 Tryz.prog Tryz.laysC172_ren:= {
 mixed:=by kernel_rfl
 f129:=Tryz.func208.trans (congrArg some (by kernel_rfl))
 f171:=Tryz.func35.trans (congrArg some (by kernel_rfl))
 f172:=Tryz.func145.trans (congrArg some (by kernel_rfl))
 f205:=Tryz.func231.trans (congrArg some (by kernel_rfl))
 f243:=Tryz.func78.trans (congrArg some (by kernel_rfl))
 f244:=Tryz.func197.trans (congrArg some (by kernel_rfl))
 f245:=Tryz.func198.trans (congrArg some (by kernel_rfl))
 f246:=Tryz.func133.trans (congrArg some (by kernel_rfl))
 f247:=Tryz.func216.trans (congrArg some (by kernel_rfl))
 f279:=Tryz.func217.trans (congrArg some (by kernel_rfl))
 f280:=Tryz.func218.trans (congrArg some (by kernel_rfl))
 f281:=Tryz.func219.trans (congrArg some (by kernel_rfl))
 f282:=Tryz.func220.trans (congrArg some (by kernel_rfl))
 f283:=Tryz.func190.trans (congrArg some (by kernel_rfl))
 f284:=Tryz.func191.trans (congrArg some (by kernel_rfl))
 f285:=Tryz.func192.trans (congrArg some (by kernel_rfl))
 f286:=Tryz.func193.trans (congrArg some (by kernel_rfl))
 f287:=Tryz.func229.trans (congrArg some (by kernel_rfl))
 f316:=Tryz.func230.trans (congrArg some (by kernel_rfl))
 f317:=Tryz.func207.trans (congrArg some (by kernel_rfl))
 f318:=Tryz.func209.trans (congrArg some (by kernel_rfl))
 f319:=Tryz.func210.trans (congrArg some (by kernel_rfl))
 f320:=Tryz.func211.trans (congrArg some (by kernel_rfl))
 f321:=Tryz.func232.trans (congrArg some (by kernel_rfl))
 f322:=Tryz.func233.trans (congrArg some (by kernel_rfl))
 f337:=Tryz.func225.trans (congrArg some (by kernel_rfl))
 f338:=Tryz.func226.trans (congrArg some (by kernel_rfl))
 t0:=Tryz.underlying0
 a0:=Tryz.isAgg0
 z0:=Tryz.sizeOf0
 v0:=Tryz.zeroValue0
 t2:=Tryz.underlying2
 a2:=Tryz.isAgg2
 z2:=Tryz.sizeOf2
 v2:=Tryz.zeroValue2
 t3:=Tryz.underlying3
 a3:=Tryz.isAgg3
 z3:=Tryz.sizeOf3
 v3:=Tryz.zeroValue3
 t4:=Tryz.underlying4
 a4:=Tryz.isAgg4
 z4:=Tryz.sizeOf4
 v4:=Tryz.zeroValue4
 t5:=Tryz.underlying5
 a5:=Tryz.isAgg5
 z5:=Tryz.sizeOf5
 v5:=Tryz.zeroValue5
 t9:=Tryz.underlying9
 a9:=Tryz.isAgg9
 z9:=Tryz.sizeOf9
 v9:=Tryz.zeroValue9
 t20:=Tryz.underlying20
 a20:=Tryz.isAgg20
 z20:=Tryz.sizeOf20
 v20:=Tryz.zeroValue20
 t21:=Tryz.underlying21
 a21:=Tryz.isAgg21
 z21:=Tryz.sizeOf21
 v21:=Tryz.zeroValue21
 t37:=Tryz.underlying77
 a37:=Tryz.isAgg77
 z37:=Tryz.sizeOf77
 v37:=Tryz.zeroValue77
 t46:=Tryz.underlying163
 a46:=Tryz.isAgg163
 z46:=Tryz.sizeOf163
 v46:=Tryz.zeroValue163
 t51:=Tryz.underlying191
 a51:=Tryz.isAgg191
 z51:=Tryz.sizeOf191
 v51:=Tryz.zeroValue191
 t53:=Tryz.underlying194
 a53:=Tryz.isAgg194
 z53:=Tryz.sizeOf194
 v53:=Tryz.zeroValue194
 t75:=Tryz.underlying160
 a75:=Tryz.isAgg160
 z75:=Tryz.sizeOf160
 v75:=Tryz.zeroValue160
 t76:=Tryz.underlying161
 a76:=Tryz.isAgg161
 z76:=Tryz.sizeOf161
 v76:=Tryz.zeroValue161
 t85:=Tryz.underlying216
 a85:=Tryz.isAgg216
 z85:=Tryz.sizeOf216
 v85:=Tryz.zeroValue216
 t127:=Tryz.underlying125
 a127:=Tryz.isAgg125
 z127:=Tryz.sizeOf125
 v127:=Tryz.zeroValue125
 t143:=Tryz.underlying232
 a143:=Tryz.isAgg232
 z143:=Tryz.sizeOf232
 v143:=Tryz.zeroValue232
 t145:=Tryz.underlying234
 a145:=Tryz.isAgg234
 z145:=Tryz.sizeOf234
 v145:=Tryz.zeroValue234
 t167:=Tryz.underlying215
 a167:=Tryz.isAgg215
 z167:=Tryz.sizeOf215
 v167:=Tryz.zeroValue215
 t168:=Tryz.underlying218
 a168:=Tryz.isAgg218
 z168:=Tryz.sizeOf218
 v168:=Tryz.zeroValue218
 t171:=Tryz.underlying197
 a171:=Tryz.isAgg197
 z171:=Tryz.sizeOf197
 v171:=Tryz.zeroValue197
 t173:=Tryz.underlying200
 a173:=Tryz.isAgg200
 z173:=Tryz.sizeOf200
 v173:=Tryz.zeroValue200
 t175:=Tryz.underlying223
 a175:=Tryz.isAgg223
 z175:=Tryz.sizeOf223
 v175:=Tryz.zeroValue223
 t210:=Tryz.underlying227
 a210:=Tryz.isAgg227
 z210:=Tryz.sizeOf227
 v210:=Tryz.zeroValue227
 t212:=Tryz.underlying211
 a212:=Tryz.isAgg211
 z212:=Tryz.sizeOf211
 v212:=Tryz.zeroValue211
 t213:=Tryz.underlying212
 a213:=Tryz.isAgg212
 z213:=Tryz.sizeOf212
 t232:=Tryz.underlying229
 a232:=Tryz.isAgg229
 z232:=Tryz.sizeOf229
 v232:=Tryz.zeroValue229
 t233:=Tryz.underlying230
 a233:=Tryz.isAgg230
 z233:=Tryz.sizeOf230
 v233:=Tryz.zeroValue230
 g15:=by kernel_rfl
 g16:=by kernel_rfl
 g17:=by kernel_rfl
 g18:=by kernel_rfl
 g19:=by kernel_rfl
 t80:=Tryz.underlying83
 a80:=Tryz.isAgg83
 z80:=Tryz.sizeOf83
 v80:=Tryz.zeroValue83
 i0:=by kernel_rfl
 i2:=by kernel_rfl
 i3:=by kernel_rfl
 i4:=by kernel_rfl
 i5:=by kernel_rfl
 i9:=by kernel_rfl
 i20:=by kernel_rfl
 i21:=by kernel_rfl
 i37:=by kernel_rfl
 i46:=by kernel_rfl
 i51:=by kernel_rfl
 i53:=by kernel_rfl
 i75:=by kernel_rfl
 i76:=by kernel_rfl
 i80:=by kernel_rfl
 i85:=by kernel_rfl
 i127:=by kernel_rfl
 i143:=by kernel_rfl
 i145:=by kernel_rfl
 i167:=by kernel_rfl
 i168:=by kernel_rfl
 i171:=by kernel_rfl
 i173:=by kernel_rfl
 i175:=by kernel_rfl
 i210:=by kernel_rfl
 i212:=by kernel_rfl
 i232:=by kernel_rfl
 i233:=by kernel_rfl
 m15:=by kernel_rfl
 m16:=by kernel_rfl
 m17:=by kernel_rfl
 m18:=by kernel_rfl
 m19:=by kernel_rfl
 c0:=by kernel_rfl
 c2:=by kernel_rfl
 c3:=by kernel_rfl
 c4:=by kernel_rfl
 c5:=by kernel_rfl
 c9:=by kernel_rfl
 c20:=by kernel_rfl
 c21:=by kernel_rfl
 c37:=by kernel_rfl
 c46:=by kernel_rfl
 c51:=by kernel_rfl
 c53:=by kernel_rfl
 c75:=by kernel_rfl
 c76:=by kernel_rfl
 c80:=by kernel_rfl
 c85:=by kernel_rfl
 c127:=by kernel_rfl
 c143:=by kernel_rfl
 c145:=by kernel_rfl
 c167:=by kernel_rfl
 c168:=by kernel_rfl
 c171:=by kernel_rfl
 c173:=by kernel_rfl
 c175:=by kernel_rfl
 c210:=by kernel_rfl
 c212:=by kernel_rfl
 c213:=by kernel_rfl
 c232:=by kernel_rfl
 c233:=by kernel_rfl}
open Go.RowKit in
theorem Tryz.strconv_Atoi_ok(s:ByteArray)(hmax:s.size≤9223372036854775806)(v:Int)(h:Lib.atoiAll s.data.toList=.ok v)(w:World):
  Calls Tryz.prog 145 #[.string s] w fun e w'=>e=.returned (.tuple #[.int .i64 v,.nilIface])∧(w'=w∨∃t,w'=Lib.bytesWorld w 5 t):=Any.strconv_Atoi_ok Tryz.laysC172 s hmax v h w
def Tryz.lays144_ren:Go.Shelf.Ren:=⟨fun|144=>142|143=>138|219=>194|217=>212|225=>213|224=>214|267=>215|266=>227|314=>228|n=>n,fun|9=>9|4=>4|3=>3|5=>5|46=>163|146=>192|51=>191|n=>n,fun|1=>0|n=>n⟩
theorem Tryz.lays144:Go.Proofs.Lays.n144 Tryz.prog Tryz.lays144_ren:= {
 mixed:=by kernel_rfl
 f143:=Tryz.func138.trans (congrArg some (by kernel_rfl))
 f144:=Tryz.func142.trans (congrArg some (by kernel_rfl))
 f217:=Tryz.func212.trans (congrArg some (by kernel_rfl))
 f219:=Tryz.func194.trans (congrArg some (by kernel_rfl))
 f224:=Tryz.func214.trans (congrArg some (by kernel_rfl))
 f225:=Tryz.func213.trans (congrArg some (by kernel_rfl))
 f266:=Tryz.func227.trans (congrArg some (by kernel_rfl))
 f267:=Tryz.func215.trans (congrArg some (by kernel_rfl))
 f314:=Tryz.func228.trans (congrArg some (by kernel_rfl))
 t3:=Tryz.underlying3
 a3:=Tryz.isAgg3
 z3:=Tryz.sizeOf3
 v3:=Tryz.zeroValue3
 t4:=Tryz.underlying4
 a4:=Tryz.isAgg4
 z4:=Tryz.sizeOf4
 v4:=Tryz.zeroValue4
 t5:=Tryz.underlying5
 a5:=Tryz.isAgg5
 z5:=Tryz.sizeOf5
 v5:=Tryz.zeroValue5
 t9:=Tryz.underlying9
 a9:=Tryz.isAgg9
 z9:=Tryz.sizeOf9
 v9:=Tryz.zeroValue9
 t46:=Tryz.underlying163
 a46:=Tryz.isAgg163
 z46:=Tryz.sizeOf163
 v46:=Tryz.zeroValue163
 t51:=Tryz.underlying191
 a51:=Tryz.isAgg191
 z51:=Tryz.sizeOf191
 v51:=Tryz.zeroValue191
 t146:=Tryz.underlying192
 a146:=Tryz.isAgg192
 z146:=Tryz.sizeOf192
 v146:=Tryz.zeroValue192
 g1:=by kernel_rfl}
open Go.RowKit Go.Lib in
theorem Tryz.strings_Contains(s sub:ByteArray)(m:Int)(w:World)(hs:s.size<4294967281)(hm:w.cell? ⟨0,0,none⟩=some (.int .i64 m)):
  Calls Tryz.prog 142 #[.string s,.string sub] w fun e w'=>e=.returned (.bool (Lib.contains s.data.toList sub.data.toList))∧w'=w:=Any.strings_Contains Tryz.lays144 s sub m w hs hm
def Tryz.lays145_ren:Go.Shelf.Ren:=⟨fun|145=>140|220=>195|219=>194|217=>212|225=>213|224=>214|267=>215|266=>227|314=>228|n=>n,fun|9=>9|4=>4|59=>172|3=>3|5=>5|46=>163|146=>192|51=>191|n=>n,fun|1=>0|n=>n⟩
theorem Tryz.lays145:Go.Proofs.Lays.n145 Tryz.prog Tryz.lays145_ren:= {
 mixed:=by kernel_rfl
 f145:=Tryz.func140.trans (congrArg some (by kernel_rfl))
 f217:=Tryz.func212.trans (congrArg some (by kernel_rfl))
 f219:=Tryz.func194.trans (congrArg some (by kernel_rfl))
 f220:=Tryz.func195.trans (congrArg some (by kernel_rfl))
 f224:=Tryz.func214.trans (congrArg some (by kernel_rfl))
 f225:=Tryz.func213.trans (congrArg some (by kernel_rfl))
 f266:=Tryz.func227.trans (congrArg some (by kernel_rfl))
 f267:=Tryz.func215.trans (congrArg some (by kernel_rfl))
 f314:=Tryz.func228.trans (congrArg some (by kernel_rfl))
 t3:=Tryz.underlying3
 a3:=Tryz.isAgg3
 z3:=Tryz.sizeOf3
 v3:=Tryz.zeroValue3
 t4:=Tryz.underlying4
 a4:=Tryz.isAgg4
 z4:=Tryz.sizeOf4
 v4:=Tryz.zeroValue4
 t5:=Tryz.underlying5
 a5:=Tryz.isAgg5
 z5:=Tryz.sizeOf5
 v5:=Tryz.zeroValue5
 t9:=Tryz.underlying9
 a9:=Tryz.isAgg9
 z9:=Tryz.sizeOf9
 v9:=Tryz.zeroValue9
 t46:=Tryz.underlying163
 a46:=Tryz.isAgg163
 z46:=Tryz.sizeOf163
 v46:=Tryz.zeroValue163
 t51:=Tryz.underlying191
 a51:=Tryz.isAgg191
 z51:=Tryz.sizeOf191
 v51:=Tryz.zeroValue191
 t59:=Tryz.underlying172
 a59:=Tryz.isAgg172
 z59:=Tryz.sizeOf172
 v59:=Tryz.zeroValue172
 t146:=Tryz.underlying192
 a146:=Tryz.isAgg192
 z146:=Tryz.sizeOf192
 v146:=Tryz.zeroValue192
 g1:=by kernel_rfl}
open Go.RowKit Go.Lib in
theorem Tryz.strings_Cut(s sep:ByteArray)(m:Int)(w:World)(hs:s.size<4294967281)(hm:w.cell? ⟨0,0,none⟩=some (.int .i64 m)):
  Calls Tryz.prog 140 #[.string s,.string sep] w fun e w'=>e=.returned (.tuple #[.string ⟨(Lib.cut s.data.toList sep.data.toList).1.toArray⟩,.string ⟨(Lib.cut s.data.toList sep.data.toList).2.1.toArray⟩,.bool (Lib.cut s.data.toList sep.data.toList).2.2])∧∃n,w'=w.drewN n:=Any.strings_Cut Tryz.lays145 s sep m w hs hm
def Tryz.lays138_ren:Go.Shelf.Ren:=⟨fun|138=>86|195=>136|218=>137|143=>138|219=>194|217=>212|225=>213|224=>214|267=>215|266=>227|314=>228|n=>n,fun|9=>9|3=>3|4=>4|5=>5|0=>0|46=>163|146=>192|51=>191|n=>n,fun|1=>0|n=>n⟩
theorem Tryz.lays138:Go.Proofs.Lays.n138 Tryz.prog Tryz.lays138_ren:= {
 mixed:=by kernel_rfl
 f138:=Tryz.func86.trans (congrArg some (by kernel_rfl))
 f143:=Tryz.func138.trans (congrArg some (by kernel_rfl))
 f195:=Tryz.func136.trans (congrArg some (by kernel_rfl))
 f217:=Tryz.func212.trans (congrArg some (by kernel_rfl))
 f218:=Tryz.func137.trans (congrArg some (by kernel_rfl))
 f219:=Tryz.func194.trans (congrArg some (by kernel_rfl))
 f224:=Tryz.func214.trans (congrArg some (by kernel_rfl))
 f225:=Tryz.func213.trans (congrArg some (by kernel_rfl))
 f266:=Tryz.func227.trans (congrArg some (by kernel_rfl))
 f267:=Tryz.func215.trans (congrArg some (by kernel_rfl))
 f314:=Tryz.func228.trans (congrArg some (by kernel_rfl))
 t0:=Tryz.underlying0
 a0:=Tryz.isAgg0
 z0:=Tryz.sizeOf0
 v0:=Tryz.zeroValue0
 t3:=Tryz.underlying3
 a3:=Tryz.isAgg3
 z3:=Tryz.sizeOf3
 v3:=Tryz.zeroValue3
 t4:=Tryz.underlying4
 a4:=Tryz.isAgg4
 z4:=Tryz.sizeOf4
 v4:=Tryz.zeroValue4
 t5:=Tryz.underlying5
 a5:=Tryz.isAgg5
 z5:=Tryz.sizeOf5
 v5:=Tryz.zeroValue5
 t9:=Tryz.underlying9
 a9:=Tryz.isAgg9
 z9:=Tryz.sizeOf9
 v9:=Tryz.zeroValue9
 t46:=Tryz.underlying163
 a46:=Tryz.isAgg163
 z46:=Tryz.sizeOf163
 v46:=Tryz.zeroValue163
 t51:=Tryz.underlying191
 a51:=Tryz.isAgg191
 z51:=Tryz.sizeOf191
 v51:=Tryz.zeroValue191
 t146:=Tryz.underlying192
 a146:=Tryz.isAgg192
 z146:=Tryz.sizeOf192
 v146:=Tryz.zeroValue192
 g1:=by kernel_rfl}
open Go.RowKit Go.Lib in
theorem Tryz.strings_Count_one(s:ByteArray)(c:UInt8)(w:World):
  Calls Tryz.prog 86 #[.string s,.string ⟨#[c]⟩] w fun e w'=>e=.returned (.int .i64 (Lib.countByte s.data.toList c))∧w'=w:=Any.strings_Count_one Tryz.lays138 s c w
def Tryz.lays99_ren:Go.Shelf.Ren:=⟨fun|99=>87|206=>139|n=>n,fun|9=>9|4=>4|3=>3|n=>n,fun|n=>n⟩
theorem Tryz.lays99:Go.Proofs.Lays.n99 Tryz.prog Tryz.lays99_ren:= {
 mixed:=by kernel_rfl
 f99:=Tryz.func87.trans (congrArg some (by kernel_rfl))
 f206:=Tryz.func139.trans (congrArg some (by kernel_rfl))
 t3:=Tryz.underlying3
 a3:=Tryz.isAgg3
 z3:=Tryz.sizeOf3
 v3:=Tryz.zeroValue3
 t4:=Tryz.underlying4
 a4:=Tryz.isAgg4
 z4:=Tryz.sizeOf4
 v4:=Tryz.zeroValue4
 t9:=Tryz.underlying9
 a9:=Tryz.isAgg9
 z9:=Tryz.sizeOf9
 v9:=Tryz.zeroValue9}
open Go.RowKit Go.Lib in
theorem Tryz.strings_HasPrefix(s p:ByteArray)(w:World):
  Calls Tryz.prog 87 #[.string s,.string p] w fun e w'=>e=.returned (.bool (Lib.hasPrefix s.data.toList p.data.toList))∧w'=w:=Any.strings_HasPrefix Tryz.lays99 s p w
def Tryz.lays197_ren:Go.Shelf.Ren:=⟨fun|197=>146|260=>199|n=>n,fun|9=>9|21=>21|3=>3|4=>4|5=>5|105=>174|119=>203|0=>0|46=>163|139=>206|138=>205|n=>n,fun|3=>1|4=>2|n=>n⟩
theorem Tryz.lays197:Go.Proofs.Lays.n197 Tryz.prog Tryz.lays197_ren:= {
 mixed:=by kernel_rfl
 f197:=Tryz.func146.trans (congrArg some (by kernel_rfl))
 f260:=Tryz.func199.trans (congrArg some (by kernel_rfl))
 t0:=Tryz.underlying0
 a0:=Tryz.isAgg0
 z0:=Tryz.sizeOf0
 v0:=Tryz.zeroValue0
 t3:=Tryz.underlying3
 a3:=Tryz.isAgg3
 z3:=Tryz.sizeOf3
 v3:=Tryz.zeroValue3
 t4:=Tryz.underlying4
 a4:=Tryz.isAgg4
 z4:=Tryz.sizeOf4
 v4:=Tryz.zeroValue4
 t5:=Tryz.underlying5
 a5:=Tryz.isAgg5
 z5:=Tryz.sizeOf5
 v5:=Tryz.zeroValue5
 t9:=Tryz.underlying9
 a9:=Tryz.isAgg9
 z9:=Tryz.sizeOf9
 v9:=Tryz.zeroValue9
 t21:=Tryz.underlying21
 a21:=Tryz.isAgg21
 z21:=Tryz.sizeOf21
 v21:=Tryz.zeroValue21
 t46:=Tryz.underlying163
 a46:=Tryz.isAgg163
 z46:=Tryz.sizeOf163
 v46:=Tryz.zeroValue163
 t105:=Tryz.underlying174
 a105:=Tryz.isAgg174
 z105:=Tryz.sizeOf174
 v105:=Tryz.zeroValue174
 t119:=Tryz.underlying203
 a119:=Tryz.isAgg203
 z119:=Tryz.sizeOf203
 t138:=Tryz.underlying205
 a138:=Tryz.isAgg205
 z138:=Tryz.sizeOf205
 v138:=Tryz.zeroValue205
 t139:=Tryz.underlying206
 a139:=Tryz.isAgg206
 z139:=Tryz.sizeOf206
 v139:=Tryz.zeroValue206
 g3:=by kernel_rfl
 g4:=by kernel_rfl}
def Tryz.lays105_ren:Go.Shelf.Ren:=⟨fun|105=>76|212=>130|99=>87|165=>131|166=>129|170=>132|169=>33|263=>187|264=>188|206=>139|240=>186|241=>189|276=>205|277=>206|n=>n,fun|9=>9|3=>3|4=>4|20=>20|0=>0|46=>163|109=>164|5=>5|72=>79|76=>161|51=>191|146=>192|53=>194|148=>195|70=>76|37=>77|75=>160|127=>125|164=>208|80=>83|n=>n,fun|n=>n⟩
theorem Tryz.lays105:Go.Proofs.Lays.n105 Tryz.prog Tryz.lays105_ren:= {
 mixed:=by kernel_rfl
 f99:=Tryz.func87.trans (congrArg some (by kernel_rfl))
 f105:=Tryz.func76.trans (congrArg some (by kernel_rfl))
 f165:=Tryz.func131.trans (congrArg some (by kernel_rfl))
 f166:=Tryz.func129.trans (congrArg some (by kernel_rfl))
 f169:=Tryz.func33.trans (congrArg some (by kernel_rfl))
 f170:=Tryz.func132.trans (congrArg some (by kernel_rfl))
 f206:=Tryz.func139.trans (congrArg some (by kernel_rfl))
 f212:=Tryz.func130.trans (congrArg some (by kernel_rfl))
 f240:=Tryz.func186.trans (congrArg some (by kernel_rfl))
 f241:=Tryz.func189.trans (congrArg some (by kernel_rfl))
 f263:=Tryz.func187.trans (congrArg some (by kernel_rfl))
 f264:=Tryz.func188.trans (congrArg some (by kernel_rfl))
 f276:=Tryz.func205.trans (congrArg some (by kernel_rfl))
 f277:=Tryz.func206.trans (congrArg some (by kernel_rfl))
 t0:=Tryz.underlying0
 a0:=Tryz.isAgg0
 z0:=Tryz.sizeOf0
 v0:=Tryz.zeroValue0
 t3:=Tryz.underlying3
 a3:=Tryz.isAgg3
 z3:=Tryz.sizeOf3
 v3:=Tryz.zeroValue3
 t4:=Tryz.underlying4
 a4:=Tryz.isAgg4
 z4:=Tryz.sizeOf4
 v4:=Tryz.zeroValue4
 t5:=Tryz.underlying5
 a5:=Tryz.isAgg5
 z5:=Tryz.sizeOf5
 v5:=Tryz.zeroValue5
 t9:=Tryz.underlying9
 a9:=Tryz.isAgg9
 z9:=Tryz.sizeOf9
 v9:=Tryz.zeroValue9
 t20:=Tryz.underlying20
 a20:=Tryz.isAgg20
 z20:=Tryz.sizeOf20
 v20:=Tryz.zeroValue20
 t37:=Tryz.underlying77
 a37:=Tryz.isAgg77
 z37:=Tryz.sizeOf77
 v37:=Tryz.zeroValue77
 t46:=Tryz.underlying163
 a46:=Tryz.isAgg163
 z46:=Tryz.sizeOf163
 v46:=Tryz.zeroValue163
 t51:=Tryz.underlying191
 a51:=Tryz.isAgg191
 z51:=Tryz.sizeOf191
 v51:=Tryz.zeroValue191
 t53:=Tryz.underlying194
 a53:=Tryz.isAgg194
 z53:=Tryz.sizeOf194
 v53:=Tryz.zeroValue194
 t70:=Tryz.underlying76
 a70:=Tryz.isAgg76
 z70:=Tryz.sizeOf76
 v70:=Tryz.zeroValue76
 t72:=Tryz.underlying79
 a72:=Tryz.isAgg79
 z72:=Tryz.sizeOf79
 v72:=Tryz.zeroValue79
 t75:=Tryz.underlying160
 a75:=Tryz.isAgg160
 z75:=Tryz.sizeOf160
 v75:=Tryz.zeroValue160
 t76:=Tryz.underlying161
 a76:=Tryz.isAgg161
 z76:=Tryz.sizeOf161
 v76:=Tryz.zeroValue161
 t109:=Tryz.underlying164
 a109:=Tryz.isAgg164
 z109:=Tryz.sizeOf164
 v109:=Tryz.zeroValue164
 t127:=Tryz.underlying125
 a127:=Tryz.isAgg125
 z127:=Tryz.sizeOf125
 v127:=Tryz.zeroValue125
 t146:=Tryz.underlying192
 a146:=Tryz.isAgg192
 z146:=Tryz.sizeOf192
 v146:=Tryz.zeroValue192
 t148:=Tryz.underlying195
 a148:=Tryz.isAgg195
 z148:=Tryz.sizeOf195
 v148:=Tryz.zeroValue195
 t164:=Tryz.underlying208
 a164:=Tryz.isAgg208
 z164:=Tryz.sizeOf208
 v164:=Tryz.zeroValue208}
theorem Tryz.Builder_Extra_105:Builder.Extra Tryz.prog Tryz.lays105_ren:= {
 sizeBuilder:=by kernel_rfl
 liesBuilder:=by kernel_rfl
 t5:=Tryz.underlying5
 a5:=Tryz.isAgg5
 z5:=Tryz.sizeOf5
 v5:=Tryz.zeroValue5
 infoByte:=by kernel_rfl
 cellsByte:=by kernel_rfl
 sizeByte:=by kernel_rfl
 neB5:=by decide}
open Go.RowKit Go.Lib in
theorem Tryz.strings_Repeat(s:ByteArray)(c:Nat)(w:World)(hc:c≤9223372036854775807)(hlen:s.size*c≤140737488355328):
  Calls Tryz.prog 76 #[.string s,.int .i64 c] w fun e w'=>e=.returned (.string ⟨(Lib.repeatL s.data.toList c).toArray⟩)∧Below w.heap.size w w':=Any.strings_Repeat Tryz.lays105 Tryz.Builder_Extra_105 s c w hc hlen
open Go.RowKit Go.Lib in
theorem Tryz.utf8_DecodeRuneInString(s:ByteArray)(w:World)(hT:Lib.Utf8Tabs 1 2 w):
  Calls Tryz.prog 146 #[.string s] w fun e w'=>e=.returned (.tuple #[.int .i32 (Lib.decodeGo s).1,.int .i64 (Lib.decodeGo s).2])∧Below w.heap.size w w':=Any.utf8_DecodeRuneInString Tryz.lays197 s w hT
def Tryz.lays196_ren:Go.Shelf.Ren:=⟨fun|196=>141|259=>196|n=>n,fun|9=>9|4=>4|3=>3|5=>5|12=>12|119=>203|0=>0|46=>163|139=>206|138=>205|53=>194|n=>n,fun|3=>1|4=>2|n=>n⟩
theorem Tryz.lays196:Go.Proofs.Lays.n196 Tryz.prog Tryz.lays196_ren:= {
 mixed:=by kernel_rfl
 f196:=Tryz.func141.trans (congrArg some (by kernel_rfl))
 f259:=Tryz.func196.trans (congrArg some (by kernel_rfl))
 t0:=Tryz.underlying0
 a0:=Tryz.isAgg0
 z0:=Tryz.sizeOf0
 v0:=Tryz.zeroValue0
 t3:=Tryz.underlying3
 a3:=Tryz.isAgg3
 z3:=Tryz.sizeOf3
 v3:=Tryz.zeroValue3
 t4:=Tryz.underlying4
 a4:=Tryz.isAgg4
 z4:=Tryz.sizeOf4
 v4:=Tryz.zeroValue4
 t5:=Tryz.underlying5
 a5:=Tryz.isAgg5
 z5:=Tryz.sizeOf5
 v5:=Tryz.zeroValue5
 t9:=Tryz.underlying9
 a9:=Tryz.isAgg9
 z9:=Tryz.sizeOf9
 v9:=Tryz.zeroValue9
 t12:=Tryz.underlying12
 a12:=Tryz.isAgg12
 z12:=Tryz.sizeOf12
 v12:=Tryz.zeroValue12
 t46:=Tryz.underlying163
 a46:=Tryz.isAgg163
 z46:=Tryz.sizeOf163
 v46:=Tryz.zeroValue163
 t53:=Tryz.underlying194
 a53:=Tryz.isAgg194
 z53:=Tryz.sizeOf194
 v53:=Tryz.zeroValue194
 t119:=Tryz.underlying203
 a119:=Tryz.isAgg203
 z119:=Tryz.sizeOf203
 t138:=Tryz.underlying205
 a138:=Tryz.isAgg205
 z138:=Tryz.sizeOf205
 v138:=Tryz.zeroValue205
 t139:=Tryz.underlying206
 a139:=Tryz.isAgg206
 z139:=Tryz.sizeOf206
 v139:=Tryz.zeroValue206
 g3:=by kernel_rfl
 g4:=by kernel_rfl}
open Go.RowKit Go.Lib in
theorem Tryz.utf8_ValidString(s:ByteArray)(w:World)(hs:s.size≤9223372036854775807)(hT:Lib.Utf8Tabs 1 2 w):
  Calls Tryz.prog 141 #[.string s] w fun e w'=>e=.returned (.bool (Lib.validD s.data.toList))∧Below w.heap.size w w':=Any.utf8_ValidString Tryz.lays196 s w hs hT
end Go.Proofs
namespace Go.Proofs.YtcfpfnoldgnloaaGreatDoor
open Go.RowKit Go.Proofs.Tryz
set_option maxHeartbeats 20000000
set_option maxRecDepth 100000
open Go.Lib renaming hid→Za,byteCells→Zf,cell_of_heap→Zg
open Go.Proofs.Tryz renaming prog→Zb,func32→Zh,ntmps32→Zi
open List renaming getElem_cons_zero→Zc,getElem_cons_succ→Zd,getElem?_eq_getElem→Zk,take_succ_eq_append_getElem→Zl,flatMap_append→Zm,take_append_drop→Zn
open Int renaming reduceEq→Ze
open World renaming setCell→Zj
open Below renaming heap_setCell→Zo
def Bo:List Bs→Bs
 |[]=>[]
 |x::l=>x++l.flatMap (fun y=>[44,32]++y)
theorem Lj(l:List Bs)(y:Bs):Bo (l++[y])=if l=[]then y else Bo l++[44,32]++y:=by
 cases l with
 |nil=>simp [Bo]
 |cons x l=>simp [Bo]
def Fx(e:Ex)(level:Int)(txt:Bs):Bs:=if e.kind=4∧Al e.op<level then [40]++txt++[41]else txt
def Fk(k o n:Int)(nm:Bs)(args:List Ex)(ts:List Bs):Bs:=
 if k=1 then Lib.itoa n
 else if k=2 then nm
 else if k=3 then Aw o++Fx (Bx args 0) 9 (ts.getD 0 [])
 else if k=4 then Fx (Bx args 0) (Al o) (ts.getD 0 [])++([32]++Aw o++[32])++Fx (Bx args 1) (Al o+1) (ts.getD 1 [])
 else if k=5 then nm++[40]++Bo ts++[41]
 else if k=6 then nm++[91]++ts.getD 0 []++[93]
 else if k=7 then [114,101,97,100,40,41]else []
mutual
def Ak:Ex→Bs
 |.mk k o n nm args=>Fk k o n nm args (Vp args)
def Vp:List Ex→List Bs
 |[]=>[]
 |x::l=>Ak x::Vp l
end
theorem Xc:∀l,Vp l=l.map Ak
 |[]=>rfl
 |x::l=>by simp [Vp,Xc l]
theorem Hj(e:Ex):Ak e=Fk e.kind e.op e.n e.name e.args (e.args.map Ak):=by
 cases e;rw[Ak,Xc];rfl
def Em(e:Ex)(level:Int):Bs:=Fx e level (Ak e)
theorem Sh {l:List Ex}{i:Nat}(h:i<l.length):(l.map Ak).getD i []=Ak (Bx l i):=by
 simp [Bx,Zk h]
theorem iY(o n:Int)(nm:Bs)(args:List Ex):Ak (.mk 1 o n nm args)=Lib.itoa n:=by
 rw[Hj];show Fk 1 o n nm args (args.map Ak)=_;unfold Fk;rw[if_pos rfl]
theorem fC(o n:Int)(nm:Bs)(args:List Ex):Ak (.mk 2 o n nm args)=nm:=by
 rw[Hj];show Fk 2 o n nm args (args.map Ak)=_;unfold Fk;rw[if_neg (by decide),if_pos rfl]
theorem fM(o n:Int)(nm:Bs)(args:List Ex)(h:0<args.length):Ak (.mk 3 o n nm args)=Aw o++Em (Bx args 0) 9:=by
 rw[Hj];show Fk 3 o n nm args (args.map Ak)=_;unfold Fk;rw[if_neg (by decide),if_neg (by decide),if_pos rfl,Sh h];unfold Em;rfl
theorem fT(o n:Int)(nm:Bs)(args:List Ex)(h:1<args.length):Ak (.mk 4 o n nm args)=Em (Bx args 0) (Al o)++([32]++(Aw o++[32]))++Em (Bx args 1) (Al o+1):=by
 rw[Hj];show Fk 4 o n nm args (args.map Ak)=_;unfold Fk;rw[if_neg (by decide),if_neg (by decide),if_neg (by decide),if_pos rfl,Sh (by omega),Sh h,List.append_assoc [32]];unfold Em;rfl
theorem iK(o n:Int)(nm:Bs)(args:List Ex):Ak (.mk 5 o n nm args)=nm++[40]++Bo (args.map Ak)++[41]:=by
 rw[Hj];show Fk 5 o n nm args (args.map Ak)=_;unfold Fk;rw[if_neg (by decide),if_neg (by decide),if_neg (by decide),if_neg (by decide),if_pos rfl]
theorem gQ(o n:Int)(nm:Bs)(args:List Ex)(h:0<args.length):Ak (.mk 6 o n nm args)=nm++[91]++Ak (Bx args 0)++[93]:=by
 rw[Hj];show Fk 6 o n nm args (args.map Ak)=_;unfold Fk;rw[if_neg (by decide),if_neg (by decide),if_neg (by decide),if_neg (by decide),if_neg (by decide),if_pos rfl,Sh h]
theorem eY(o n:Int)(nm:Bs)(args:List Ex):Ak (.mk 7 o n nm args)=[114,101,97,100,40,41]:=by
 rw[Hj];show Fk 7 o n nm args (args.map Ak)=_;unfold Fk;rw[if_neg (by decide),if_neg (by decide),if_neg (by decide),if_neg (by decide),if_neg (by decide),if_neg (by decide),if_pos rfl]
def Jl(t:Nat):Bs:=List.replicate t 9
def ln(t:Nat)(l:List Bs):Bs:=Jl t++l.flatten++[10]
def Dd(t:Nat)(k:Int)(nm:Bs)(args:List Ex)(noEls:Bool)(T E:Bs):Bs:=
 if k=1 then ln t [nm,[32,61,32],Ak (Bx args 0),[59]]
 else if k=2 then ln t [nm,[91],Ak (Bx args 0),[93,32,61,32],Ak (Bx args 1),[59]]
 else if k=3 then ln t [[105,102,32,40],Ak (Bx args 0),[41,32,123]]++(T++((if noEls then []else ln t [[125,32,101,108,115,101,32,123]]++E)++ln t [[125]]))
 else if k=4 then ln t [[119,104,105,108,101,32,40],Ak (Bx args 0),[41,32,123]]++(T++ln t [[125]])
 else if k=5 then ln t [[98,114,101,97,107,59]]
 else if k=6 then ln t [[99,111,110,116,105,110,117,101,59]]
 else if k=7 then ln t [[114,101,116,117,114,110,32],Ak (Bx args 0),[59]]
 else if k=8 then ln t [[112,114,105,110,116,40],Ak (Bx args 0),[41,59]]
 else if k=9 then ln t [[116,114,97,112,40],Ak (Bx args 0),[41,59]]
 else if k=10 then ln t [Ak (Bx args 0),[59]]else []
mutual
def Cp(t:Nat):St→Bs
 |.mk k nm args thn els=>Dd t k nm args els.isEmpty (By (t+1) thn) (By (t+1) els)
def By(t:Nat):List St→Bs
 |[]=>[]
 |x::l=>Cp t x++By t l
end
theorem Fq(t:Nat)(k:Int)(nm:Bs)(args:List Ex)(thn els:List St):Cp t (.mk k nm args thn els)=Dd t k nm args els.isEmpty (By (t+1) thn) (By (t+1) els):=by rw[Cp]
theorem Ig(t:Nat):∀l,By t l=l.flatMap (Cp t)
 |[]=>rfl
 |x::l=>by rw[By,Ig t l];rfl
theorem dQ(t:Nat)(l:List St)(k:Nat)(h:k<l.length):By t (l.take (k+1))=By t (l.take k)++Cp t (Ht l k):=by
 rw[Ig,Ig,Zl h,Zm];simp [Ht,Zk h]
theorem Vk(t:Nat)(l:List St)(k:Nat):(By t (l.take k)).length≤(By t l).length:=by
 have e:By t l=By t (l.take k)++By t (l.drop k):=by rw[Ig,Ig,Ig,←Zm,Zn]
 rw[e];simp
theorem pR(t:Nat)(nm:Bs)(args:List Ex)(ne:Bool)(T E:Bs):Dd t 1 nm args ne T E=ln t [nm,[32,61,32],Ak (Bx args 0),[59]]:=by
 unfold Dd;simp only[Ze,if_true,if_false,reduceIte]
theorem oY(t:Nat)(nm:Bs)(args:List Ex)(ne:Bool)(T E:Bs):Dd t 2 nm args ne T E=ln t [nm,[91],Ak (Bx args 0),[93,32,61,32],Ak (Bx args 1),[59]]:=by
 unfold Dd;simp only[Ze,if_true,if_false,reduceIte]
theorem aO(t:Nat)(nm:Bs)(args:List Ex)(ne:Bool)(T E:Bs):Dd t 3 nm args ne T E=ln t [[105,102,32,40],Ak (Bx args 0),[41,32,123]]++(T++((if ne then []else ln t [[125,32,101,108,115,101,32,123]]++E)++ln t [[125]])):=by
 unfold Dd;simp only[Ze,if_true,if_false,reduceIte]
theorem pX(t:Nat)(nm:Bs)(args:List Ex)(ne:Bool)(T E:Bs):Dd t 4 nm args ne T E=ln t [[119,104,105,108,101,32,40],Ak (Bx args 0),[41,32,123]]++(T++ln t [[125]]):=by
 unfold Dd;simp only[Ze,if_true,if_false,reduceIte]
theorem oS(t:Nat)(nm:Bs)(args:List Ex)(ne:Bool)(T E:Bs):Dd t 5 nm args ne T E=ln t [[98,114,101,97,107,59]]:=by
 unfold Dd;simp only[Ze,if_true,if_false,reduceIte]
theorem oZ(t:Nat)(nm:Bs)(args:List Ex)(ne:Bool)(T E:Bs):Dd t 6 nm args ne T E=ln t [[99,111,110,116,105,110,117,101,59]]:=by
 unfold Dd;simp only[Ze,if_true,if_false,reduceIte]
theorem oI(t:Nat)(nm:Bs)(args:List Ex)(ne:Bool)(T E:Bs):Dd t 7 nm args ne T E=ln t [[114,101,116,117,114,110,32],Ak (Bx args 0),[59]]:=by
 unfold Dd;simp only[Ze,if_true,if_false,reduceIte]
theorem pH(t:Nat)(nm:Bs)(args:List Ex)(ne:Bool)(T E:Bs):Dd t 8 nm args ne T E=ln t [[112,114,105,110,116,40],Ak (Bx args 0),[41,59]]:=by
 unfold Dd;simp only[Ze,if_true,if_false,reduceIte]
theorem qH(t:Nat)(nm:Bs)(args:List Ex)(ne:Bool)(T E:Bs):Dd t 9 nm args ne T E=ln t [[116,114,97,112,40],Ak (Bx args 0),[41,59]]:=by
 unfold Dd;simp only[Ze,if_true,if_false,reduceIte]
theorem jI(t:Nat)(nm:Bs)(args:List Ex)(ne:Bool)(T E:Bs):Dd t 10 nm args ne T E=ln t [Ak (Bx args 0),[59]]:=by
 unfold Dd;simp only[Ze,if_true,if_false,reduceIte]
def Ki(p:Bs):Bs:=[105,110,116,32]++p
def Fr(l:List Bs):Bs:=l.flatMap fun x=>ln 1 [[105,110,116,32],x,[59]]
def Jc(f:Fu):Bs:=[105,110,116,32]++(f.name++[40])++(Bo (f.params.map Ki)++([41,32,123,10]++(Fr f.locals++(By 1 f.body++ln 0 [[125]]))))
theorem eQ(l:List Bs)(k:Nat)(h:k<l.length):Fr (l.take (k+1))=Fr (l.take k)++ln 1 [[105,110,116,32],l.getD k [],[59]]:=by
 unfold Fr;rw[Zl h,Zm];simp [Zk h]
theorem Vi(l:List Bs)(k:Nat):(Fr (l.take k)).length≤(Fr l).length:=by
 have e:Fr l=Fr (l.take k)++Fr (l.drop k):=by unfold Fr;rw[←Zm,Zn]
 rw[e];simp
def Oe(a:Ar):Bs:=ln 0 [[105,110,116,32],a.name,[91],Lib.itoa a.size,[93,59]]
def Ep(l:List Ar):Bs:=l.flatMap Oe
def Fj(l:List Fu):Bs:=l.flatMap Jc
def Du(p:Pr):Bs:=Ep p.arrays++Fj p.funcs
def own(w:World)(b:Nat):Option Nat:=
 match w.heap[b]? with
 |some (.cells cs _ _)=>(cs.getD 1 undef).ownBlock
 |_=>none
def Bv(w:World)(b:Nat)(bs:Bs)(t:Int):Prop:=
 ∃p v,w.heap[b]? =some (.cells #[p,v,.int .i64 t] 81 (0,0))∧(p=.pointer none∨p=.pointer (some ⟨b,0,none⟩))∧w.ownsRow (b+1) 5 1 v bs.length (Zf bs)
structure PFr (b:Nat)(w w':World):Prop where
 os:w'.os=w.os
 tape:w'.tape=w.tape
 output:w'.output=w.output
 size:w.heap.size≤w'.heap.size
 block:∀k,k<w.heap.size→k≠b→own w b≠some k→w'.heap[k]? =w.heap[k]?
 own:own w' b=own w b∨∃k,w.heap.size≤k∧own w' b=some k
theorem PFr.refl(b:Nat)(w:World):PFr b w w:=⟨rfl,rfl,rfl,Nat.le_refl _,fun _ _ _ _=>rfl,.inl rfl⟩
theorem PFr.trans {b:Nat}{u v w:World}(h:PFr b u v)(k:PFr b v w):PFr b u w where
 os:=k.os.trans h.os
 tape:=k.tape.trans h.tape
 output:=k.output.trans h.output
 size:=Nat.le_trans h.size k.size
 block i hi hb ho:=by
  refine(k.block i (Nat.lt_of_lt_of_le hi h.size) hb ?_).trans (h.block i hi hb ho);rcases h.own with e|⟨j,hj,e⟩
  ·rw[e];exact ho
  ·rw[e];intro c;cases c;omega
 own:=by
  rcases k.own with e|⟨j,hj,e⟩
  ·rcases h.own with e'|⟨j,hj,e'⟩
   ·exact .inl (e.trans e')
   ·exact .inr ⟨j,hj,e.trans e'⟩
  ·exact .inr ⟨j,Nat.le_trans h.size hj,e⟩
theorem vA {w w':World}{b:Nat}(h:w'.heap[b]? =w.heap[b]?):own w' b=own w b:=by simp [own,h]
theorem PFr.of_below {b:Nat}{w w':World}(h:Below w.heap.size w w')(hb:b<w.heap.size):PFr b w w':=
 ⟨h.os,h.tape,h.output,h.size,fun k hk _ _=>h.block k hk,.inl (vA (h.block b hb))⟩
theorem Bv.lt {w:World}{b:Nat}{bs:Bs}{t:Int}(h:Bv w b bs t):b<w.heap.size:=by
 obtain⟨p,v,hb,_⟩:=h;rcases Nat.lt_or_ge b w.heap.size with h'|h'
 ·exact h'
 ·simp [Array.getElem?_eq_none h']at hb
theorem Bv.own_gt {w:World}{b:Nat}{bs:Bs}{t:Int}(h:Bv w b bs t){k:Nat}(ho:own w b=some k):b<k∧k<w.heap.size:=by
 obtain⟨p,v,hb,_,hown⟩:=h;have:v.ownBlock=some k:=by simpa [own,hb]using ho
 have:=hown.lt k this;omega
theorem PFr.below {w w':World}{b:Nat}{bs:Bs}{t:Int}(h:PFr b w w')(hp:Bv w b bs t):Below b w w':=
 ⟨h.os,h.tape,h.output,h.size,fun k hk=>h.block k (by have:=hp.lt;omega) (by omega) (fun e=>by have:=hp.own_gt e;omega)⟩
theorem Bv.old {w w':World}{b:Nat}{bs:Bs}{t:Int}(hp:Bv w b bs t)(h:Below w.heap.size w w'):Bv w' b bs t:=by
 obtain⟨p,v,hb,hq,hown⟩:=hp;have hlt:b<w.heap.size:=Bv.lt ⟨p,v,hb,hq,hown⟩;refine⟨p,v,(h.block b hlt).trans hb,hq,hown.1,?_⟩;rcases hown.2 with e|⟨g,cap,cur,hv,hg,hh,r⟩
 ·exact .inl e
 ·refine .inr ⟨g,cap,cur,hv,hg,?_,r⟩
  have hl:g<w.heap.size:=by
   rcases Nat.lt_or_ge g w.heap.size with h'|h'
   ·exact h'
   ·simp [Array.getElem?_eq_none h']at hh
  exact(h.block g hl).trans hh
def Loc(w:World)(b X:Nat)(cs:List Value):Prop:=X≠b∧own w b≠some X∧X<w.heap.size∧Fc w X 0 cs
theorem Loc.step {w w':World}{b X:Nat}{cs:List Value}(h:Loc w b X cs)(hf:PFr b w w'):Loc w' b X cs:=by
 obtain⟨h1,h2,h3,h4⟩:=h;refine⟨h1,?_,Nat.lt_of_lt_of_le h3 hf.size,fun i hi=>?_⟩
 ·rcases hf.own with e|⟨j,hj,e⟩
  ·rw[e];exact h2
  ·rw[e];intro c;cases c;omega
 ·rw[World.cell?_of_block (w:=w) (hf.block X h3 h1 h2)];exact h4 i hi
theorem Loc.new {w:World}{b:Nat}{bs:Bs}{t:Int}(hp:Bv w b bs t)(cs:List Value)(T:TypeId):Loc (w.alloc (.cells cs.toArray T)) b w.heap.size cs:=by
 refine⟨by have:=hp.lt;omega,?_,by simp,fun i hi=>by simp⟩;rw[vA (Below.heap_alloc w _ b hp.lt)];intro e;have:=(hp.own_gt e).2;omega
theorem Loc.cell {w:World}{b X:Nat}{cs:List Value}(h:Loc w b X cs)(i:Nat)(hi:i<cs.length):w.cell? ⟨X,i,none⟩=some cs[i]:=by
 have:=h.2.2.2 i hi;simpa using this
theorem PFr.keeps {w w':World}{b:Nat}{bs:Bs}{t:Int}(h:PFr b w w')(hp:Bv w b bs t):Ed (· <b) w w':=
 fun k off x hk hx=>by rw[(h.below hp).cell (p:=⟨k,off,none⟩) hk];exact hx
theorem infoByte:(Tryz.prog.info? 5).map (fun i=>(i.zero,i.size,i.bytes))=some (some (.int .u8 0),1,1):=by kernel_rfl
theorem Uu:(Tryz.prog.info? 79).map (fun i=>i.size)=some 2:=by kernel_rfl
theorem liesBuilder:liesAt Zb Tryz.prog.depth 81 (3 / Tryz.prog.cellsOf 81) 0 79 1=true:=by kernel_rfl
theorem Yc(b:Nat)(w:World)(h0:w.cell? ⟨b,0,none⟩=some (.pointer (some ⟨b,0,none⟩))):
  Calls Zb 186 #[.pointer (some ⟨b,0,none⟩)] w fun e w'=>e=.returned (.tuple #[])∧w=w':=by
 obtain⟨j,hj,_⟩:=Option.map_eq_some_iff.1 Uu;go_enter func186,ntmps186
 go_wp2_with fail
 rw[Lib.run_neq_ptr_same w _ underlying76 hj];go_wp2_with fail
 go_end0
 exact⟨rfl,rfl⟩
theorem Vg(b:Nat)(w:World)(h0:w.cell? ⟨b,0,none⟩=some (.pointer none))(hsh:w.shape? b=some (81,3))(hfz:w.frozen? ⟨b,0,none⟩=false):
  Calls Zb 186 #[.pointer (some ⟨b,0,none⟩)] w fun e w'=>e=.returned (.tuple #[])∧w'=w.setCell ⟨b,0,none⟩ (.pointer (some ⟨b,0,none⟩)):=by
 obtain⟨j,hj,hjs⟩:=Option.map_eq_some_iff.1 Uu;go_enter func186,ntmps186
 go_wp2_with fail
 rw[Lib.run_to_unsafe w ⟨b,0,none⟩ underlying76 underlying208 hj (by rw[hjs];decide) hsh (Nat.zero_lt_succ 2)];simp only[Result.andThen];rw[Oper.upon_value];go_wp2_with fail
 rw[run_callFunc_extern func205 (by kernel_rfl) (by kernel_rfl) (by kernel_rfl) (e:=Extern.AbiNoEscape.same) (by kernel_rfl)];rw[Lib.run_noEscape];simp only[Result.andThen];rw[Oper.upon_value];go_wp2_with fail
 rw[Lib.run_from_unsafe w ⟨b,0,none⟩ underlying208 underlying76 hj hsh liesBuilder];simp only[Result.andThen];rw[Oper.upon_value];go_wp2_with fail
 go_end0
 exact⟨rfl,rfl⟩
def Kk(w:World)(b:Nat)(bs:Bs)(t:Int)(txt:Bs)(r:Ending)(w':World):Prop:=r=.returned (.tuple #[])∧Bv w' b (bs++txt) t∧PFr b w w'
theorem aI(b:Nat)(bs:Bs)(t:Int)(w:World)(h:Bv w b bs t):
  Calls Zb 186 #[.pointer (some ⟨b,0,none⟩)] w fun e w'=>e=.returned (.tuple #[])∧PFr b w w'∧
   ∃v,w'.heap[b]? =some (.cells #[.pointer (some ⟨b,0,none⟩),v,.int .i64 t] 81 (0,0))∧w'.ownsRow (b+1) 5 1 v bs.length (Zf bs):=by
 have hlt:=h.lt;obtain⟨p,v,hb,hq,hown⟩:=h;rcases hq with rfl|rfl
 ·refine(Vg b w (by rw[Zg hb];rfl) (by simp [World.shape?,hb]) (Lib.frozen_of_heap hb 0)).mono ?_
  rintro e w' ⟨rfl,rfl⟩;have hb':(w.setCell ⟨b,0,none⟩ (.pointer (some ⟨b,0,none⟩))).heap[b]? =some (.cells #[.pointer (some ⟨b,0,none⟩),v,.int .i64 t] 81 (0,0)):=by
   simp [Zj,Array.getElem?_modify,hb]
  refine⟨rfl,⟨rfl,rfl,rfl,by simp [Zj],fun k _ hk _=>Zo _ _ _ _ hk,.inl (by simp [own,hb,hb'])⟩,v,hb',?_⟩;refine hown.kept (row:=some b) ⟨rfl,rfl,rfl,by simp [Zj],fun k _ hk=>Zo _ _ _ _ (fun e=>hk (by simp [e]))⟩ (Or.inr ?_);intro e;have:=hown.lt b e;omega
 ·refine(Yc b w (by rw[Zg hb];rfl)).mono ?_
  rintro e w' ⟨rfl,rfl⟩;exact⟨rfl,PFr.refl _ _,v,hb,hown⟩
theorem kR(P:Program)(w:World)(base:Nat)(t u ty e:TypeId)(i:TypeInfo)(ht:P.underlying t=some (.slice e))(hu:P.underlying u=some .string)(hi:P.info? e=some i)(hz:i.zero=some (.int .u8 0))
  (hsize:i.size=1) (hby:i.bytes=1) (v:Value) (n:Nat) (xs:List Value) (hown:w.ownsRow base e 1 v n xs) (s:ByteArray)
  (h63:n+s.size≤maxLen) (hbytes:n+s.size≤140737488355328) (hbase:base≤w.heap.size):
  ∃v' w',(Builtin.append_ #[t,u] ty #[v,.string s]).run P w=.ok v' w'∧w'.ownsRow base e 1 v' (n+s.size) (xs++Lib.strCells s)∧w.grownBy w' v.ownBlock∧
   (v'.ownBlock=v.ownBlock∨∃k,w.heap.size≤k∧v'.ownBlock=some k):=by
 obtain⟨v',w',hr,h2,h3,h4⟩:=Lib.run_append_own_string (P:=P) w base t u ty e i ht hu hi hz hsize hby v n xs hown s h63 hbytes hbase;refine⟨v',w',hr,h2,h3,?_⟩;have h63':n+s.size≤9223372036854775807:=by simp only[maxLen]at h63;omega
 rcases hown.2 with⟨rfl,rfl⟩|⟨g,cap,cur,rfl,hbg,hg,hnc,hcm,hcs,htake⟩
 ·by_cases hm:s.size=0
  ·rw[h4.2 ⟨rfl,hm⟩];exact .inl rfl
  ·have hq:=run_append_nil_string (P:=P) w t u ty e i (.int .u8 0) ht hu hi hz s (by omega) (by omega) (by rw[hby];omega)
   rw[hr]at hq
   cases hq
   exact .inr ⟨w.heap.size,Nat.le_refl _,rfl⟩
 ·by_cases hroom:n+s.size≤cap
  ·have hcs':cur.size=cap:=by simpa using hcs
   have hq:=Lib.run_append_room_string (P:=P) w t u ty e i ht hu hi hsize g n cap cur hg s hroom (by omega);rw[hr]at hq
   cases hq
   exact .inl rfl
  ·have hxl:xs.length=n:=by simpa using hown.1
   have holds:∀j u,xs[j]? =some u→w.cell? ((⟨g,0,none⟩:Addr).add j)=some u:=hown.cells (g:=g) rfl;have hq:=Lib.run_append_grow_string (P:=P) w t u ty e i (.int .u8 0) ht hu hi hz ⟨g,0,none⟩ n cap xs (by rw[hsize];simpa using hxl) holds s (by omega) (by omega) (by rw[hby];exact growslice_fits (by omega) (by omega));rw[hr]at hq
   cases hq
   exact .inr ⟨w.heap.size,Nat.le_refl _,rfl⟩
theorem So {P:Program}{w:World}{ops:Array Oper}{rest:List Oper}{o:Oper}{a:Act}{Q:Exit→Act→World→Prop}(hgd:o.guard=none)(sl x:Operand)(t u:TypeId)
  (ho:o.op=.call {callee:=.builtin .append,args:= #[sl,x],argTypes:= #[t,u]})
  (base:Nat) (e:TypeId) (i:TypeInfo) (ht:P.underlying t=some (.slice e)) (hu:P.underlying u=some .string) (hi:P.info? e=some i) (hz:i.zero=some (.int .u8 0))
  (hsize:i.size=1) (hby:i.bytes=1)
  (v:Value) (n:Nat) (xs:List Value) (hs:a.eval sl=v) (hown:w.ownsRow base e 1 v n xs) (s:ByteArray) (hx:a.eval x=.string s)
  (h63:n+s.size≤maxLen) (hbytes:n+s.size≤140737488355328) (hbase:base≤w.heap.size)
  (h:∀v' w',w'.ownsRow base e 1 v' (n+s.size) (xs++Lib.strCells s)→w.grownBy w' v.ownBlock→(v'.ownBlock=v.ownBlock∨∃k,w.heap.size≤k∧v'.ownBlock=some k)→wpList P ops Q rest (a.put o.dst v') w'):wpList P ops Q (o::rest) a w:=by
 refine wpList_plain hgd fun K hK=>?_
 obtain⟨v',w',hr,h2,h3,h4⟩:=kR P w base t u o.type e i ht hu hi hz hsize hby v n xs hown s h63 hbytes hbase;unfold Oper.wp execOp;simp only[ho,resolve,invoke,builtin,Sem.run_bind,Sem.run_pure,Result.andThen_ok,List.map_toArray,List.map_cons,List.map_nil,hs,hx,hr];exact hK _ _ (h v' w' h2 h3 h4)
theorem Xg(s:Bs):Lib.strCells (Aa s)=Zf s:=by simp [Lib.strCells,Zf]
theorem aC(a c:Bs):Zf a++Zf c=Zf (a++c):=by simp [Zf]
theorem Vj(s:Bs)(b:Nat)(bs:Bs)(t:Int)(w:World)(h:Bv w b bs t)(hlen:Ct (bs.length+s.length)):
  Calls Zb 129 #[.pointer (some ⟨b,0,none⟩),.string (Aa s)] w fun e w'=>e=.returned (.tuple #[.int .i64 s.length,.nilIface])∧Bv w' b (bs++s) t∧PFr b w w':=by
 obtain⟨i0,hi,hz0,hz1,hz2⟩:=info_parts infoByte;have hlt:=h.lt;have HL:Hid (bs.length+s.length≤140737488355328):=hlen;clear hlen;go_enter func129,ntmps129
 go_wp2_with fail
 refine(aI b bs t _ h).mono ?_;rintro e w1 ⟨rfl,hf1,v,hbk,hown⟩;have HF1:=Za hf1;have hs1:=hf1.size;clear hf1 h;have c0:w1.cell? ⟨b,0,none⟩=some (.pointer (some ⟨b,0,none⟩)):=by rw[Zg hbk];rfl
 have c1:w1.cell? ⟨b,1,none⟩=some v:=by rw[Zg hbk];rfl
 go_wp2_with (at_builtin;refine So (P:=Zb) rfl _ _ 77 9 rfl (b+1) 5 i0 underlying77 underlying9 hi hz0 hz1 hz2 _ _ _ rfl hown (Aa s) rfl ?c3 ?c4 ?c5 ?_)
 case c3=>have:=HL.o;unfold maxLen;show bs.length+s.length≤_;omega
 case c4=>exact HL.o
 case c5=>omega
 intro v' w2 hown' hgrow hwhere;have hlt1:b<w1.heap.size:=by omega
 have hb2:w2.heap[b]? =some (.cells #[.pointer (some ⟨b,0,none⟩),v,.int .i64 t] 81 (0,0)):=by
  rw[hgrow.block b hlt1 (fun e=>by have:=hown.lt b e.symm;omega)];exact hbk
 have d0:w2.cell? ⟨b,0,none⟩=some (.pointer (some ⟨b,0,none⟩)):=by rw[Zg hb2];rfl
 have d1:w2.cell? ⟨b,1,none⟩=some v:=by rw[Zg hb2];rfl
 have f1:w2.frozen? ⟨b,1,none⟩=false:=Lib.frozen_of_heap hb2 1;obtain⟨ao,n',cap,rfl⟩:∃ao n' cap,v'=.slice ao n' cap:=by
  rcases hown'.2 with⟨hv,_⟩|⟨g,cap,cur,hv,_⟩
  ·exact⟨_,_,_,hv⟩
  ·exact⟨_,_,_,hv⟩
 have HBK:=Za hbk;have HB2:=Za hb2;have HOWN:=Za hown;have HOWN':=Za hown';have HG:=Za hgrow;have HW:=Za hwhere;clear hbk hb2 hown hown' hgrow hwhere;go_wp2_with fail
 go_ret2
 have hb3:(w2.setCell ⟨b,1,none⟩ (.slice ao n' cap)).heap[b]? =some (.cells #[.pointer (some ⟨b,0,none⟩),.slice ao n' cap,.int .i64 t] 81 (0,0)):=by
  simp [Zj,Array.getElem?_modify,HB2.o]
 have own1:own w1 b=v.ownBlock:=by simp [own,HBK.o]
 have own3:own (w2.setCell ⟨b,1,none⟩ (.slice ao n' cap)) b=(Value.slice ao n' cap).ownBlock:=by simp [own,hb3]
 refine⟨rfl,⟨_,_,hb3,.inr rfl,?_⟩,HF1.o.trans ⟨?_,?_,?_,?_,?_,?_⟩⟩
 ·have q:=HOWN'.o
  rw[Xg,aC]at q;rw[show(bs++s).length=bs.length+(Aa s).size from by simp;rfl];refine q.kept (row:=some b) ⟨rfl,rfl,rfl,by simp [Zj],fun k _ hk=>Zo _ _ _ _ (fun e=>hk (by simp [e]))⟩ (Or.inr ?_);intro e;have:=q.lt b e;omega
 ·exact HG.o.os
 ·exact HG.o.tape
 ·exact HG.o.output
 ·have:=HG.o.size;simp [Zj];omega
 ·intro k hk hkb hko
  rw[Zo _ _ _ _ (by simpa using hkb)];exact HG.o.block k hk (fun e=>hko (by rw[own1];exact e.symm))
 ·rw[own3,own1];exact HW.o
theorem Bv.alloc {w:World}{b:Nat}{bs:Bs}{t:Int}(h:Bv w b bs t)(o:Obj):Bv (w.alloc o) b bs t:=h.old (bA)
theorem PFr.alloc {w:World}{b:Nat}{bs:Bs}{t:Int}(h:Bv w b bs t)(o:Obj):PFr b w (w.alloc o):=PFr.of_below (bA) h.lt
theorem eL(ws:List Bs)(X cap b:Nat)(bs:Bs)(t:Int)(w:World)(hp:Bv w b bs t)(hl:Loc w b X (ws.map fun s=>.string (Aa s)))(hf:Ct (bs.length+ws.flatten.length))(hn:ws.length≤1000):
  Calls Zb 72 #[.pointer (some ⟨b,0,none⟩),.slice (some ⟨X,0,none⟩) ws.length cap] w (Kk w b bs t ws.flatten):=by
 have HP:=Za hp;have HL:=Za hl;have HF:=Za hf;clear hp hl hf;go_enter func72,ntmps72
 go_wp2_with fail
 go_loopw [5,8] (fun _ s8 wr=> ∃k:Nat,k≤ws.length∧s8=.int .i64 k∧Bv wr b (bs++(ws.take k).flatten) t∧PFr b w wr) (fun _ s8 _=>ws.length-(intOf s8).toNat)
 case atStart=>exact⟨0,Nat.zero_le _,rfl,by simpa using HP.o,PFr.refl _ _⟩
 case round=>
  obtain⟨k,hk,rfl,hp,hfr⟩:=hrel;have HPK:=Za hp;have HFR:=Za hfr;have hbl:=hp.lt;have HLK:=Za (HL.o.step hfr);clear hp hfr
  by_cases hlt:k<ws.length
  ·have c:=HLK.o.cell k (by simpa using hlt)
   have ec:(ws.map fun s=>Value.string (Aa s))[k]'(by simpa using hlt)=.string (Aa (ws.getD k [])):=by simp [Zk hlt]
   rw[ec]at c;have hsp:Hid ((ws.take (k+1)).flatten=(ws.take k).flatten++ws.getD k []):=by
    show _=_
    rw[Zl hlt];simp only[List.flatten_append,List.flatten_cons,List.flatten_nil,List.append_nil,List.getD_eq_getElem?_getD,Zk hlt,Option.getD_some]
   have hfit:Hid (Ct ((bs++(ws.take k).flatten).length+(ws.getD k []).length)):=by
    refine HF.o.mono ?_;have e:ws.flatten=(ws.take (k+1)).flatten++(ws.drop (k+1)).flatten:=by rw[←List.flatten_append,Zn]
    rw[e,hsp.out];simp;omega
   clear ec;generalize ws.getD k []=s at c hsp hfit;go_wp2_with fail
   refine(Vj s b _ t _ HPK.o hfit.out).mono ?_;rintro r w3 ⟨rfl,hp3,hf3⟩;have HP3:=Za hp3;have HF3:=Za hf3;clear hp3 hf3;go_wp2_with fail
   go_roundw
   case rel=>exact⟨k+1,by omega,by go_num,by rw[hsp.out,←List.append_assoc];exact HP3.o,HFR.o.trans HF3.o⟩
   case measure=>simp [intOf];omega
  ·go_wp2_with fail
   go_end0
   exact⟨rfl,by have e:ws.take k=ws:=List.take_of_length_le (by omega);have q:=HPK.o;rwa[e]at q,HFR.o⟩
theorem Sk(s:Bs)(T:TypeId)(X b:Nat)(bs:Bs)(t:Int)(w:World)(hX:X=w.heap.size)(hp:Bv w b bs t)(hf:Ct (bs.length+s.length)):
  Calls Zb 72 #[.pointer (some ⟨b,0,none⟩),.slice (some ⟨X,0,none⟩) 1 1] (w.alloc (.cells #[.string (Aa s)] T)) (Kk w b bs t s):=by
 subst hX;refine(eL [s] w.heap.size 1 b bs t _ (hp.alloc _) (Loc.new hp [.string (Aa s)] T) (by simpa using hf) (by simp)).mono ?_;rintro r w' ⟨rfl,h2,h3⟩;exact⟨rfl,by simpa using h2,(PFr.alloc hp _).trans h3⟩
theorem put2(s1 s2:Bs)(T:TypeId)(X b:Nat)(bs:Bs)(t:Int)(w:World)(hX:X=w.heap.size)(hp:Bv w b bs t)(hf:Ct (bs.length+(s1++s2).length)):
  Calls Zb 72 #[.pointer (some ⟨b,0,none⟩),.slice (some ⟨X,0,none⟩) 2 2] (w.alloc (.cells #[.string (Aa s1),.string (Aa s2)] T)) (Kk w b bs t (s1++s2)):=by
 subst hX;refine(eL [s1,s2] w.heap.size 2 b bs t _ (hp.alloc _) (Loc.new hp [.string (Aa s1),.string (Aa s2)] T) (by simpa using hf) (by simp)).mono ?_;rintro r w' ⟨rfl,h2,h3⟩;exact⟨rfl,by simpa using h2,(PFr.alloc hp _).trans h3⟩
theorem put3(s1 s2 s3:Bs)(T:TypeId)(X b:Nat)(bs:Bs)(t:Int)(w:World)(hX:X=w.heap.size)(hp:Bv w b bs t)(hf:Ct (bs.length+(s1++(s2++s3)).length)):
  Calls Zb 72 #[.pointer (some ⟨b,0,none⟩),.slice (some ⟨X,0,none⟩) 3 3] (w.alloc (.cells #[.string (Aa s1),.string (Aa s2),.string (Aa s3)] T)) (Kk w b bs t (s1++(s2++s3))):=by
 subst hX;refine(eL [s1,s2,s3] w.heap.size 3 b bs t _ (hp.alloc _) (Loc.new hp [.string (Aa s1),.string (Aa s2),.string (Aa s3)] T) (by simpa using hf) (by simp)).mono ?_;rintro r w' ⟨rfl,h2,h3⟩;exact⟨rfl,by simpa using h2,(PFr.alloc hp _).trans h3⟩
def Ez(w:World):Prop:=Lib.TabIs Zb w "internal/strconv.uint64pow10" .u64 Lib.pow10Tab
theorem Ez.keep {w w':World}(h:Ez w)(hb:w'.heap[3]? =w.heap[3]?):Ez w':=by
 have hg:Tryz.prog.globalNamed "internal/strconv.uint64pow10" =some 3:=by kernel_rfl
 unfold Ez Lib.TabIs World.var? at*;simp only[hg,Option.bind_eq_bind,Option.bind_some]at*;rw[hb];exact h
theorem gD(n:Int)(h:I64 n)(w:World)(ht:Ez w):
  Calls Zb 35 #[.int .i64 n] w fun e w'=>e=.returned (.string (Aa (Lib.itoa n)))∧Below w.heap.size w w':=by
 refine(Tryz.strconv_Itoa n h.1 h.2 w ht).mono ?_;rintro e w' ⟨rfl,k,os,rfl⟩;exact⟨rfl,rfl,rfl,rfl,by simp,fun i hi=>by simp [Sort.grow,World.drewN,Array.getElem?_append_left hi]⟩
def Hb(e:Ex):Prop:= ∀(b:Nat) (bs:Bs) (t:Int) (s:Value) (w:World),3<b→Ez w→Bv w b bs t→Ag (· <b) w e.args s→I64 e.n→Cn e=true→Ct (bs.length+(Ak e).length)→
 Calls Zb 32 #[.pointer (some ⟨b,0,none⟩),exV e s] w (Kk w b bs t (Ak e))
theorem Ez.fr {w w':World}{b:Nat}{bs:Bs}{t:Int}(h:Ez w)(hf:PFr b w w')(hp:Bv w b bs t)(hb:3<b):Ez w':=h.keep ((hf.below hp).block _ hb)
theorem Wd(e:Ex)(ih:Hb e)(level:Int)(b:Nat)(bs:Bs)(t:Int)(s:Value)(w:World)(hb:3<b)(ht:Ez w)(hp:Bv w b bs t)(hs:Ag (· <b) w e.args s)(hn:I64 e.n)(hw:Cn e=true)(hf:Ct (bs.length+(Em e level).length)):
  Calls Zb 73 #[.pointer (some ⟨b,0,none⟩),exV e s,.int .i64 level] w (Kk w b bs t (Em e level)):=by
 have IH:=Za ih;have HT:=Za ht;have HP:=Za hp;have HN:=Za hn;have HW:=Za hw;have HF:=Za hf;obtain⟨sa,sc,rfl⟩:=hs.shape;have HS:=Za hs;clear ih ht hs hn hw hf;have hlt:=hp.lt;have hp1:=Za (hp.alloc (.cells #[.int .i64 e.kind,.int .i64 e.op,.int .i64 e.n,.string (Aa e.name),.slice sa e.args.length sc] 27));have hf1:=Za (PFr.alloc hp (.cells #[.int .i64 e.kind,.int .i64 e.op,.int .i64 e.n,.string (Aa e.name),.slice sa e.args.length sc] 27));have hl1:=Za (Loc.new hp [.int .i64 e.kind,.int .i64 e.op,.int .i64 e.n,.string (Aa e.name),.slice sa e.args.length sc] 27);clear hp
 by_cases h4:e.kind=4
 ·have k4:(e.kind==4)=true:=by simpa using h4
  by_cases hl:Al e.op<level
  ·have E:Hid (Em e level=[40]++(Ak e++[41])):=by show _=_;simp [Em,Fx,h4,hl]
   rw[E.out]at HF ⊢;clear h4;go_enter func73,ntmps73
   go_wp2_with fail
   refine(Km e.op _).mono ?_;rintro r w2 ⟨rfl,hb2⟩;have hf2:=PFr.of_below hb2 hp1.out.lt;have HP2:=Za (hp1.out.old hb2);have HF2:=Za (hf1.out.trans hf2);have HL2:=Za (hl1.out.step hf2);clear hb2 hf2 hp1 hf1 hl1;go_wp2_with fail
   refine(Sk [40] _ _ b bs t w2 rfl HP2.o (HF.o.mono (by simp))).mono ?_;rintro r w3 ⟨rfl,hp3,hf3⟩;have HP3:=Za hp3;have HF3:=Za (HF2.o.trans hf3);have HL3:=Za (HL2.o.step hf3);clear hp3 hf3 HP2 HF2 HL2;have c0:=HL3.o.cell 0 (by simp);have c1:=HL3.o.cell 1 (by simp);have c2:=HL3.o.cell 2 (by simp);have c3:=HL3.o.cell 3 (by simp);have c4:=HL3.o.cell 4 (by simp);simp only[Zc,Zd]at c0 c1 c2 c3 c4;go_wp2_with fail
   refine(IH.out b (bs++[40]) t _ w3 hb (HT.o.fr HF3.o HP.o hb) HP3.o (HS.o.keep (HF3.o.keeps HP.o)) HN.o HW.o (HF.o.mono (by simp;omega))).mono ?_;rintro r w4 ⟨rfl,hp4,hf4⟩;have HP4:=Za hp4;have HF4:=Za (HF3.o.trans hf4);clear hp4 hf4 c0 c1 c2 c3 c4;go_wp2_with fail
   refine(Sk [41] _ _ b _ t w4 rfl HP4.o (HF.o.mono (by simp;omega))).mono ?_;rintro r w5 ⟨rfl,hp5,hf5⟩;go_wp2_with fail
   go_end0
   exact⟨rfl,by simpa using hp5,HF4.o.trans hf5⟩
  ·have hl':level≤Al e.op:=by omega
   have E:Hid (Em e level=Ak e):=by show _=_;simp [Em,Fx,hl]
   rw[E.out]at HF ⊢;clear h4;go_enter func73,ntmps73
   go_wp2_with fail
   refine(Km e.op _).mono ?_;rintro r w2 ⟨rfl,hb2⟩;have hf2:=PFr.of_below hb2 hp1.out.lt;have HP2:=Za (hp1.out.old hb2);have HF2:=Za (hf1.out.trans hf2);have HL2:=Za (hl1.out.step hf2);clear hb2 hf2 hp1 hf1 hl1;have c0:=HL2.o.cell 0 (by simp);have c1:=HL2.o.cell 1 (by simp);have c2:=HL2.o.cell 2 (by simp);have c3:=HL2.o.cell 3 (by simp);have c4:=HL2.o.cell 4 (by simp);simp only[Zc,Zd]at c0 c1 c2 c3 c4;go_wp2_with fail
   refine(IH.out b bs t _ w2 hb (HT.o.fr HF2.o HP.o hb) HP2.o (HS.o.keep (HF2.o.keeps HP.o)) HN.o HW.o HF.o).mono ?_;rintro r w4 ⟨rfl,hp4,hf4⟩;have HP4:=Za hp4;have HF4:=Za (HF2.o.trans hf4);clear hp4 hf4 c0 c1 c2 c3 c4;go_wp2_with fail
   go_end0
   exact⟨rfl,HP4.o,HF4.o⟩
 ·have k4:(e.kind==4)=false:=by simpa using h4
  have E:Hid (Em e level=Ak e):=by show _=_;simp [Em,Fx,h4]
  rw[E.out]at HF ⊢;clear h4;go_enter func73,ntmps73
  go_wp2_with fail
  refine(IH.out b bs t _ _ hb (HT.o.fr hf1.out HP.o hb) hp1.out (HS.o.keep (hf1.out.keeps HP.o)) HN.o HW.o HF.o).mono ?_;rintro r w4 ⟨rfl,hp4,hf4⟩;have HP4:=Za hp4;have HF4:=Za (hf1.out.trans hf4);clear hp4 hf4;go_wp2_with fail
  go_end0
  exact⟨rfl,HP4.o,HF4.o⟩
theorem lE(a c:List Bs):(Bo a).length≤(Bo (a++c)).length:=by
 cases a with
 |nil=>simp [Bo]
 |cons x l=>simp [Bo]
theorem Nz(ts:List Bs)(k:Nat):(Bo (ts.take k)).length≤(Bo ts).length:=by
 have:=lE (ts.take k) (ts.drop k)
 rwa[Zn]at this
theorem Yu(l:List Ex)(k:Nat)(h:k<l.length):(l.take (k+1)).map Ak=(l.take k).map Ak++[Ak (Bx l k)]:=by
 rw[Zl h,List.map_append,List.map_cons,List.map_nil,fU h]
theorem sD(l:List Ex)(ih:∀x,x∈l→Hb x)(b:Nat)(bs:Bs)(t:Int)(s:Value)(w:World)(hb:3<b)(ht:Ez w)(hp:Bv w b bs t)(hs:Ag (· <b) w l s)(hw:∀x,x∈l→Cn x=true)(hf:Ct (bs.length+(Bo (l.map Ak)).length)):
  Calls Zb 75 #[.pointer (some ⟨b,0,none⟩),s,.func (.func 32) #[.pointer (some ⟨b,0,none⟩)] #[]] w (Kk w b bs t (Bo (l.map Ak))):=by
 have IH:=Za ih;have HT:=Za ht;have HP:=Za hp;have HW:=Za hw;have HF:=Za hf;obtain⟨sa,sc,rfl⟩:=hs.shape;have hl63:=hs.fits.lt;have HS:=Za hs;clear ih ht hs hw hf hp;go_enter func75,ntmps75
 go_wp2_with fail
 go_loopw [6,7,10] (fun _ _ s10 wr=> ∃k:Nat,k≤l.length∧s10=.int .i64 k∧Bv wr b (bs++Bo ((l.take k).map Ak)) t∧PFr b w wr) (fun _ _ s10 _=>l.length-(intOf s10).toNat)
 case atStart=>exact⟨0,Nat.zero_le _,rfl,by simpa [Bo]using HP.o,PFr.refl _ _⟩
 case round=>
  obtain⟨k,hk,rfl,hpk,hfr⟩:=hrel;have HPK:=Za hpk;have HFR:=Za hfr;have hbl:=hpk.lt;clear hpk hfr
  by_cases hlt:k<l.length
  ·obtain⟨eb,off,es,rfl,hD,c0,c1,c2,c3,c4,hes,hn⟩:=(HS.o.keep (HFR.o.keeps HP.o)).cellAt k hlt
   obtain⟨ea,ec,rfl⟩:=hes.shape;have HES:=Za hes;have HN:=Za hn;have IHX:=Za (IH.out _ (Cz hlt));have HWX:=Za (HW.o _ (Cz hlt));have hmap:=Za (Yu l k hlt);have hle:=Za (Nz (l.map Ak) (k+1));rw[←List.map_take,hmap.out,Lj]at hle;clear hes hn hD;generalize Bx l k=e at c0 c1 c2 c3 c4 HES HN IHX HWX hmap hle;have hp1:=Za (HPK.o.alloc (.cells #[.int .i64 e.kind,.int .i64 e.op,.int .i64 e.n,.string (Aa e.name),.slice ea e.args.length ec] 27));have hf1:=Za (HFR.o.trans (PFr.alloc HPK.o (.cells #[.int .i64 e.kind,.int .i64 e.op,.int .i64 e.n,.string (Aa e.name),.slice ea e.args.length ec] 27)));have hl1:=Za (Loc.new HPK.o [.int .i64 e.kind,.int .i64 e.op,.int .i64 e.n,.string (Aa e.name),.slice ea e.args.length ec] 27);have hebl:eb<wr.heap.size:=World.block_lt_of_cell? _ _ c0
   by_cases hk0:k=0
   ·have hk0':(k:Int)≤0:=by omega
    have hnil:(l.take k).map Ak=[]:=by rw[hk0];simp
    rw[if_pos hnil]at hle;have HK0:=Za hk0;have HNIL:=Za hnil;have hle':Hid (Ct ((bs++Bo ((l.take k).map Ak)).length+(Ak e).length)):=HF.o.mono (by have:=hle.out;rw[HNIL.o];simp [Bo];exact this);have hnext:Hid (Bo ((l.take (k+1)).map Ak)=Bo ((l.take k).map Ak)++Ak e):=by show _=_;rw[hmap.out,HNIL.o];simp [Bo]
    clear hk0 hnil;go_wp2_with fail
    refine(IHX.out b _ t _ _ hb (HT.o.fr hf1.out HP.o hb) hp1.out (HES.o.keep ((PFr.alloc HPK.o _).keeps HPK.o)) HN.o HWX.o hle'.out).mono ?_;rintro r w3 ⟨rfl,hp3,hf3⟩;have HP3:=Za hp3;have HF3:=Za (hf1.out.trans hf3);clear hp3 hf3 c0 c1 c2 c3 c4;go_wp2_with fail
    go_roundw
    case rel=>exact⟨k+1,by omega,by go_num,by have q:=HP3.o;rw[hnext.out];simpa using q,HF3.o⟩
    case measure=>simp [intOf];omega
   ·have hk1:(0:Int)<k:=by omega
    have hne:Hid ((l.take k).map Ak≠[]):=by
     intro h;rw[List.map_eq_nil_iff,List.take_eq_nil_iff]at h;rcases h with h|h
     ·exact hk0 h
     ·rw[h]at hlt;simp at hlt
    have hle2:Hid (Ct ((bs++Bo ((l.take k).map Ak)).length+([44,32]:Bs).length+(Ak e).length)):=HF.o.mono (by have:=hle.out;rw[if_neg hne.out]at this;simp at this;simp;omega);have hnext:Hid (Bo ((l.take (k+1)).map Ak)=Bo ((l.take k).map Ak)++[44,32]++Ak e):=by show _=_;rw[hmap.out,Lj,if_neg hne.out]
    clear hk0;go_wp2_with fail
    refine(Sk [44,32] _ _ b _ t _ (by simp) hp1.out (hle2.out.mono (by omega))).mono ?_;rintro r w2 ⟨rfl,hp2,hf2⟩;have HP2:=Za hp2;have HF2:=Za (hf1.out.trans hf2);have HL2:=Za (hl1.out.step hf2);have HES2:=Za (HES.o.keep (((PFr.alloc HPK.o _).trans hf2).keeps HPK.o));clear hp2 hf2 c0 c1 c2 c3 c4;have c0:=HL2.o.cell 0 (by simp);have c1:=HL2.o.cell 1 (by simp);have c2:=HL2.o.cell 2 (by simp);have c3:=HL2.o.cell 3 (by simp);have c4:=HL2.o.cell 4 (by simp);simp only[Zc,Zd]at c0 c1 c2 c3 c4;go_wp2_with fail
    refine(IHX.out b _ t _ _ hb (HT.o.fr HF2.o HP.o hb) HP2.o HES2.o HN.o HWX.o (hle2.out.mono (by simp;omega))).mono ?_;rintro r w3 ⟨rfl,hp3,hf3⟩;have HP3:=Za hp3;have HF3:=Za (HF2.o.trans hf3);clear hp3 hf3 c0 c1 c2 c3 c4;go_wp2_with fail
    go_roundw
    case rel=>exact⟨k+1,by omega,by go_num,by have q:=HP3.o;rw[hnext.out];simpa using q,HF3.o⟩
    case measure=>simp [intOf];omega
  ·go_wp2_with fail
   go_end0
   exact⟨rfl,by have e:l.take k=l:=List.take_of_length_le (by omega);have q:=HPK.o;rwa[e]at q,HFR.o⟩
theorem Cq {e:Ex}(h:Cn e=true):Cy e=true∧∀x,x∈e.args→Cn x=true:=by
 rw[Ll,Bool.and_eq_true,List.all_eq_true]at h;exact h
theorem aJ(o:Int):0≤Al o∧Al o≤8:=by
 unfold Al;repeat' split
 all_goals omega
theorem eG {e:Ex}(h:Cy e=true):e.kind=1∨e.kind=2∨e.kind=3∨e.kind=4∨e.kind=5∨e.kind=6∨e.kind=7:=by
 have hk:Hn e=true:=by unfold Cy at h;simp only[Bool.and_eq_true]at h;exact h.1.1.1.1
 unfold Hn at hk
 by_cases h1:e.kind=1; · simp [h1]
 by_cases h2:e.kind=2; · simp [h2]
 by_cases h3:e.kind=3; · simp [h3]
 by_cases h4:e.kind=4; · simp [h4]
 by_cases h5:e.kind=5; · simp [h5]
 by_cases h6:e.kind=6; · simp [h6]
 simp [h1,h2,h3,h4,h5,h6]at hk;simp [hk]
theorem expr_1(o n:Int)(nm:Bs)(args:List Ex)(ih:∀x,x∈args→Hb x):Hb (.mk 1 o n nm args):=by
 intro b bs t s w hb ht hp hs hn hw hf;have hs:Ag (· <b) w args s:=hs;have hn:I64 n:=hn;have hwh:=(Cq hw).1;have hwa:∀x,x∈args→Cn x=true:=(Cq hw).2;obtain⟨sa,sc,rfl⟩:=hs.shape;have E:Hid (Ak (.mk 1 o n nm args)=Lib.itoa n):=by exact iY o n nm args
 rw[E.out]at hf ⊢;show Calls _ _ #[.pointer (some ⟨b,0,none⟩),.agg #[.int .i64 1,.int .i64 o,.int .i64 n,.string (Aa nm),.slice sa args.length sc]] _ _
 have IH:=Za ih;have HT:=Za ht;have HP:=Za hp;have HN:=Za hn;have HF:=Za hf;have HS:=Za hs;have HWA:=Za hwa;have hp1:=Za (hp.alloc (.cells #[.int .i64 1,.int .i64 o,.int .i64 n,.string (Aa nm),.slice sa args.length sc] 27));have hf1:=Za (PFr.alloc hp (.cells #[.int .i64 1,.int .i64 o,.int .i64 n,.string (Aa nm),.slice sa args.length sc] 27));have hl1:=Za (Loc.new hp [.int .i64 1,.int .i64 o,.int .i64 n,.string (Aa nm),.slice sa args.length sc] 27);clear ih ht hp hs hw hf hn hwh hwa;go_enter Zh,Zi
 go_wp2_with fail
 refine(Ee o _).mono ?_;rintro r w2 ⟨rfl,hb2⟩;have hf2:=PFr.of_below hb2 hp1.out.lt;have HP2:=Za (hp1.out.old hb2);have HF2:=Za (hf1.out.trans hf2);have HL2:=Za (hl1.out.step hf2);clear hb2 hf2 hp1 hf1 hl1;have c0:=HL2.o.cell 0 (by simp);have c1:=HL2.o.cell 1 (by simp);have c2:=HL2.o.cell 2 (by simp);have c3:=HL2.o.cell 3 (by simp);have c4:=HL2.o.cell 4 (by simp);simp only[Zc,Zd]at c0 c1 c2 c3 c4;go_wp2_with fail
 refine(gD n HN.o w2 (HT.o.fr HF2.o HP.o hb)).mono ?_;rintro r w3 ⟨rfl,hb3⟩;have hf3:=PFr.of_below hb3 HP2.o.lt;have HP3:=Za (HP2.o.old hb3);have HF3:=Za (HF2.o.trans hf3);have HL3:=Za (HL2.o.step hf3);clear hb3 hf3;go_wp2_with fail
 refine(Sk (Lib.itoa n) _ _ b _ t w3 rfl HP3.o (HF.o.mono (by simp;try omega))).mono ?_;rintro r w4 ⟨rfl,hp4,hf4⟩;have HP4:=Za hp4;have HF4:=Za (HF3.o.trans hf4);have HL4:=Za (HL3.o.step hf4);clear hp4 hf4 c0 c1 c2 c3 c4;go_wp2_with fail
 go_end0
 exact⟨rfl,by simpa using HP4.o,HF4.o⟩
theorem expr_2(o n:Int)(nm:Bs)(args:List Ex)(ih:∀x,x∈args→Hb x):Hb (.mk 2 o n nm args):=by
 intro b bs t s w hb ht hp hs hn hw hf;have hs:Ag (· <b) w args s:=hs;have hn:I64 n:=hn;have hwh:=(Cq hw).1;have hwa:∀x,x∈args→Cn x=true:=(Cq hw).2;obtain⟨sa,sc,rfl⟩:=hs.shape;have E:Hid (Ak (.mk 2 o n nm args)=nm):=by exact fC o n nm args
 rw[E.out]at hf ⊢;show Calls _ _ #[.pointer (some ⟨b,0,none⟩),.agg #[.int .i64 2,.int .i64 o,.int .i64 n,.string (Aa nm),.slice sa args.length sc]] _ _
 have IH:=Za ih;have HT:=Za ht;have HP:=Za hp;have HN:=Za hn;have HF:=Za hf;have HS:=Za hs;have HWA:=Za hwa;have hp1:=Za (hp.alloc (.cells #[.int .i64 2,.int .i64 o,.int .i64 n,.string (Aa nm),.slice sa args.length sc] 27));have hf1:=Za (PFr.alloc hp (.cells #[.int .i64 2,.int .i64 o,.int .i64 n,.string (Aa nm),.slice sa args.length sc] 27));have hl1:=Za (Loc.new hp [.int .i64 2,.int .i64 o,.int .i64 n,.string (Aa nm),.slice sa args.length sc] 27);clear ih ht hp hs hw hf hn hwh hwa;go_enter Zh,Zi
 go_wp2_with fail
 refine(Ee o _).mono ?_;rintro r w2 ⟨rfl,hb2⟩;have hf2:=PFr.of_below hb2 hp1.out.lt;have HP2:=Za (hp1.out.old hb2);have HF2:=Za (hf1.out.trans hf2);have HL2:=Za (hl1.out.step hf2);clear hb2 hf2 hp1 hf1 hl1;have c0:=HL2.o.cell 0 (by simp);have c1:=HL2.o.cell 1 (by simp);have c2:=HL2.o.cell 2 (by simp);have c3:=HL2.o.cell 3 (by simp);have c4:=HL2.o.cell 4 (by simp);simp only[Zc,Zd]at c0 c1 c2 c3 c4;go_wp2_with fail
 refine(Sk nm _ _ b _ t w2 rfl HP2.o (HF.o.mono (by simp;try omega))).mono ?_;rintro r w3 ⟨rfl,hp3,hf3⟩;have HP3:=Za hp3;have HF3:=Za (HF2.o.trans hf3);have HL3:=Za (HL2.o.step hf3);clear hp3 hf3 c0 c1 c2 c3 c4;go_wp2_with fail
 go_end0
 exact⟨rfl,by simpa using HP3.o,HF3.o⟩
theorem expr_7(o n:Int)(nm:Bs)(args:List Ex)(ih:∀x,x∈args→Hb x):Hb (.mk 7 o n nm args):=by
 intro b bs t s w hb ht hp hs hn hw hf;have hs:Ag (· <b) w args s:=hs;have hn:I64 n:=hn;have hwh:=(Cq hw).1;have hwa:∀x,x∈args→Cn x=true:=(Cq hw).2;obtain⟨sa,sc,rfl⟩:=hs.shape;have E:Hid (Ak (.mk 7 o n nm args)=[114,101,97,100,40,41]):=by exact eY o n nm args
 rw[E.out]at hf ⊢;show Calls _ _ #[.pointer (some ⟨b,0,none⟩),.agg #[.int .i64 7,.int .i64 o,.int .i64 n,.string (Aa nm),.slice sa args.length sc]] _ _
 have IH:=Za ih;have HT:=Za ht;have HP:=Za hp;have HN:=Za hn;have HF:=Za hf;have HS:=Za hs;have HWA:=Za hwa;have hp1:=Za (hp.alloc (.cells #[.int .i64 7,.int .i64 o,.int .i64 n,.string (Aa nm),.slice sa args.length sc] 27));have hf1:=Za (PFr.alloc hp (.cells #[.int .i64 7,.int .i64 o,.int .i64 n,.string (Aa nm),.slice sa args.length sc] 27));have hl1:=Za (Loc.new hp [.int .i64 7,.int .i64 o,.int .i64 n,.string (Aa nm),.slice sa args.length sc] 27);clear ih ht hp hs hw hf hn hwh hwa;go_enter Zh,Zi
 go_wp2_with fail
 refine(Ee o _).mono ?_;rintro r w2 ⟨rfl,hb2⟩;have hf2:=PFr.of_below hb2 hp1.out.lt;have HP2:=Za (hp1.out.old hb2);have HF2:=Za (hf1.out.trans hf2);have HL2:=Za (hl1.out.step hf2);clear hb2 hf2 hp1 hf1 hl1;have c0:=HL2.o.cell 0 (by simp);have c1:=HL2.o.cell 1 (by simp);have c2:=HL2.o.cell 2 (by simp);have c3:=HL2.o.cell 3 (by simp);have c4:=HL2.o.cell 4 (by simp);simp only[Zc,Zd]at c0 c1 c2 c3 c4;go_wp2_with fail
 refine(Sk [114,101,97,100,40,41] _ _ b _ t w2 rfl HP2.o (HF.o.mono (by simp;try omega))).mono ?_;rintro r w3 ⟨rfl,hp3,hf3⟩;have HP3:=Za hp3;have HF3:=Za (HF2.o.trans hf3);have HL3:=Za (HL2.o.step hf3);clear hp3 hf3 c0 c1 c2 c3 c4;go_wp2_with fail
 go_end0
 exact⟨rfl,by simpa using HP3.o,HF3.o⟩
theorem expr_3(o n:Int)(nm:Bs)(args:List Ex)(ih:∀x,x∈args→Hb x):Hb (.mk 3 o n nm args):=by
 intro b bs t s w hb ht hp hs hn hw hf;have hs:Ag (· <b) w args s:=hs;have hn:I64 n:=hn;have hwh:=(Cq hw).1;have hwa:∀x,x∈args→Cn x=true:=(Cq hw).2;obtain⟨sa,sc,rfl⟩:=hs.shape;have hlen:args.length=1:=by have q:=hwh;simp [Cy,Dm,Ex.kind,Ex.args]at q;omega
 have hl0:0<args.length:=by omega
 obtain⟨eb,off,_,rfl,_⟩:=hs.cellAt 0 (by omega);clear hlen;have E:Hid (Ak (.mk 3 o n nm args)=Aw o++Em (Bx args 0) 9):=by exact fM o n nm args hl0
 rw[E.out]at hf ⊢;show Calls _ _ #[.pointer (some ⟨b,0,none⟩),.agg #[.int .i64 3,.int .i64 o,.int .i64 n,.string (Aa nm),.slice (some ⟨eb,off,none⟩) args.length sc]] _ _
 have IH:=Za ih;have HT:=Za ht;have HP:=Za hp;have HN:=Za hn;have HF:=Za hf;have HS:=Za hs;have HWA:=Za hwa;have hp1:=Za (hp.alloc (.cells #[.int .i64 3,.int .i64 o,.int .i64 n,.string (Aa nm),.slice (some ⟨eb,off,none⟩) args.length sc] 27));have hf1:=Za (PFr.alloc hp (.cells #[.int .i64 3,.int .i64 o,.int .i64 n,.string (Aa nm),.slice (some ⟨eb,off,none⟩) args.length sc] 27));have hl1:=Za (Loc.new hp [.int .i64 3,.int .i64 o,.int .i64 n,.string (Aa nm),.slice (some ⟨eb,off,none⟩) args.length sc] 27);clear ih ht hp hs hw hf hn hwh hwa;go_enter Zh,Zi
 go_wp2_with fail
 refine(Ee o _).mono ?_;rintro r w2 ⟨rfl,hb2⟩;have hf2:=PFr.of_below hb2 hp1.out.lt;have HP2:=Za (hp1.out.old hb2);have HF2:=Za (hf1.out.trans hf2);have HL2:=Za (hl1.out.step hf2);clear hb2 hf2 hp1 hf1 hl1;have c0:=HL2.o.cell 0 (by simp);have c1:=HL2.o.cell 1 (by simp);have c2:=HL2.o.cell 2 (by simp);have c3:=HL2.o.cell 3 (by simp);have c4:=HL2.o.cell 4 (by simp);simp only[Zc,Zd]at c0 c1 c2 c3 c4;go_wp2_with fail
 refine(Sk (Aw o) _ _ b _ t w2 rfl HP2.o (HF.o.mono (by simp;try omega))).mono ?_;rintro r w3 ⟨rfl,hp3,hf3⟩;have HP3:=Za hp3;have HF3:=Za (HF2.o.trans hf3);have HL3:=Za (HL2.o.step hf3);clear hp3 hf3 c0 c1 c2 c3 c4;have c0:=HL3.o.cell 0 (by simp);have c1:=HL3.o.cell 1 (by simp);have c2:=HL3.o.cell 2 (by simp);have c3:=HL3.o.cell 3 (by simp);have c4:=HL3.o.cell 4 (by simp);simp only[Zc,Zd]at c0 c1 c2 c3 c4;obtain⟨eb',off',esa,heb,hDa,y0,y1,y2,y3,y4,hesa,hna⟩:=(HS.o.keep (HF3.o.keeps HP.o)).cellAt 0 (by omega);obtain⟨eaa,eca,rfl⟩:=hesa.shape;obtain⟨rfl,rfl⟩:eb=eb'∧off=off':=by cases heb;exact⟨rfl,rfl⟩
 have HESa:=Za hesa;have HNa:=Za hna;have IHXa:=Za (IH.out _ (Cz (i:=0) (by omega)));have HWXa:=Za (HWA.o _ (Cz (i:=0) (by omega)));clear heb hesa hna hDa;generalize hxa:Bx args 0=xa at y0 y1 y2 y3 y4 HESa HNa IHXa HWXa;have HXa:=Za hxa;clear hxa;have za0:w3.cell? ⟨eb,off,none⟩=some (.int .i64 xa.kind):=by simpa using y0
 have za1:w3.cell? ⟨eb,off+1,none⟩=some (.int .i64 xa.op):=by simpa using y1
 have za2:w3.cell? ⟨eb,off+2,none⟩=some (.int .i64 xa.n):=by simpa using y2
 have za3:w3.cell? ⟨eb,off+3,none⟩=some (.string (Aa xa.name)):=by simpa using y3
 have za4:w3.cell? ⟨eb,off+4,none⟩=some (.slice eaa xa.args.length eca):=by simpa using y4
 clear y0 y1 y2 y3 y4;go_wp2_with fail
 refine(Wd xa IHXa.out 9 b _ t _ w3 hb (HT.o.fr HF3.o HP.o hb) HP3.o HESa.o HNa.o HWXa.o (by have q:=HF.o;rw[HXa.o]at q;exact q.mono (by simp;try omega))).mono ?_;rintro r w4 ⟨rfl,hp4,hf4⟩;have HP4:=Za hp4;have HF4:=Za (HF3.o.trans hf4);have HL4:=Za (HL3.o.step hf4);clear hp4 hf4 c0 c1 c2 c3 c4 za0 za1 za2 za3 za4;go_wp2_with fail
 go_end0
 exact⟨rfl,by rw[HXa.o];simpa using HP4.o,HF4.o⟩
theorem expr_4(o n:Int)(nm:Bs)(args:List Ex)(ih:∀x,x∈args→Hb x):Hb (.mk 4 o n nm args):=by
 intro b bs t s w hb ht hp hs hn hw hf;have hs:Ag (· <b) w args s:=hs;have hn:I64 n:=hn;have hwh:=(Cq hw).1;have hwa:∀x,x∈args→Cn x=true:=(Cq hw).2;obtain⟨sa,sc,rfl⟩:=hs.shape;have hlen:args.length=2:=by have q:=hwh;simp [Cy,Dm,Ex.kind,Ex.args]at q;omega
 have hl0:0<args.length:=by omega
 have hl1':1<args.length:=by omega
 obtain⟨eb,off,_,rfl,_⟩:=hs.cellAt 0 (by omega);clear hlen;have E:Hid (Ak (.mk 4 o n nm args)=Em (Bx args 0) (Al o)++([32]++(Aw o++[32]))++Em (Bx args 1) (Al o+1)):=by exact fT o n nm args hl1'
 rw[E.out]at hf ⊢;show Calls _ _ #[.pointer (some ⟨b,0,none⟩),.agg #[.int .i64 4,.int .i64 o,.int .i64 n,.string (Aa nm),.slice (some ⟨eb,off,none⟩) args.length sc]] _ _
 have IH:=Za ih;have HT:=Za ht;have HP:=Za hp;have HN:=Za hn;have HF:=Za hf;have HS:=Za hs;have HWA:=Za hwa;have hp1:=Za (hp.alloc (.cells #[.int .i64 4,.int .i64 o,.int .i64 n,.string (Aa nm),.slice (some ⟨eb,off,none⟩) args.length sc] 27));have hf1:=Za (PFr.alloc hp (.cells #[.int .i64 4,.int .i64 o,.int .i64 n,.string (Aa nm),.slice (some ⟨eb,off,none⟩) args.length sc] 27));have hl1:=Za (Loc.new hp [.int .i64 4,.int .i64 o,.int .i64 n,.string (Aa nm),.slice (some ⟨eb,off,none⟩) args.length sc] 27);clear ih ht hp hs hw hf hn hwh hwa;go_enter Zh,Zi
 go_wp2_with fail
 refine(Ee o _).mono ?_;rintro r w2 ⟨rfl,hb2⟩;have hf2:=PFr.of_below hb2 hp1.out.lt;have HP2:=Za (hp1.out.old hb2);have HF2:=Za (hf1.out.trans hf2);have HL2:=Za (hl1.out.step hf2);clear hb2 hf2 hp1 hf1 hl1;have c0:=HL2.o.cell 0 (by simp);have c1:=HL2.o.cell 1 (by simp);have c2:=HL2.o.cell 2 (by simp);have c3:=HL2.o.cell 3 (by simp);have c4:=HL2.o.cell 4 (by simp);simp only[Zc,Zd]at c0 c1 c2 c3 c4;have lb:=aJ o;go_wp2_with fail
 refine(Km o _).mono ?_;rintro r w3 ⟨rfl,hb3⟩;have hf3:=PFr.of_below hb3 HP2.o.lt;have HP3:=Za (HP2.o.old hb3);have HF3:=Za (HF2.o.trans hf3);have HL3:=Za (HL2.o.step hf3);clear hb3 hf3 c0 c1 c2 c3 c4;have c0:=HL3.o.cell 0 (by simp);have c1:=HL3.o.cell 1 (by simp);have c2:=HL3.o.cell 2 (by simp);have c3:=HL3.o.cell 3 (by simp);have c4:=HL3.o.cell 4 (by simp);simp only[Zc,Zd]at c0 c1 c2 c3 c4;obtain⟨eb',off',esa,heb,hDa,y0,y1,y2,y3,y4,hesa,hna⟩:=(HS.o.keep (HF3.o.keeps HP.o)).cellAt 0 (by omega);obtain⟨eaa,eca,rfl⟩:=hesa.shape;obtain⟨rfl,rfl⟩:eb=eb'∧off=off':=by cases heb;exact⟨rfl,rfl⟩
 have HESa:=Za hesa;have HNa:=Za hna;have IHXa:=Za (IH.out _ (Cz (i:=0) (by omega)));have HWXa:=Za (HWA.o _ (Cz (i:=0) (by omega)));clear heb hesa hna hDa;generalize hxa:Bx args 0=xa at y0 y1 y2 y3 y4 HESa HNa IHXa HWXa;have HXa:=Za hxa;clear hxa;have za0:w3.cell? ⟨eb,off,none⟩=some (.int .i64 xa.kind):=by simpa using y0
 have za1:w3.cell? ⟨eb,off+1,none⟩=some (.int .i64 xa.op):=by simpa using y1
 have za2:w3.cell? ⟨eb,off+2,none⟩=some (.int .i64 xa.n):=by simpa using y2
 have za3:w3.cell? ⟨eb,off+3,none⟩=some (.string (Aa xa.name)):=by simpa using y3
 have za4:w3.cell? ⟨eb,off+4,none⟩=some (.slice eaa xa.args.length eca):=by simpa using y4
 clear y0 y1 y2 y3 y4;go_wp2_with fail
 refine(Wd xa IHXa.out (Al o) b _ t _ w3 hb (HT.o.fr HF3.o HP.o hb) HP3.o HESa.o HNa.o HWXa.o (by have q:=HF.o;rw[HXa.o]at q;exact q.mono (by simp;try omega))).mono ?_;rintro r w4 ⟨rfl,hp4,hf4⟩;have HP4:=Za hp4;have HF4:=Za (HF3.o.trans hf4);have HL4:=Za (HL3.o.step hf4);clear hp4 hf4 c0 c1 c2 c3 c4 za0 za1 za2 za3 za4;go_wp2_with fail
 refine(put3 [32] (Aw o) [32] _ _ b _ t w4 rfl HP4.o (by have q:=HF.o;rw[HXa.o]at q;exact q.mono (by simp;try omega))).mono ?_;rintro r w5 ⟨rfl,hp5,hf5⟩;have HP5:=Za hp5;have HF5:=Za (HF4.o.trans hf5);have HL5:=Za (HL4.o.step hf5);clear hp5 hf5;have c0:=HL5.o.cell 0 (by simp);have c1:=HL5.o.cell 1 (by simp);have c2:=HL5.o.cell 2 (by simp);have c3:=HL5.o.cell 3 (by simp);have c4:=HL5.o.cell 4 (by simp);simp only[Zc,Zd]at c0 c1 c2 c3 c4;obtain⟨eb',off',esc,heb,hDc,y0,y1,y2,y3,y4,hesc,hnc⟩:=(HS.o.keep (HF5.o.keeps HP.o)).cellAt 1 (by omega);obtain⟨eac,ecc,rfl⟩:=hesc.shape;obtain⟨rfl,rfl⟩:eb=eb'∧off=off':=by cases heb;exact⟨rfl,rfl⟩
 have HESc:=Za hesc;have HNc:=Za hnc;have IHXc:=Za (IH.out _ (Cz (i:=1) (by omega)));have HWXc:=Za (HWA.o _ (Cz (i:=1) (by omega)));clear heb hesc hnc hDc;generalize hxc:Bx args 1=xc at y0 y1 y2 y3 y4 HESc HNc IHXc HWXc;have HXc:=Za hxc;clear hxc;have zc0:w5.cell? ⟨eb,off+5,none⟩=some (.int .i64 xc.kind):=by simpa using y0
 have zc1:w5.cell? ⟨eb,off+5+1,none⟩=some (.int .i64 xc.op):=by simpa using y1
 have zc2:w5.cell? ⟨eb,off+5+2,none⟩=some (.int .i64 xc.n):=by simpa using y2
 have zc3:w5.cell? ⟨eb,off+5+3,none⟩=some (.string (Aa xc.name)):=by simpa using y3
 have zc4:w5.cell? ⟨eb,off+5+4,none⟩=some (.slice eac xc.args.length ecc):=by simpa using y4
 clear y0 y1 y2 y3 y4;go_wp2_with fail
 refine(Wd xc IHXc.out (Al o+1) b _ t _ w5 hb (HT.o.fr HF5.o HP.o hb) HP5.o HESc.o HNc.o HWXc.o (by have q:=HF.o;rw[HXa.o,HXc.o]at q;exact q.mono (by simp;try omega))).mono ?_;rintro r w6 ⟨rfl,hp6,hf6⟩;have HP6:=Za hp6;have HF6:=Za (HF5.o.trans hf6);have HL6:=Za (HL5.o.step hf6);clear hp6 hf6 c0 c1 c2 c3 c4 zc0 zc1 zc2 zc3 zc4;go_wp2_with fail
 go_end0
 exact⟨rfl,by rw[HXa.o,HXc.o];simpa using HP6.o,HF6.o⟩
theorem expr_5(o n:Int)(nm:Bs)(args:List Ex)(ih:∀x,x∈args→Hb x):Hb (.mk 5 o n nm args):=by
 intro b bs t s w hb ht hp hs hn hw hf;have hs:Ag (· <b) w args s:=hs;have hn:I64 n:=hn;have hwh:=(Cq hw).1;have hwa:∀x,x∈args→Cn x=true:=(Cq hw).2;obtain⟨sa,sc,rfl⟩:=hs.shape;have E:Hid (Ak (.mk 5 o n nm args)=nm++[40]++Bo (args.map Ak)++[41]):=by exact iK o n nm args
 rw[E.out]at hf ⊢;show Calls _ _ #[.pointer (some ⟨b,0,none⟩),.agg #[.int .i64 5,.int .i64 o,.int .i64 n,.string (Aa nm),.slice sa args.length sc]] _ _
 have IH:=Za ih;have HT:=Za ht;have HP:=Za hp;have HN:=Za hn;have HF:=Za hf;have HS:=Za hs;have HWA:=Za hwa;have hp1:=Za (hp.alloc (.cells #[.int .i64 5,.int .i64 o,.int .i64 n,.string (Aa nm),.slice sa args.length sc] 27));have hf1:=Za (PFr.alloc hp (.cells #[.int .i64 5,.int .i64 o,.int .i64 n,.string (Aa nm),.slice sa args.length sc] 27));have hl1:=Za (Loc.new hp [.int .i64 5,.int .i64 o,.int .i64 n,.string (Aa nm),.slice sa args.length sc] 27);clear ih ht hp hs hw hf hn hwh hwa;go_enter Zh,Zi
 go_wp2_with fail
 refine(Ee o _).mono ?_;rintro r w2 ⟨rfl,hb2⟩;have hf2:=PFr.of_below hb2 hp1.out.lt;have HP2:=Za (hp1.out.old hb2);have HF2:=Za (hf1.out.trans hf2);have HL2:=Za (hl1.out.step hf2);clear hb2 hf2 hp1 hf1 hl1;have c0:=HL2.o.cell 0 (by simp);have c1:=HL2.o.cell 1 (by simp);have c2:=HL2.o.cell 2 (by simp);have c3:=HL2.o.cell 3 (by simp);have c4:=HL2.o.cell 4 (by simp);simp only[Zc,Zd]at c0 c1 c2 c3 c4;go_wp2_with fail
 refine(put2 nm [40] _ _ b _ t w2 rfl HP2.o (HF.o.mono (by simp;try omega))).mono ?_;rintro r w3 ⟨rfl,hp3,hf3⟩;have HP3:=Za hp3;have HF3:=Za (HF2.o.trans hf3);have HL3:=Za (HL2.o.step hf3);clear hp3 hf3 c0 c1 c2 c3 c4;have c0:=HL3.o.cell 0 (by simp);have c1:=HL3.o.cell 1 (by simp);have c2:=HL3.o.cell 2 (by simp);have c3:=HL3.o.cell 3 (by simp);have c4:=HL3.o.cell 4 (by simp);simp only[Zc,Zd]at c0 c1 c2 c3 c4;go_wp2_with fail
 refine(sD args IH.out b _ t _ w3 hb (HT.o.fr HF3.o HP.o hb) HP3.o (HS.o.keep (HF3.o.keeps HP.o)) HWA.o (HF.o.mono (by simp;try omega))).mono ?_;rintro r w4 ⟨rfl,hp4,hf4⟩;have HP4:=Za hp4;have HF4:=Za (HF3.o.trans hf4);have HL4:=Za (HL3.o.step hf4);clear hp4 hf4 c0 c1 c2 c3 c4;go_wp2_with fail
 refine(Sk [41] _ _ b _ t w4 rfl HP4.o (HF.o.mono (by simp;try omega))).mono ?_;rintro r w5 ⟨rfl,hp5,hf5⟩;have HP5:=Za hp5;have HF5:=Za (HF4.o.trans hf5);have HL5:=Za (HL4.o.step hf5);clear hp5 hf5;go_wp2_with fail
 go_end0
 exact⟨rfl,by simpa using HP5.o,HF5.o⟩
theorem expr_6(o n:Int)(nm:Bs)(args:List Ex)(ih:∀x,x∈args→Hb x):Hb (.mk 6 o n nm args):=by
 intro b bs t s w hb ht hp hs hn hw hf;have hs:Ag (· <b) w args s:=hs;have hn:I64 n:=hn;have hwh:=(Cq hw).1;have hwa:∀x,x∈args→Cn x=true:=(Cq hw).2;obtain⟨sa,sc,rfl⟩:=hs.shape;have hlen:args.length=1:=by have q:=hwh;simp [Cy,Dm,Ex.kind,Ex.args]at q;omega
 have hl0:0<args.length:=by omega
 obtain⟨eb,off,_,rfl,_⟩:=hs.cellAt 0 (by omega);clear hlen;have E:Hid (Ak (.mk 6 o n nm args)=nm++[91]++Ak (Bx args 0)++[93]):=by exact gQ o n nm args hl0
 rw[E.out]at hf ⊢;show Calls _ _ #[.pointer (some ⟨b,0,none⟩),.agg #[.int .i64 6,.int .i64 o,.int .i64 n,.string (Aa nm),.slice (some ⟨eb,off,none⟩) args.length sc]] _ _
 have IH:=Za ih;have HT:=Za ht;have HP:=Za hp;have HN:=Za hn;have HF:=Za hf;have HS:=Za hs;have HWA:=Za hwa;have hp1:=Za (hp.alloc (.cells #[.int .i64 6,.int .i64 o,.int .i64 n,.string (Aa nm),.slice (some ⟨eb,off,none⟩) args.length sc] 27));have hf1:=Za (PFr.alloc hp (.cells #[.int .i64 6,.int .i64 o,.int .i64 n,.string (Aa nm),.slice (some ⟨eb,off,none⟩) args.length sc] 27));have hl1:=Za (Loc.new hp [.int .i64 6,.int .i64 o,.int .i64 n,.string (Aa nm),.slice (some ⟨eb,off,none⟩) args.length sc] 27);clear ih ht hp hs hw hf hn hwh hwa;go_enter Zh,Zi
 go_wp2_with fail
 refine(Ee o _).mono ?_;rintro r w2 ⟨rfl,hb2⟩;have hf2:=PFr.of_below hb2 hp1.out.lt;have HP2:=Za (hp1.out.old hb2);have HF2:=Za (hf1.out.trans hf2);have HL2:=Za (hl1.out.step hf2);clear hb2 hf2 hp1 hf1 hl1;have c0:=HL2.o.cell 0 (by simp);have c1:=HL2.o.cell 1 (by simp);have c2:=HL2.o.cell 2 (by simp);have c3:=HL2.o.cell 3 (by simp);have c4:=HL2.o.cell 4 (by simp);simp only[Zc,Zd]at c0 c1 c2 c3 c4;go_wp2_with fail
 refine(put2 nm [91] _ _ b _ t w2 rfl HP2.o (HF.o.mono (by simp;try omega))).mono ?_;rintro r w3 ⟨rfl,hp3,hf3⟩;have HP3:=Za hp3;have HF3:=Za (HF2.o.trans hf3);have HL3:=Za (HL2.o.step hf3);clear hp3 hf3 c0 c1 c2 c3 c4;have c0:=HL3.o.cell 0 (by simp);have c1:=HL3.o.cell 1 (by simp);have c2:=HL3.o.cell 2 (by simp);have c3:=HL3.o.cell 3 (by simp);have c4:=HL3.o.cell 4 (by simp);simp only[Zc,Zd]at c0 c1 c2 c3 c4;obtain⟨eb',off',esa,heb,hDa,y0,y1,y2,y3,y4,hesa,hna⟩:=(HS.o.keep (HF3.o.keeps HP.o)).cellAt 0 (by omega);obtain⟨eaa,eca,rfl⟩:=hesa.shape;obtain⟨rfl,rfl⟩:eb=eb'∧off=off':=by cases heb;exact⟨rfl,rfl⟩
 have HESa:=Za hesa;have HNa:=Za hna;have IHXa:=Za (IH.out _ (Cz (i:=0) (by omega)));have HWXa:=Za (HWA.o _ (Cz (i:=0) (by omega)));clear heb hesa hna hDa;generalize hxa:Bx args 0=xa at y0 y1 y2 y3 y4 HESa HNa IHXa HWXa;have HXa:=Za hxa;clear hxa;have za0:w3.cell? ⟨eb,off,none⟩=some (.int .i64 xa.kind):=by simpa using y0
 have za1:w3.cell? ⟨eb,off+1,none⟩=some (.int .i64 xa.op):=by simpa using y1
 have za2:w3.cell? ⟨eb,off+2,none⟩=some (.int .i64 xa.n):=by simpa using y2
 have za3:w3.cell? ⟨eb,off+3,none⟩=some (.string (Aa xa.name)):=by simpa using y3
 have za4:w3.cell? ⟨eb,off+4,none⟩=some (.slice eaa xa.args.length eca):=by simpa using y4
 clear y0 y1 y2 y3 y4;go_wp2_with fail
 refine(IHXa.out b _ t _ w3 hb (HT.o.fr HF3.o HP.o hb) HP3.o HESa.o HNa.o HWXa.o (by have q:=HF.o;rw[HXa.o]at q;exact q.mono (by simp;try omega))).mono ?_;rintro r w4 ⟨rfl,hp4,hf4⟩;have HP4:=Za hp4;have HF4:=Za (HF3.o.trans hf4);have HL4:=Za (HL3.o.step hf4);clear hp4 hf4 c0 c1 c2 c3 c4 za0 za1 za2 za3 za4;go_wp2_with fail
 refine(Sk [93] _ _ b _ t w4 rfl HP4.o (by have q:=HF.o;rw[HXa.o]at q;exact q.mono (by simp;try omega))).mono ?_;rintro r w5 ⟨rfl,hp5,hf5⟩;have HP5:=Za hp5;have HF5:=Za (HF4.o.trans hf5);have HL5:=Za (HL4.o.step hf5);clear hp5 hf5;go_wp2_with fail
 go_end0
 exact⟨rfl,by rw[HXa.o];simpa using HP5.o,HF5.o⟩
theorem pT(e:Ex)(ih:∀x,x∈e.args→Hb x):Hb e:=by
 intro b bs t s w hb ht hp hs hn hw hf;have hk:=eG (Cq hw).1;obtain⟨k,o,n,nm,args⟩:=e;simp only[Ex.kind]at hk;rcases hk with rfl|rfl|rfl|rfl|rfl|rfl|rfl
 ·exact expr_1 o n nm args ih b bs t s w hb ht hp hs hn hw hf
 ·exact expr_2 o n nm args ih b bs t s w hb ht hp hs hn hw hf
 ·exact expr_3 o n nm args ih b bs t s w hb ht hp hs hn hw hf
 ·exact expr_4 o n nm args ih b bs t s w hb ht hp hs hn hw hf
 ·exact expr_5 o n nm args ih b bs t s w hb ht hp hs hn hw hf
 ·exact expr_6 o n nm args ih b bs t s w hb ht hp hs hn hw hf
 ·exact expr_7 o n nm args ih b bs t s w hb ht hp hs hn hw hf
theorem fQ:∀(n:Nat) (e:Ex),SizeOf.sizeOf e≤n→Hb e
 |0,e,h=>by cases e;simp at h
 |n+1,e,h=>pT e fun x hx=>fQ n x (by have:=Ex.size_lt hx;omega)
theorem cellsByte:Tryz.prog.cellsOf 5=1:=by kernel_rfl
theorem jQ(b:Nat)(bs:Bs)(t:Int)(w:World)(hp:Bv w b bs t)(h0:bs≠[]):
  Calls Zb 33 #[.pointer (some ⟨b,0,none⟩)] w fun e w'=>e=.returned (.string (Aa bs))∧Below b w w':=by
 obtain⟨p,v,hbk,hq,hown⟩:=hp;have hl0:bs.length≠0:=by simpa using h0
 obtain⟨g,cap,cur,rfl,hbg,hg,hnc,hcm,hcs,htake⟩:∃g cap cur,v=.slice (some ⟨g,0,none⟩) bs.length cap∧b+1≤g∧w.heap[g]? =some (.cells cur 5 (0,0))∧bs.length≤cap∧cap≤maxLen∧cur.size=cap*1∧cur.toList.take (bs.length*1)=Zf bs:=by
  rcases hown.2 with⟨_,hz⟩|⟨g,cap,cur,hv,r⟩
  ·exact absurd hz hl0
  ·exact⟨g,cap,cur,hv,r⟩
 have c1:w.drew.cell? ⟨b,1,none⟩=some (.slice (some ⟨g,0,none⟩) bs.length cap):=by
  have:w.drew.heap[b]? =some (.cells #[p,.slice (some ⟨g,0,none⟩) bs.length cap,.int .i64 t] 81 (0,0)):=hbk;rw[Zg this];rfl
 have hSD:(Builtin.unsafeSliceData_ #[77] 125 #[.slice (some ⟨g,0,none⟩) bs.length cap]).run Zb w.drew=.ok (.pointer (some ⟨g,0,none⟩)) w.drew:=
  Lib.run_unsafeSliceData_row _ _ _ _ _ _ (by omega)
 have hUS:(Builtin.unsafeString_ #[125,3] 9 #[.pointer (some ⟨g,0,none⟩),.int .i64 bs.length]).run Zb w.drew=.ok (.string (Aa bs)) (w.drew.freeze ⟨g,0,none⟩ bs.length):=by
  refine Lib.run_unsafeString_row w.drew 125 3 9 5 underlying125 cellsByte g cur.size (by have hg':w.drew.heap[g]? =some (.cells cur 5 (0,0)):=hg;simp [World.shape?,hg']) bs h0 (by omega) (by unfold maxLen at hcm;omega) ?_;intro j x hx;have:=hown.cells (g:=g) rfl j (.int .u8 x.toNat) (by simp [Zf,hx]);exact this
 have HG:Hid (b≤g):=by show _≤_;omega
 clear hbk hown hg hcs htake hcm hnc h0 hl0 hbg hq;have mixed:Tryz.prog.follows .mixedOrders=true:=by kernel_rfl
 go_enter func33,ntmps33
 go_wp2
 go_region_o
 all_goals(go_wp2;go_ret;exact⟨rfl,Lib.below_freeze (Below.drew (Below.refl b w)) (p:=⟨g,0,none⟩) HG.o _⟩)
theorem Bv.new(w:World):Bv (w.alloc (.cells #[.pointer none,.slice none 0 0,.int .i64 0] 81)) w.heap.size [] 0:=by
 refine⟨.pointer none,.slice none 0 0,Array.getElem?_push_size,.inl rfl,rfl,.inl ⟨rfl,rfl⟩⟩
end Go.Proofs.YtcfpfnoldgnloaaGreatDoor
