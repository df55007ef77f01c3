/-
  What tree.only answers of an expression, a kind each. No condition.
-/
import Derived.Test.YtfhbinbjkpfedaaGreatDoorNTs00
import Derived.Laws.RangeAny
import Derived.Shelf.Strings.Builder1
import Derived.Shelf.Strings.Builder2
import Derived.Shelf.Strings.BuilderF
import Derived.Shelf.Strconv.Atoi
import Derived.Shelf.Strconv.Itoa0
import Derived.Shelf.Strconv.Itoa1
import Derived.Shelf.LaysM
import Derived.Shelf.Strconv.Itoa2
import Derived.Shelf.Strconv.Itoa3
import Derived.Shelf.Strconv.AtoiErrFast
import Derived.Shelf.Strconv.ParseIntEmpty
import Derived.Shelf.Strconv.AtoiFail
import Derived.Shelf.Strconv.Clone
import Derived.Shelf.Strconv.SyntaxError
import Derived.Shelf.LaysC
import Derived.Shelf.Strconv.ToError
import Derived.Shelf.Strconv.Lower
import Derived.Shelf.Strconv.ParseUint10
import Derived.Shelf.Strconv.ParseUint10Empty
import Derived.Shelf.Strconv.ParseUint10Any
import Derived.Shelf.Strconv.ParseInt10
import Derived.Shelf.Strconv.AtoiLong
import Derived.Shelf.Strconv.AtoiInnerAll
import Derived.Shelf.Strconv.RangeError
import Derived.Shelf.Strconv.ToErrorRange
import Derived.Shelf.Strconv.AtoiAll
import Derived.Shelf.Strconv.ErrVarAll
import Derived.Shelf.Strings.Search1
import Derived.Shelf.Strings.Search2
import Derived.Shelf.Strings.Search3
import Derived.Shelf.Strings.Cut
import Derived.Shelf.Strings.Count
import Derived.Shelf.Strings.Shaped
import Derived.Shelf.Strings.Prefix
import Derived.Shelf.Bits.Mul64
import Derived.Shelf.Strings.Repeat
import Derived.Shelf.Unicode.DecodeSlow
import Derived.Shelf.Unicode.DecodeAny
import Derived.Shelf.Unicode.ValidAny
import Derived.Shelf.Slices.Equal
import Derived.Shelf.Slices.Empties2
import Derived.Lib.Strings
import Derived.Lib.Slices
import Derived.Lib.Walk
import Derived.Lib.Builder
import Derived.Lib.AppendStr
import Derived.Lib.UnsafeStr
import Derived.Lib.MakeNoZero
import Derived.Laws.Externs
import Derived.Lib.ItoaNum
set_option linter.unusedVariables false
set_option linter.unusedSimpArgs false
namespace Go.Proofs.YtfhbinbjkpfedaaGreatDoor
open Go.RowKit Go.Proofs.Tryz
set_option maxHeartbeats 20000000
set_option maxRecDepth 100000
open Go.Proofs.Tryz renaming prog→Za
def Em(r:Int):Bool:=decide (r=95∨(97≤r∧r≤122)∨(65≤r∧r≤90))
def Fn(r:Int):Bool:=decide (48≤r∧r≤57)
theorem Gs(r:Int)(w:World):
  Calls Za 102 #[.int .i32 r] w fun e w'=>e=.returned (.bool (Em r))∧w=w':=by
 go_enter func102,ntmps102
 go_wp2
 all_goals go_ret
 all_goals(refine⟨Ak ?_,rfl⟩;rw[Bool.eq_iff_iff];simp [Em];omega)
theorem Jp(r:Int)(w:World):
  Calls Za 104 #[.int .i32 r] w fun e w'=>e=.returned (.bool (Fn r))∧w=w':=by
 go_enter func104,ntmps104
 go_wp2
 all_goals go_ret
 all_goals(refine⟨Ak ?_,rfl⟩;rw[Bool.eq_iff_iff];simp [Fn];omega)
theorem Rx(l:Bs)(w:World):
  Calls Za 116 #[.string (Aa l)] w fun e w'=>e=.returned (.bool (Ge l))∧w=w':=by
 go_enter func116,ntmps116
 go_wp2
 all_goals go_ret
 all_goals(refine⟨Ak ?_,rfl⟩;simp_all [Ge,Nw])
theorem Io(c:UInt8):Em (c.toNat:Nat)=Bg c:=by
 rw[Bool.eq_iff_iff];simp [Em,Bg,UInt8.le_iff_toNat_le,←UInt8.toNat_inj];omega
theorem Ik(c:UInt8):Fn (c.toNat:Nat)=Bc c:=by
 rw[Bool.eq_iff_iff];simp [Fn,Bc,UInt8.le_iff_toNat_le];omega
theorem Nm {r:Nat}(h:128≤r):Em r=false:=by simp [Em];omega
theorem Pq {r:Nat}(h:128≤r):Fn r=false:=by simp [Fn];omega
theorem Sp {c:UInt8}(h:128≤c.toNat):Bg c=false:=by rw[←Io];exact Nm h
theorem Uu {c:UInt8}(h:128≤c.toNat):Bc c=false:=by rw[←Ik];exact Pq h
theorem decode_at(l:Bs)(k:Nat)(h:k<l.length):∃r d,Utf8.decode (Aa l) k=(r,d)∧1≤d∧Em r=Bg l[k]∧Fn r=Bc l[k]∧(r<128→r=l[k].toNat∧d=1)∧r≤2147483647:=by
 have hs:k<(Aa l).size:=h;have he:(Aa l)[k]'hs=l[k]:=rfl;have hle:=decode_le (Aa l) k
 by_cases ha:((Aa l)[k]'hs).toNat<128
 ·rw[decode_ascii _ _ hs ha]at hle
  exact⟨_,_,decode_ascii _ _ hs ha,Nat.le_refl _,by rw[he];exact Io _,by rw[he];exact Ik _,fun _=>⟨by rw[he],rfl⟩,hle⟩
 ·have hh:=decode_high (Aa l) k hs (by omega)
  have h2:128≤l[k].toNat:=by rw[←he];omega
  generalize Utf8.decode (Aa l) k=q at hh hle ⊢;exact⟨q.1,q.2,rfl,hh.2,by rw[Nm hh.1,Sp h2],by rw[Pq hh.1,Uu h2],fun h=>by omega,hle⟩
theorem Pp {r:Nat}(h:Em r=true):r<128:=by simp [Em]at h;omega
theorem Mn {r:Nat}(h:Fn r=true):r<128:=by simp [Fn]at h;omega
theorem fG(l:Bs)(h20:l.length≤20)(h0:l.isEmpty=false)(hw:Ge l=false)(w:World):
  Calls Za 73 #[.string (Aa l)] w fun e w'=>e=.returned (.bool (Dj true l))∧Below w.heap.size w w':=by
 go_enter func73,ntmps73
 go_wp2_with (go_at_call 116;refine(Rx _ _).mono ?_;rintro e w1 ⟨rfl,rfl⟩)
 go_loopw [3,4] (fun _ _ wr=> ∃k:Nat,k≤l.length∧wr=w.iter (Aa l) k∧Hid (Dj true l=Dj (decide (k=0)) (l.drop k))) (fun _ _ wr=>l.length-wr.iterPos w.heap.size)
 case atStart=>exact⟨0,Nat.zero_le _,rfl,rfl⟩
 case round=>
  obtain⟨k,hk,rfl,HI⟩:=hrel
  by_cases hlt:k<l.length
  ·have hnx:=fun ty=>run_next_any (P:=Za) w (Aa l) k ty hlt
   obtain⟨r,d,hd,h1,hl,hdg,hlow,hr⟩:=decode_at l k hlt;rw[hd]at hnx;have HL:=Lib.hid hl;have HD:=Lib.hid hdg;have HLOW:=Lib.hid hlow;have HE:Hid (Dj (decide (k=0)) (l.drop k)=((Bg l[k]||(!decide (k=0) && Bc l[k])) && Dj false (l.drop (k+1)))):=by
    show _=_
    rw[List.drop_eq_getElem_cons hlt];rfl
   clear hl hdg hlow hd
   by_cases q:Em r=true
   ·go_wp2_with (go_at_call 102;refine(Gs _ _).mono ?_;rintro e w1 ⟨rfl,rfl⟩)
    have h3:=HLOW.o (Pp q);obtain rfl:=h3.2;go_roundw
    case rel=>exact⟨k+1,by omega,rfl,by show _=_;rw[HI.o,HE.o,←HL.o,q];simp⟩
    case measure=>simp;omega
   ·have q':Em r=false:=by simpa using q
    clear q
    by_cases z:k=0
    ·subst z
     go_wp2_with (go_at_call 102;refine(Gs _ _).mono ?_;rintro e w1 ⟨rfl,rfl⟩)
     go_ret
     exact⟨Ak (by rw[HI.o,HE.o,←HL.o,q'];simp),bA⟩
    ·have z':((k:Int)==0)=false:=by simpa using z
     by_cases g:Fn r=true
     ·go_wp2_with (first|(go_at_call 102;refine(Gs _ _).mono ?_;rintro e w1 ⟨rfl,rfl⟩)|(go_at_call 104;refine(Jp _ _).mono ?_;rintro e w1 ⟨rfl,rfl⟩))
      have h3:=HLOW.o (Mn g);obtain rfl:=h3.2;go_roundw
      case rel=>exact⟨k+1,by omega,rfl,by show _=_;rw[HI.o,HE.o,←HL.o,←HD.o,q',g];simp [z]⟩
      case measure=>simp;omega
     ·have g':Fn r=false:=by simpa using g
      clear g;go_wp2_with (first|(go_at_call 102;refine(Gs _ _).mono ?_;rintro e w1 ⟨rfl,rfl⟩)|(go_at_call 104;refine(Jp _ _).mono ?_;rintro e w1 ⟨rfl,rfl⟩))
      go_ret
      exact⟨Ak (by rw[HI.o,HE.o,←HL.o,←HD.o,q',g'];simp),bA⟩
  ·have hnx:=fun ty=>run_next_end (P:=Za) w (Aa l) k ty hlt
   go_wp2_with fail
   go_ret
   exact⟨Ak (by rw[HI.o,List.drop_eq_nil_of_le (by omega)];rfl),bA⟩
theorem Ir(l:Bs)(w:World):
  Calls Za 73 #[.string (Aa l)] w fun e w'=>e=.returned (.bool (Ah l))∧Below w.heap.size w w':=by
 by_cases h0:l=[]
 ·subst h0
  go_enter func73,ntmps73
  go_wp2_with fail
  go_ret
  exact⟨rfl,Below.refl _ _⟩
 ·have h0':l.isEmpty=false:=by simpa using h0
  by_cases h20:l.length≤20
  ·cases hw:Ge l
   ·have h:=fG l h20 h0' hw w
    have e:Ah l=Dj true l:=by simp [Ah,h0,h20,hw]
    rw[e];exact h
   ·go_enter func73,ntmps73
    go_wp2_with (go_at_call 116;refine(Rx _ _).mono ?_;rintro e w1 ⟨rfl,rfl⟩)
    go_ret
    exact⟨Ak (by simp [Ah,hw]),Below.refl _ _⟩
  ·have h20':20<l.length:=by omega
   go_enter func73,ntmps73
   go_wp2_with fail
   go_ret
   exact⟨Ak (by simp [Ah,h20]),Below.refl _ _⟩
end Go.Proofs.YtfhbinbjkpfedaaGreatDoor
namespace Go.Proofs
open Go.Shelf
def Tryz.laysM171_ren:Go.Shelf.Ren:=⟨fun|171=>31|243=>67|246=>113|283=>136|284=>137|285=>138|286=>139|129=>169|317=>168|318=>170|319=>171|320=>172|337=>182|338=>183|n=>n,fun|3=>3|9=>9|2=>2|4=>4|171=>169|0=>0|53=>166|37=>72|5=>5|173=>172|212=>184|51=>163|20=>20|213=>185|46=>139|232=>202|233=>203|n=>n,fun|17=>3|18=>6|19=>7|n=>n⟩
theorem Tryz.laysM171:Go.Proofs.LaysM.n171 Tryz.prog Tryz.laysM171_ren:= {
 mixed:=by kernel_rfl
 f129:=Tryz.func169.trans (congrArg some (by kernel_rfl))
 f171:=Tryz.func31.trans (congrArg some (by kernel_rfl))
 f243:=Tryz.func67.trans (congrArg some (by kernel_rfl))
 f246:=Tryz.func113.trans (congrArg some (by kernel_rfl))
 f283:=Tryz.func136.trans (congrArg some (by kernel_rfl))
 f284:=Tryz.func137.trans (congrArg some (by kernel_rfl))
 f285:=Tryz.func138.trans (congrArg some (by kernel_rfl))
 f286:=Tryz.func139.trans (congrArg some (by kernel_rfl))
 f317:=Tryz.func168.trans (congrArg some (by kernel_rfl))
 f318:=Tryz.func170.trans (congrArg some (by kernel_rfl))
 f319:=Tryz.func171.trans (congrArg some (by kernel_rfl))
 f320:=Tryz.func172.trans (congrArg some (by kernel_rfl))
 f337:=Tryz.func182.trans (congrArg some (by kernel_rfl))
 f338:=Tryz.func183.trans (congrArg some (by kernel_rfl))
 t0:=Tryz.underlying0
 a0:=Tryz.isAgg0
 z0:=Tryz.sizeOf0
 v0:=Tryz.zeroValue0
 t2:=Tryz.underlying2
 a2:=Tryz.isAgg2
 z2:=Tryz.sizeOf2
 v2:=Tryz.zeroValue2
 t3:=Tryz.underlying3
 a3:=Tryz.isAgg3
 z3:=Tryz.sizeOf3
 v3:=Tryz.zeroValue3
 t4:=Tryz.underlying4
 a4:=Tryz.isAgg4
 z4:=Tryz.sizeOf4
 v4:=Tryz.zeroValue4
 t5:=Tryz.underlying5
 a5:=Tryz.isAgg5
 z5:=Tryz.sizeOf5
 v5:=Tryz.zeroValue5
 t9:=Tryz.underlying9
 a9:=Tryz.isAgg9
 z9:=Tryz.sizeOf9
 v9:=Tryz.zeroValue9
 t20:=Tryz.underlying20
 a20:=Tryz.isAgg20
 z20:=Tryz.sizeOf20
 v20:=Tryz.zeroValue20
 t37:=Tryz.underlying72
 a37:=Tryz.isAgg72
 z37:=Tryz.sizeOf72
 v37:=Tryz.zeroValue72
 t46:=Tryz.underlying139
 a46:=Tryz.isAgg139
 z46:=Tryz.sizeOf139
 v46:=Tryz.zeroValue139
 t51:=Tryz.underlying163
 a51:=Tryz.isAgg163
 z51:=Tryz.sizeOf163
 v51:=Tryz.zeroValue163
 t53:=Tryz.underlying166
 a53:=Tryz.isAgg166
 z53:=Tryz.sizeOf166
 v53:=Tryz.zeroValue166
 t171:=Tryz.underlying169
 a171:=Tryz.isAgg169
 z171:=Tryz.sizeOf169
 v171:=Tryz.zeroValue169
 t173:=Tryz.underlying172
 a173:=Tryz.isAgg172
 z173:=Tryz.sizeOf172
 v173:=Tryz.zeroValue172
 t212:=Tryz.underlying184
 a212:=Tryz.isAgg184
 z212:=Tryz.sizeOf184
 v212:=Tryz.zeroValue184
 t213:=Tryz.underlying185
 a213:=Tryz.isAgg185
 z213:=Tryz.sizeOf185
 t232:=Tryz.underlying202
 a232:=Tryz.isAgg202
 z232:=Tryz.sizeOf202
 v232:=Tryz.zeroValue202
 t233:=Tryz.underlying203
 a233:=Tryz.isAgg203
 z233:=Tryz.sizeOf203
 v233:=Tryz.zeroValue203
 g17:=by kernel_rfl
 g18:=by kernel_rfl
 g19:=by kernel_rfl
 i0:=by kernel_rfl
 i2:=by kernel_rfl
 i3:=by kernel_rfl
 i4:=by kernel_rfl
 i5:=by kernel_rfl
 i9:=by kernel_rfl
 i20:=by kernel_rfl
 i37:=by kernel_rfl
 i46:=by kernel_rfl
 i51:=by kernel_rfl
 i53:=by kernel_rfl
 i171:=by kernel_rfl
 i173:=by kernel_rfl
 i212:=by kernel_rfl
 i232:=by kernel_rfl
 i233:=by kernel_rfl
 m17:=by kernel_rfl
 m18:=by kernel_rfl
 m19:=by kernel_rfl}
open Go.RowKit Go.Sort Go.Lib in
theorem Tryz.strconv_Itoa(n:Int)(h0: -9223372036854775808≤n)(h1:n≤9223372036854775807)(w:World)(htab:Lib.TabIs Tryz.prog w "internal/strconv.uint64pow10" .u64 Lib.pow10Tab):
  Calls Tryz.prog 31 #[.int .i64 n] w fun e w'=>e=.returned (.string ⟨(Lib.itoa n).toArray⟩)∧∃k os,w'=grow (w.drewN k) os:=Any.strconv_Itoa Tryz.laysM171 n h0 h1 w htab
def Tryz.laysC172_ren:Go.Shelf.Ren:=⟨fun|172=>130|244=>163|245=>164|247=>177|279=>178|280=>179|281=>180|282=>181|287=>186|316=>187|171=>31|205=>188|321=>189|322=>190|243=>67|246=>113|283=>136|284=>137|285=>138|286=>139|129=>169|317=>168|318=>170|319=>171|320=>172|337=>182|338=>183|n=>n,fun|9=>9|3=>3|75=>136|76=>137|4=>4|5=>5|167=>188|37=>72|0=>0|85=>189|2=>2|168=>191|53=>166|175=>196|46=>139|210=>200|127=>111|145=>207|143=>205|21=>21|171=>169|173=>172|212=>184|51=>163|20=>20|213=>185|232=>202|233=>203|80=>80|n=>n,fun|15=>4|16=>5|17=>3|18=>6|19=>7|n=>n⟩
theorem Tryz.laysC172:Go.Proofs.LaysC.n172 Tryz.prog Tryz.laysC172_ren:= {
 mixed:=by kernel_rfl
 f129:=Tryz.func169.trans (congrArg some (by kernel_rfl))
 f171:=Tryz.func31.trans (congrArg some (by kernel_rfl))
 f172:=Tryz.func130.trans (congrArg some (by kernel_rfl))
 f205:=Tryz.func188.trans (congrArg some (by kernel_rfl))
 f243:=Tryz.func67.trans (congrArg some (by kernel_rfl))
 f244:=Tryz.func163.trans (congrArg some (by kernel_rfl))
 f245:=Tryz.func164.trans (congrArg some (by kernel_rfl))
 f246:=Tryz.func113.trans (congrArg some (by kernel_rfl))
 f247:=Tryz.func177.trans (congrArg some (by kernel_rfl))
 f279:=Tryz.func178.trans (congrArg some (by kernel_rfl))
 f280:=Tryz.func179.trans (congrArg some (by kernel_rfl))
 f281:=Tryz.func180.trans (congrArg some (by kernel_rfl))
 f282:=Tryz.func181.trans (congrArg some (by kernel_rfl))
 f283:=Tryz.func136.trans (congrArg some (by kernel_rfl))
 f284:=Tryz.func137.trans (congrArg some (by kernel_rfl))
 f285:=Tryz.func138.trans (congrArg some (by kernel_rfl))
 f286:=Tryz.func139.trans (congrArg some (by kernel_rfl))
 f287:=Tryz.func186.trans (congrArg some (by kernel_rfl))
 f316:=Tryz.func187.trans (congrArg some (by kernel_rfl))
 f317:=Tryz.func168.trans (congrArg some (by kernel_rfl))
 f318:=Tryz.func170.trans (congrArg some (by kernel_rfl))
 f319:=Tryz.func171.trans (congrArg some (by kernel_rfl))
 f320:=Tryz.func172.trans (congrArg some (by kernel_rfl))
 f321:=Tryz.func189.trans (congrArg some (by kernel_rfl))
 f322:=Tryz.func190.trans (congrArg some (by kernel_rfl))
 f337:=Tryz.func182.trans (congrArg some (by kernel_rfl))
 f338:=Tryz.func183.trans (congrArg some (by kernel_rfl))
 t0:=Tryz.underlying0
 a0:=Tryz.isAgg0
 z0:=Tryz.sizeOf0
 v0:=Tryz.zeroValue0
 t2:=Tryz.underlying2
 a2:=Tryz.isAgg2
 z2:=Tryz.sizeOf2
 v2:=Tryz.zeroValue2
 t3:=Tryz.underlying3
 a3:=Tryz.isAgg3
 z3:=Tryz.sizeOf3
 v3:=Tryz.zeroValue3
 t4:=Tryz.underlying4
 a4:=Tryz.isAgg4
 z4:=Tryz.sizeOf4
 v4:=Tryz.zeroValue4
 t5:=Tryz.underlying5
 a5:=Tryz.isAgg5
 z5:=Tryz.sizeOf5
 v5:=Tryz.zeroValue5
 t9:=Tryz.underlying9
 a9:=Tryz.isAgg9
 z9:=Tryz.sizeOf9
 v9:=Tryz.zeroValue9
 t20:=Tryz.underlying20
 a20:=Tryz.isAgg20
 z20:=Tryz.sizeOf20
 v20:=Tryz.zeroValue20
 t21:=Tryz.underlying21
 a21:=Tryz.isAgg21
 z21:=Tryz.sizeOf21
 v21:=Tryz.zeroValue21
 t37:=Tryz.underlying72
 a37:=Tryz.isAgg72
 z37:=Tryz.sizeOf72
 v37:=Tryz.zeroValue72
 t46:=Tryz.underlying139
 a46:=Tryz.isAgg139
 z46:=Tryz.sizeOf139
 v46:=Tryz.zeroValue139
 t51:=Tryz.underlying163
 a51:=Tryz.isAgg163
 z51:=Tryz.sizeOf163
 v51:=Tryz.zeroValue163
 t53:=Tryz.underlying166
 a53:=Tryz.isAgg166
 z53:=Tryz.sizeOf166
 v53:=Tryz.zeroValue166
 t75:=Tryz.underlying136
 a75:=Tryz.isAgg136
 z75:=Tryz.sizeOf136
 v75:=Tryz.zeroValue136
 t76:=Tryz.underlying137
 a76:=Tryz.isAgg137
 z76:=Tryz.sizeOf137
 v76:=Tryz.zeroValue137
 t85:=Tryz.underlying189
 a85:=Tryz.isAgg189
 z85:=Tryz.sizeOf189
 v85:=Tryz.zeroValue189
 t127:=Tryz.underlying111
 a127:=Tryz.isAgg111
 z127:=Tryz.sizeOf111
 v127:=Tryz.zeroValue111
 t143:=Tryz.underlying205
 a143:=Tryz.isAgg205
 z143:=Tryz.sizeOf205
 v143:=Tryz.zeroValue205
 t145:=Tryz.underlying207
 a145:=Tryz.isAgg207
 z145:=Tryz.sizeOf207
 v145:=Tryz.zeroValue207
 t167:=Tryz.underlying188
 a167:=Tryz.isAgg188
 z167:=Tryz.sizeOf188
 v167:=Tryz.zeroValue188
 t168:=Tryz.underlying191
 a168:=Tryz.isAgg191
 z168:=Tryz.sizeOf191
 v168:=Tryz.zeroValue191
 t171:=Tryz.underlying169
 a171:=Tryz.isAgg169
 z171:=Tryz.sizeOf169
 v171:=Tryz.zeroValue169
 t173:=Tryz.underlying172
 a173:=Tryz.isAgg172
 z173:=Tryz.sizeOf172
 v173:=Tryz.zeroValue172
 t175:=Tryz.underlying196
 a175:=Tryz.isAgg196
 z175:=Tryz.sizeOf196
 v175:=Tryz.zeroValue196
 t210:=Tryz.underlying200
 a210:=Tryz.isAgg200
 z210:=Tryz.sizeOf200
 v210:=Tryz.zeroValue200
 t212:=Tryz.underlying184
 a212:=Tryz.isAgg184
 z212:=Tryz.sizeOf184
 v212:=Tryz.zeroValue184
 t213:=Tryz.underlying185
 a213:=Tryz.isAgg185
 z213:=Tryz.sizeOf185
 t232:=Tryz.underlying202
 a232:=Tryz.isAgg202
 z232:=Tryz.sizeOf202
 v232:=Tryz.zeroValue202
 t233:=Tryz.underlying203
 a233:=Tryz.isAgg203
 z233:=Tryz.sizeOf203
 v233:=Tryz.zeroValue203
 g15:=by kernel_rfl
 g16:=by kernel_rfl
 g17:=by kernel_rfl
 g18:=by kernel_rfl
 g19:=by kernel_rfl
 t80:=Tryz.underlying80
 a80:=Tryz.isAgg80
 z80:=Tryz.sizeOf80
 v80:=Tryz.zeroValue80
 i0:=by kernel_rfl
 i2:=by kernel_rfl
 i3:=by kernel_rfl
 i4:=by kernel_rfl
 i5:=by kernel_rfl
 i9:=by kernel_rfl
 i20:=by kernel_rfl
 i21:=by kernel_rfl
 i37:=by kernel_rfl
 i46:=by kernel_rfl
 i51:=by kernel_rfl
 i53:=by kernel_rfl
 i75:=by kernel_rfl
 i76:=by kernel_rfl
 i80:=by kernel_rfl
 i85:=by kernel_rfl
 i127:=by kernel_rfl
 i143:=by kernel_rfl
 i145:=by kernel_rfl
 i167:=by kernel_rfl
 i168:=by kernel_rfl
 i171:=by kernel_rfl
 i173:=by kernel_rfl
 i175:=by kernel_rfl
 i210:=by kernel_rfl
 i212:=by kernel_rfl
 i232:=by kernel_rfl
 i233:=by kernel_rfl
 m15:=by kernel_rfl
 m16:=by kernel_rfl
 m17:=by kernel_rfl
 m18:=by kernel_rfl
 m19:=by kernel_rfl
 c0:=by kernel_rfl
 c2:=by kernel_rfl
 c3:=by kernel_rfl
 c4:=by kernel_rfl
 c5:=by kernel_rfl
 c9:=by kernel_rfl
 c20:=by kernel_rfl
 c21:=by kernel_rfl
 c37:=by kernel_rfl
 c46:=by kernel_rfl
 c51:=by kernel_rfl
 c53:=by kernel_rfl
 c75:=by kernel_rfl
 c76:=by kernel_rfl
 c80:=by kernel_rfl
 c85:=by kernel_rfl
 c127:=by kernel_rfl
 c143:=by kernel_rfl
 c145:=by kernel_rfl
 c167:=by kernel_rfl
 c168:=by kernel_rfl
 c171:=by kernel_rfl
 c173:=by kernel_rfl
 c175:=by kernel_rfl
 c210:=by kernel_rfl
 c212:=by kernel_rfl
 c213:=by kernel_rfl
 c232:=by kernel_rfl
 c233:=by kernel_rfl}
open Go.RowKit in
theorem Tryz.strconv_Atoi_ok(s:ByteArray)(hmax:s.size≤9223372036854775806)(v:Int)(h:Lib.atoiAll s.data.toList=.ok v)(w:World):
  Calls Tryz.prog 130 #[.string s] w fun e w'=>e=.returned (.tuple #[.int .i64 v,.nilIface])∧(w'=w∨∃t,w'=Lib.bytesWorld w 5 t):=Any.strconv_Atoi_ok Tryz.laysC172 s hmax v h w
def Tryz.lays144_ren:Go.Shelf.Ren:=⟨fun|144=>128|143=>124|219=>160|217=>173|225=>174|224=>175|267=>176|266=>184|314=>185|n=>n,fun|9=>9|4=>4|3=>3|5=>5|46=>139|146=>164|51=>163|n=>n,fun|1=>0|n=>n⟩
theorem Tryz.lays144:Go.Proofs.Lays.n144 Tryz.prog Tryz.lays144_ren:= {
 mixed:=by kernel_rfl
 f143:=Tryz.func124.trans (congrArg some (by kernel_rfl))
 f144:=Tryz.func128.trans (congrArg some (by kernel_rfl))
 f217:=Tryz.func173.trans (congrArg some (by kernel_rfl))
 f219:=Tryz.func160.trans (congrArg some (by kernel_rfl))
 f224:=Tryz.func175.trans (congrArg some (by kernel_rfl))
 f225:=Tryz.func174.trans (congrArg some (by kernel_rfl))
 f266:=Tryz.func184.trans (congrArg some (by kernel_rfl))
 f267:=Tryz.func176.trans (congrArg some (by kernel_rfl))
 f314:=Tryz.func185.trans (congrArg some (by kernel_rfl))
 t3:=Tryz.underlying3
 a3:=Tryz.isAgg3
 z3:=Tryz.sizeOf3
 v3:=Tryz.zeroValue3
 t4:=Tryz.underlying4
 a4:=Tryz.isAgg4
 z4:=Tryz.sizeOf4
 v4:=Tryz.zeroValue4
 t5:=Tryz.underlying5
 a5:=Tryz.isAgg5
 z5:=Tryz.sizeOf5
 v5:=Tryz.zeroValue5
 t9:=Tryz.underlying9
 a9:=Tryz.isAgg9
 z9:=Tryz.sizeOf9
 v9:=Tryz.zeroValue9
 t46:=Tryz.underlying139
 a46:=Tryz.isAgg139
 z46:=Tryz.sizeOf139
 v46:=Tryz.zeroValue139
 t51:=Tryz.underlying163
 a51:=Tryz.isAgg163
 z51:=Tryz.sizeOf163
 v51:=Tryz.zeroValue163
 t146:=Tryz.underlying164
 a146:=Tryz.isAgg164
 z146:=Tryz.sizeOf164
 v146:=Tryz.zeroValue164
 g1:=by kernel_rfl}
open Go.RowKit Go.Lib in
theorem Tryz.strings_Contains(s sub:ByteArray)(m:Int)(w:World)(hs:s.size<4294967281)(hm:w.cell? ⟨0,0,none⟩=some (.int .i64 m)):
  Calls Tryz.prog 128 #[.string s,.string sub] w fun e w'=>e=.returned (.bool (Lib.contains s.data.toList sub.data.toList))∧w'=w:=Any.strings_Contains Tryz.lays144 s sub m w hs hm
def Tryz.lays145_ren:Go.Shelf.Ren:=⟨fun|145=>126|220=>161|219=>160|217=>173|225=>174|224=>175|267=>176|266=>184|314=>185|n=>n,fun|9=>9|4=>4|59=>159|3=>3|5=>5|46=>139|146=>164|51=>163|n=>n,fun|1=>0|n=>n⟩
theorem Tryz.lays145:Go.Proofs.Lays.n145 Tryz.prog Tryz.lays145_ren:= {
 mixed:=by kernel_rfl
 f145:=Tryz.func126.trans (congrArg some (by kernel_rfl))
 f217:=Tryz.func173.trans (congrArg some (by kernel_rfl))
 f219:=Tryz.func160.trans (congrArg some (by kernel_rfl))
 f220:=Tryz.func161.trans (congrArg some (by kernel_rfl))
 f224:=Tryz.func175.trans (congrArg some (by kernel_rfl))
 f225:=Tryz.func174.trans (congrArg some (by kernel_rfl))
 f266:=Tryz.func184.trans (congrArg some (by kernel_rfl))
 f267:=Tryz.func176.trans (congrArg some (by kernel_rfl))
 f314:=Tryz.func185.trans (congrArg some (by kernel_rfl))
 t3:=Tryz.underlying3
 a3:=Tryz.isAgg3
 z3:=Tryz.sizeOf3
 v3:=Tryz.zeroValue3
 t4:=Tryz.underlying4
 a4:=Tryz.isAgg4
 z4:=Tryz.sizeOf4
 v4:=Tryz.zeroValue4
 t5:=Tryz.underlying5
 a5:=Tryz.isAgg5
 z5:=Tryz.sizeOf5
 v5:=Tryz.zeroValue5
 t9:=Tryz.underlying9
 a9:=Tryz.isAgg9
 z9:=Tryz.sizeOf9
 v9:=Tryz.zeroValue9
 t46:=Tryz.underlying139
 a46:=Tryz.isAgg139
 z46:=Tryz.sizeOf139
 v46:=Tryz.zeroValue139
 t51:=Tryz.underlying163
 a51:=Tryz.isAgg163
 z51:=Tryz.sizeOf163
 v51:=Tryz.zeroValue163
 t59:=Tryz.underlying159
 a59:=Tryz.isAgg159
 z59:=Tryz.sizeOf159
 v59:=Tryz.zeroValue159
 t146:=Tryz.underlying164
 a146:=Tryz.isAgg164
 z146:=Tryz.sizeOf164
 v146:=Tryz.zeroValue164
 g1:=by kernel_rfl}
open Go.RowKit Go.Lib in
theorem Tryz.strings_Cut(s sep:ByteArray)(m:Int)(w:World)(hs:s.size<4294967281)(hm:w.cell? ⟨0,0,none⟩=some (.int .i64 m)):
  Calls Tryz.prog 126 #[.string s,.string sep] w fun e w'=>e=.returned (.tuple #[.string ⟨(Lib.cut s.data.toList sep.data.toList).1.toArray⟩,.string ⟨(Lib.cut s.data.toList sep.data.toList).2.1.toArray⟩,.bool (Lib.cut s.data.toList sep.data.toList).2.2])∧∃n,w'=w.drewN n:=Any.strings_Cut Tryz.lays145 s sep m w hs hm
def Tryz.lays138_ren:Go.Shelf.Ren:=⟨fun|138=>99|195=>122|218=>123|143=>124|219=>160|217=>173|225=>174|224=>175|267=>176|266=>184|314=>185|n=>n,fun|9=>9|3=>3|4=>4|5=>5|0=>0|46=>139|146=>164|51=>163|n=>n,fun|1=>0|n=>n⟩
theorem Tryz.lays138:Go.Proofs.Lays.n138 Tryz.prog Tryz.lays138_ren:= {
 mixed:=by kernel_rfl
 f138:=Tryz.func99.trans (congrArg some (by kernel_rfl))
 f143:=Tryz.func124.trans (congrArg some (by kernel_rfl))
 f195:=Tryz.func122.trans (congrArg some (by kernel_rfl))
 f217:=Tryz.func173.trans (congrArg some (by kernel_rfl))
 f218:=Tryz.func123.trans (congrArg some (by kernel_rfl))
 f219:=Tryz.func160.trans (congrArg some (by kernel_rfl))
 f224:=Tryz.func175.trans (congrArg some (by kernel_rfl))
 f225:=Tryz.func174.trans (congrArg some (by kernel_rfl))
 f266:=Tryz.func184.trans (congrArg some (by kernel_rfl))
 f267:=Tryz.func176.trans (congrArg some (by kernel_rfl))
 f314:=Tryz.func185.trans (congrArg some (by kernel_rfl))
 t0:=Tryz.underlying0
 a0:=Tryz.isAgg0
 z0:=Tryz.sizeOf0
 v0:=Tryz.zeroValue0
 t3:=Tryz.underlying3
 a3:=Tryz.isAgg3
 z3:=Tryz.sizeOf3
 v3:=Tryz.zeroValue3
 t4:=Tryz.underlying4
 a4:=Tryz.isAgg4
 z4:=Tryz.sizeOf4
 v4:=Tryz.zeroValue4
 t5:=Tryz.underlying5
 a5:=Tryz.isAgg5
 z5:=Tryz.sizeOf5
 v5:=Tryz.zeroValue5
 t9:=Tryz.underlying9
 a9:=Tryz.isAgg9
 z9:=Tryz.sizeOf9
 v9:=Tryz.zeroValue9
 t46:=Tryz.underlying139
 a46:=Tryz.isAgg139
 z46:=Tryz.sizeOf139
 v46:=Tryz.zeroValue139
 t51:=Tryz.underlying163
 a51:=Tryz.isAgg163
 z51:=Tryz.sizeOf163
 v51:=Tryz.zeroValue163
 t146:=Tryz.underlying164
 a146:=Tryz.isAgg164
 z146:=Tryz.sizeOf164
 v146:=Tryz.zeroValue164
 g1:=by kernel_rfl}
open Go.RowKit Go.Lib in
theorem Tryz.strings_Count_one(s:ByteArray)(c:UInt8)(w:World):
  Calls Tryz.prog 99 #[.string s,.string ⟨#[c]⟩] w fun e w'=>e=.returned (.int .i64 (Lib.countByte s.data.toList c))∧w'=w:=Any.strings_Count_one Tryz.lays138 s c w
def Tryz.lays99_ren:Go.Shelf.Ren:=⟨fun|99=>100|206=>125|n=>n,fun|9=>9|4=>4|3=>3|n=>n,fun|n=>n⟩
theorem Tryz.lays99:Go.Proofs.Lays.n99 Tryz.prog Tryz.lays99_ren:= {
 mixed:=by kernel_rfl
 f99:=Tryz.func100.trans (congrArg some (by kernel_rfl))
 f206:=Tryz.func125.trans (congrArg some (by kernel_rfl))
 t3:=Tryz.underlying3
 a3:=Tryz.isAgg3
 z3:=Tryz.sizeOf3
 v3:=Tryz.zeroValue3
 t4:=Tryz.underlying4
 a4:=Tryz.isAgg4
 z4:=Tryz.sizeOf4
 v4:=Tryz.zeroValue4
 t9:=Tryz.underlying9
 a9:=Tryz.isAgg9
 z9:=Tryz.sizeOf9
 v9:=Tryz.zeroValue9}
open Go.RowKit Go.Lib in
theorem Tryz.strings_HasPrefix(s p:ByteArray)(w:World):
  Calls Tryz.prog 100 #[.string s,.string p] w fun e w'=>e=.returned (.bool (Lib.hasPrefix s.data.toList p.data.toList))∧w'=w:=Any.strings_HasPrefix Tryz.lays99 s p w
def Tryz.lays105_ren:Go.Shelf.Ren:=⟨fun|105=>65|212=>110|99=>100|165=>111|166=>109|170=>112|169=>33|263=>133|264=>134|206=>125|240=>132|241=>135|276=>166|277=>167|n=>n,fun|9=>9|3=>3|4=>4|20=>20|0=>0|46=>139|109=>140|5=>5|72=>74|76=>137|51=>163|146=>164|53=>166|148=>167|70=>71|37=>72|75=>136|127=>111|164=>181|80=>80|n=>n,fun|n=>n⟩
theorem Tryz.lays105:Go.Proofs.Lays.n105 Tryz.prog Tryz.lays105_ren:= {
 mixed:=by kernel_rfl
 f99:=Tryz.func100.trans (congrArg some (by kernel_rfl))
 f105:=Tryz.func65.trans (congrArg some (by kernel_rfl))
 f165:=Tryz.func111.trans (congrArg some (by kernel_rfl))
 f166:=Tryz.func109.trans (congrArg some (by kernel_rfl))
 f169:=Tryz.func33.trans (congrArg some (by kernel_rfl))
 f170:=Tryz.func112.trans (congrArg some (by kernel_rfl))
 f206:=Tryz.func125.trans (congrArg some (by kernel_rfl))
 f212:=Tryz.func110.trans (congrArg some (by kernel_rfl))
 f240:=Tryz.func132.trans (congrArg some (by kernel_rfl))
 f241:=Tryz.func135.trans (congrArg some (by kernel_rfl))
 f263:=Tryz.func133.trans (congrArg some (by kernel_rfl))
 f264:=Tryz.func134.trans (congrArg some (by kernel_rfl))
 f276:=Tryz.func166.trans (congrArg some (by kernel_rfl))
 f277:=Tryz.func167.trans (congrArg some (by kernel_rfl))
 t0:=Tryz.underlying0
 a0:=Tryz.isAgg0
 z0:=Tryz.sizeOf0
 v0:=Tryz.zeroValue0
 t3:=Tryz.underlying3
 a3:=Tryz.isAgg3
 z3:=Tryz.sizeOf3
 v3:=Tryz.zeroValue3
 t4:=Tryz.underlying4
 a4:=Tryz.isAgg4
 z4:=Tryz.sizeOf4
 v4:=Tryz.zeroValue4
 t5:=Tryz.underlying5
 a5:=Tryz.isAgg5
 z5:=Tryz.sizeOf5
 v5:=Tryz.zeroValue5
 t9:=Tryz.underlying9
 a9:=Tryz.isAgg9
 z9:=Tryz.sizeOf9
 v9:=Tryz.zeroValue9
 t20:=Tryz.underlying20
 a20:=Tryz.isAgg20
 z20:=Tryz.sizeOf20
 v20:=Tryz.zeroValue20
 t37:=Tryz.underlying72
 a37:=Tryz.isAgg72
 z37:=Tryz.sizeOf72
 v37:=Tryz.zeroValue72
 t46:=Tryz.underlying139
 a46:=Tryz.isAgg139
 z46:=Tryz.sizeOf139
 v46:=Tryz.zeroValue139
 t51:=Tryz.underlying163
 a51:=Tryz.isAgg163
 z51:=Tryz.sizeOf163
 v51:=Tryz.zeroValue163
 t53:=Tryz.underlying166
 a53:=Tryz.isAgg166
 z53:=Tryz.sizeOf166
 v53:=Tryz.zeroValue166
 t70:=Tryz.underlying71
 a70:=Tryz.isAgg71
 z70:=Tryz.sizeOf71
 v70:=Tryz.zeroValue71
 t72:=Tryz.underlying74
 a72:=Tryz.isAgg74
 z72:=Tryz.sizeOf74
 v72:=Tryz.zeroValue74
 t75:=Tryz.underlying136
 a75:=Tryz.isAgg136
 z75:=Tryz.sizeOf136
 v75:=Tryz.zeroValue136
 t76:=Tryz.underlying137
 a76:=Tryz.isAgg137
 z76:=Tryz.sizeOf137
 v76:=Tryz.zeroValue137
 t109:=Tryz.underlying140
 a109:=Tryz.isAgg140
 z109:=Tryz.sizeOf140
 v109:=Tryz.zeroValue140
 t127:=Tryz.underlying111
 a127:=Tryz.isAgg111
 z127:=Tryz.sizeOf111
 v127:=Tryz.zeroValue111
 t146:=Tryz.underlying164
 a146:=Tryz.isAgg164
 z146:=Tryz.sizeOf164
 v146:=Tryz.zeroValue164
 t148:=Tryz.underlying167
 a148:=Tryz.isAgg167
 z148:=Tryz.sizeOf167
 v148:=Tryz.zeroValue167
 t164:=Tryz.underlying181
 a164:=Tryz.isAgg181
 z164:=Tryz.sizeOf181
 v164:=Tryz.zeroValue181}
theorem Tryz.Builder_Extra_105:Builder.Extra Tryz.prog Tryz.lays105_ren:= {
 sizeBuilder:=by kernel_rfl
 liesBuilder:=by kernel_rfl
 t5:=Tryz.underlying5
 a5:=Tryz.isAgg5
 z5:=Tryz.sizeOf5
 v5:=Tryz.zeroValue5
 infoByte:=by kernel_rfl
 cellsByte:=by kernel_rfl
 sizeByte:=by kernel_rfl
 neB5:=by decide}
open Go.RowKit Go.Lib in
theorem Tryz.strings_Repeat(s:ByteArray)(c:Nat)(w:World)(hc:c≤9223372036854775807)(hlen:s.size*c≤140737488355328):
  Calls Tryz.prog 65 #[.string s,.int .i64 c] w fun e w'=>e=.returned (.string ⟨(Lib.repeatL s.data.toList c).toArray⟩)∧Below w.heap.size w w':=Any.strings_Repeat Tryz.lays105 Tryz.Builder_Extra_105 s c w hc hlen
def Tryz.lays197_ren:Go.Shelf.Ren:=⟨fun|197=>131|260=>165|n=>n,fun|9=>9|21=>21|3=>3|4=>4|5=>5|105=>161|119=>176|0=>0|46=>139|139=>179|138=>178|n=>n,fun|3=>1|4=>2|n=>n⟩
theorem Tryz.lays197:Go.Proofs.Lays.n197 Tryz.prog Tryz.lays197_ren:= {
 mixed:=by kernel_rfl
 f197:=Tryz.func131.trans (congrArg some (by kernel_rfl))
 f260:=Tryz.func165.trans (congrArg some (by kernel_rfl))
 t0:=Tryz.underlying0
 a0:=Tryz.isAgg0
 z0:=Tryz.sizeOf0
 v0:=Tryz.zeroValue0
 t3:=Tryz.underlying3
 a3:=Tryz.isAgg3
 z3:=Tryz.sizeOf3
 v3:=Tryz.zeroValue3
 t4:=Tryz.underlying4
 a4:=Tryz.isAgg4
 z4:=Tryz.sizeOf4
 v4:=Tryz.zeroValue4
 t5:=Tryz.underlying5
 a5:=Tryz.isAgg5
 z5:=Tryz.sizeOf5
 v5:=Tryz.zeroValue5
 t9:=Tryz.underlying9
 a9:=Tryz.isAgg9
 z9:=Tryz.sizeOf9
 v9:=Tryz.zeroValue9
 t21:=Tryz.underlying21
 a21:=Tryz.isAgg21
 z21:=Tryz.sizeOf21
 v21:=Tryz.zeroValue21
 t46:=Tryz.underlying139
 a46:=Tryz.isAgg139
 z46:=Tryz.sizeOf139
 v46:=Tryz.zeroValue139
 t105:=Tryz.underlying161
 a105:=Tryz.isAgg161
 z105:=Tryz.sizeOf161
 v105:=Tryz.zeroValue161
 t119:=Tryz.underlying176
 a119:=Tryz.isAgg176
 z119:=Tryz.sizeOf176
 t138:=Tryz.underlying178
 a138:=Tryz.isAgg178
 z138:=Tryz.sizeOf178
 v138:=Tryz.zeroValue178
 t139:=Tryz.underlying179
 a139:=Tryz.isAgg179
 z139:=Tryz.sizeOf179
 v139:=Tryz.zeroValue179
 g3:=by kernel_rfl
 g4:=by kernel_rfl}
open Go.RowKit Go.Lib in
theorem Tryz.utf8_DecodeRuneInString(s:ByteArray)(w:World)(hT:Lib.Utf8Tabs 1 2 w):
  Calls Tryz.prog 131 #[.string s] w fun e w'=>e=.returned (.tuple #[.int .i32 (Lib.decodeGo s).1,.int .i64 (Lib.decodeGo s).2])∧Below w.heap.size w w':=Any.utf8_DecodeRuneInString Tryz.lays197 s w hT
def Tryz.lays196_ren:Go.Shelf.Ren:=⟨fun|196=>127|259=>162|n=>n,fun|9=>9|4=>4|3=>3|5=>5|12=>12|119=>176|0=>0|46=>139|139=>179|138=>178|53=>166|n=>n,fun|3=>1|4=>2|n=>n⟩
theorem Tryz.lays196:Go.Proofs.Lays.n196 Tryz.prog Tryz.lays196_ren:= {
 mixed:=by kernel_rfl
 f196:=Tryz.func127.trans (congrArg some (by kernel_rfl))
 f259:=Tryz.func162.trans (congrArg some (by kernel_rfl))
 t0:=Tryz.underlying0
 a0:=Tryz.isAgg0
 z0:=Tryz.sizeOf0
 v0:=Tryz.zeroValue0
 t3:=Tryz.underlying3
 a3:=Tryz.isAgg3
 z3:=Tryz.sizeOf3
 v3:=Tryz.zeroValue3
 t4:=Tryz.underlying4
 a4:=Tryz.isAgg4
 z4:=Tryz.sizeOf4
 v4:=Tryz.zeroValue4
 t5:=Tryz.underlying5
 a5:=Tryz.isAgg5
 z5:=Tryz.sizeOf5
 v5:=Tryz.zeroValue5
 t9:=Tryz.underlying9
 a9:=Tryz.isAgg9
 z9:=Tryz.sizeOf9
 v9:=Tryz.zeroValue9
 t12:=Tryz.underlying12
 a12:=Tryz.isAgg12
 z12:=Tryz.sizeOf12
 v12:=Tryz.zeroValue12
 t46:=Tryz.underlying139
 a46:=Tryz.isAgg139
 z46:=Tryz.sizeOf139
 v46:=Tryz.zeroValue139
 t53:=Tryz.underlying166
 a53:=Tryz.isAgg166
 z53:=Tryz.sizeOf166
 v53:=Tryz.zeroValue166
 t119:=Tryz.underlying176
 a119:=Tryz.isAgg176
 z119:=Tryz.sizeOf176
 t138:=Tryz.underlying178
 a138:=Tryz.isAgg178
 z138:=Tryz.sizeOf178
 v138:=Tryz.zeroValue178
 t139:=Tryz.underlying179
 a139:=Tryz.isAgg179
 z139:=Tryz.sizeOf179
 v139:=Tryz.zeroValue179
 g3:=by kernel_rfl
 g4:=by kernel_rfl}
open Go.RowKit Go.Lib in
theorem Tryz.utf8_ValidString(s:ByteArray)(w:World)(hs:s.size≤9223372036854775807)(hT:Lib.Utf8Tabs 1 2 w):
  Calls Tryz.prog 127 #[.string s] w fun e w'=>e=.returned (.bool (Lib.validD s.data.toList))∧Below w.heap.size w w':=Any.utf8_ValidString Tryz.lays196 s w hs hT
end Go.Proofs
namespace Go.Proofs.YtfhbinbjkpfedaaGreatDoor
open Go.RowKit Go.Proofs.Tryz
set_option maxHeartbeats 20000000
set_option maxRecDepth 100000
open Go.Proofs.Tryz renaming prog→Za,func94→Zh,ntmps94→Zi,results94→Zj
open Go.Lib renaming hid→Zb,byteCells→Zm,cell_of_heap→Zp
open World renaming cell?_alloc_lt→Zc,setCell→Zq
open List renaming setIfInBounds_toArray→Zd,set_cons_zero→Ze,set_cons_succ→Zf,getElem?_eq_getElem→Zn,getElem_toArray→Zs,getElem_cons_succ→Zt,getElem_cons_zero→Zu,getD_eq_getElem?_getD→Zw
open Below renaming refl→Zg,setCell→Zk,alloc→Zl,drew→Zo,heap_setCell→Zr
open Nat renaming lt_succ_iff_lt_or_eq→Zv
theorem aL(b off n cap:Nat)(k:FuncId)(caps:Array Value)(hk:∀args w,(callFunc k args).run Za w=.ok (.enter k args) w)(w:World)(c0 c1 c2 c3 c4:Nat→Value)(p:Nat→Bool)(hn:n≤140737488355328)
  (hc:∀i,i<n→w.cell? ⟨b,off+i*5,none⟩=some (c0 i)∧w.cell? ⟨b,off+i*5+1,none⟩=some (c1 i)∧w.cell? ⟨b,off+i*5+2,none⟩=some (c2 i)∧w.cell? ⟨b,off+i*5+3,none⟩=some (c3 i)∧w.cell? ⟨b,off+i*5+4,none⟩=some (c4 i))
  (hf:∀i,i<n→∀w1,Below w.heap.size w w1→Calls Za k (#[.agg #[c0 i,c1 i,c2 i,c3 i,c4 i]]++caps) w1 fun e w2=>e=.returned (.bool (p i))∧Below w1.heap.size w1 w2):
  Calls Za 121 #[.slice (some ⟨b,off,none⟩) n cap,.func (.func k) #[] caps] w fun e w'=>e=.returned (.int .i64 (Dn p n))∧Below w.heap.size w w':=by
 have HF:=Zb hf;clear hf;have HC:=Zb hc;clear hc;have hn1:n<9223372036854775807:=by omega
 clear hn;go_enter func121,ntmps121
 go_wp2_with fail
 go_loopw [5,8] (fun _ i8 wr=> ∃j:Nat,j≤n∧i8=.int .i64 j∧(∀i,i<j→p i=false)∧Below w.heap.size w wr) (fun _ i8 _=>n-(intOf i8).toNat)
 case atStart=>exact⟨0,Nat.zero_le _,rfl,fun i hi=>by omega,Zg _ _⟩
 case round=>
  obtain⟨j,hj,rfl,hno,hb⟩:=hrel;have HNO:=Zb hno;clear hno
  by_cases hlt:j<n
  ·obtain⟨g0,g1,g2,g3,g4⟩:=HC.o j hlt
   have k0:=Ac hb g0;have k1:=Ac hb g1;have k2:=Ac hb g2;have k3:=Ac hb g3;have k4:=Ac hb g4;clear g0 g1 g2 g3 g4;have call:=HF.o j hlt wr hb;have HB:=Zb hb;clear hb;have HCALL:=Zb call;clear call;go_wp2_with fail
   refine HCALL.o.mono ?_
   cases hp:p j
   ·rintro e w2 ⟨rfl,hb2⟩
    have HP:=Zb hp;clear hp;go_wp2_with fail
    go_roundw
    case rel=>exact⟨j+1,by omega,by go_num,fun i hi=>by rcases Zv.1 hi with h|rfl;exact HNO.o i h;exact HP.o,HB.o.trans (hb2.mono HB.o.size)⟩
    case measure=>simp [intOf];omega
   ·rintro e w2 ⟨rfl,hb2⟩
    have HP:=Zb hp;clear hp;go_wp2_with fail
    go_ret
    exact⟨Ii (Ln p j HP.o HNO.o n hlt).symm,HB.o.trans (hb2.mono HB.o.size)⟩
  ·have hje:n≤j:=by omega
   have HB:=Zb hb;clear hb;go_wp2_with fail
   go_ret
   exact⟨Ii (Hw p n (fun i hi=>HNO.o i (by omega))).symm,HB.o⟩
theorem Vs(a:Option Addr)(cap:Nat)(f:Value)(w:World):
  Calls Za 121 #[.slice a 0 cap,f] w fun e w'=>e=.returned (.int .i64 (-1))∧Below w.heap.size w w':=by
 go_enter func121,ntmps121
 go_wp2_with fail
 refine wp_loop_rounds 1 ?_;rw[rounds_succ];go_wp2_with fail
 go_ret
 exact⟨rfl,Zg _ _⟩
theorem Sr(a:Option Addr)(n cap:Nat)(k:FuncId)(caps:Array Value)(hk:∀args w,(callFunc k args).run Za w=.ok (.enter k args) w)(w:World)(c0 c1 c2 c3 c4:Nat→Value)(p:Nat→Bool)(hn:n≤140737488355328)
  (hc:n=0∨∃b off,a=some ⟨b,off,none⟩∧∀i,i<n→w.cell? ⟨b,off+i*5,none⟩=some (c0 i)∧w.cell? ⟨b,off+i*5+1,none⟩=some (c1 i)∧w.cell? ⟨b,off+i*5+2,none⟩=some (c2 i)∧w.cell? ⟨b,off+i*5+3,none⟩=some (c3 i)∧w.cell? ⟨b,off+i*5+4,none⟩=some (c4 i))
  (hf:∀i,i<n→∀w1,Below w.heap.size w w1→Calls Za k (#[.agg #[c0 i,c1 i,c2 i,c3 i,c4 i]]++caps) w1 fun e w2=>e=.returned (.bool (p i))∧Below w1.heap.size w1 w2):
  Calls Za 92 #[.slice a n cap,.func (.func k) #[] caps] w fun e w'=>e=.returned (.bool (Kq p n))∧Below w.heap.size w w':=by
 have H:Hid (Calls Za 121 #[.slice a n cap,.func (.func k) #[] caps] w fun e w'=>e=.returned (.int .i64 (Dn p n))∧Below w.heap.size w w'):=by
  rcases hc with rfl|⟨b,off,rfl,hc⟩
  ·exact Vs _ _ _ _
  ·exact aL b off n cap k caps hk w c0 c1 c2 c3 c4 p hn hc hf
 clear hc hf hk hn;have E:Hid (decide (0≤Dn p n)=Kq p n):=Jl p n;generalize Dn p n=r at H E;generalize Kq p n=q at E;go_enter func92,ntmps92
 go_wp2_with fail
 refine H.out.mono ?_;rintro e w1 ⟨rfl,hb⟩;go_wp2_with fail
 go_ret
 exact⟨Ak E.out,hb⟩
theorem bG(b off n cap:Nat)(k:FuncId)(caps:Array Value)(hk:∀args w,(callFunc k args).run Za w=.ok (.enter k args) w)(w:World)(c0 c1 c2 c3 c4:Nat→Value)(p:Nat→Bool)(hn:n≤140737488355328)
  (hc:∀i,i<n→w.cell? ⟨b,off+i*5,none⟩=some (c0 i)∧w.cell? ⟨b,off+i*5+1,none⟩=some (c1 i)∧w.cell? ⟨b,off+i*5+2,none⟩=some (c2 i)∧w.cell? ⟨b,off+i*5+3,none⟩=some (c3 i)∧w.cell? ⟨b,off+i*5+4,none⟩=some (c4 i))
  (hf:∀i,i<n→∀w1,Below w.heap.size w w1→Calls Za k (#[.agg #[c0 i,c1 i,c2 i,c3 i,c4 i]]++caps) w1 fun e w2=>e=.returned (.bool (p i))∧Below w1.heap.size w1 w2):
  Calls Za 117 #[.slice (some ⟨b,off,none⟩) n cap,.func (.func k) #[] caps] w fun e w'=>e=.returned (.int .i64 (Dn p n))∧Below w.heap.size w w':=by
 have HF:=Zb hf;clear hf;have HC:=Zb hc;clear hc;have hn1:n<9223372036854775807:=by omega
 clear hn;go_enter func117,ntmps117
 go_wp2_with fail
 go_loopw [5,8] (fun _ i8 wr=> ∃j:Nat,j≤n∧i8=.int .i64 j∧(∀i,i<j→p i=false)∧Below w.heap.size w wr) (fun _ i8 _=>n-(intOf i8).toNat)
 case atStart=>exact⟨0,Nat.zero_le _,rfl,fun i hi=>by omega,Zg _ _⟩
 case round=>
  obtain⟨j,hj,rfl,hno,hb⟩:=hrel;have HNO:=Zb hno;clear hno
  by_cases hlt:j<n
  ·obtain⟨g0,g1,g2,g3,g4⟩:=HC.o j hlt
   have k0:=Ac hb g0;have k1:=Ac hb g1;have k2:=Ac hb g2;have k3:=Ac hb g3;have k4:=Ac hb g4;clear g0 g1 g2 g3 g4;have call:=HF.o j hlt wr hb;have HB:=Zb hb;clear hb;have HCALL:=Zb call;clear call;go_wp2_with fail
   refine HCALL.o.mono ?_
   cases hp:p j
   ·rintro e w2 ⟨rfl,hb2⟩
    have HP:=Zb hp;clear hp;go_wp2_with fail
    go_roundw
    case rel=>exact⟨j+1,by omega,by go_num,fun i hi=>by rcases Zv.1 hi with h|rfl;exact HNO.o i h;exact HP.o,HB.o.trans (hb2.mono HB.o.size)⟩
    case measure=>simp [intOf];omega
   ·rintro e w2 ⟨rfl,hb2⟩
    have HP:=Zb hp;clear hp;go_wp2_with fail
    go_ret
    exact⟨Ii (Ln p j HP.o HNO.o n hlt).symm,HB.o.trans (hb2.mono HB.o.size)⟩
  ·have hje:n≤j:=by omega
   have HB:=Zb hb;clear hb;go_wp2_with fail
   go_ret
   exact⟨Ii (Hw p n (fun i hi=>HNO.o i (by omega))).symm,HB.o⟩
theorem Xa(a:Option Addr)(cap:Nat)(f:Value)(w:World):
  Calls Za 117 #[.slice a 0 cap,f] w fun e w'=>e=.returned (.int .i64 (-1))∧Below w.heap.size w w':=by
 go_enter func117,ntmps117
 go_wp2_with fail
 refine wp_loop_rounds 1 ?_;rw[rounds_succ];go_wp2_with fail
 go_ret
 exact⟨rfl,Zg _ _⟩
theorem Ta(a:Option Addr)(n cap:Nat)(k:FuncId)(caps:Array Value)(hk:∀args w,(callFunc k args).run Za w=.ok (.enter k args) w)(w:World)(c0 c1 c2 c3 c4:Nat→Value)(p:Nat→Bool)(hn:n≤140737488355328)
  (hc:n=0∨∃b off,a=some ⟨b,off,none⟩∧∀i,i<n→w.cell? ⟨b,off+i*5,none⟩=some (c0 i)∧w.cell? ⟨b,off+i*5+1,none⟩=some (c1 i)∧w.cell? ⟨b,off+i*5+2,none⟩=some (c2 i)∧w.cell? ⟨b,off+i*5+3,none⟩=some (c3 i)∧w.cell? ⟨b,off+i*5+4,none⟩=some (c4 i))
  (hf:∀i,i<n→∀w1,Below w.heap.size w w1→Calls Za k (#[.agg #[c0 i,c1 i,c2 i,c3 i,c4 i]]++caps) w1 fun e w2=>e=.returned (.bool (p i))∧Below w1.heap.size w1 w2):
  Calls Za 74 #[.slice a n cap,.func (.func k) #[] caps] w fun e w'=>e=.returned (.bool (Kq p n))∧Below w.heap.size w w':=by
 have H:Hid (Calls Za 117 #[.slice a n cap,.func (.func k) #[] caps] w fun e w'=>e=.returned (.int .i64 (Dn p n))∧Below w.heap.size w w'):=by
  rcases hc with rfl|⟨b,off,rfl,hc⟩
  ·exact Xa _ _ _ _
  ·exact bG b off n cap k caps hk w c0 c1 c2 c3 c4 p hn hc hf
 clear hc hf hk hn;have E:Hid (decide (0≤Dn p n)=Kq p n):=Jl p n;generalize Dn p n=r at H E;generalize Kq p n=q at E;go_enter func74,ntmps74
 go_wp2_with fail
 refine H.out.mono ?_;rintro e w1 ⟨rfl,hb⟩;go_wp2_with fail
 go_ret
 exact⟨Ak E.out,hb⟩
theorem Zz(b off n cap:Nat)(k:FuncId)(caps:Array Value)(hk:∀args w,(callFunc k args).run Za w=.ok (.enter k args) w)(w:World)(c0:Nat→Value)(p:Nat→Bool)(hn:n≤140737488355328)
  (hc:∀i,i<n→w.cell? ⟨b,off+i,none⟩=some (c0 i))
  (hf:∀i,i<n→∀w1,Below w.heap.size w w1→Calls Za k (#[c0 i]++caps) w1 fun e w2=>e=.returned (.bool (p i))∧Below w1.heap.size w1 w2):
  Calls Za 115 #[.slice (some ⟨b,off,none⟩) n cap,.func (.func k) #[] caps] w fun e w'=>e=.returned (.int .i64 (Dn p n))∧Below w.heap.size w w':=by
 have HF:=Zb hf;clear hf;have HC:=Zb hc;clear hc;have hn1:n<9223372036854775807:=by omega
 clear hn;go_enter func115,ntmps115
 go_wp2_with fail
 go_loopw [5,8] (fun _ i8 wr=> ∃j:Nat,j≤n∧i8=.int .i64 j∧(∀i,i<j→p i=false)∧Below w.heap.size w wr) (fun _ i8 _=>n-(intOf i8).toNat)
 case atStart=>exact⟨0,Nat.zero_le _,rfl,fun i hi=>by omega,Zg _ _⟩
 case round=>
  obtain⟨j,hj,rfl,hno,hb⟩:=hrel;have HNO:=Zb hno;clear hno
  by_cases hlt:j<n
  ·have g0:=HC.o j hlt
   have k0:=Ac hb g0;clear g0;have call:=HF.o j hlt wr hb;have HB:=Zb hb;clear hb;have HCALL:=Zb call;clear call;go_wp2_with fail
   refine HCALL.o.mono ?_
   cases hp:p j
   ·rintro e w2 ⟨rfl,hb2⟩
    have HP:=Zb hp;clear hp;go_wp2_with fail
    go_roundw
    case rel=>exact⟨j+1,by omega,by go_num,fun i hi=>by rcases Zv.1 hi with h|rfl;exact HNO.o i h;exact HP.o,HB.o.trans (hb2.mono HB.o.size)⟩
    case measure=>simp [intOf];omega
   ·rintro e w2 ⟨rfl,hb2⟩
    have HP:=Zb hp;clear hp;go_wp2_with fail
    go_ret
    exact⟨Ii (Ln p j HP.o HNO.o n hlt).symm,HB.o.trans (hb2.mono HB.o.size)⟩
  ·have hje:n≤j:=by omega
   have HB:=Zb hb;clear hb;go_wp2_with fail
   go_ret
   exact⟨Ii (Hw p n (fun i hi=>HNO.o i (by omega))).symm,HB.o⟩
theorem Xn(a:Option Addr)(cap:Nat)(f:Value)(w:World):
  Calls Za 115 #[.slice a 0 cap,f] w fun e w'=>e=.returned (.int .i64 (-1))∧Below w.heap.size w w':=by
 go_enter func115,ntmps115
 go_wp2_with fail
 refine wp_loop_rounds 1 ?_;rw[rounds_succ];go_wp2_with fail
 go_ret
 exact⟨rfl,Zg _ _⟩
theorem Sq(a:Option Addr)(n cap:Nat)(k:FuncId)(caps:Array Value)(hk:∀args w,(callFunc k args).run Za w=.ok (.enter k args) w)(w:World)(c0:Nat→Value)(p:Nat→Bool)(hn:n≤140737488355328)
  (hc:n=0∨∃b off,a=some ⟨b,off,none⟩∧∀i,i<n→w.cell? ⟨b,off+i,none⟩=some (c0 i))
  (hf:∀i,i<n→∀w1,Below w.heap.size w w1→Calls Za k (#[c0 i]++caps) w1 fun e w2=>e=.returned (.bool (p i))∧Below w1.heap.size w1 w2):
  Calls Za 71 #[.slice a n cap,.func (.func k) #[] caps] w fun e w'=>e=.returned (.bool (Kq p n))∧Below w.heap.size w w':=by
 have H:Hid (Calls Za 115 #[.slice a n cap,.func (.func k) #[] caps] w fun e w'=>e=.returned (.int .i64 (Dn p n))∧Below w.heap.size w w'):=by
  rcases hc with rfl|⟨b,off,rfl,hc⟩
  ·exact Xn _ _ _ _
  ·exact Zz b off n cap k caps hk w c0 p hn hc hf
 clear hc hf hk hn;have E:Hid (decide (0≤Dn p n)=Kq p n):=Jl p n;generalize Dn p n=r at H E;generalize Kq p n=q at E;go_enter func71,ntmps71
 go_wp2_with fail
 refine H.out.mono ?_;rintro e w1 ⟨rfl,hb⟩;go_wp2_with fail
 go_ret
 exact⟨Ak E.out,hb⟩
theorem row_eq {s:ByteArray}{l op:Int}{F1 F2:Value}(hs:s=Aa (Cj op))(hl:l=Bi op):
  ∃f1 f2,Ending.returned (.agg #[.string s,.int .i64 l,F1,F2])=.returned (.agg #[.string (Aa (Cj op)),.int .i64 (Bi op),f1,f2]):=by
 subst hs hl;exact⟨_,_,rfl⟩
theorem Tv(op:Int)(w:World):
  Calls Za 120 #[.int .i64 op] w fun e w'=>(∃f1 f2,e=.returned (.agg #[.string (Aa (Cj op)),.int .i64 (Bi op),f1,f2]))∧Below w.heap.size w w':=by
 go_enter func120,ntmps120
 go_wp2
 all_goals(refine bodyPost_ret (by simp [results,results120,go_sem];rfl) rfl ?_)
 all_goals(refine⟨row_eq ?_ ?_,by repeat(first|exact Zg _ _|refine Zl ?_ (Nat.le_refl _) _)⟩)
 all_goals(simp only[beq_iff_eq,beq_eq_false_iff_ne,ne_eq]at*;simp [Cj,Bi,Aa, *])
@[go_sem] theorem field_row0 (a b c d:Value) (w:World):(Instr.field 154 (.agg #[a,b,c,d]) 0).run Za w=.ok a w:=by kernel_rfl
@[go_sem] theorem field_row1 (a b c d:Value) (w:World):(Instr.field 154 (.agg #[a,b,c,d]) 1).run Za w=.ok b w:=by kernel_rfl
theorem Lq(op:Int)(w:World):
  Calls Za 87 #[.int .i64 op] w fun e w'=>e=.returned (.int .i64 (Bi op))∧Below w.heap.size w w':=by
 go_enter func87,ntmps87
 go_wp2_with fail
 refine(Tv op _).mono ?_;rintro e w1 ⟨⟨f1,f2,rfl⟩,hb⟩;go_wp2_with fail
 go_ret
 exact⟨rfl,hb⟩
theorem Iz(op:Int)(w:World):
  Calls Za 85 #[.int .i64 op] w fun e w'=>e=.returned (.tuple #[.string (Aa (Cj op)),.bool (!(Cj op).isEmpty)])∧Below w.heap.size w w':=by
 go_enter func85,ntmps85
 go_wp2_with fail
 refine(Tv op _).mono ?_;rintro e w1 ⟨⟨f1,f2,rfl⟩,hb⟩;go_wp2_with fail
 go_ret2
 exact⟨by simp [Aa],hb⟩
theorem Cb {l:List Ex}{i:Nat}(h:i<l.length):Bh l i∈l:=by
 simp only[Bh,Zw,Zn h,Option.getD_some];exact List.getElem_mem h
theorem Wu {l:List Ex}{i:Nat}(h:i<l.length):Bh l i=l[i]:=by
 simp [Bh,Zn h]
theorem Iv {l:List St}{i:Nat}(h:i<l.length):Ff l i∈l:=by
 simp only[Ff,Zw,Zn h,Option.getD_some];exact List.getElem_mem h
theorem jJ {l:List St}{i:Nat}(h:i<l.length):Ff l i=l[i]:=by
 simp [Ff,Zn h]
theorem Ju(k:FuncId)(caps:Array Value)(hk:∀args w,(callFunc k args).run Za w=.ok (.enter k args) w)(l:List Ex)(s:Value)(D:Nat→Prop)(w:World)(h:Ai D w l s)(f:Ex→Bool)
  (hf:∀e s' w1,e∈l→Below w.heap.size w w1→Ai D w1 e.args s'→Calls Za k (#[exV e s']++caps) w1 fun r w2=>r=.returned (.bool (f e))∧Below w1.heap.size w1 w2):
  Calls Za 92 #[s,.func (.func k) #[] caps] w fun r w'=>r=.returned (.bool (l.any f))∧Below w.heap.size w w':=by
 cases h with
 |mk _ a cap b off sv hcap hfit ha h0 h1 h2 h3 h4 hs=>
  rw[←Oi f (fun i=>f (Bh l i)) l (fun i hi=>by rw[Wu hi])];refine Sr a l.length cap k caps hk w (fun i=>.int .i64 (Bh l i).kind) (fun i=>.int .i64 (Bh l i).op) (fun i=>.int .i64 (Bh l i).n) (fun i=>.string (Aa (Bh l i).name)) sv (fun i=>f (Bh l i)) (hfit).out ?_ ?_
  ·rcases ha with ha|⟨ha,_⟩
   ·exact .inl ha
   ·exact .inr ⟨b,off,ha,fun i hi=>⟨h0 i hi,h1 i hi,h2 i hi,h3 i hi,h4 i hi⟩⟩
  ·intro i hi w1 hb
   exact hf (Bh l i) (sv i) w1 (Cb hi) hb ((hs i hi).old hb)
abbrev stV(x:St)(a t e:Value):Value:=.agg #[.int .i64 x.kind,.string (Aa x.name),a,t,e]
theorem Uh(k:FuncId)(caps:Array Value)(hk:∀args w,(callFunc k args).run Za w=.ok (.enter k args) w)(l:List St)(s:Value)(D:Nat→Prop)(w:World)(h:Al D w l s)(f:St→Bool)
  (hf:∀x a t e w1,x∈l→Below w.heap.size w w1→Ai D w1 x.args a→Al D w1 x.thn t→Al D w1 x.els e→Calls Za k (#[stV x a t e]++caps) w1 fun r w2=>r=.returned (.bool (f x))∧Below w1.heap.size w1 w2):
  Calls Za 74 #[s,.func (.func k) #[] caps] w fun r w'=>r=.returned (.bool (l.any f))∧Below w.heap.size w w':=by
 cases h with
 |mk _ a cap b off sa st se hcap hfit ha h0 h1 h2 h3 h4 ea et ee=>
  rw[←Oi f (fun i=>f (Ff l i)) l (fun i hi=>by rw[jJ hi])];refine Ta a l.length cap k caps hk w (fun i=>.int .i64 (Ff l i).kind) (fun i=>.string (Aa (Ff l i).name)) sa st se (fun i=>f (Ff l i)) (hfit).out ?_ ?_
  ·rcases ha with ha|⟨ha,_⟩
   ·exact .inl ha
   ·exact .inr ⟨b,off,ha,fun i hi=>⟨h0 i hi,h1 i hi,h2 i hi,h3 i hi,h4 i hi⟩⟩
  ·intro i hi w1 hb
   exact hf (Ff l i) (sa i) (st i) (se i) w1 (Iv hi) hb ((ea i hi).old hb) ((et i hi).old hb) ((ee i hi).old hb)
def jO(m:Nat):Prop:= ∀(D:Nat→Prop) (e:Ex) (s:Value) (w:World),Ai D w e.args s→
 Calls Za 54 #[exV e s,.int .i64 m] w fun r w'=>r=.returned (.bool (Gf m e))∧Below w.heap.size w w'
theorem deep_fn(m:Nat)(ih:jO m)(D:Nat→Prop)(e:Ex)(s:Value)(w:World)(h:Ai D w e.args s)(B:Nat)(hB:w.cell? ⟨B,0,none⟩=some (.int .i64 (m+1)))(hm:m≤1000):
  Calls Za 93 #[exV e s,.pointer (some ⟨B,0,none⟩)] w fun r w'=>r=.returned (.bool (!Gf m e))∧Below w.heap.size w w':=by
 have H:=Zb h;clear h;have hBl:B<w.heap.size:=World.block_lt_of_cell? _ _ hB;go_enter func93,ntmps93
 go_wp2_with fail
 refine(ih D e s _ (H.out.old (bA))).mono ?_;rintro r w1 ⟨rfl,hb⟩;go_wp2_with fail
 go_ret
 exact⟨rfl,(bA).trans (hb.mono (by simp))⟩
theorem Xd:∀m,m≤1000→jO m
 |0,_=>by
  intro D e s w _;go_enter func54,ntmps54
  go_wp2_with fail
  go_ret
  exact⟨rfl,(bA).alloc (by simp) _⟩
 |m+1,hm=>by
  intro D e s w h;have ih:=Zb (Xd m (by omega));have H:=Zb h;clear h;have hm':(0:Int)<(m:Int)+1:=by omega
  go_enter func54,ntmps54
  go_wp2_with fail
  refine(Ju 93 _ Tryz.call93 e.args s D _ (H.out.old ((bA).alloc (by simp) _)) (fun x=> !Gf m x) ?_).mono ?_
  ·intro x s' w1 _ hb hx
   exact deep_fn m ih.out D x s' w1 hx _ (Ac hb (by simp)) (by omega)
  ·rintro r w1 ⟨rfl,hb⟩
   go_wp2_with fail
   go_ret
   exact⟨Ak (by simp [Gf,List.any_eq_not_all_not]),((bA).alloc (by simp) _).trans (hb.mono (by simp;omega))⟩
def own(w:World)(b:Nat):Option Nat:=
 match w.heap[b]? with
 |some (.cells cs _ _)=>(cs.getD 1 undef).ownBlock
 |_=>none
def Be(w:World)(b:Nat)(bs:Bs)(t:Int):Prop:=
 ∃p v,w.heap[b]? =some (.cells #[p,v,.int .i64 t] 76 (0,0))∧(p=.pointer none∨p=.pointer (some ⟨b,0,none⟩))∧w.ownsRow (b+1) 5 1 v bs.length (Zm bs)
structure PFr (b:Nat)(w w':World):Prop where
 os:w'.os=w.os
 tape:w'.tape=w.tape
 output:w'.output=w.output
 size:w.heap.size≤w'.heap.size
 block:∀k,k<w.heap.size→k≠b→own w b≠some k→w'.heap[k]? =w.heap[k]?
 own:own w' b=own w b∨∃k,w.heap.size≤k∧own w' b=some k
theorem PFr.refl(b:Nat)(w:World):PFr b w w:=⟨rfl,rfl,rfl,Nat.le_refl _,fun _ _ _ _=>rfl,.inl rfl⟩
theorem PFr.trans {b:Nat}{u v w:World}(h:PFr b u v)(k:PFr b v w):PFr b u w where
 os:=k.os.trans h.os
 tape:=k.tape.trans h.tape
 output:=k.output.trans h.output
 size:=Nat.le_trans h.size k.size
 block i hi hb ho:=by
  refine(k.block i (Nat.lt_of_lt_of_le hi h.size) hb ?_).trans (h.block i hi hb ho);rcases h.own with e|⟨j,hj,e⟩
  ·rw[e];exact ho
  ·rw[e];intro c;cases c;omega
 own:=by
  rcases k.own with e|⟨j,hj,e⟩
  ·rcases h.own with e'|⟨j,hj,e'⟩
   ·exact .inl (e.trans e')
   ·exact .inr ⟨j,hj,e.trans e'⟩
  ·exact .inr ⟨j,Nat.le_trans h.size hj,e⟩
theorem kB {w w':World}{b:Nat}(h:w'.heap[b]? =w.heap[b]?):own w' b=own w b:=by simp [own,h]
theorem PFr.of_below {b:Nat}{w w':World}(h:Below w.heap.size w w')(hb:b<w.heap.size):PFr b w w':=
 ⟨h.os,h.tape,h.output,h.size,fun k hk _ _=>h.block k hk,.inl (kB (h.block b hb))⟩
theorem Be.lt {w:World}{b:Nat}{bs:Bs}{t:Int}(h:Be w b bs t):b<w.heap.size:=by
 obtain⟨p,v,hb,_⟩:=h;rcases Nat.lt_or_ge b w.heap.size with h'|h'
 ·exact h'
 ·simp [Array.getElem?_eq_none h']at hb
theorem Be.own_gt {w:World}{b:Nat}{bs:Bs}{t:Int}(h:Be w b bs t){k:Nat}(ho:own w b=some k):b<k∧k<w.heap.size:=by
 obtain⟨p,v,hb,_,hown⟩:=h;have:v.ownBlock=some k:=by simpa [own,hb]using ho
 have:=hown.lt k this;omega
theorem PFr.below {w w':World}{b:Nat}{bs:Bs}{t:Int}(h:PFr b w w')(hp:Be w b bs t):Below b w w':=
 ⟨h.os,h.tape,h.output,h.size,fun k hk=>h.block k (by have:=hp.lt;omega) (by omega) (fun e=>by have:=hp.own_gt e;omega)⟩
theorem Be.old {w w':World}{b:Nat}{bs:Bs}{t:Int}(hp:Be w b bs t)(h:Below w.heap.size w w'):Be w' b bs t:=by
 obtain⟨p,v,hb,hq,hown⟩:=hp;have hlt:b<w.heap.size:=Be.lt ⟨p,v,hb,hq,hown⟩;refine⟨p,v,(h.block b hlt).trans hb,hq,hown.1,?_⟩;rcases hown.2 with e|⟨g,cap,cur,hv,hg,hh,r⟩
 ·exact .inl e
 ·refine .inr ⟨g,cap,cur,hv,hg,?_,r⟩
  have hl:g<w.heap.size:=by
   rcases Nat.lt_or_ge g w.heap.size with h'|h'
   ·exact h'
   ·simp [Array.getElem?_eq_none h']at hh
  exact(h.block g hl).trans hh
def Loc(w:World)(b X:Nat)(cs:List Value):Prop:=X≠b∧own w b≠some X∧X<w.heap.size∧Ca w X 0 cs
theorem Loc.step {w w':World}{b X:Nat}{cs:List Value}(h:Loc w b X cs)(hf:PFr b w w'):Loc w' b X cs:=by
 obtain⟨h1,h2,h3,h4⟩:=h;refine⟨h1,?_,Nat.lt_of_lt_of_le h3 hf.size,fun i hi=>?_⟩
 ·rcases hf.own with e|⟨j,hj,e⟩
  ·rw[e];exact h2
  ·rw[e];intro c;cases c;omega
 ·rw[World.cell?_of_block (w:=w) (hf.block X h3 h1 h2)];exact h4 i hi
theorem Loc.new {w:World}{b:Nat}{bs:Bs}{t:Int}(hp:Be w b bs t)(cs:List Value)(T:TypeId):Loc (w.alloc (.cells cs.toArray T)) b w.heap.size cs:=by
 refine⟨by have:=hp.lt;omega,?_,by simp,fun i hi=>by simp⟩;rw[kB (Below.heap_alloc w _ b hp.lt)];intro e;have:=(hp.own_gt e).2;omega
theorem Loc.cell {w:World}{b X:Nat}{cs:List Value}(h:Loc w b X cs)(i:Nat)(hi:i<cs.length):w.cell? ⟨X,i,none⟩=some cs[i]:=by
 have:=h.2.2.2 i hi;simpa using this
theorem PFr.keeps {w w':World}{b:Nat}{bs:Bs}{t:Int}(h:PFr b w w')(hp:Be w b bs t):Gw (· <b) w w':=
 fun k off x hk hx=>by rw[(h.below hp).cell (p:=⟨k,off,none⟩) hk];exact hx
theorem infoByte:(Tryz.prog.info? 5).map (fun i=>(i.zero,i.size,i.bytes))=some (some (.int .u8 0),1,1):=by kernel_rfl
theorem Py:(Tryz.prog.info? 74).map (fun i=>i.size)=some 2:=by kernel_rfl
theorem liesBuilder:liesAt Za Tryz.prog.depth 76 (3 / Tryz.prog.cellsOf 76) 0 74 1=true:=by kernel_rfl
theorem Sf(b:Nat)(w:World)(h0:w.cell? ⟨b,0,none⟩=some (.pointer (some ⟨b,0,none⟩))):
  Calls Za 132 #[.pointer (some ⟨b,0,none⟩)] w fun e w'=>e=.returned (.tuple #[])∧w=w':=by
 obtain⟨j,hj,_⟩:=Option.map_eq_some_iff.1 Py;go_enter func132,ntmps132
 go_wp2_with fail
 rw[Lib.run_neq_ptr_same w _ underlying71 hj];go_wp2_with fail
 go_end0
 exact⟨rfl,rfl⟩
theorem Qg(b:Nat)(w:World)(h0:w.cell? ⟨b,0,none⟩=some (.pointer none))(hsh:w.shape? b=some (76,3))(hfz:w.frozen? ⟨b,0,none⟩=false):
  Calls Za 132 #[.pointer (some ⟨b,0,none⟩)] w fun e w'=>e=.returned (.tuple #[])∧w'=w.setCell ⟨b,0,none⟩ (.pointer (some ⟨b,0,none⟩)):=by
 obtain⟨j,hj,hjs⟩:=Option.map_eq_some_iff.1 Py;go_enter func132,ntmps132
 go_wp2_with fail
 rw[Lib.run_to_unsafe w ⟨b,0,none⟩ underlying71 underlying181 hj (by rw[hjs];decide) hsh (Nat.zero_lt_succ 2)];simp only[Result.andThen];rw[Oper.upon_value];go_wp2_with fail
 rw[run_callFunc_extern func166 (by kernel_rfl) (by kernel_rfl) (by kernel_rfl) (e:=Extern.AbiNoEscape.same) (by kernel_rfl)];rw[Lib.run_noEscape];simp only[Result.andThen];rw[Oper.upon_value];go_wp2_with fail
 rw[Lib.run_from_unsafe w ⟨b,0,none⟩ underlying181 underlying71 hj hsh liesBuilder];simp only[Result.andThen];rw[Oper.upon_value];go_wp2_with fail
 go_end0
 exact⟨rfl,rfl⟩
def Hl(w:World)(b:Nat)(bs:Bs)(t:Int)(txt:Bs)(r:Ending)(w':World):Prop:=r=.returned (.tuple #[])∧Be w' b (bs++txt) t∧PFr b w w'
theorem So(b:Nat)(bs:Bs)(t:Int)(w:World)(h:Be w b bs t):
  Calls Za 132 #[.pointer (some ⟨b,0,none⟩)] w fun e w'=>e=.returned (.tuple #[])∧PFr b w w'∧
   ∃v,w'.heap[b]? =some (.cells #[.pointer (some ⟨b,0,none⟩),v,.int .i64 t] 76 (0,0))∧w'.ownsRow (b+1) 5 1 v bs.length (Zm bs):=by
 have hlt:=h.lt;obtain⟨p,v,hb,hq,hown⟩:=h;rcases hq with rfl|rfl
 ·refine(Qg b w (by rw[Zp hb];rfl) (by simp [World.shape?,hb]) (Lib.frozen_of_heap hb 0)).mono ?_
  rintro e w' ⟨rfl,rfl⟩;have hb':(w.setCell ⟨b,0,none⟩ (.pointer (some ⟨b,0,none⟩))).heap[b]? =some (.cells #[.pointer (some ⟨b,0,none⟩),v,.int .i64 t] 76 (0,0)):=by
   simp [Zq,Array.getElem?_modify,hb]
  refine⟨rfl,⟨rfl,rfl,rfl,by simp [Zq],fun k _ hk _=>Zr _ _ _ _ hk,.inl (by simp [own,hb,hb'])⟩,v,hb',?_⟩;refine hown.kept (row:=some b) ⟨rfl,rfl,rfl,by simp [Zq],fun k _ hk=>Zr _ _ _ _ (fun e=>hk (by simp [e]))⟩ (Or.inr ?_);intro e;have:=hown.lt b e;omega
 ·refine(Sf b w (by rw[Zp hb];rfl)).mono ?_
  rintro e w' ⟨rfl,rfl⟩;exact⟨rfl,PFr.refl _ _,v,hb,hown⟩
theorem bK(P:Program)(w:World)(base:Nat)(t u ty e:TypeId)(i:TypeInfo)(ht:P.underlying t=some (.slice e))(hu:P.underlying u=some .string)(hi:P.info? e=some i)(hz:i.zero=some (.int .u8 0))
  (hsize:i.size=1) (hby:i.bytes=1) (v:Value) (n:Nat) (xs:List Value) (hown:w.ownsRow base e 1 v n xs) (s:ByteArray)
  (h63:n+s.size≤maxLen) (hbytes:n+s.size≤140737488355328) (hbase:base≤w.heap.size):
  ∃v' w',(Builtin.append_ #[t,u] ty #[v,.string s]).run P w=.ok v' w'∧w'.ownsRow base e 1 v' (n+s.size) (xs++Lib.strCells s)∧w.grownBy w' v.ownBlock∧
   (v'.ownBlock=v.ownBlock∨∃k,w.heap.size≤k∧v'.ownBlock=some k):=by
 obtain⟨v',w',hr,h2,h3,h4⟩:=Lib.run_append_own_string (P:=P) w base t u ty e i ht hu hi hz hsize hby v n xs hown s h63 hbytes hbase;refine⟨v',w',hr,h2,h3,?_⟩;have h63':n+s.size≤9223372036854775807:=by simp only[maxLen]at h63;omega
 rcases hown.2 with⟨rfl,rfl⟩|⟨g,cap,cur,rfl,hbg,hg,hnc,hcm,hcs,htake⟩
 ·by_cases hm:s.size=0
  ·rw[h4.2 ⟨rfl,hm⟩];exact .inl rfl
  ·have hq:=run_append_nil_string (P:=P) w t u ty e i (.int .u8 0) ht hu hi hz s (by omega) (by omega) (by rw[hby];omega)
   rw[hr]at hq
   cases hq
   exact .inr ⟨w.heap.size,Nat.le_refl _,rfl⟩
 ·by_cases hroom:n+s.size≤cap
  ·have hcs':cur.size=cap:=by simpa using hcs
   have hq:=Lib.run_append_room_string (P:=P) w t u ty e i ht hu hi hsize g n cap cur hg s hroom (by omega);rw[hr]at hq
   cases hq
   exact .inl rfl
  ·have hxl:xs.length=n:=by simpa using hown.1
   have holds:∀j u,xs[j]? =some u→w.cell? ((⟨g,0,none⟩:Addr).add j)=some u:=hown.cells (g:=g) rfl;have hq:=Lib.run_append_grow_string (P:=P) w t u ty e i (.int .u8 0) ht hu hi hz ⟨g,0,none⟩ n cap xs (by rw[hsize];simpa using hxl) holds s (by omega) (by omega) (by rw[hby];exact growslice_fits (by omega) (by omega));rw[hr]at hq
   cases hq
   exact .inr ⟨w.heap.size,Nat.le_refl _,rfl⟩
theorem Nv {P:Program}{w:World}{ops:Array Oper}{rest:List Oper}{o:Oper}{a:Act}{Q:Exit→Act→World→Prop}(hgd:o.guard=none)(sl x:Operand)(t u:TypeId)
  (ho:o.op=.call {callee:=.builtin .append,args:= #[sl,x],argTypes:= #[t,u]})
  (base:Nat) (e:TypeId) (i:TypeInfo) (ht:P.underlying t=some (.slice e)) (hu:P.underlying u=some .string) (hi:P.info? e=some i) (hz:i.zero=some (.int .u8 0))
  (hsize:i.size=1) (hby:i.bytes=1)
  (v:Value) (n:Nat) (xs:List Value) (hs:a.eval sl=v) (hown:w.ownsRow base e 1 v n xs) (s:ByteArray) (hx:a.eval x=.string s)
  (h63:n+s.size≤maxLen) (hbytes:n+s.size≤140737488355328) (hbase:base≤w.heap.size)
  (h:∀v' w',w'.ownsRow base e 1 v' (n+s.size) (xs++Lib.strCells s)→w.grownBy w' v.ownBlock→(v'.ownBlock=v.ownBlock∨∃k,w.heap.size≤k∧v'.ownBlock=some k)→wpList P ops Q rest (a.put o.dst v') w'):wpList P ops Q (o::rest) a w:=by
 refine wpList_plain hgd fun K hK=>?_
 obtain⟨v',w',hr,h2,h3,h4⟩:=bK P w base t u o.type e i ht hu hi hz hsize hby v n xs hown s h63 hbytes hbase;unfold Oper.wp execOp;simp only[ho,resolve,invoke,builtin,Sem.run_bind,Sem.run_pure,Result.andThen_ok,List.map_toArray,List.map_cons,List.map_nil,hs,hx,hr];exact hK _ _ (h v' w' h2 h3 h4)
theorem Rb(s:Bs):Lib.strCells (Aa s)=Zm s:=by simp [Lib.strCells,Zm]
theorem Sl(a c:Bs):Zm a++Zm c=Zm (a++c):=by simp [Zm]
theorem Qc(s:Bs)(b:Nat)(bs:Bs)(t:Int)(w:World)(h:Be w b bs t)(hlen:Bw (bs.length+s.length)):
  Calls Za 109 #[.pointer (some ⟨b,0,none⟩),.string (Aa s)] w fun e w'=>e=.returned (.tuple #[.int .i64 s.length,.nilIface])∧Be w' b (bs++s) t∧PFr b w w':=by
 obtain⟨i0,hi,hz0,hz1,hz2⟩:=info_parts infoByte;have hlt:=h.lt;have HL:Hid (bs.length+s.length≤140737488355328):=hlen;clear hlen;go_enter func109,ntmps109
 go_wp2_with fail
 refine(So b bs t _ h).mono ?_;rintro e w1 ⟨rfl,hf1,v,hbk,hown⟩;have HF1:=Zb hf1;have hs1:=hf1.size;clear hf1 h;have c0:w1.cell? ⟨b,0,none⟩=some (.pointer (some ⟨b,0,none⟩)):=by rw[Zp hbk];rfl
 have c1:w1.cell? ⟨b,1,none⟩=some v:=by rw[Zp hbk];rfl
 go_wp2_with (at_builtin;refine Nv (P:=Za) rfl _ _ 72 9 rfl (b+1) 5 i0 underlying72 underlying9 hi hz0 hz1 hz2 _ _ _ rfl hown (Aa s) rfl ?c3 ?c4 ?c5 ?_)
 case c3=>have:=HL.o;unfold maxLen;show bs.length+s.length≤_;omega
 case c4=>exact HL.o
 case c5=>omega
 intro v' w2 hown' hgrow hwhere;have hlt1:b<w1.heap.size:=by omega
 have hb2:w2.heap[b]? =some (.cells #[.pointer (some ⟨b,0,none⟩),v,.int .i64 t] 76 (0,0)):=by
  rw[hgrow.block b hlt1 (fun e=>by have:=hown.lt b e.symm;omega)];exact hbk
 have d0:w2.cell? ⟨b,0,none⟩=some (.pointer (some ⟨b,0,none⟩)):=by rw[Zp hb2];rfl
 have d1:w2.cell? ⟨b,1,none⟩=some v:=by rw[Zp hb2];rfl
 have f1:w2.frozen? ⟨b,1,none⟩=false:=Lib.frozen_of_heap hb2 1;obtain⟨ao,n',cap,rfl⟩:∃ao n' cap,v'=.slice ao n' cap:=by
  rcases hown'.2 with⟨hv,_⟩|⟨g,cap,cur,hv,_⟩
  ·exact⟨_,_,_,hv⟩
  ·exact⟨_,_,_,hv⟩
 have HBK:=Zb hbk;have HB2:=Zb hb2;have HOWN:=Zb hown;have HOWN':=Zb hown';have HG:=Zb hgrow;have HW:=Zb hwhere;clear hbk hb2 hown hown' hgrow hwhere;go_wp2_with fail
 go_ret2
 have hb3:(w2.setCell ⟨b,1,none⟩ (.slice ao n' cap)).heap[b]? =some (.cells #[.pointer (some ⟨b,0,none⟩),.slice ao n' cap,.int .i64 t] 76 (0,0)):=by
  simp [Zq,Array.getElem?_modify,HB2.o]
 have own1:own w1 b=v.ownBlock:=by simp [own,HBK.o]
 have own3:own (w2.setCell ⟨b,1,none⟩ (.slice ao n' cap)) b=(Value.slice ao n' cap).ownBlock:=by simp [own,hb3]
 refine⟨rfl,⟨_,_,hb3,.inr rfl,?_⟩,HF1.o.trans ⟨?_,?_,?_,?_,?_,?_⟩⟩
 ·have q:=HOWN'.o
  rw[Rb,Sl]at q;rw[show(bs++s).length=bs.length+(Aa s).size from by simp;rfl];refine q.kept (row:=some b) ⟨rfl,rfl,rfl,by simp [Zq],fun k _ hk=>Zr _ _ _ _ (fun e=>hk (by simp [e]))⟩ (Or.inr ?_);intro e;have:=q.lt b e;omega
 ·exact HG.o.os
 ·exact HG.o.tape
 ·exact HG.o.output
 ·have:=HG.o.size;simp [Zq];omega
 ·intro k hk hkb hko
  rw[Zr _ _ _ _ (by simpa using hkb)];exact HG.o.block k hk (fun e=>hko (by rw[own1];exact e.symm))
 ·rw[own3,own1];exact HW.o
def Ax:List Bs→Bs
 |[]=>[]
 |x::l=>x++l.flatMap (fun y=>[44,32]++y)
theorem Ij(l:List Bs)(y:Bs):Ax (l++[y])=if l=[]then y else Ax l++[44,32]++y:=by
 cases l with
 |nil=>simp [Ax]
 |cons x l=>simp [Ax]
def Cz(e:Ex)(level:Int)(txt:Bs):Bs:=if e.kind=4∧Bi e.op<level then [40]++txt++[41]else txt
def Dq(k o n:Int)(nm:Bs)(args:List Ex)(ts:List Bs):Bs:=
 if k=1 then Lib.itoa n
 else if k=2 then nm
 else if k=3 then Cj o++Cz (Bh args 0) 9 (ts.getD 0 [])
 else if k=4 then Cz (Bh args 0) (Bi o) (ts.getD 0 [])++([32]++Cj o++[32])++Cz (Bh args 1) (Bi o+1) (ts.getD 1 [])
 else if k=5 then nm++[40]++Ax ts++[41]
 else if k=6 then nm++[91]++ts.getD 0 []++[93]
 else if k=7 then [114,101,97,100,40,41]else []
mutual
def Ae:Ex→Bs
 |.mk k o n nm args=>Dq k o n nm args (Nn args)
def Nn:List Ex→List Bs
 |[]=>[]
 |x::l=>Ae x::Nn l
end
theorem Qu:∀l,Nn l=l.map Ae
 |[]=>rfl
 |x::l=>by simp [Nn,Qu l]
theorem Ew(e:Ex):Ae e=Dq e.kind e.op e.n e.name e.args (e.args.map Ae):=by
 cases e;rw[Ae,Qu];rfl
def Cs(e:Ex)(level:Int):Bs:=Cz e level (Ae e)
theorem Mz {l:List Ex}{i:Nat}(h:i<l.length):(l.map Ae).getD i []=Ae (Bh l i):=by
 simp [Bh,Zn h]
theorem Ng(o n:Int)(nm:Bs)(args:List Ex):Ae (.mk 1 o n nm args)=Lib.itoa n:=by
 rw[Ew];show Dq 1 o n nm args (args.map Ae)=_;unfold Dq;rw[if_pos rfl]
theorem Nz(o n:Int)(nm:Bs)(args:List Ex):Ae (.mk 2 o n nm args)=nm:=by
 rw[Ew];show Dq 2 o n nm args (args.map Ae)=_;unfold Dq;rw[if_neg (by decide),if_pos rfl]
theorem Nx(o n:Int)(nm:Bs)(args:List Ex)(h:0<args.length):Ae (.mk 3 o n nm args)=Cj o++Cs (Bh args 0) 9:=by
 rw[Ew];show Dq 3 o n nm args (args.map Ae)=_;unfold Dq;rw[if_neg (by decide),if_neg (by decide),if_pos rfl,Mz h];unfold Cs;rfl
theorem Nh(o n:Int)(nm:Bs)(args:List Ex)(h:1<args.length):Ae (.mk 4 o n nm args)=Cs (Bh args 0) (Bi o)++([32]++(Cj o++[32]))++Cs (Bh args 1) (Bi o+1):=by
 rw[Ew];show Dq 4 o n nm args (args.map Ae)=_;unfold Dq;rw[if_neg (by decide),if_neg (by decide),if_neg (by decide),if_pos rfl,Mz (by omega),Mz h,List.append_assoc [32]];unfold Cs;rfl
theorem Mu(o n:Int)(nm:Bs)(args:List Ex):Ae (.mk 5 o n nm args)=nm++[40]++Ax (args.map Ae)++[41]:=by
 rw[Ew];show Dq 5 o n nm args (args.map Ae)=_;unfold Dq;rw[if_neg (by decide),if_neg (by decide),if_neg (by decide),if_neg (by decide),if_pos rfl]
theorem Mt(o n:Int)(nm:Bs)(args:List Ex)(h:0<args.length):Ae (.mk 6 o n nm args)=nm++[91]++Ae (Bh args 0)++[93]:=by
 rw[Ew];show Dq 6 o n nm args (args.map Ae)=_;unfold Dq;rw[if_neg (by decide),if_neg (by decide),if_neg (by decide),if_neg (by decide),if_neg (by decide),if_pos rfl,Mz h]
theorem Nk(o n:Int)(nm:Bs)(args:List Ex):Ae (.mk 7 o n nm args)=[114,101,97,100,40,41]:=by
 rw[Ew];show Dq 7 o n nm args (args.map Ae)=_;unfold Dq;rw[if_neg (by decide),if_neg (by decide),if_neg (by decide),if_neg (by decide),if_neg (by decide),if_neg (by decide),if_pos rfl]
theorem Be.alloc {w:World}{b:Nat}{bs:Bs}{t:Int}(h:Be w b bs t)(o:Obj):Be (w.alloc o) b bs t:=h.old (bA)
theorem PFr.alloc {w:World}{b:Nat}{bs:Bs}{t:Int}(h:Be w b bs t)(o:Obj):PFr b w (w.alloc o):=PFr.of_below (bA) h.lt
theorem Vi(ws:List Bs)(X cap b:Nat)(bs:Bs)(t:Int)(w:World)(hp:Be w b bs t)(hl:Loc w b X (ws.map fun s=>.string (Aa s)))(hf:Bw (bs.length+ws.flatten.length))(hn:ws.length≤1000):
  Calls Za 64 #[.pointer (some ⟨b,0,none⟩),.slice (some ⟨X,0,none⟩) ws.length cap] w (Hl w b bs t ws.flatten):=by
 have HP:=Zb hp;have HL:=Zb hl;have HF:=Zb hf;clear hp hl hf;go_enter func64,ntmps64
 go_wp2_with fail
 go_loopw [5,8] (fun _ s8 wr=> ∃k:Nat,k≤ws.length∧s8=.int .i64 k∧Be wr b (bs++(ws.take k).flatten) t∧PFr b w wr) (fun _ s8 _=>ws.length-(intOf s8).toNat)
 case atStart=>exact⟨0,Nat.zero_le _,rfl,by simpa using HP.o,PFr.refl _ _⟩
 case round=>
  obtain⟨k,hk,rfl,hp,hfr⟩:=hrel;have HPK:=Zb hp;have HFR:=Zb hfr;have hbl:=hp.lt;have HLK:=Zb (HL.o.step hfr);clear hp hfr
  by_cases hlt:k<ws.length
  ·have c:=HLK.o.cell k (by simpa using hlt)
   have ec:(ws.map fun s=>Value.string (Aa s))[k]'(by simpa using hlt)=.string (Aa (ws.getD k [])):=by simp [Zn hlt]
   rw[ec]at c;have hsp:Hid ((ws.take (k+1)).flatten=(ws.take k).flatten++ws.getD k []):=by
    show _=_
    rw[List.take_succ_eq_append_getElem hlt];simp only[List.flatten_append,List.flatten_cons,List.flatten_nil,List.append_nil,Zw,Zn hlt,Option.getD_some]
   have hfit:Hid (Bw ((bs++(ws.take k).flatten).length+(ws.getD k []).length)):=by
    refine HF.o.mono ?_;have e:ws.flatten=(ws.take (k+1)).flatten++(ws.drop (k+1)).flatten:=by rw[←List.flatten_append,List.take_append_drop]
    rw[e,hsp.out];simp;omega
   clear ec;generalize ws.getD k []=s at c hsp hfit;go_wp2_with fail
   refine(Qc s b _ t _ HPK.o hfit.out).mono ?_;rintro r w3 ⟨rfl,hp3,hf3⟩;have HP3:=Zb hp3;have HF3:=Zb hf3;clear hp3 hf3;go_wp2_with fail
   go_roundw
   case rel=>exact⟨k+1,by omega,by go_num,by rw[hsp.out,←List.append_assoc];exact HP3.o,HFR.o.trans HF3.o⟩
   case measure=>simp [intOf];omega
  ·go_wp2_with fail
   go_end0
   exact⟨rfl,by have e:ws.take k=ws:=List.take_of_length_le (by omega);have q:=HPK.o;rwa[e]at q,HFR.o⟩
theorem Ni(s:Bs)(T:TypeId)(X b:Nat)(bs:Bs)(t:Int)(w:World)(hX:X=w.heap.size)(hp:Be w b bs t)(hf:Bw (bs.length+s.length)):
  Calls Za 64 #[.pointer (some ⟨b,0,none⟩),.slice (some ⟨X,0,none⟩) 1 1] (w.alloc (.cells #[.string (Aa s)] T)) (Hl w b bs t s):=by
 subst hX;refine(Vi [s] w.heap.size 1 b bs t _ (hp.alloc _) (Loc.new hp [.string (Aa s)] T) (by simpa using hf) (by simp)).mono ?_;rintro r w' ⟨rfl,h2,h3⟩;exact⟨rfl,by simpa using h2,(PFr.alloc hp _).trans h3⟩
theorem put2(s1 s2:Bs)(T:TypeId)(X b:Nat)(bs:Bs)(t:Int)(w:World)(hX:X=w.heap.size)(hp:Be w b bs t)(hf:Bw (bs.length+(s1++s2).length)):
  Calls Za 64 #[.pointer (some ⟨b,0,none⟩),.slice (some ⟨X,0,none⟩) 2 2] (w.alloc (.cells #[.string (Aa s1),.string (Aa s2)] T)) (Hl w b bs t (s1++s2)):=by
 subst hX;refine(Vi [s1,s2] w.heap.size 2 b bs t _ (hp.alloc _) (Loc.new hp [.string (Aa s1),.string (Aa s2)] T) (by simpa using hf) (by simp)).mono ?_;rintro r w' ⟨rfl,h2,h3⟩;exact⟨rfl,by simpa using h2,(PFr.alloc hp _).trans h3⟩
theorem put3(s1 s2 s3:Bs)(T:TypeId)(X b:Nat)(bs:Bs)(t:Int)(w:World)(hX:X=w.heap.size)(hp:Be w b bs t)(hf:Bw (bs.length+(s1++(s2++s3)).length)):
  Calls Za 64 #[.pointer (some ⟨b,0,none⟩),.slice (some ⟨X,0,none⟩) 3 3] (w.alloc (.cells #[.string (Aa s1),.string (Aa s2),.string (Aa s3)] T)) (Hl w b bs t (s1++(s2++s3))):=by
 subst hX;refine(Vi [s1,s2,s3] w.heap.size 3 b bs t _ (hp.alloc _) (Loc.new hp [.string (Aa s1),.string (Aa s2),.string (Aa s3)] T) (by simpa using hf) (by simp)).mono ?_;rintro r w' ⟨rfl,h2,h3⟩;exact⟨rfl,by simpa using h2,(PFr.alloc hp _).trans h3⟩
theorem jE(o n:Int)(nm:Bs)(s:Value)(w:World):
  Calls Za 94 #[.agg #[.int .i64 1,.int .i64 o,.int .i64 n,.string (Aa nm),s]] w fun r w'=>r=.returned (.tuple #[.agg #[.int .i64 1,.int .i64 0,.int .i64 n,.string (Aa []),.slice none 0 0],.int .i64 0,.bool (decide (0≤n))])∧Below w.heap.size w w':=by
 go_enter Zh,Zi
 go_wp2_with fail
 go_region
 go_wp2_with fail
 all_goals(refine bodyPost_ret (v:=.tuple #[.agg #[.int .i64 1,.int .i64 0,.int .i64 n,.string (Aa []),.slice none 0 0],.int .i64 0,.bool (decide (0≤n))]) (by simp [results,Zj,go_sem]) rfl ⟨rfl,?_⟩)
 all_goals(repeat(first|exact Zg _ _|refine Zk ?_ (by simp) _|refine Zo ?_ |refine Zl ?_ (by simp) _))
theorem iU(o n:Int)(nm:Bs)(s:Value)(w:World):
  Calls Za 94 #[.agg #[.int .i64 2,.int .i64 o,.int .i64 n,.string (Aa nm),s]] w fun r w'=>r=.returned (.tuple #[.agg #[.int .i64 2,.int .i64 0,.int .i64 0,.string (Aa nm),.slice none 0 0],.int .i64 0,.bool (Ah nm)])∧Below w.heap.size w w':=by
 go_enter Zh,Zi
 go_wp2_with fail
 go_region_held3 (fun w'=>w'.cell? ⟨w.heap.size,3,none⟩=some (.string (Aa nm))∧w'.cell? ⟨w.heap.size+1,0,none⟩=some (.int .i64 2)∧w'.cell? ⟨w.heap.size+1,1,none⟩=some (.int .i64 0)∧w'.cell? ⟨w.heap.size+1,2,none⟩=some (.int .i64 0)∧w'.cell? ⟨w.heap.size+1,3,none⟩=some (.string (Aa nm))∧w'.cell? ⟨w.heap.size+1,4,none⟩=some (.slice none 0 0)) (first|(simp [*,Ds,Zc];done)|go_keep) (first|(go_at_call 73;refine(Ir _ _).mono ?_;rintro e w1 ⟨he,hb⟩;subst he;obtain⟨hc,hf⟩:=Po hb;have hz:w.heap.size+1<w1.heap.size:=(by have:=hb.size;simp at this;omega);have g03:w1.cell? ⟨w.heap.size,3,none⟩=some (.string (Aa nm)):=Ac hb (by simp [Zc]);have g10:w1.cell? ⟨w.heap.size+1,0,none⟩=some (.int .i64 2):=Ac hb (by simp [Zc]);have g11:w1.cell? ⟨w.heap.size+1,1,none⟩=some (.int .i64 0):=Ac hb (by simp [Zc]);have g12:w1.cell? ⟨w.heap.size+1,2,none⟩=some (.int .i64 0):=Ac hb (by simp [Zc]);have g13:w1.cell? ⟨w.heap.size+1,3,none⟩=some (.string (Aa nm)):=Ac hb (by simp [Zc]);have g14:w1.cell? ⟨w.heap.size+1,4,none⟩=some (.slice none 0 0):=Ac hb (by simp [Zc])))
 go_wp2_with fail
 all_goals(refine bodyPost_ret (v:=.tuple #[.agg #[.int .i64 2,.int .i64 0,.int .i64 0,.string (Aa nm),.slice none 0 0],.int .i64 0,.bool (Ah nm)]) (by simp [results,Zj,go_sem,hc]) rfl ⟨rfl,?_⟩)
 all_goals(repeat(refine Zk ?_ (by simp) _))
 all_goals(exact((bA).alloc (by simp) _).drew.trans (hb.mono (by simp;omega)))
theorem aX(n:Int)(nm:Bs)(s:Value)(w:World):
  Calls Za 94 #[.agg #[.int .i64 3,.int .i64 17,.int .i64 n,.string (Aa nm),s]] w fun r w'=>r=.returned (.tuple #[.agg #[.int .i64 3,.int .i64 17,.int .i64 0,.string (Aa []),.slice none 0 0],.int .i64 1,.bool true])∧Below w.heap.size w w':=by
 go_enter Zh,Zi
 go_wp2_with fail
 go_region
 go_wp2_with fail
 all_goals(refine bodyPost_ret (v:=.tuple #[.agg #[.int .i64 3,.int .i64 17,.int .i64 0,.string (Aa []),.slice none 0 0],.int .i64 1,.bool true]) (by simp [results,Zj,go_sem]) rfl ⟨rfl,?_⟩)
 all_goals(repeat(first|exact Zg _ _|refine Zk ?_ (by simp) _|refine Zo ?_ |refine Zl ?_ (by simp) _))
theorem bL(n:Int)(nm:Bs)(s:Value)(w:World):
  Calls Za 94 #[.agg #[.int .i64 3,.int .i64 18,.int .i64 n,.string (Aa nm),s]] w fun r w'=>r=.returned (.tuple #[.agg #[.int .i64 3,.int .i64 18,.int .i64 0,.string (Aa []),.slice none 0 0],.int .i64 1,.bool true])∧Below w.heap.size w w':=by
 go_enter Zh,Zi
 go_wp2_with fail
 go_region
 go_wp2_with fail
 all_goals(refine bodyPost_ret (v:=.tuple #[.agg #[.int .i64 3,.int .i64 18,.int .i64 0,.string (Aa []),.slice none 0 0],.int .i64 1,.bool true]) (by simp [results,Zj,go_sem]) rfl ⟨rfl,?_⟩)
 all_goals(repeat(first|exact Zg _ _|refine Zk ?_ (by simp) _|refine Zo ?_ |refine Zl ?_ (by simp) _))
theorem Xs(n:Int)(nm:Bs)(s:Value)(w:World):
  Calls Za 94 #[.agg #[.int .i64 3,.int .i64 19,.int .i64 n,.string (Aa nm),s]] w fun r w'=>r=.returned (.tuple #[.agg #[.int .i64 3,.int .i64 19,.int .i64 0,.string (Aa []),.slice none 0 0],.int .i64 1,.bool true])∧Below w.heap.size w w':=by
 go_enter Zh,Zi
 go_wp2_with fail
 go_region
 go_wp2_with fail
 all_goals(refine bodyPost_ret (v:=.tuple #[.agg #[.int .i64 3,.int .i64 19,.int .i64 0,.string (Aa []),.slice none 0 0],.int .i64 1,.bool true]) (by simp [results,Zj,go_sem]) rfl ⟨rfl,?_⟩)
 all_goals(repeat(first|exact Zg _ _|refine Zk ?_ (by simp) _|refine Zo ?_ |refine Zl ?_ (by simp) _))
theorem jQ(o n:Int)(nm:Bs)(s:Value)(w:World)(h1:o≠17)(h2:o≠18)(h3:o≠19):
  Calls Za 94 #[.agg #[.int .i64 3,.int .i64 o,.int .i64 n,.string (Aa nm),s]] w fun r w'=>r=.returned (.tuple #[.agg #[.int .i64 3,.int .i64 o,.int .i64 0,.string (Aa []),.slice none 0 0],.int .i64 1,.bool false])∧Below w.heap.size w w':=by
 have k1:(o==17)=false:=by simpa using h1
 have k2:(o==18)=false:=by simpa using h2
 have k3:(o==19)=false:=by simpa using h3
 clear h1 h2 h3;go_enter Zh,Zi
 go_wp2_with fail
 go_region
 go_wp2_with fail
 all_goals(refine bodyPost_ret (v:=.tuple #[.agg #[.int .i64 3,.int .i64 o,.int .i64 0,.string (Aa []),.slice none 0 0],.int .i64 1,.bool false]) (by simp [results,Zj,go_sem]) rfl ⟨rfl,?_⟩)
 all_goals(repeat(first|exact Zg _ _|refine Zk ?_ (by simp) _|refine Zo ?_ |refine Zl ?_ (by simp) _))
theorem jZ(o n:Int)(nm:Bs)(s:Value)(w:World):
  Calls Za 94 #[.agg #[.int .i64 4,.int .i64 o,.int .i64 n,.string (Aa nm),s]] w fun r w'=>r=.returned (.tuple #[.agg #[.int .i64 4,.int .i64 o,.int .i64 0,.string (Aa []),.slice none 0 0],.int .i64 2,.bool (decide (0<Bi o))])∧Below w.heap.size w w':=by
 go_enter Zh,Zi
 go_wp2_with fail
 go_region_held3 (fun w'=>w'.cell? ⟨w.heap.size,1,none⟩=some (.int .i64 o)∧w'.cell? ⟨w.heap.size+1,0,none⟩=some (.int .i64 4)∧w'.cell? ⟨w.heap.size+1,1,none⟩=some (.int .i64 o)∧w'.cell? ⟨w.heap.size+1,2,none⟩=some (.int .i64 0)∧w'.cell? ⟨w.heap.size+1,3,none⟩=some (.string (Aa []))∧w'.cell? ⟨w.heap.size+1,4,none⟩=some (.slice none 0 0)) (first|(simp [*,Ds,Zc];done)|go_keep) (first|(go_at_call 87;refine(Lq _ _).mono ?_;rintro e w1 ⟨he,hb⟩;subst he;obtain⟨hc,hf⟩:=Po hb;have hz:w.heap.size+1<w1.heap.size:=(by have:=hb.size;simp at this;omega);have g01:w1.cell? ⟨w.heap.size,1,none⟩=some (.int .i64 o):=Ac hb (by simp [Zc]);have g10:w1.cell? ⟨w.heap.size+1,0,none⟩=some (.int .i64 4):=Ac hb (by simp [Zc]);have g11:w1.cell? ⟨w.heap.size+1,1,none⟩=some (.int .i64 o):=Ac hb (by simp [Zc]);have g12:w1.cell? ⟨w.heap.size+1,2,none⟩=some (.int .i64 0):=Ac hb (by simp [Zc]);have g13:w1.cell? ⟨w.heap.size+1,3,none⟩=some (.string (Aa [])):=Ac hb (by simp [Zc]);have g14:w1.cell? ⟨w.heap.size+1,4,none⟩=some (.slice none 0 0):=Ac hb (by simp [Zc])))
 go_wp2_with fail
 all_goals(refine bodyPost_ret (v:=.tuple #[.agg #[.int .i64 4,.int .i64 o,.int .i64 0,.string (Aa []),.slice none 0 0],.int .i64 2,.bool (decide (0<Bi o))]) (by simp [results,Zj,go_sem,hc]) rfl ⟨rfl,?_⟩)
 all_goals(repeat(refine Zk ?_ (by simp) _))
 all_goals(exact((bA).alloc (by simp) _).drew.trans (hb.mono (by simp;omega)))
theorem eQ(o n:Int)(nm:Bs)(a:Option Addr)(len cap:Nat)(hn:Ah nm=true)(w:World):
  Calls Za 94 #[.agg #[.int .i64 5,.int .i64 o,.int .i64 n,.string (Aa nm),.slice a len cap]] w fun r w'=>r=.returned (.tuple #[.agg #[.int .i64 5,.int .i64 0,.int .i64 0,.string (Aa nm),.slice none 0 0],.int .i64 len,.bool (decide ((len:Int)≤6))])∧Below w.heap.size w w':=by
 go_enter Zh,Zi
 go_wp2_with fail
 go_region_held3 (fun w'=>w'.cell? ⟨w.heap.size,3,none⟩=some (.string (Aa nm))∧w'.cell? ⟨w.heap.size,4,none⟩=some (.slice a len cap)∧w'.cell? ⟨w.heap.size+1,0,none⟩=some (.int .i64 5)∧w'.cell? ⟨w.heap.size+1,1,none⟩=some (.int .i64 0)∧w'.cell? ⟨w.heap.size+1,2,none⟩=some (.int .i64 0)∧w'.cell? ⟨w.heap.size+1,3,none⟩=some (.string (Aa nm))∧w'.cell? ⟨w.heap.size+1,4,none⟩=some (.slice none 0 0)) (first|(simp [*,Ds,Zc];done)|go_keep) (first|(go_at_call 73;refine(Ir _ _).mono ?_;rintro e w1 ⟨he,hb⟩;rw[hn]at he;subst he;obtain⟨hc,hf⟩:=Po hb;have hz:w.heap.size+1<w1.heap.size:=(by have:=hb.size;simp at this;omega);have g03:w1.cell? ⟨w.heap.size,3,none⟩=some (.string (Aa nm)):=Ac hb (by simp [Zc]);have g04:w1.cell? ⟨w.heap.size,4,none⟩=some (.slice a len cap):=Ac hb (by simp [Zc]);have g10:w1.cell? ⟨w.heap.size+1,0,none⟩=some (.int .i64 5):=Ac hb (by simp [Zc]);have g11:w1.cell? ⟨w.heap.size+1,1,none⟩=some (.int .i64 0):=Ac hb (by simp [Zc]);have g12:w1.cell? ⟨w.heap.size+1,2,none⟩=some (.int .i64 0):=Ac hb (by simp [Zc]);have g13:w1.cell? ⟨w.heap.size+1,3,none⟩=some (.string (Aa nm)):=Ac hb (by simp [Zc]);have g14:w1.cell? ⟨w.heap.size+1,4,none⟩=some (.slice none 0 0):=Ac hb (by simp [Zc])))
 go_wp2_with fail
 all_goals(refine bodyPost_ret (v:=.tuple #[.agg #[.int .i64 5,.int .i64 0,.int .i64 0,.string (Aa nm),.slice none 0 0],.int .i64 len,.bool (decide ((len:Int)≤6))]) (by simp [results,Zj,go_sem,hc]) rfl ⟨rfl,?_⟩)
 all_goals(repeat(refine Zk ?_ (by simp) _))
 all_goals(exact((bA).alloc (by simp) _).drew.trans (hb.mono (by simp;omega)))
theorem aU(o n:Int)(nm:Bs)(a:Option Addr)(len cap:Nat)(hn:Ah nm=false)(w:World):
  Calls Za 94 #[.agg #[.int .i64 5,.int .i64 o,.int .i64 n,.string (Aa nm),.slice a len cap]] w fun r w'=>r=.returned (.tuple #[.agg #[.int .i64 5,.int .i64 0,.int .i64 0,.string (Aa nm),.slice none 0 0],.int .i64 len,.bool false])∧Below w.heap.size w w':=by
 go_enter Zh,Zi
 go_wp2_with fail
 refine wp_region_held_drew (S:=(fun w'=>w'.cell? ⟨w.heap.size,3,none⟩=some (.string (Aa nm))∧w'.cell? ⟨w.heap.size,4,none⟩=some (.slice a len cap)∧w'.cell? ⟨w.heap.size+1,0,none⟩=some (.int .i64 5)∧w'.cell? ⟨w.heap.size+1,1,none⟩=some (.int .i64 0)∧w'.cell? ⟨w.heap.size+1,2,none⟩=some (.int .i64 0)∧w'.cell? ⟨w.heap.size+1,3,none⟩=some (.string (Aa nm))∧w'.cell? ⟨w.heap.size+1,4,none⟩=some (.slice none 0 0))) (by kernel_rfl) ?_ (fun hHeld=>?_)
 ·(first|(simp [*,Ds,Zc];done)|go_keep)
 refine wpAnyH_take (i:=0) (v:= ?_) rfl (by kernel_rfl) (by kernel_rfl) (by kernel_rfl) (fun _ _ _ h=>h) (Or.inl ⟨rfl,?_⟩) (by assumption) ?_;rotate_left 1
 ·intro w hSw;(try dsimp only at hSw);go_simp;(try with_reducible rfl)
 (try simp only[Act.put,Zd,Ze,Zf]);refine wpAnyH_take (i:=1) (v:= ?_) rfl (by kernel_rfl) (by kernel_rfl) (by kernel_rfl) (fun _ _ _ h=>h) (Or.inl ⟨rfl,?_⟩) (by assumption) ?_;rotate_left 1
 ·intro w hSw;(try dsimp only at hSw);go_simp;(try with_reducible rfl)
 (try simp only[Act.put,Zd,Ze,Zf]);refine wpAnyH_take (i:=2) (v:= ?_) rfl (by kernel_rfl) (by kernel_rfl) (by kernel_rfl) (fun _ _ _ h=>h) (Or.inl ⟨rfl,?_⟩) (by assumption) ?_;rotate_left 1
 ·intro w hSw;(try dsimp only at hSw);go_simp;(try with_reducible rfl)
 (try simp only[Act.put,Zd,Ze,Zf]);refine wpAnyH_take (i:=3) (v:= ?_) rfl (by kernel_rfl) (by kernel_rfl) (by kernel_rfl) (fun _ _ _ h=>h) (Or.inl ⟨rfl,?_⟩) (by assumption) ?_;rotate_left 1
 ·intro w hSw;(try dsimp only at hSw);go_simp;(try with_reducible rfl)
 (try simp only[Act.put,Zd,Ze,Zf]);refine wpAnyH_take (i:=4) (v:= ?_) rfl (by kernel_rfl) (by kernel_rfl) (by kernel_rfl) (fun _ _ _ h=>h) (Or.inl ⟨rfl,?_⟩) (by assumption) ?_;rotate_left 1
 ·intro w hSw;(try dsimp only at hSw);go_simp;(try with_reducible rfl)
 (try simp only[Act.put,Zd,Ze,Zf]);refine wpAnyH_take (i:=5) (v:= ?_) rfl (by kernel_rfl) (by kernel_rfl) (by kernel_rfl) (fun _ _ _ h=>h) (Or.inl ⟨rfl,?_⟩) (by assumption) ?_;rotate_left 1
 ·intro w hSw;(try dsimp only at hSw);go_simp;(try with_reducible rfl)
 (try simp only[Act.put,Zd,Ze,Zf]);refine wpAnyH_ready (rs:=[6]) (by kernel_rfl) (by simp) ?_;refine AllReadyH.cons rfl (fun K hK=>?_) AllReadyH.nil;(try simp only[Zs,Zt,Zu]);go_simp;go_at_call 73;refine(Ir _ _).mono ?_;rintro e w1 ⟨he,hb⟩;rw[hn]at he;subst he;obtain⟨hc,hf⟩:=Po hb;have hz:w.heap.size+1<w1.heap.size:=(by have:=hb.size;simp at this;omega);have g03:w1.cell? ⟨w.heap.size,3,none⟩=some (.string (Aa nm)):=Ac hb (by simp [Zc]);have g04:w1.cell? ⟨w.heap.size,4,none⟩=some (.slice a len cap):=Ac hb (by simp [Zc]);have g10:w1.cell? ⟨w.heap.size+1,0,none⟩=some (.int .i64 5):=Ac hb (by simp [Zc]);have g11:w1.cell? ⟨w.heap.size+1,1,none⟩=some (.int .i64 0):=Ac hb (by simp [Zc]);have g12:w1.cell? ⟨w.heap.size+1,2,none⟩=some (.int .i64 0):=Ac hb (by simp [Zc]);have g13:w1.cell? ⟨w.heap.size+1,3,none⟩=some (.string (Aa nm)):=Ac hb (by simp [Zc]);have g14:w1.cell? ⟨w.heap.size+1,4,none⟩=some (.slice none 0 0):=Ac hb (by simp [Zc])
 refine hK.out _ _ ?_ (fun hHeld=>?_)
 ·(try dsimp only);(first|(simp [*,Ds,Zc];done)|go_keep)
 clear hK K;(try simp only[Act.put,Zd,Ze,Zf]);refine wpAnyH_take (i:=7) (v:= ?_) rfl (by kernel_rfl) (by kernel_rfl) (by kernel_rfl) (fun _ _ _ h=>h) (Or.inl ⟨rfl,?_⟩) (by assumption) ?_;rotate_left 1
 ·intro w hSw;(try dsimp only at hSw);go_simp;(try with_reducible rfl)
 (try simp only[Act.put,Zd,Ze,Zf]);refine wpAnyH_take (i:=8) rfl (by kernel_rfl) (by kernel_rfl) (by kernel_rfl) (fun _ _ _ h=>h) (Or.inr ⟨rfl,rfl⟩) (by assumption) ?_;(try simp only[Act.put,Zd,Ze,Zf]);refine wpAnyH_take (i:=9) rfl (by kernel_rfl) (by kernel_rfl) (by kernel_rfl) (fun _ _ _ h=>h) (Or.inr ⟨rfl,rfl⟩) (by assumption) ?_;(try simp only[Act.put,Zd,Ze,Zf]);refine wpAnyH_take (i:=10) rfl (by kernel_rfl) (by kernel_rfl) (by kernel_rfl) (fun _ _ _ h=>h) (Or.inr ⟨rfl,rfl⟩) (by assumption) ?_;(try simp only[Act.put,Zd,Ze,Zf]);refine wpAnyH_take (i:=11) rfl (by kernel_rfl) (by kernel_rfl) (by kernel_rfl) (fun _ _ _ h=>h) (Or.inr ⟨rfl,rfl⟩) (by assumption) ?_;(try simp only[Act.put,Zd,Ze,Zf]);refine wpAnyH_take (i:=12) (v:= ?_) rfl (by kernel_rfl) (by kernel_rfl) (by kernel_rfl) (fun _ _ _ h=>h) (Or.inl ⟨rfl,?_⟩) (by assumption) ?_;rotate_left 1
 ·intro w hSw;(try dsimp only at hSw);go_simp;(try with_reducible rfl)
 (try simp only[Act.put,Zd,Ze,Zf]);refine wpAnyH_ready (rs:=[13]) (by kernel_rfl) (by simp) ?_;refine AllReadyH.cons rfl (fun K hK=>?_) AllReadyH.nil;(try simp only[Zs,Zt,Zu]);go_simp
 refine hK.out _ _ ?_ (fun hHeld=>?_)
 ·(try dsimp only);(first|(simp [*,Ds,Zc];done)|go_keep)
 clear hK K;(try simp only[Act.put,Zd,Ze,Zf]);refine wpAnyH_ready (rs:=[14]) (by kernel_rfl) (by simp) ?_;refine AllReadyH.cons rfl (fun K hK=>?_) AllReadyH.nil;(try simp only[Zs,Zt,Zu]);go_simp
 refine hK.out _ _ ?_ (fun hHeld=>?_)
 ·(try dsimp only);(first|(simp [*,Ds,Zc];done)|go_keep)
 clear hK K;(try simp only[Act.put,Zd,Ze,Zf]);refine wpAnyH_ready (rs:=[15]) (by kernel_rfl) (by simp) ?_;refine AllReadyH.cons rfl (fun K hK=>?_) AllReadyH.nil;(try simp only[Zs,Zt,Zu]);go_simp
 refine hK.out _ _ ?_ (fun hHeld=>?_)
 ·(try dsimp only);(first|(simp [*,Ds,Zc];done)|go_keep)
 clear hK K;(try simp only[Act.put,Zd,Ze,Zf]);refine wpAnyH_done (by kernel_rfl) ?_ _;go_wp2_with fail
 all_goals(refine bodyPost_ret (v:=.tuple #[.agg #[.int .i64 5,.int .i64 0,.int .i64 0,.string (Aa nm),.slice none 0 0],.int .i64 len,.bool false]) (by simp [results,Zj,go_sem,hc]) rfl ⟨rfl,?_⟩)
 all_goals(repeat(refine Zk ?_ (by simp) _))
 all_goals(exact((bA).alloc (by simp) _).drew.trans (hb.mono (by simp;omega)))
theorem Ye(o n:Int)(nm:Bs)(s:Value)(w:World):
  Calls Za 94 #[.agg #[.int .i64 6,.int .i64 o,.int .i64 n,.string (Aa nm),s]] w fun r w'=>r=.returned (.tuple #[.agg #[.int .i64 6,.int .i64 0,.int .i64 0,.string (Aa nm),.slice none 0 0],.int .i64 1,.bool (Ah nm)])∧Below w.heap.size w w':=by
 go_enter Zh,Zi
 go_wp2_with fail
 go_region_held3 (fun w'=>w'.cell? ⟨w.heap.size,3,none⟩=some (.string (Aa nm))∧w'.cell? ⟨w.heap.size+1,0,none⟩=some (.int .i64 6)∧w'.cell? ⟨w.heap.size+1,1,none⟩=some (.int .i64 0)∧w'.cell? ⟨w.heap.size+1,2,none⟩=some (.int .i64 0)∧w'.cell? ⟨w.heap.size+1,3,none⟩=some (.string (Aa nm))∧w'.cell? ⟨w.heap.size+1,4,none⟩=some (.slice none 0 0)) (first|(simp [*,Ds,Zc];done)|go_keep) (first|(go_at_call 73;refine(Ir _ _).mono ?_;rintro e w1 ⟨he,hb⟩;subst he;obtain⟨hc,hf⟩:=Po hb;have hz:w.heap.size+1<w1.heap.size:=(by have:=hb.size;simp at this;omega);have g03:w1.cell? ⟨w.heap.size,3,none⟩=some (.string (Aa nm)):=Ac hb (by simp [Zc]);have g10:w1.cell? ⟨w.heap.size+1,0,none⟩=some (.int .i64 6):=Ac hb (by simp [Zc]);have g11:w1.cell? ⟨w.heap.size+1,1,none⟩=some (.int .i64 0):=Ac hb (by simp [Zc]);have g12:w1.cell? ⟨w.heap.size+1,2,none⟩=some (.int .i64 0):=Ac hb (by simp [Zc]);have g13:w1.cell? ⟨w.heap.size+1,3,none⟩=some (.string (Aa nm)):=Ac hb (by simp [Zc]);have g14:w1.cell? ⟨w.heap.size+1,4,none⟩=some (.slice none 0 0):=Ac hb (by simp [Zc])))
 go_wp2_with fail
 all_goals(refine bodyPost_ret (v:=.tuple #[.agg #[.int .i64 6,.int .i64 0,.int .i64 0,.string (Aa nm),.slice none 0 0],.int .i64 1,.bool (Ah nm)]) (by simp [results,Zj,go_sem,hc]) rfl ⟨rfl,?_⟩)
 all_goals(repeat(refine Zk ?_ (by simp) _))
 all_goals(exact((bA).alloc (by simp) _).drew.trans (hb.mono (by simp;omega)))
theorem dO(o n:Int)(nm:Bs)(s:Value)(w:World):
  Calls Za 94 #[.agg #[.int .i64 7,.int .i64 o,.int .i64 n,.string (Aa nm),s]] w fun r w'=>r=.returned (.tuple #[.agg #[.int .i64 7,.int .i64 0,.int .i64 0,.string (Aa []),.slice none 0 0],.int .i64 0,.bool true])∧Below w.heap.size w w':=by
 go_enter Zh,Zi
 go_wp2_with fail
 all_goals(refine bodyPost_ret (v:=.tuple #[.agg #[.int .i64 7,.int .i64 0,.int .i64 0,.string (Aa []),.slice none 0 0],.int .i64 0,.bool true]) (by simp [results,Zj,go_sem]) rfl ⟨rfl,?_⟩)
 all_goals(repeat(first|exact Zg _ _|refine Zk ?_ (by simp) _|refine Zo ?_ |refine Zl ?_ (by simp) _))
theorem bN(k:Int)(h1:(k==1)=false)(h2:(k==2)=false)(h3:(k==3)=false)(h4:(k==4)=false)(h5:(k==5)=false)(h6:(k==6)=false)(h7:(k==7)=false)(o n:Int)(nm:Bs)(s:Value)(w:World):
  Calls Za 94 #[.agg #[.int .i64 k,.int .i64 o,.int .i64 n,.string (Aa nm),s]] w fun r w'=>r=.returned (.tuple #[.agg #[.int .i64 k,.int .i64 0,.int .i64 0,.string (Aa []),.slice none 0 0],.int .i64 0,.bool false])∧Below w.heap.size w w':=by
 go_enter Zh,Zi
 go_wp2_with fail
 all_goals(refine bodyPost_ret (v:=.tuple #[.agg #[.int .i64 k,.int .i64 0,.int .i64 0,.string (Aa []),.slice none 0 0],.int .i64 0,.bool false]) (by simp [results,Zj,go_sem]) rfl ⟨rfl,?_⟩)
 all_goals(repeat(first|exact Zg _ _|refine Zk ?_ (by simp) _|refine Zo ?_ |refine Zl ?_ (by simp) _))
end Go.Proofs.YtfhbinbjkpfedaaGreatDoor
