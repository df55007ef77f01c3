/-
  Print: a program's text. Conditions: the text takes at most 2^47 bytes; the library's table of powers is there.
-/
import Derived.Shelf.Strings.Builder1
import Derived.Shelf.Strings.Builder2
import Derived.Shelf.Strings.BuilderF
import Derived.Shelf.Strconv.Atoi
import Derived.Shelf.Strconv.Itoa0
import Derived.Shelf.Strconv.Itoa1
import Derived.Shelf.LaysM
import Derived.Shelf.Strconv.Itoa2
import Derived.Shelf.Strconv.Itoa3
import Derived.Shelf.Strconv.AtoiErrFast
import Derived.Shelf.Strconv.ParseIntEmpty
import Derived.Shelf.Strconv.AtoiFail
import Derived.Shelf.Strconv.Clone
import Derived.Shelf.Strconv.SyntaxError
import Derived.Shelf.LaysC
import Derived.Shelf.Strconv.ToError
import Derived.Shelf.Strconv.Lower
import Derived.Shelf.Strconv.ParseUint10
import Derived.Shelf.Strconv.ParseUint10Empty
import Derived.Shelf.Strconv.ParseUint10Any
import Derived.Shelf.Strconv.ParseInt10
import Derived.Shelf.Strconv.AtoiLong
import Derived.Shelf.Strconv.AtoiInnerAll
import Derived.Shelf.Strconv.RangeError
import Derived.Shelf.Strconv.ToErrorRange
import Derived.Shelf.Strconv.AtoiAll
import Derived.Shelf.Strconv.ErrVarAll
import Derived.Shelf.Strings.Search1
import Derived.Shelf.Strings.Search2
import Derived.Shelf.Strings.Search3
import Derived.Shelf.Strings.Cut
import Derived.Shelf.Strings.Count
import Derived.Shelf.Strings.Shaped
import Derived.Shelf.Strings.Prefix
import Derived.Shelf.Bits.Mul64
import Derived.Shelf.Strings.Repeat
import Derived.Shelf.Unicode.DecodeSlow
import Derived.Shelf.Unicode.DecodeAny
import Derived.Shelf.Unicode.ValidAny
import Derived.Lib.Strings
import Derived.Lib.Slices
import Derived.Lib.Walk
import Derived.Lib.Builder
import Derived.Lib.AppendStr
import Derived.Lib.UnsafeStr
import Derived.Lib.MakeNoZero
import Derived.Laws.Externs
import Derived.Test.YthcpopmmlneneaaGreatDoorPt06
import Derived.Test.YthcpopmmlneneaaGreatDoorPt07
import Derived.Shelf.RegionOpenPlain
import Derived.Laws.IdiomCopy
import Derived.Laws.BitsLemmas
import Derived.Test.YthcpopmmlneneaaGreatDoorPt01
set_option linter.unusedVariables false
set_option linter.unusedSimpArgs false
namespace Go.Proofs
open Go.Shelf
def Tryz.laysM171_ren:Go.Shelf.Ren:=⟨fun|171=>18|243=>43|246=>94|283=>133|284=>134|285=>135|286=>136|129=>173|317=>172|318=>174|319=>175|320=>176|337=>193|338=>194|n=>n,fun|3=>3|9=>9|2=>2|4=>4|171=>174|0=>0|53=>171|37=>54|5=>5|173=>177|212=>189|51=>168|20=>20|213=>190|46=>135|232=>205|233=>206|n=>n,fun|17=>0|18=>4|19=>5|n=>n⟩
theorem Tryz.laysM171:Go.Proofs.LaysM.n171 Tryz.prog Tryz.laysM171_ren:=by repeat' (intros;first|kernel_rfl|decide|constructor)
open Go.RowKit Go.Sort Go.Lib in
theorem Tryz.strconv_Itoa(n:Int)(a: -9223372036854775808≤n)(b:n≤9223372036854775807)(w:World)(c:Lib.TabIs Tryz.prog w "internal/strconv.uint64pow10" .u64 Lib.pow10Tab):
  Calls Tryz.prog 18 #[.int .i64 n] w fun e w'=>e=.returned (.string ⟨(Lib.itoa n).toArray⟩)∧∃k d,w'=grow (w.drewN k) d:=Any.strconv_Itoa Tryz.laysM171 n a b w c
def Tryz.laysC172_ren:Go.Shelf.Ren:=⟨fun|172=>184|244=>198|245=>199|247=>206|279=>207|280=>208|281=>209|282=>210|287=>213|316=>214|171=>18|205=>215|321=>216|322=>217|243=>43|246=>94|283=>133|284=>134|285=>135|286=>136|129=>173|317=>172|318=>174|319=>175|320=>176|337=>193|338=>194|n=>n,fun|9=>9|3=>3|75=>132|76=>133|4=>4|5=>5|167=>207|37=>54|0=>0|85=>208|2=>2|168=>210|53=>171|175=>214|46=>135|210=>218|127=>102|145=>223|143=>221|21=>21|171=>174|173=>177|212=>189|51=>168|20=>20|213=>190|232=>205|233=>206|80=>64|n=>n,fun|15=>6|16=>7|17=>0|18=>4|19=>5|n=>n⟩
theorem Tryz.laysC172:Go.Proofs.LaysC.n172 Tryz.prog Tryz.laysC172_ren:=by repeat' (intros;first|kernel_rfl|decide|constructor)
open Go.RowKit in
theorem Tryz.strconv_Atoi_ok(s:ByteArray)(b:s.size≤9223372036854775806)(v:Int)(a:Lib.atoiAll s.data.toList=.ok v)(w:World):
  Calls Tryz.prog 184 #[.string s] w fun e w'=>e=.returned (.tuple #[.int .i64 v,.nilIface])∧(w'=w∨∃t,w'=Lib.bytesWorld w 5 t):=Any.strconv_Atoi_ok Tryz.laysC172 s b v a w
def Tryz.lays144_ren:Go.Shelf.Ren:=⟨fun|144=>182|143=>179|219=>195|217=>202|225=>203|224=>204|267=>205|266=>211|314=>212|n=>n,fun|9=>9|4=>4|3=>3|5=>5|46=>135|146=>169|51=>168|n=>n,fun|1=>1|n=>n⟩
theorem Tryz.lays144:Go.Proofs.Lays.n144 Tryz.prog Tryz.lays144_ren:=by repeat' (intros;first|kernel_rfl|decide|constructor)
open Go.RowKit Go.Lib in
theorem Tryz.strings_Contains(s a:ByteArray)(b:Int)(w:World)(d:s.size<4294967281)(c:w.cell? ⟨1,0,none⟩=some (.int .i64 b)):
  Calls Tryz.prog 182 #[.string s,.string a] w fun e w'=>e=.returned (.bool (Lib.contains s.data.toList a.data.toList))∧w'=w:=Any.strings_Contains Tryz.lays144 s a b w d c
def Tryz.lays145_ren:Go.Shelf.Ren:=⟨fun|145=>180|220=>196|219=>195|217=>202|225=>203|224=>204|267=>205|266=>211|314=>212|n=>n,fun|9=>9|4=>4|59=>194|3=>3|5=>5|46=>135|146=>169|51=>168|n=>n,fun|1=>1|n=>n⟩
theorem Tryz.lays145:Go.Proofs.Lays.n145 Tryz.prog Tryz.lays145_ren:=by repeat' (intros;first|kernel_rfl|decide|constructor)
open Go.RowKit Go.Lib in
theorem Tryz.strings_Cut(s a:ByteArray)(b:Int)(w:World)(d:s.size<4294967281)(c:w.cell? ⟨1,0,none⟩=some (.int .i64 b)):
  Calls Tryz.prog 180 #[.string s,.string a] w fun e w'=>e=.returned (.tuple #[.string ⟨(Lib.cut s.data.toList a.data.toList).1.toArray⟩,.string ⟨(Lib.cut s.data.toList a.data.toList).2.1.toArray⟩,.bool (Lib.cut s.data.toList a.data.toList).2.2])∧∃n,w'=w.drewN n:=Any.strings_Cut Tryz.lays145 s a b w d c
def Tryz.lays138_ren:Go.Shelf.Ren:=⟨fun|138=>160|195=>177|218=>178|143=>179|219=>195|217=>202|225=>203|224=>204|267=>205|266=>211|314=>212|n=>n,fun|9=>9|3=>3|4=>4|5=>5|0=>0|46=>135|146=>169|51=>168|n=>n,fun|1=>1|n=>n⟩
theorem Tryz.lays138:Go.Proofs.Lays.n138 Tryz.prog Tryz.lays138_ren:=by repeat' (intros;first|kernel_rfl|decide|constructor)
open Go.RowKit Go.Lib in
theorem Tryz.strings_Count_one(s:ByteArray)(c:UInt8)(w:World):
  Calls Tryz.prog 160 #[.string s,.string ⟨#[c]⟩] w fun e w'=>e=.returned (.int .i64 (Lib.countByte s.data.toList c))∧w'=w:=Any.strings_Count_one Tryz.lays138 s c w
def Tryz.lays99_ren:Go.Shelf.Ren:=⟨fun|99=>91|206=>131|n=>n,fun|9=>9|4=>4|3=>3|n=>n,fun|n=>n⟩
theorem Tryz.lays99:Go.Proofs.Lays.n99 Tryz.prog Tryz.lays99_ren:=by repeat' (intros;first|kernel_rfl|decide|constructor)
open Go.RowKit Go.Lib in
theorem Tryz.strings_HasPrefix(s p:ByteArray)(w:World):
  Calls Tryz.prog 91 #[.string s,.string p] w fun e w'=>e=.returned (.bool (Lib.hasPrefix s.data.toList p.data.toList))∧w'=w:=Any.strings_HasPrefix Tryz.lays99 s p w
def Tryz.lays105_ren:Go.Shelf.Ren:=⟨fun|105=>41|212=>90|99=>91|165=>92|166=>89|170=>93|169=>20|263=>129|264=>130|206=>131|240=>128|241=>132|276=>170|277=>171|n=>n,fun|9=>9|3=>3|4=>4|20=>20|0=>0|46=>135|109=>136|5=>5|72=>56|76=>133|51=>168|146=>169|53=>171|148=>172|70=>53|37=>54|75=>132|127=>102|164=>186|80=>64|n=>n,fun|n=>n⟩
theorem Tryz.lays105:Go.Proofs.Lays.n105 Tryz.prog Tryz.lays105_ren:=by repeat' (intros;first|kernel_rfl|decide|constructor)
theorem Tryz.Builder_Extra_105:Builder.Extra Tryz.prog Tryz.lays105_ren:=by repeat' (intros;first|kernel_rfl|decide|constructor)
open Go.RowKit Go.Lib in
theorem Tryz.strings_Repeat(s:ByteArray)(c:Nat)(w:World)(a:c≤9223372036854775807)(b:s.size*c≤140737488355328):
  Calls Tryz.prog 41 #[.string s,.int .i64 c] w fun e w'=>e=.returned (.string ⟨(Lib.repeatL s.data.toList c).toArray⟩)∧Below w.heap.size w w':=Any.strings_Repeat Tryz.lays105 Tryz.Builder_Extra_105 s c w a b
def Tryz.lays197_ren:Go.Shelf.Ren:=⟨fun|197=>185|260=>200|n=>n,fun|9=>9|21=>21|3=>3|4=>4|5=>5|105=>196|119=>200|0=>0|46=>135|139=>203|138=>202|n=>n,fun|3=>2|4=>3|n=>n⟩
theorem Tryz.lays197:Go.Proofs.Lays.n197 Tryz.prog Tryz.lays197_ren:=by repeat' (intros;first|kernel_rfl|decide|constructor)
open Go.RowKit Go.Lib in
theorem Tryz.utf8_DecodeRuneInString(s:ByteArray)(w:World)(a:Lib.Utf8Tabs 2 3 w):
  Calls Tryz.prog 185 #[.string s] w fun e w'=>e=.returned (.tuple #[.int .i32 (Lib.decodeGo s).1,.int .i64 (Lib.decodeGo s).2])∧Below w.heap.size w w':=Any.utf8_DecodeRuneInString Tryz.lays197 s w a
def Tryz.lays196_ren:Go.Shelf.Ren:=⟨fun|196=>181|259=>197|n=>n,fun|9=>9|4=>4|3=>3|5=>5|12=>12|119=>200|0=>0|46=>135|139=>203|138=>202|53=>171|n=>n,fun|3=>2|4=>3|n=>n⟩
theorem Tryz.lays196:Go.Proofs.Lays.n196 Tryz.prog Tryz.lays196_ren:=by repeat' (intros;first|kernel_rfl|decide|constructor)
open Go.RowKit Go.Lib in
theorem Tryz.utf8_ValidString(s:ByteArray)(w:World)(b:s.size≤9223372036854775807)(a:Lib.Utf8Tabs 2 3 w):
  Calls Tryz.prog 181 #[.string s] w fun e w'=>e=.returned (.bool (Lib.validD s.data.toList))∧Below w.heap.size w w':=Any.utf8_ValidString Tryz.lays196 s w b a
end Go.Proofs
namespace Go.Proofs.YthcpopmmlneneaaGreatDoor
open Go.RowKit Go.Proofs.Tryz
set_option maxHeartbeats 20000000
set_option maxRecDepth 100000
open Go renaming World→Yd,Calls→Ye,TypeId→Yi
open Go.RowKit renaming Hid→Yf,intOf→Yg,Below→Yh
open Go.Lib renaming hid→Za,byteCells→Zo,cell_of_heap→Zt
open Go.Proofs.Tryz renaming prog→Zb,func95→Zm,ntmps95→Zn,func25→Zz,ntmps25→Ya
open List renaming getElem_cons_zero→Zc,getElem_cons_succ→Zd,append_assoc→Zg,map_cons→Zh,map_nil→Zi,append_nil→Zj,nil_append→Zk,length_append→Zl,getElem?_eq_getElem→Zp,flatMap_append→Zq,take_succ_eq_append_getElem→Zv,take_of_length_le→Zw,take_append_drop→Zx,all_eq_true→Zy
open Int renaming reduceEq→Ze
open World renaming cell?_alloc_lt→Zf,setCell→Zr,block_lt_of_cell?→Yc
open Bool renaming and_eq_true→Zs
open Nat renaming zero_le→Zu
open Go.RowKit.Below renaming heap_setCell→Yb
def own(w:Yd)(b:Nat):Option Nat:=
 match w.heap[b]? with
 |some (.cells cs _ _)=>(cs.getD 1 undef).ownBlock
 |_=>none
def Ca(w:Yd)(b:Nat)(a:Bs)(t:Int):Prop:=
 ∃p v,w.heap[b]? =some (.cells #[p,v,.int .i64 t] 58 (0,0))∧(p=.pointer none∨p=.pointer (some ⟨b,0,none⟩))∧w.ownsRow (b+1) 5 1 v a.length (Zo a)
structure PFr (b:Nat)(w w':Yd):Prop where
 os:w'.os=w.os
 tape:w'.tape=w.tape
 output:w'.output=w.output
 size:w.heap.size≤w'.heap.size
 block:∀k,k<w.heap.size→k≠b→own w b≠some k→w'.heap[k]? =w.heap[k]?
 own:own w' b=own w b∨∃k,w.heap.size≤k∧own w' b=some k
theorem PFr.refl(b:Nat)(w:Yd):PFr b w w:=⟨rfl,rfl,rfl,Nat.le_refl _,fun _ _ _ _=>rfl,.inl rfl⟩
theorem PFr.trans {b:Nat}{u v w:Yd}(a:PFr b u v)(k:PFr b v w):PFr b u w where
 os:=k.os.trans a.os
 tape:=k.tape.trans a.tape
 output:=k.output.trans a.output
 size:=Nat.le_trans a.size k.size
 block i hi hb ho:=by
  refine(k.block i (Nat.lt_of_lt_of_le hi a.size) hb ?_).trans (a.block i hi hb ho);rcases a.own with e|⟨j,d,e⟩
  ·rw[e];exact ho
  ·rw[e];intro c;cases c;omega
 own:=by
  rcases k.own with e|⟨j,d,e⟩
  ·rcases a.own with f|⟨j,d,f⟩
   ·exact .inl (e.trans f)
   ·exact .inr ⟨j,d,e.trans f⟩
  ·exact .inr ⟨j,Nat.le_trans a.size d,e⟩
theorem vS {w w':Yd}{b:Nat}(a:w'.heap[b]? =w.heap[b]?):own w' b=own w b:=by simp [own,a]
theorem PFr.of_below {b:Nat}{w w':Yd}(a:Yh w.heap.size w w')(c:b<w.heap.size):PFr b w w':=
 ⟨a.os,a.tape,a.output,a.size,fun k d _ _=>a.block k d,.inl (vS (a.block b c))⟩
theorem Ca.lt {w:Yd}{b:Nat}{c:Bs}{t:Int}(d:Ca w b c t):b<w.heap.size:=by
 obtain⟨p,v,e,_⟩:=d;rcases Nat.lt_or_ge b w.heap.size with a|a
 ·exact a
 ·simp [Array.getElem?_eq_none a]at e
theorem Ca.own_gt {w:Yd}{b:Nat}{a:Bs}{t:Int}(c:Ca w b a t){k:Nat}(e:own w b=some k):b<k∧k<w.heap.size:=by
 obtain⟨p,v,d,_,f⟩:=c;have:v.ownBlock=some k:=by simpa [own,d]using e
 have:=f.lt k this;omega
theorem PFr.below {w w':Yd}{b:Nat}{d:Bs}{t:Int}(a:PFr b w w')(c:Ca w b d t):Yh b w w':=
 ⟨a.os,a.tape,a.output,a.size,fun k f=>a.block k (by have:=c.lt;omega) (by omega) (fun e=>by have:=c.own_gt e;omega)⟩
theorem Ca.old {w w':Yd}{b:Nat}{d:Bs}{t:Int}(o:Ca w b d t)(f:Yh w.heap.size w w'):Ca w' b d t:=by
 obtain⟨p,v,h,j,c⟩:=o;have n:b<w.heap.size:=Ca.lt ⟨p,v,h,j,c⟩;refine⟨p,v,(f.block b n).trans h,j,c.1,?_⟩;rcases c.2 with e|⟨g,cap,k,q,l,i,r⟩
 ·exact .inl e
 ·refine .inr ⟨g,cap,k,q,l,?_,r⟩
  have m:g<w.heap.size:=by
   rcases Nat.lt_or_ge g w.heap.size with a|a
   ·exact a
   ·simp [Array.getElem?_eq_none a]at i
  exact(f.block g m).trans i
def Loc(w:Yd)(b a:Nat)(c:List Value):Prop:=a≠b∧own w b≠some a∧a<w.heap.size∧Dv w a 0 c
theorem Loc.step {w w':Yd}{b a:Nat}{f:List Value}(l:Loc w b a f)(d:PFr b w w'):Loc w' b a f:=by
 obtain⟨g,h,k,m⟩:=l;refine⟨g,?_,Nat.lt_of_lt_of_le k d.size,fun i n=>?_⟩
 ·rcases d.own with e|⟨j,o,e⟩
  ·rw[e];exact h
  ·rw[e];intro c;cases c;omega
 ·rw[World.cell?_of_block (w:=w) (d.block a k g h)];exact m i n
theorem Loc.new {w:Yd}{b:Nat}{f:Bs}{t:Int}(a:Ca w b f t)(c:List Value)(d:Yi):Loc (w.alloc (.cells c.toArray d)) b w.heap.size c:=by
 refine⟨by have:=a.lt;omega,?_,by simp,fun i g=>by simp⟩;rw[vS (Below.heap_alloc w _ b a.lt)];intro e;have:=(a.own_gt e).2;omega
theorem Loc.cell {w:Yd}{b c:Nat}{a:List Value}(d:Loc w b c a)(i:Nat)(e:i<a.length):w.cell? ⟨c,i,none⟩=some a[i]:=by
 have:=d.2.2.2 i e;simpa using this
theorem PFr.keeps {w w':Yd}{b:Nat}{a:Bs}{t:Int}(c:PFr b w w')(e:Ca w b a t):Db (· <b) w w':=
 fun k f x d hx=>by rw[(c.below e).cell (p:=⟨k,f,none⟩) d];exact hx
theorem vD:(Tryz.prog.info? 5).map (fun i=>(i.zero,i.size,i.bytes))=some (some (.int .u8 0),1,1):=by kernel_rfl
theorem Tr:(Tryz.prog.info? 56).map (fun i=>i.size)=some 2:=by kernel_rfl
theorem iA:liesAt Zb Tryz.prog.depth 58 (3 / Tryz.prog.cellsOf 58) 0 56 1=true:=by kernel_rfl
theorem Vg(b:Nat)(w:Yd)(c:w.cell? ⟨b,0,none⟩=some (.pointer (some ⟨b,0,none⟩))):
  Ye Zb 128 #[.pointer (some ⟨b,0,none⟩)] w fun e w'=>e=.returned (.tuple #[])∧w=w':=by
 obtain⟨j,a,_⟩:=Option.map_eq_some_iff.1 Tr;go_enter func128,ntmps128;go_wp2_with fail;rw[Lib.run_neq_ptr_same w _ underlying53 a];go_wp2
 go_end0
 exact⟨rfl,rfl⟩
theorem Up(b:Nat)(w:Yd)(f:w.cell? ⟨b,0,none⟩=some (.pointer none))(c:w.shape? b=some (58,3))(g:w.frozen? ⟨b,0,none⟩=false):
  Ye Zb 128 #[.pointer (some ⟨b,0,none⟩)] w fun e w'=>e=.returned (.tuple #[])∧w'=w.setCell ⟨b,0,none⟩ (.pointer (some ⟨b,0,none⟩)):=by
 obtain⟨j,a,d⟩:=Option.map_eq_some_iff.1 Tr;go_enter func128,ntmps128;go_wp2_with fail;rw[Lib.run_to_unsafe w ⟨b,0,none⟩ underlying53 underlying186 a (by rw[d];decide) c (Nat.zero_lt_succ 2)];simp only[Result.andThen];rw[Oper.upon_value];go_wp2_with fail;rw[run_callFunc_extern func170 (by kernel_rfl) (by kernel_rfl) (by kernel_rfl) (e:=Extern.AbiNoEscape.same) (by kernel_rfl)];rw[Lib.run_noEscape];simp only[Result.andThen];rw[Oper.upon_value];go_wp2_with fail;rw[Lib.run_from_unsafe w ⟨b,0,none⟩ underlying186 underlying53 a c iA];simp only[Result.andThen];rw[Oper.upon_value];go_wp2
 go_end0
 exact⟨rfl,rfl⟩
def Kh(w:Yd)(b:Nat)(a:Bs)(t:Int)(d:Bs)(c:Ending)(w':Yd):Prop:=c=.returned (.tuple #[])∧Ca w' b (a++d) t∧PFr b w w'
theorem Yz(b:Nat)(c:Bs)(t:Int){w:Yd}(g:Ca w b c t):
  Ye Zb 128 #[.pointer (some ⟨b,0,none⟩)] w fun e w'=>e=.returned (.tuple #[])∧PFr b w w'∧
   ∃v,w'.heap[b]? =some (.cells #[.pointer (some ⟨b,0,none⟩),v,.int .i64 t] 58 (0,0))∧w'.ownsRow (b+1) 5 1 v c.length (Zo c):=by
 have j:=g.lt;obtain⟨p,v,a,i,f⟩:=g;rcases i with rfl|rfl
 ·refine(Up b w (by rw[Zt a];rfl) (by simp [World.shape?,a]) (Lib.frozen_of_heap a 0)).mono ?_
  rintro e w' ⟨rfl,rfl⟩;have h:(w.setCell ⟨b,0,none⟩ (π b)).heap[b]? =some (.cells #[π b,v,ι t] 58 (0,0)):=by
   simp [Zr,Array.getElem?_modify,a]
  refine⟨rfl,⟨rfl,rfl,rfl,by simp [Zr],fun k _ d _=>Yb _ _ _ _ d,.inl (by simp [own,a,h])⟩,v,h,?_⟩;refine f.kept (row:=some b) ⟨rfl,rfl,rfl,by simp [Zr],fun k _ d=>Yb _ _ _ _ (fun e=>d (by simp [e]))⟩ (Or.inr ?_);intro e;have:=f.lt b e;omega
 ·refine(Vg b w (by rw[Zt a];rfl)).mono ?_
  rintro e w' ⟨rfl,rfl⟩;exact⟨rfl,PFr.refl _ _,v,a,f⟩
theorem lP(P:Program)(w:Yd)(d:Nat)(t u c e:Yi)(i:TypeInfo)(m:P.underlying t=some (.slice e))(o:P.underlying u=some .string)(f:P.info? e=some i)(r:i.zero=some (.int .u8 0))
  (q:i.size=1) (p:i.bytes=1) (v:Value) (n:Nat) (xs:List Value) (h:w.ownsRow d e 1 v n xs) (s:ByteArray)
  (y:n+s.size≤maxLen) (D:n+s.size≤140737488355328) (C:d≤w.heap.size):
  ∃b w',(Builtin.append_ #[t,u] c #[v,.string s]).run P w=.ok b w'∧w'.ownsRow d e 1 b (n+s.size) (xs++Lib.strCells s)∧w.grownBy w' v.ownBlock∧
   (b.ownBlock=v.ownBlock∨∃k,w.heap.size≤k∧b.ownBlock=some k):=by
 obtain⟨b,w',l,z,A,B⟩:=Lib.run_append_own_string (P:=P) w d t u c e i m o f r q p v n xs h s y D C;refine⟨b,w',l,z,A,?_⟩;have I:n+s.size≤9223372036854775807:=by simp only[maxLen]at y;omega
 rcases h.2 with⟨rfl,rfl⟩|⟨g,cap,x,rfl,J,F,M,K,E,N⟩
 ·by_cases hm:s.size=0
  ·rw[B.2 ⟨rfl,hm⟩];exact .inl rfl
  ·have a:=run_append_nil_string (P:=P) w t u c e i (.int .u8 0) m o f r s (by omega) (by omega) (by rw[p];omega)
   rw[l]at a
   cases a
   exact .inr ⟨w.heap.size,Nat.le_refl _,rfl⟩
 ·by_cases hroom:n+s.size≤cap
  ·have L:x.size=cap:=by simpa using E
   have a:=Lib.run_append_room_string (P:=P) w t u c e i m o f q g n cap x F s hroom (by omega);rw[l]at a
   cases a
   exact .inl rfl
  ·have H:xs.length=n:=by simpa using h.1
   have G:∀j u,xs[j]? =some u→w.cell? ((⟨g,0,none⟩:Addr).add j)=some u:=h.cells (g:=g) rfl;have a:=Lib.run_append_grow_string (P:=P) w t u c e i (.int .u8 0) m o f r ⟨g,0,none⟩ n cap xs (by rw[q];simpa using H) G s (by omega) (by omega) (by rw[p];exact growslice_fits (by omega) (by omega));rw[l]at a
   cases a
   exact .inr ⟨w.heap.size,Nat.le_refl _,rfl⟩
theorem Rh {P:Program}{w:Yd}{ops:Array Oper}{rest:List Oper}{c:Oper}{a:Act}{Q:Exit→Act→Yd→Prop}(y:c.guard=none){f x:Operand}(t u:Yi)
  (A:c.op=.call {callee:=.builtin .append,args:= #[f,x],argTypes:= #[t,u]})
  (d:Nat) (e:Yi) (i:TypeInfo) (F:P.underlying t=some (.slice e)) (G:P.underlying u=some .string) (z:P.info? e=some i) (H:i.zero=some (.int .u8 0))
  (E:i.size=1) (q:i.bytes=1)
  {v:Value} {n:Nat} {xs:List Value} (D:a.eval f=v) (B:w.ownsRow d e 1 v n xs) (s:ByteArray) (hx:a.eval x=.string s)
  (m:n+s.size≤maxLen) (r:n+s.size≤140737488355328) (p:d≤w.heap.size)
  (g:∀b w',w'.ownsRow d e 1 b (n+s.size) (xs++Lib.strCells s)→w.grownBy w' v.ownBlock→(b.ownBlock=v.ownBlock∨∃k,w.heap.size≤k∧b.ownBlock=some k)→wpList P ops Q rest (a.put c.dst b) w'):wpList P ops Q (c::rest) a w:=by
 refine wpList_plain y fun I o=>?_
 obtain⟨b,w',C,h,j,l⟩:=lP P w d t u c.type e i F G z H E q v n xs B s m r p;unfold Oper.wp execOp;simp only[A,resolve,invoke,builtin,Sem.run_bind,Sem.run_pure,Result.andThen_ok,List.map_toArray,Zh,Zi,D,hx,C];exact o _ _ (g b w' h j l)
theorem Wp(s:Bs):Lib.strCells (Aa s)=Zo s:=by simp [Lib.strCells,Zo]
theorem Xz(a c:Bs):Zo a++Zo c=Zo (a++c):=by simp [Zo]
theorem Un(s:Bs)(b:Nat){a:Bs}(t:Int){w:Yd}(m:Ca w b a t)(A:Cv (a.length+s.length)):
  Ye Zb 89 #[.pointer (some ⟨b,0,none⟩),.string (Aa s)] w fun e w'=>e=.returned (.tuple #[.int .i64 s.length,.nilIface])∧Ca w' b (a++s) t∧PFr b w w':=by
 obtain⟨Q,I,M,N,O⟩:=info_parts vD;have aa:=m.lt;have y:Yf (a.length+s.length≤140737488355328):=A;clear A;go_enter func89,ntmps89;go_wp2_with fail;refine(Yz b a t m).mono ?_;rintro e l ⟨rfl,n,v,i,j⟩;have F:=Za n;have ab:=n.size;clear n m;have U:l.cell? ⟨b,0,none⟩=some (π b):=by rw[Zt i];rfl
 have V:l.cell? ⟨b,1,none⟩=some v:=by rw[Zt i];rfl
 go_wp2_with (at_builtin;refine Rh (P:=Zb) rfl 54 9 rfl (b+1) 5 Q underlying54 underlying9 I M N O rfl j (Aa s) rfl ?c3 ?c4 ?c5 ?_)
 case c3=>have:=y.o;unfold maxLen;show a.length+s.length≤_;omega
 case c4=>exact y.o
 case c5=>omega
 intro S w2 u p B;have L:b<l.heap.size:=by omega
 have h:w2.heap[b]? =some (.cells #[π b,v,ι t] 58 (0,0)):=by
  rw[p.block b L (fun e=>by have:=j.lt b e.symm;omega)];exact i
 have X:w2.cell? ⟨b,0,none⟩=some (π b):=by rw[Zt h];rfl
 have Y:w2.cell? ⟨b,1,none⟩=some v:=by rw[Zt h];rfl
 have Z:w2.frozen? ⟨b,1,none⟩=false:=Lib.frozen_of_heap h 1;obtain⟨c,d,cap,rfl⟩:∃c d cap,S=.slice c d cap:=by
  rcases u.2 with⟨x,_⟩|⟨g,cap,W,x,_⟩
  ·exact⟨_,_,_,x⟩
  ·exact⟨_,_,_,x⟩
 obtain⟨E,D,T,G,f,H⟩:=Y6 i h j u p B;clear i h j u p B;go_wp2
 go_ret2
 have z:(w2.setCell ⟨b,1,none⟩ (.slice c d cap)).heap[b]? =some (.cells #[π b,.slice c d cap,ι t] 58 (0,0)):=by
  simp [Zr,Array.getElem?_modify,D.o]
 have C:own l b=v.ownBlock:=by simp [own,E.o]
 have R:own (w2.setCell ⟨b,1,none⟩ (.slice c d cap)) b=(Value.slice c d cap).ownBlock:=by simp [own,z]
 refine⟨rfl,⟨_,_,z,.inr rfl,?_⟩,F.o.trans ⟨?_,?_,?_,?_,?_,?_⟩⟩
 ·have q:=G.o
  rw[Wp,Xz]at q;rw[show(a++s).length=a.length+(Aa s).size from by simp;rfl];refine q.kept (row:=some b) ⟨rfl,rfl,rfl,by simp [Zr],fun k _ r=>Yb _ _ _ _ (fun e=>r (by simp [e]))⟩ (Or.inr ?_);intro e;have:=q.lt b e;omega
 ·exact f.o.os
 ·exact f.o.tape
 ·exact f.o.output
 ·have:=f.o.size;simp [Zr];omega
 ·intro k r J K
  rw[Yb _ _ _ _ (by simpa using J)];exact f.o.block k r (fun e=>K (by rw[C];exact e.symm))
 ·rw[R,C];exact H.o
theorem Ca.alloc {w:Yd}{b:Nat}{a:Bs}{t:Int}(c:Ca w b a t)(d:Obj):Ca (w.alloc d) b a t:=c.old (bA)
theorem PFr.alloc {w:Yd}{b:Nat}{a:Bs}{t:Int}(c:Ca w b a t)(d:Obj):PFr b w (w.alloc d):=PFr.of_below (bA) c.lt
theorem eB(a:List Bs)(m cap b:Nat)(f:Bs)(t:Int){w:Yd}(d:Ca w b f t)(v:Loc w b m (a.map fun s=>.string (Aa s)))(p:Cv (f.length+a.flatten.length))(G:a.length≤1000):
  Ye Zb 40 #[.pointer (some ⟨b,0,none⟩),.slice (some ⟨m,0,none⟩) a.length cap] w (Kh w b f t a.flatten):=by
 obtain⟨C,A,y⟩:=Y3 d v p;clear d v p;go_enter func40,ntmps40;go_wp2
 go_loopw [5,8] (fun _ i wr=> ∃k:Nat,k≤a.length∧i= ι k∧Ca wr b (f++(a.take k).flatten) t∧PFr b w wr) (fun _ i _=>a.length-(Yg i).toNat)
 case atStart=>exact⟨0,Zu _,rfl,by simpa using C.o,PFr.refl _ _⟩
 case round=>
  obtain⟨k,F,rfl,d,g⟩:=hrel;obtain⟨l,j⟩:=Y2 d g;have E:=d.lt;have B:=Za (A.o.step g);clear d g
  by_cases hlt:k<a.length
  ·have c:=B.o.cell k (by simpa using hlt)
   have n:(a.map fun s=>Value.string (Aa s))[k]'(by simpa using hlt)= σ (a.getD k []):=by simp [Zp hlt]
   rw[n]at c;have h:Yf ((a.take (k+1)).flatten=(a.take k).flatten++a.getD k []):=by
    show _=_
    rw[Zv hlt];simp only[List.flatten_append,List.flatten_cons,List.flatten_nil,Zj,List.getD_eq_getElem?_getD,Zp hlt,Option.getD_some]
   have u:Yf (Cv ((f++(a.take k).flatten).length+(a.getD k []).length)):=by
    refine y.o.mono ?_;have e:a.flatten=(a.take (k+1)).flatten++(a.drop (k+1)).flatten:=by rw[←List.flatten_append,Zx]
    rw[e,h.out];simp;omega
   clear n;generalize a.getD k []=s at c h u;go_wp2_with fail;refine(Un s b t l.o u.out).mono ?_;rintro H I ⟨rfl,x,r⟩;obtain⟨D,z⟩:=Y2 x r;clear x r;go_wp2;go_roundw
   case rel=>exact⟨k+1,by omega,by go_num,by rw[h.out,←Zg];exact D.o,j.o.trans z.o⟩
   case measure=>simp [Yg];omega
  ·go_wp2
   go_end0
   exact⟨rfl,by have e:a.take k=a:=Zw (by omega);have q:=l.o;rwa[e]at q,j.o⟩
theorem Rk(s:Bs){d:Yi}{e:Nat}(b:Nat)(a:Bs)(t:Int)(w:Yd)(h:e=w.heap.size)(c:Ca w b a t)(i:Cv (a.length+s.length)):
  Ye Zb 40 #[.pointer (some ⟨b,0,none⟩),.slice (some ⟨e,0,none⟩) 1 1] (w.alloc (.cells #[.string (Aa s)] d)) (Kh w b a t s):=by
 subst h;refine(eB [s] w.heap.size 1 b a t (c.alloc _) (Loc.new c [σ s] d) (by simpa using i) (by simp)).mono ?_;rintro j w' ⟨rfl,f,g⟩;exact⟨rfl,by simpa using f,(PFr.alloc c _).trans g⟩
theorem put2(a c:Bs){f:Yi}{g:Nat}(b:Nat)(d:Bs)(t:Int)(w:Yd)(j:g=w.heap.size)(e:Ca w b d t)(k:Cv (d.length+(a++c).length)):
  Ye Zb 40 #[.pointer (some ⟨b,0,none⟩),.slice (some ⟨g,0,none⟩) 2 2] (w.alloc (.cells #[.string (Aa a),.string (Aa c)] f)) (Kh w b d t (a++c)):=by
 subst j;refine(eB [a,c] w.heap.size 2 b d t (e.alloc _) (Loc.new e [σ a,σ c] f) (by simpa using k) (by simp)).mono ?_;rintro l w' ⟨rfl,h,i⟩;exact⟨rfl,by simpa using h,(PFr.alloc e _).trans i⟩
theorem put3(a c d:Bs){g:Yi}(h b:Nat)(e:Bs)(t:Int)(w:Yd)(k:h=w.heap.size)(f:Ca w b e t)(l:Cv (e.length+(a++(c++d)).length)):
  Ye Zb 40 #[.pointer (some ⟨b,0,none⟩),.slice (some ⟨h,0,none⟩) 3 3] (w.alloc (.cells #[.string (Aa a),.string (Aa c),.string (Aa d)] g)) (Kh w b e t (a++(c++d))):=by
 subst k;refine(eB [a,c,d] w.heap.size 3 b e t (f.alloc _) (Loc.new f [σ a,σ c,σ d] g) (by simpa using l) (by simp)).mono ?_;rintro m w' ⟨rfl,i,j⟩;exact⟨rfl,by simpa using i,(PFr.alloc f _).trans j⟩
def Ev(w:Yd):Prop:=Lib.TabIs Zb w "internal/strconv.uint64pow10" .u64 Lib.pow10Tab
theorem Ev.keep {w w':Yd}(a:Ev w)(b:w'.heap[0]? =w.heap[0]?):Ev w':=by
 have c:Tryz.prog.globalNamed "internal/strconv.uint64pow10" =some 0:=by kernel_rfl
 unfold Ev Lib.TabIs World.var? at*;simp only[c,Option.bind_eq_bind,Option.bind_some]at*;rw[b];exact a
theorem gR(n:Int)(a:I64 n)(w:Yd)(c:Ev w):
  Ye Zb 18 #[.int .i64 n] w fun e w'=>e=.returned (.string (Aa (Lib.itoa n)))∧Yh w.heap.size w w':=by
 refine(Tryz.strconv_Itoa n a.1 a.2 w c).mono ?_;rintro e w' ⟨rfl,k,d,rfl⟩;exact⟨rfl,rfl,rfl,rfl,by simp,fun i b=>by simp [Sort.grow,World.drewN,Array.getElem?_append_left b]⟩
def Hb(e:Ex):Prop:= ∀(b:Nat) (a:Bs) (t:Int) (s:Value) (w:Yd),0<b→Ev w→Ca w b a t→Ag (· <b) w e.args s→I64 e.n→Cc e=true→Cv (a.length+(Aj e).length)→
 Ye Zb 25 #[.pointer (some ⟨b,0,none⟩),exV e s] w (Kh w b a t (Aj e))
theorem Ev.fr {w w':Yd}{b:Nat}{a:Bs}{t:Int}(c:Ev w)(e:PFr b w w')(f:Ca w b a t)(d:0<b):Ev w':=c.keep ((e.below f).block _ d)
theorem Wr(e:Ex)(W:Hb e)(g:Int)(b:Nat){h:Bs}(t:Int){s:Value}(w:Yd)(q:0<b)(U:Ev w)(r:Ca w b h t)(O:Ag (· <b) w e.args s)(S:I64 e.n)(V:Cc e=true)(R:Cv (h.length+(Et e g).length)):
  Ye Zb 54 #[.pointer (some ⟨b,0,none⟩),exV e s,.int .i64 g] w (Kh w b h t (Et e g)):=by
 obtain⟨M,K,p,I,L,a⟩:=Y6 W U r S V R;obtain⟨P,sc,rfl⟩:=O.shape;have J:=Za O;clear W U O S V R;have ad:=r.lt;obtain⟨l,j,G⟩:=Y3 (r.alloc (ξ e (ρ P e.args sc))) (PFr.alloc r (ξ e (ρ P e.args sc))) (Loc.new r (χ e (ρ P e.args sc)) 35);clear r
 by_cases h4:e.kind=4
 ·have aa:(e.kind==4)=true:=by simpa using h4
  by_cases hl:Ao e.op<g
  ·have v:Yf (Et e g=[40]++(Aj e++[41])):=by show _=_;simp [Et,Fm,h4,hl]
   rw[v.out]at a ⊢;clear h4;go_enter func54,ntmps54;go_wp2_with fail;refine(Km e.op _).mono ?_;rintro u w2 ⟨rfl,i⟩;have k:=PFr.of_below i l.out.lt;obtain⟨F,m,c⟩:=Y3 (l.out.old i) (j.out.trans k) (G.out.step k);clear i k l j G;go_wp2_with fail;refine(Rk [40] b h t w2 rfl F.o (a.o.mono (by simp))).mono ?_;rintro u ab ⟨rfl,T,N⟩;obtain⟨X,H,y⟩:=Y3 T (m.o.trans N) (c.o.step N);clear T N F m c;have A:=y.o.cell 0 (by simp);have B:=y.o.cell 1 (by simp);have C:=y.o.cell 2 (by simp);have D:=y.o.cell 3 (by simp);have E:=y.o.cell 4 (by simp);simp only[Zc,Zd]at A B C D E;go_wp2_with fail;refine(M.out b (h++[40]) t _ ab q (K.o.fr H.o p.o q) X.o (J.o.keep (H.o.keeps p.o)) I.o L.o (a.o.mono (by simp;omega))).mono ?_;rintro u Q ⟨rfl,f,d⟩;obtain⟨z,x⟩:=Y2 f (H.o.trans d);clear f d A B C D E;go_wp2_with fail;refine(Rk [41] b _ t Q rfl z.o (a.o.mono (by simp;omega))).mono ?_;rintro u ae ⟨rfl,Z,Y⟩;go_wp2
   go_end0
   exact⟨rfl,by simpa using Z,x.o.trans Y⟩
  ·have ac:g≤Ao e.op:=by omega
   have v:Yf (Et e g=Aj e):=by show _=_;simp [Et,Fm,hl]
   rw[v.out]at a ⊢;clear h4;go_enter func54,ntmps54;go_wp2_with fail;refine(Km e.op _).mono ?_;rintro u w2 ⟨rfl,i⟩;have k:=PFr.of_below i l.out.lt;obtain⟨F,m,c⟩:=Y3 (l.out.old i) (j.out.trans k) (G.out.step k);clear i k l j G;have A:=c.o.cell 0 (by simp);have B:=c.o.cell 1 (by simp);have C:=c.o.cell 2 (by simp);have D:=c.o.cell 3 (by simp);have E:=c.o.cell 4 (by simp);simp only[Zc,Zd]at A B C D E;go_wp2_with fail;refine(M.out b h t _ w2 q (K.o.fr m.o p.o q) F.o (J.o.keep (m.o.keeps p.o)) I.o L.o a.o).mono ?_;rintro u Q ⟨rfl,f,d⟩;obtain⟨z,x⟩:=Y2 f (m.o.trans d);clear f d A B C D E;go_wp2
   go_end0
   exact⟨rfl,z.o,x.o⟩
 ·have aa:(e.kind==4)=false:=by simpa using h4
  have v:Yf (Et e g=Aj e):=by show _=_;simp [Et,Fm,h4]
  rw[v.out]at a ⊢;clear h4;go_enter func54,ntmps54;go_wp2_with fail;refine(M.out b h t _ _ q (K.o.fr j.out p.o q) l.out (J.o.keep (j.out.keeps p.o)) I.o L.o a.o).mono ?_;rintro u Q ⟨rfl,f,d⟩;obtain⟨z,x⟩:=Y2 f (j.out.trans d);clear f d;go_wp2
  go_end0
  exact⟨rfl,z.o,x.o⟩
theorem jZ(a c:List Bs):(Bm a).length≤(Bm (a++c)).length:=by
 cases a with
 |nil=>simp [Bm]
 |cons x l=>simp [Bm]
theorem Nx(a:List Bs)(k:Nat):(Bm (a.take k)).length≤(Bm a).length:=by
 have:=jZ (a.take k) (a.drop k)
 rwa[Zx]at this
theorem Xw(l:List Ex)(k:Nat)(a:k<l.length):(l.take (k+1)).map Aj=(l.take k).map Aj++[Aj (Bx l k)]:=by
 rw[Zv a,List.map_append,Zh,Zi,Ro a]
theorem sA(l:List Ex)(ae:∀x,x∈l→Hb x)(b:Nat){d:Bs}(t:Int){s:Value}(w:Yd)(v:0<b)(ac:Ev w)(Z:Ca w b d t)(A:Ag (· <b) w l s)(ad:∀x,x∈l→Cc x=true)(U:Cv (d.length+(Bm (l.map Aj)).length)):
  Ye Zb 56 #[.pointer (some ⟨b,0,none⟩),s,.func (.func 25) #[.pointer (some ⟨b,0,none⟩)] #[]] w (Kh w b d t (Bm (l.map Aj))):=by
 obtain⟨ak,T,u,aj,Q⟩:=Y5 ae ac Z ad U;obtain⟨aB,sc,rfl⟩:=A.shape;have az:=A.fits.lt;have ai:=Za A;clear ae ac A ad U Z;go_enter func56,ntmps56;go_wp2
 go_loopw [6,7,10] (fun _ _ P wr=> ∃k:Nat,k≤l.length∧P= ι k∧Ca wr b (d++Bm ((l.take k).map Aj)) t∧PFr b w wr) (fun _ _ P _=>l.length-(Yg P).toNat)
 case atStart=>exact⟨0,Zu _,rfl,by simpa [Bm]using u.o,PFr.refl _ _⟩
 case round=>
  obtain⟨k,aw,rfl,O,V⟩:=hrel;obtain⟨a,D⟩:=Y2 O V;have au:=O.lt;clear O V
  by_cases hlt:k<l.length
  ·obtain⟨al,aA,ar,rfl,am,c,f,g,h,i,K,X⟩:=(ai.o.keep (D.o.keeps u.o)).cellAt k hlt
   obtain⟨I,J,rfl⟩:=K.shape;obtain⟨B,E,H,G,z,p⟩:=Y6 K X (ak.out _ (Cs hlt)) (aj.o _ (Cs hlt)) (Xw l k hlt) (Nx (l.map Aj) (k+1));rw[←List.map_take,z.out,Le]at p;clear K X am;generalize Bx l k=e at c f g h i B E H G z p;obtain⟨aa,L,an⟩:=Y3 (a.o.alloc (ξ e (ρ I e.args J))) (D.o.trans (PFr.alloc a.o (ξ e (ρ I e.args J)))) (Loc.new a.o (χ e (ρ I e.args J)) 35);have av:al<wr.heap.size:=Yc _ _ c
   by_cases hk0:k=0
   ·have ax:(k:Int)≤0:=by omega
    have N:(l.take k).map Aj=[]:=by rw[hk0];simp
    rw[if_pos N]at p;obtain⟨aq,S⟩:=Y2 hk0 N;have ao:Yf (Cv ((d++Bm ((l.take k).map Aj)).length+(Aj e).length)):=Q.o.mono (by have:=p.out;rw[S.o];simp [Bm];exact this);have M:Yf (Bm ((l.take (k+1)).map Aj)=Bm ((l.take k).map Aj)++Aj e):=by show _=_;rw[z.out,S.o];simp [Bm]
    clear hk0 N;go_wp2_with fail;refine(H.out b _ t _ _ v (T.o.fr L.out u.o v) aa.out (B.o.keep ((PFr.alloc a.o _).keeps a.o)) E.o G.o ao.out).mono ?_;rintro af ap ⟨rfl,r,n⟩;obtain⟨F,C⟩:=Y2 r (L.out.trans n);clear r n c f g h i;go_wp2;go_roundw
    case rel=>exact⟨k+1,by omega,by go_num,by have q:=F.o;rw[M.out];simpa using q,C.o⟩
    case measure=>simp [Yg];omega
   ·have ay:(0:Int)<k:=by omega
    have Y:Yf ((l.take k).map Aj≠[]):=by
     intro j;rw[List.map_eq_nil_iff,List.take_eq_nil_iff]at j;rcases j with j|j
     ·exact hk0 j
     ·rw[j]at hlt;simp at hlt
    have W:Yf (Cv ((d++Bm ((l.take k).map Aj)).length+([44,32]:Bs).length+(Aj e).length)):=Q.o.mono (by have:=p.out;rw[if_neg Y.out]at this;simp at this;simp;omega);have M:Yf (Bm ((l.take (k+1)).map Aj)=Bm ((l.take k).map Aj)++[44,32]++Aj e):=by show _=_;rw[z.out,Le,if_neg Y.out]
    clear hk0;go_wp2_with fail;refine(Rk [44,32] b _ t _ (by simp) aa.out (W.out.mono (by omega))).mono ?_;rintro af w2 ⟨rfl,ab,y⟩;obtain⟨ah,R,m,ag⟩:=Y4 ab (L.out.trans y) (an.out.step y) (B.o.keep (((PFr.alloc a.o _).trans y).keeps a.o));clear ab y c f g h i;have c:=m.o.cell 0 (by simp);have f:=m.o.cell 1 (by simp);have g:=m.o.cell 2 (by simp);have h:=m.o.cell 3 (by simp);have i:=m.o.cell 4 (by simp);simp only[Zc,Zd]at c f g h i;go_wp2_with fail;refine(H.out b _ t _ _ v (T.o.fr R.o u.o v) ah.o ag.o E.o G.o (W.out.mono (by simp;omega))).mono ?_;rintro af ap ⟨rfl,r,n⟩;obtain⟨F,C⟩:=Y2 r (R.o.trans n);clear r n c f g h i;go_wp2;go_roundw
    case rel=>exact⟨k+1,by omega,by go_num,by have q:=F.o;rw[M.out];simpa using q,C.o⟩
    case measure=>simp [Yg];omega
  ·go_wp2
   go_end0
   exact⟨rfl,by have e:l.take k=l:=Zw (by omega);have q:=a.o;rwa[e]at q,D.o⟩
theorem Cn {e:Ex}(a:Cc e=true):Cl e=true∧∀x,x∈e.args→Cc x=true:=by
 rw[Lh,Zs,Zy]at a;exact a
theorem Xr(a:Int):0≤Ao a∧Ao a≤8:=by
 unfold Ao;repeat' split
 all_goals omega
theorem Rg {e:Ex}(a:Cl e=true):e.kind=1∨e.kind=2∨e.kind=3∨e.kind=4∨e.kind=5∨e.kind=6∨e.kind=7:=by
 have b:Gr e=true:=by unfold Cl at a;simp only[Zs]at a;exact a.1.1.1.1
 unfold Gr at b
 by_cases h1:e.kind=1; · simp [h1]
 by_cases h2:e.kind=2; · simp [h2]
 by_cases h3:e.kind=3; · simp [h3]
 by_cases h4:e.kind=4; · simp [h4]
 by_cases h5:e.kind=5; · simp [h5]
 by_cases h6:e.kind=6; · simp [h6]
 simp [h1,h2,h3,h4,h5,h6]at b;simp [b]
theorem expr_1(a n:Int)(nm:Bs)(args:List Ex)(G:∀x,x∈args→Hb x):Hb (.mk 1 a n nm args):=by
 intro b Z t s w S E d e f p j;have e:Ag (· <b) w args s:=e;have f:I64 n:=f;have T:=(Cn p).1;have F:∀x,x∈args→Cc x=true:=(Cn p).2;obtain⟨g,sc,rfl⟩:=e.shape;have I:Yf (Aj (.mk 1 a n nm args)=Lib.itoa n):=by exact Qv a n nm args
 rw[I.out]at j ⊢;show Ye _ _ #[π b,.agg #[ι 1,ι a,ι n,σ nm,ρ g args sc]] _ _
 obtain⟨Y,R,O,N,J,W,X,o,B⟩:=Y9 G E d f j e F (d.alloc (.cells #[ι 1,ι a,ι n,σ nm,ρ g args sc] 35)) (PFr.alloc d (.cells #[ι 1,ι a,ι n,σ nm,ρ g args sc] 35));have C:=Za (Loc.new d [ι 1,ι a,ι n,σ nm,ρ g args sc] 35);clear G E d e p j f T F;go_enter Zz,Ya;go_wp2_with fail;refine(El a).mono ?_;rintro H w2 ⟨rfl,h⟩;have k:=PFr.of_below h o.out.lt;obtain⟨r,q,c⟩:=Y3 (o.out.old h) (B.out.trans k) (C.out.step k);clear h k o B C;have u:=c.o.cell 0 (by simp);have v:=c.o.cell 1 (by simp);have y:=c.o.cell 2 (by simp);have z:=c.o.cell 3 (by simp);have A:=c.o.cell 4 (by simp);simp only[Zc,Zd]at u v y z A;go_wp2_with fail;refine(gR n N.o w2 (R.o.fr q.o O.o S)).mono ?_;rintro H U ⟨rfl,i⟩;have l:=PFr.of_below i r.o.lt;obtain⟨P,K,M⟩:=Y3 (r.o.old i) (q.o.trans l) (c.o.step l);clear i l;go_wp2_with fail;refine(Rk (Lib.itoa n) b _ t U rfl P.o (J.o.mono (by simp;try omega))).mono ?_;rintro H aa ⟨rfl,D,m⟩;obtain⟨Q,L,V⟩:=Y3 D (K.o.trans m) (M.o.step m)
 clear D m u v y z A;go_wp2
 go_end0
 exact⟨rfl,by simpa using Q.o,L.o⟩
theorem expr_2(a n:Int)(nm:Bs)(args:List Ex)(C:∀x,x∈args→Hb x):Hb (.mk 2 a n nm args):=by
 intro b S t s w T A d e f m i;have e:Ag (· <b) w args s:=e;have f:I64 n:=f;have J:=(Cn m).1;have B:∀x,x∈args→Cc x=true:=(Cn m).2;obtain⟨g,sc,rfl⟩:=e.shape;have D:Yf (Aj (.mk 2 a n nm args)=nm):=by exact Ru a n nm args
 rw[D.out]at i ⊢;show Ye _ _ #[π b,.agg #[ι 2,ι a,ι n,σ nm,ρ g args sc]] _ _
 obtain⟨R,P,N,M,E,O,Q,l,v⟩:=Y9 C A d f i e B (d.alloc (.cells #[ι 2,ι a,ι n,σ nm,ρ g args sc] 35)) (PFr.alloc d (.cells #[ι 2,ι a,ι n,σ nm,ρ g args sc] 35));have y:=Za (Loc.new d [ι 2,ι a,ι n,σ nm,ρ g args sc] 35);clear C A d e m i f J B;go_enter Zz,Ya;go_wp2_with fail;refine(El a).mono ?_;rintro K w2 ⟨rfl,h⟩;have j:=PFr.of_below h l.out.lt;obtain⟨H,F,c⟩:=Y3 (l.out.old h) (v.out.trans j) (y.out.step j);clear h j l v y;have o:=c.o.cell 0 (by simp);have p:=c.o.cell 1 (by simp);have q:=c.o.cell 2 (by simp);have r:=c.o.cell 3 (by simp);have u:=c.o.cell 4 (by simp);simp only[Zc,Zd]at o p q r u;go_wp2_with fail;refine(Rk nm b _ t w2 rfl H.o (E.o.mono (by simp;try omega))).mono ?_;rintro K U ⟨rfl,z,k⟩;obtain⟨I,G,L⟩:=Y3 z (F.o.trans k) (c.o.step k);clear z k o p q r u;go_wp2
 go_end0
 exact⟨rfl,by simpa using I.o,G.o⟩
theorem expr_7(a n:Int)(nm:Bs)(args:List Ex)(C:∀x,x∈args→Hb x):Hb (.mk 7 a n nm args):=by
 intro b S t s w T A d e f m i;have e:Ag (· <b) w args s:=e;have f:I64 n:=f;have J:=(Cn m).1;have B:∀x,x∈args→Cc x=true:=(Cn m).2;obtain⟨g,sc,rfl⟩:=e.shape;have D:Yf (Aj (.mk 7 a n nm args)=[114,101,97,100,40,41]):=by exact Rv a n nm args
 rw[D.out]at i ⊢;show Ye _ _ #[π b,.agg #[ι 7,ι a,ι n,σ nm,ρ g args sc]] _ _
 obtain⟨R,P,N,M,E,O,Q,l,v⟩:=Y9 C A d f i e B (d.alloc (.cells #[ι 7,ι a,ι n,σ nm,ρ g args sc] 35)) (PFr.alloc d (.cells #[ι 7,ι a,ι n,σ nm,ρ g args sc] 35));have y:=Za (Loc.new d [ι 7,ι a,ι n,σ nm,ρ g args sc] 35);clear C A d e m i f J B;go_enter Zz,Ya;go_wp2_with fail;refine(El a).mono ?_;rintro K w2 ⟨rfl,h⟩;have j:=PFr.of_below h l.out.lt;obtain⟨H,F,c⟩:=Y3 (l.out.old h) (v.out.trans j) (y.out.step j);clear h j l v y;have o:=c.o.cell 0 (by simp);have p:=c.o.cell 1 (by simp);have q:=c.o.cell 2 (by simp);have r:=c.o.cell 3 (by simp);have u:=c.o.cell 4 (by simp);simp only[Zc,Zd]at o p q r u;go_wp2_with fail;refine(Rk [114,101,97,100,40,41] b _ t w2 rfl H.o (E.o.mono (by simp;try omega))).mono ?_;rintro K U ⟨rfl,z,k⟩;obtain⟨I,G,L⟩:=Y3 z (F.o.trans k) (c.o.step k);clear z k o p q r u;go_wp2
 go_end0
 exact⟨rfl,by simpa using I.o,G.o⟩
theorem expr_3(c n:Int)(nm:Bs)(args:List Ex)(ad:∀x,x∈args→Hb x):Hb (.mk 3 c n nm args):=by
 intro b aF t s w S Z r g u F A;have g:Ag (· <b) w args s:=g;have u:I64 n:=u;have ab:=(Cn F).1;have aa:∀x,x∈args→Cc x=true:=(Cn F).2;obtain⟨aH,sc,rfl⟩:=g.shape;have aw:args.length=1:=by have q:=ab;simp [Cl,De,Ex.kind,Ex.args]at q;omega
 have av:0<args.length:=by omega
 obtain⟨a,d,_,rfl,_⟩:=g.cellAt 0 (by omega);clear aw;have af:Yf (Aj (.mk 3 c n nm args)=As c++Et (Bx args 0) 9):=by exact Sg c n nm args av
 rw[af.out]at A ⊢;show Ye _ _ #[π b,.agg #[ι 3,ι c,ι n,σ nm,.slice (some ⟨a,d,none⟩) args.length sc]] _ _
 obtain⟨ao,am,O,aE,M,al,an,E,U⟩:=Y9 ad Z r u A g aa (r.alloc (.cells #[ι 3,ι c,ι n,σ nm,.slice (some ⟨a,d,none⟩) args.length sc] 35)) (PFr.alloc r (.cells #[ι 3,ι c,ι n,σ nm,.slice (some ⟨a,d,none⟩) args.length sc] 35));have V:=Za (Loc.new r [ι 3,ι c,ι n,σ nm,.slice (some ⟨a,d,none⟩) args.length sc] 35);clear ad Z r g F A u ab aa;go_enter Zz,Ya;go_wp2_with fail;refine(El c).mono ?_;rintro ae w2 ⟨rfl,y⟩;have B:=PFr.of_below y E.out.lt;obtain⟨ai,ag,e⟩:=Y3 (E.out.old y) (U.out.trans B) (V.out.step B);clear y B E U V;have k:=e.o.cell 0 (by simp);have l:=e.o.cell 1 (by simp);have m:=e.o.cell 2 (by simp);have o:=e.o.cell 3 (by simp);have p:=e.o.cell 4 (by simp);simp only[Zc,Zd]at k l m o p;go_wp2_with fail;refine(Rk (As c) b _ t w2 rfl ai.o (M.o.mono (by simp;try omega))).mono ?_;rintro ae h ⟨rfl,X,C⟩;obtain⟨aj,v,f⟩:=Y3 X (ag.o.trans C) (e.o.step C);clear X C k l m o p;have k:=f.o.cell 0 (by simp);have l:=f.o.cell 1 (by simp);have m:=f.o.cell 2 (by simp);have o:=f.o.cell 3 (by simp);have p:=f.o.cell 4 (by simp)
 simp only[Zc,Zd]at k l m o p;obtain⟨aq,ax,aG,T,au,G,H,I,J,K,z,W⟩:=(al.o.keep (v.o.keeps O.o)).cellAt 0 (by omega);obtain⟨ap,ar,rfl⟩:=z.shape;obtain⟨rfl,rfl⟩:a=aq∧d=ax:=by cases T;exact⟨rfl,rfl⟩
 obtain⟨L,N,R,P⟩:=Y4 z W (ao.out _ (Cs (i:=0) (by omega))) (an.o _ (Cs (i:=0) (by omega)));clear T z W au;generalize ac:Bx args 0=j at G H I J K L N R P;have Q:=Za ac;clear ac;have ay:h.cell? ⟨a,d,none⟩=some (ι j.kind):=by simpa using G
 have az:h.cell? ⟨a,d+1,none⟩=some (ι j.op):=by simpa using H
 have aA:h.cell? ⟨a,d+2,none⟩=some (ι j.n):=by simpa using I
 have aB:h.cell? ⟨a,d+3,none⟩=some (σ j.name):=by simpa using J
 have aC:h.cell? ⟨a,d+4,none⟩=some (ρ ap j.args ar):=by simpa using K
 clear G H I J K;go_wp2_with fail;refine(Wr j R.out 9 b t h S (am.o.fr v.o O.o S) aj.o L.o N.o P.o (by have q:=M.o;rw[Q.o]at q;exact q.mono (by simp;try omega))).mono ?_;rintro ae aI ⟨rfl,Y,D⟩;obtain⟨ak,ah,aD⟩:=Y3 Y (v.o.trans D) (f.o.step D);clear Y D k l m o p ay az aA aB aC;go_wp2
 go_end0
 exact⟨rfl,by rw[Q.o];simpa using ak.o,ah.o⟩
theorem expr_4(c n:Int)(nm:Bs)(args:List Ex)(aD:∀x,x∈args→Hb x):Hb (.mk 4 c n nm args):=by
 intro b bi t s w H ay E y I Z S;have y:Ag (· <b) w args s:=y;have I:I64 n:=I;have aA:=(Cn Z).1;have az:∀x,x∈args→Cc x=true:=(Cn Z).2;obtain⟨bn,sc,rfl⟩:=y.shape;have aU:args.length=2:=by have q:=aA;simp [Cl,De,Ex.kind,Ex.args]at q;omega
 have bl:0<args.length:=by omega
 have aT:1<args.length:=by omega
 obtain⟨a,d,_,rfl,_⟩:=y.cellAt 0 (by omega);clear aU;have aE:Yf (Aj (.mk 4 c n nm args)=Et (Bx args 0) (Ao c)++([32]++(As c++[32]))++Et (Bx args 1) (Ao c+1)):=by exact Ry c n nm args aT
 rw[aE.out]at S ⊢;show Ye _ _ #[π b,.agg #[ι 4,ι c,ι n,σ nm,.slice (some ⟨a,d,none⟩) args.length sc]] _ _
 obtain⟨am,ah,F,bh,K,ag,ai,Y,ap⟩:=Y9 aD ay E I S y az (E.alloc (.cells #[ι 4,ι c,ι n,σ nm,.slice (some ⟨a,d,none⟩) args.length sc] 35)) (PFr.alloc E (.cells #[ι 4,ι c,ι n,σ nm,.slice (some ⟨a,d,none⟩) args.length sc] 35));have aq:=Za (Loc.new E [ι 4,ι c,ι n,σ nm,.slice (some ⟨a,d,none⟩) args.length sc] 35);clear aD ay E y Z S I aA az;go_enter Zz,Ya;go_wp2_with fail;refine(El c).mono ?_;rintro J w2 ⟨rfl,O⟩;have T:=PFr.of_below O Y.out.lt;obtain⟨af,aF,r⟩:=Y3 (Y.out.old O) (ap.out.trans T) (aq.out.step T);clear O T Y ap aq;have e:=r.o.cell 0 (by simp);have f:=r.o.cell 1 (by simp);have g:=r.o.cell 2 (by simp);have h:=r.o.cell 3 (by simp);have j:=r.o.cell 4 (by simp);simp only[Zc,Zd]at e f g h j;have bm:=Xr c;go_wp2_with fail;refine(Km c _).mono ?_;rintro J z ⟨rfl,P⟩;have U:=PFr.of_below P af.o.lt;obtain⟨aJ,L,u⟩:=Y3 (af.o.old P) (aF.o.trans U) (r.o.step U);clear P U e f g h j;have e:=u.o.cell 0 (by simp);have f:=u.o.cell 1 (by simp);have g:=u.o.cell 2 (by simp);have h:=u.o.cell 3 (by simp);have j:=u.o.cell 4 (by simp)
 simp only[Zc,Zd]at e f g h j;obtain⟨N,aa,bj,D,aR,k,l,m,o,p,Q,ar⟩:=(ag.o.keep (L.o.keeps F.o)).cellAt 0 (by omega);obtain⟨aN,aP,rfl⟩:=Q.shape;obtain⟨rfl,rfl⟩:a=N∧d=aa:=by cases D;exact⟨rfl,rfl⟩
 obtain⟨ab,ad,an,aj⟩:=Y4 Q ar (am.out _ (Cs (i:=0) (by omega))) (ai.o _ (Cs (i:=0) (by omega)));clear D Q ar aR;generalize aB:Bx args 0=B at k l m o p ab ad an aj;have G:=Za aB;clear aB;have aW:z.cell? ⟨a,d,none⟩=some (ι B.kind):=by simpa using k
 have aX:z.cell? ⟨a,d+1,none⟩=some (ι B.op):=by simpa using l
 have aY:z.cell? ⟨a,d+2,none⟩=some (ι B.n):=by simpa using m
 have aZ:z.cell? ⟨a,d+3,none⟩=some (σ B.name):=by simpa using o
 have ba:z.cell? ⟨a,d+4,none⟩=some (ρ aN B.args aP):=by simpa using p
 clear k l m o p;go_wp2_with fail;refine(Wr B an.out (Ao c) b t z H (ah.o.fr L.o F.o H) aJ.o ab.o ad.o aj.o (by have q:=K.o;rw[G.o]at q;exact q.mono (by simp;try omega))).mono ?_;rintro J aV ⟨rfl,av,V⟩;obtain⟨aK,aG,aI⟩:=Y3 av (L.o.trans V) (u.o.step V);clear av V e f g h j aW aX aY aZ ba;go_wp2_with fail;refine(put3 [32] (As c) [32] _ b _ t aV rfl aK.o (by have q:=K.o;rw[G.o]at q;exact q.mono (by simp;try omega))).mono ?_;rintro J A ⟨rfl,aw,W⟩;obtain⟨aL,M,v⟩:=Y3 aw (aG.o.trans W) (aI.o.step W);clear aw W;have e:=v.o.cell 0 (by simp);have f:=v.o.cell 1 (by simp);have g:=v.o.cell 2 (by simp);have h:=v.o.cell 3 (by simp);have j:=v.o.cell 4 (by simp);simp only[Zc,Zd]at e f g h j;obtain⟨N,aa,bk,D,aS,k,l,m,o,p,R,au⟩:=(ag.o.keep (M.o.keeps F.o)).cellAt 1 (by omega);obtain⟨aO,aQ,rfl⟩:=R.shape;obtain⟨rfl,rfl⟩:a=N∧d=aa:=by cases D;exact⟨rfl,rfl⟩
 obtain⟨ac,ae,ao,ak⟩:=Y4 R au (am.out _ (Cs (i:=1) (by omega))) (ai.o _ (Cs (i:=1) (by omega)));clear D R au aS;generalize aC:Bx args 1=C at k l m o p ac ae ao ak;have al:=Za aC;clear aC;have bb:A.cell? ⟨a,d+5,none⟩=some (ι C.kind):=by simpa using k
 have bc:A.cell? ⟨a,d+5+1,none⟩=some (ι C.op):=by simpa using l
 have bd:A.cell? ⟨a,d+5+2,none⟩=some (ι C.n):=by simpa using m
 have be:A.cell? ⟨a,d+5+3,none⟩=some (σ C.name):=by simpa using o
 have bf:A.cell? ⟨a,d+5+4,none⟩=some (ρ aO C.args aQ):=by simpa using p
 clear k l m o p;go_wp2_with fail;refine(Wr C ao.out (Ao c+1) b t A H (ah.o.fr M.o F.o H) aL.o ac.o ae.o ak.o (by have q:=K.o;rw[G.o,al.o]at q;exact q.mono (by simp;try omega))).mono ?_;rintro J bo ⟨rfl,ax,X⟩;obtain⟨aM,aH,bg⟩:=Y3 ax (M.o.trans X) (v.o.step X);clear ax X e f g h j bb bc bd be bf;go_wp2
 go_end0
 exact⟨rfl,by rw[G.o,al.o];simpa using aM.o,aH.o⟩
theorem expr_5(a n:Int)(nm:Bs)(args:List Ex)(M:∀x,x∈args→Hb x):Hb (.mk 5 a n nm args):=by
 intro b af t s w E K j k l B r;have k:Ag (· <b) w args s:=k;have l:I64 n:=l;have aa:=(Cn B).1;have L:∀x,x∈args→Cc x=true:=(Cn B).2;obtain⟨m,sc,rfl⟩:=k.shape;have N:Yf (Aj (.mk 5 a n nm args)=nm++[40]++Bm (args.map Aj)++[41]):=by exact Ra a n nm args
 rw[N.out]at r ⊢;show Ye _ _ #[π b,.agg #[ι 5,ι a,ι n,σ nm,ρ m args sc]] _ _
 obtain⟨Z,X,D,ae,o,W,Y,A,F⟩:=Y9 M K j l r k L (j.alloc (.cells #[ι 5,ι a,ι n,σ nm,ρ m args sc] 35)) (PFr.alloc j (.cells #[ι 5,ι a,ι n,σ nm,ρ m args sc] 35));have G:=Za (Loc.new j [ι 5,ι a,ι n,σ nm,ρ m args sc] 35);clear M K j k B r l aa L;go_enter Zz,Ya;go_wp2_with fail;refine(El a).mono ?_;rintro C w2 ⟨rfl,q⟩;have u:=PFr.of_below q A.out.lt;obtain⟨S,O,c⟩:=Y3 (A.out.old q) (F.out.trans u) (G.out.step u);clear q u A F G;have e:=c.o.cell 0 (by simp);have f:=c.o.cell 1 (by simp);have g:=c.o.cell 2 (by simp);have h:=c.o.cell 3 (by simp);have i:=c.o.cell 4 (by simp);simp only[Zc,Zd]at e f g h i;go_wp2_with fail;refine(put2 nm [40] b _ t w2 rfl S.o (o.o.mono (by simp;try omega))).mono ?_;rintro C ab ⟨rfl,H,v⟩;obtain⟨T,p,d⟩:=Y3 H (O.o.trans v) (c.o.step v);clear H v e f g h i;have e:=d.o.cell 0 (by simp);have f:=d.o.cell 1 (by simp);have g:=d.o.cell 2 (by simp);have h:=d.o.cell 3 (by simp);have i:=d.o.cell 4 (by simp);simp only[Zc,Zd]at e f g h i
 go_wp2_with fail;refine(sA args Z.out b t ab E (X.o.fr p.o D.o E) T.o (W.o.keep (p.o.keeps D.o)) Y.o (o.o.mono (by simp;try omega))).mono ?_;rintro C ac ⟨rfl,I,y⟩;obtain⟨U,P,R⟩:=Y3 I (p.o.trans y) (d.o.step y);clear I y e f g h i;go_wp2_with fail;refine(Rk [41] b _ t ac rfl U.o (o.o.mono (by simp;try omega))).mono ?_;rintro C ag ⟨rfl,J,z⟩;obtain⟨V,Q,ad⟩:=Y3 J (P.o.trans z) (R.o.step z);clear J z;go_wp2
 go_end0
 exact⟨rfl,by simpa using V.o,Q.o⟩
theorem expr_6(d n:Int)(nm:Bs)(args:List Ex)(ag:∀x,x∈args→Hb x):Hb (.mk 6 d n nm args):=by
 intro b aL t s w U ac p g u I C;have g:Ag (· <b) w args s:=g;have u:I64 n:=u;have ae:=(Cn I).1;have ad:∀x,x∈args→Cc x=true:=(Cn I).2;obtain⟨aN,sc,rfl⟩:=g.shape;have aB:args.length=1:=by have q:=ae;simp [Cl,De,Ex.kind,Ex.args]at q;omega
 have aA:0<args.length:=by omega
 obtain⟨a,c,_,rfl,_⟩:=g.cellAt 0 (by omega);clear aB;have ah:Yf (Aj (.mk 6 d n nm args)=nm++[91]++Aj (Bx args 0)++[93]):=by exact Rt d n nm args aA
 rw[ah.out]at C ⊢;show Ye _ _ #[π b,.agg #[ι 6,ι d,ι n,σ nm,.slice (some ⟨a,c,none⟩) args.length sc]] _ _
 obtain⟨av,ar,R,aK,v,aq,au,H,W⟩:=Y9 ag ac p u C g ad (p.alloc (.cells #[ι 6,ι d,ι n,σ nm,.slice (some ⟨a,c,none⟩) args.length sc] 35)) (PFr.alloc p (.cells #[ι 6,ι d,ι n,σ nm,.slice (some ⟨a,c,none⟩) args.length sc] 35));have X:=Za (Loc.new p [ι 6,ι d,ι n,σ nm,.slice (some ⟨a,c,none⟩) args.length sc] 35);clear ag ac p g I C u ae ad;go_enter Zz,Ya;go_wp2_with fail;refine(El d).mono ?_;rintro J w2 ⟨rfl,A⟩;have D:=PFr.of_below A H.out.lt;obtain⟨am,ai,e⟩:=Y3 (H.out.old A) (W.out.trans D) (X.out.step D);clear A D H W X;have j:=e.o.cell 0 (by simp);have k:=e.o.cell 1 (by simp);have l:=e.o.cell 2 (by simp);have m:=e.o.cell 3 (by simp);have o:=e.o.cell 4 (by simp);simp only[Zc,Zd]at j k l m o;go_wp2_with fail;refine(put2 nm [91] b _ t w2 rfl am.o (v.o.mono (by simp;try omega))).mono ?_;rintro J h ⟨rfl,Z,E⟩;obtain⟨an,y,f⟩:=Y3 Z (ai.o.trans E) (e.o.step E);clear Z E j k l m o;have j:=f.o.cell 0 (by simp);have k:=f.o.cell 1 (by simp);have l:=f.o.cell 2 (by simp);have m:=f.o.cell 3 (by simp);have o:=f.o.cell 4 (by simp)
 simp only[Zc,Zd]at j k l m o;obtain⟨ax,aC,aM,V,az,K,L,M,N,O,B,Y⟩:=(aq.o.keep (y.o.keeps R.o)).cellAt 0 (by omega);obtain⟨aw,ay,rfl⟩:=B.shape;obtain⟨rfl,rfl⟩:a=ax∧c=aC:=by cases V;exact⟨rfl,rfl⟩
 obtain⟨P,Q,T,S⟩:=Y4 B Y (av.out _ (Cs (i:=0) (by omega))) (au.o _ (Cs (i:=0) (by omega)));clear V B Y az;generalize af:Bx args 0=r at K L M N O P Q T S;have z:=Za af;clear af;have aE:h.cell? ⟨a,c,none⟩=some (ι r.kind):=by simpa using K
 have aF:h.cell? ⟨a,c+1,none⟩=some (ι r.op):=by simpa using L
 have aG:h.cell? ⟨a,c+2,none⟩=some (ι r.n):=by simpa using M
 have aH:h.cell? ⟨a,c+3,none⟩=some (σ r.name):=by simpa using N
 have aI:h.cell? ⟨a,c+4,none⟩=some (ρ aw r.args ay):=by simpa using O
 clear K L M N O;go_wp2_with fail;refine(T.out b _ t _ h U (ar.o.fr y.o R.o U) an.o P.o Q.o S.o (by have q:=v.o;rw[z.o]at q;exact q.mono (by simp;try omega))).mono ?_;rintro J aD ⟨rfl,aa,F⟩;obtain⟨ao,aj,al⟩:=Y3 aa (y.o.trans F) (f.o.step F);clear aa F j k l m o aE aF aG aH aI;go_wp2_with fail;refine(Rk [93] b _ t aD rfl ao.o (by have q:=v.o;rw[z.o]at q;exact q.mono (by simp;try omega))).mono ?_;rintro J aO ⟨rfl,ab,G⟩;obtain⟨ap,ak,aJ⟩:=Y3 ab (aj.o.trans G) (al.o.step G);clear ab G;go_wp2
 go_end0
 exact⟨rfl,by rw[z.o];simpa using ap.o,ak.o⟩
theorem qA(e:Ex)(l:∀x,x∈e.args→Hb x):Hb e:=by
 intro b c t s w d j h i g a f;have o:=Rg (Cn a).1;obtain⟨k,m,n,nm,args⟩:=e;simp only[Ex.kind]at o;rcases o with rfl|rfl|rfl|rfl|rfl|rfl|rfl
 ·exact expr_1 m n nm args l b c t s w d j h i g a f
 ·exact expr_2 m n nm args l b c t s w d j h i g a f
 ·exact expr_3 m n nm args l b c t s w d j h i g a f
 ·exact expr_4 m n nm args l b c t s w d j h i g a f
 ·exact expr_5 m n nm args l b c t s w d j h i g a f
 ·exact expr_6 m n nm args l b c t s w d j h i g a f
 ·exact expr_7 m n nm args l b c t s w d j h i g a f
theorem Vv:∀(n:Nat) (e:Ex),SizeOf.sizeOf e≤n→Hb e
 |0,e,h=>by cases e;simp at h
 |n+1,e,h=>qA e fun x hx=>Vv n x (by have:=Ex.size_lt hx;omega)
def Qi(t:Nat):Bs:=List.replicate t 9
def ln(t:Nat)(l:List Bs):Bs:=Qi t++l.flatten++[10]
def Du(t:Nat)(k:Int)(nm:Bs)(args:List Ex)(c:Bool)(a b:Bs):Bs:=
 if k=1 then ln t [nm,[32,61,32],Aj (Bx args 0),[59]]
 else if k=2 then ln t [nm,[91],Aj (Bx args 0),[93,32,61,32],Aj (Bx args 1),[59]]
 else if k=3 then ln t [[105,102,32,40],Aj (Bx args 0),[41,32,123]]++(a++((if c then []else ln t [[125,32,101,108,115,101,32,123]]++b)++ln t [[125]]))
 else if k=4 then ln t [[119,104,105,108,101,32,40],Aj (Bx args 0),[41,32,123]]++(a++ln t [[125]])
 else if k=5 then ln t [[98,114,101,97,107,59]]
 else if k=6 then ln t [[99,111,110,116,105,110,117,101,59]]
 else if k=7 then ln t [[114,101,116,117,114,110,32],Aj (Bx args 0),[59]]
 else if k=8 then ln t [[112,114,105,110,116,40],Aj (Bx args 0),[41,59]]
 else if k=9 then ln t [[116,114,97,112,40],Aj (Bx args 0),[41,59]]
 else if k=10 then ln t [Aj (Bx args 0),[59]]else []
mutual
def Cy(t:Nat):St→Bs
 |.mk k nm args thn els=>Du t k nm args els.isEmpty (Ci (t+1) thn) (Ci (t+1) els)
def Ci(t:Nat):List St→Bs
 |[]=>[]
 |x::l=>Cy t x++Ci t l
end
theorem Ft(t:Nat)(k:Int)(nm:Bs)(args:List Ex)(thn els:List St):Cy t (.mk k nm args thn els)=Du t k nm args els.isEmpty (Ci (t+1) thn) (Ci (t+1) els):=by rw[Cy]
theorem Ij(t:Nat):∀l,Ci t l=l.flatMap (Cy t)
 |[]=>rfl
 |x::l=>by rw[Ci,Ij t l];rfl
theorem eK(t:Nat)(l:List St)(k:Nat)(a:k<l.length):Ci t (l.take (k+1))=Ci t (l.take k)++Cy t (Fk l k):=by
 rw[Ij,Ij,Zv a,Zq];simp [Fk,Zp a]
theorem Um(t:Nat)(l:List St)(k:Nat):(Ci t (l.take k)).length≤(Ci t l).length:=by
 have e:Ci t l=Ci t (l.take k)++Ci t (l.drop k):=by rw[Ij,Ij,Ij,←Zq,Zx]
 rw[e];simp
theorem pA(t:Nat)(nm:Bs)(args:List Ex)(c:Bool)(b a:Bs):Du t 1 nm args c b a=ln t [nm,[32,61,32],Aj (Bx args 0),[59]]:=by
 unfold Du;simp only[Ze,if_true,if_false,reduceIte]
theorem oV(t:Nat)(nm:Bs)(args:List Ex)(c:Bool)(b a:Bs):Du t 2 nm args c b a=ln t [nm,[91],Aj (Bx args 0),[93,32,61,32],Aj (Bx args 1),[59]]:=by
 unfold Du;simp only[Ze,if_true,if_false,reduceIte]
theorem aR(t:Nat)(nm:Bs)(args:List Ex)(c:Bool)(b a:Bs):Du t 3 nm args c b a=ln t [[105,102,32,40],Aj (Bx args 0),[41,32,123]]++(b++((if c then []else ln t [[125,32,101,108,115,101,32,123]]++a)++ln t [[125]])):=by
 unfold Du;simp only[Ze,if_true,if_false,reduceIte]
theorem oD(t:Nat)(nm:Bs)(args:List Ex)(c:Bool)(a b:Bs):Du t 4 nm args c a b=ln t [[119,104,105,108,101,32,40],Aj (Bx args 0),[41,32,123]]++(a++ln t [[125]]):=by
 unfold Du;simp only[Ze,if_true,if_false,reduceIte]
theorem qH(t:Nat)(nm:Bs)(args:List Ex)(c:Bool)(b a:Bs):Du t 5 nm args c b a=ln t [[98,114,101,97,107,59]]:=by
 unfold Du;simp only[Ze,if_true,if_false,reduceIte]
theorem nS(t:Nat)(nm:Bs)(args:List Ex)(c:Bool)(b a:Bs):Du t 6 nm args c b a=ln t [[99,111,110,116,105,110,117,101,59]]:=by
 unfold Du;simp only[Ze,if_true,if_false,reduceIte]
theorem rG(t:Nat)(nm:Bs)(args:List Ex)(c:Bool)(b a:Bs):Du t 7 nm args c b a=ln t [[114,101,116,117,114,110,32],Aj (Bx args 0),[59]]:=by
 unfold Du;simp only[Ze,if_true,if_false,reduceIte]
theorem oB(t:Nat)(nm:Bs)(args:List Ex)(c:Bool)(b a:Bs):Du t 8 nm args c b a=ln t [[112,114,105,110,116,40],Aj (Bx args 0),[41,59]]:=by
 unfold Du;simp only[Ze,if_true,if_false,reduceIte]
theorem qT(t:Nat)(nm:Bs)(args:List Ex)(c:Bool)(b a:Bs):Du t 9 nm args c b a=ln t [[116,114,97,112,40],Aj (Bx args 0),[41,59]]:=by
 unfold Du;simp only[Ze,if_true,if_false,reduceIte]
theorem jC(t:Nat)(nm:Bs)(args:List Ex)(c:Bool)(b a:Bs):Du t 10 nm args c b a=ln t [Aj (Bx args 0),[59]]:=by
 unfold Du;simp only[Ze,if_true,if_false,reduceIte]
inductive WIt where
 |s (x:Bs)
 |e (x:Ex) (v:Value)
def WIt.val:WIt→Value
 |.s x=>.iface 9 (.string (Aa x))
 |.e x v=>.iface 35 (exV x v)
def WIt.text:WIt→Bs
 |.s x=>x
 |.e x _=>Aj x
def WIt.ok(b:Nat)(w:Yd):WIt→Prop
 |.s _=>True
 |.e x v=>Ag (· <b) w x.args v∧I64 x.n∧Cc x=true
def fW:WIt:=.s []
theorem WIt.ok.keep {b:Nat}{w w':Yd}(c:Db (· <b) w w'){x:WIt}(a:x.ok b w):x.ok b w':=by
 cases x with
 |s x=>trivial
 |e x v=>exact⟨a.1.keep c,a.2⟩
def Gl(l:List WIt):Bs:=l.flatMap WIt.text
@[go_sem] theorem asExEx (v:Value) (w:Yd):(Instr.typeAssert (.iface 35 v) 20 35 true).run Zb w=.ok (.tuple #[v,.bool true]) w:=by kernel_rfl
@[go_sem] theorem asStEx (v:Value) (w:Yd):(Instr.typeAssert (.iface 9 v) 20 35 true).run Zb w=.ok (.tuple #[.agg #[.int .i64 0,.int .i64 0,.int .i64 0,.string ByteArray.empty,.slice none 0 0],.bool false]) w:=by kernel_rfl
@[go_sem] theorem asStSt (v:Value) (w:Yd):(Instr.typeAssert (.iface 9 v) 20 9 false).run Zb w=.ok v w:=by kernel_rfl
theorem eX(l:List WIt)(k:Nat)(a:k<l.length):Gl (l.take (k+1))=Gl (l.take k)++(l.getD k fW).text:=by
 unfold Gl;rw[Zv a,Zq];simp [Zp a]
theorem Wa(l:List WIt)(k:Nat):(Gl (l.take k)).length≤(Gl l).length:=by
 have e:Gl l=Gl (l.take k)++Gl (l.drop k):=by unfold Gl;rw[←Zq,Zx]
 rw[e];simp
theorem oA(a:List WIt)(D cap b:Nat){i:Bs}(t:Int)(w:Yd)(E:0<b)(J:Ev w)(f:Ca w b i t)(G:Loc w b D (a.map WIt.val))(I:∀x,x∈a→x.ok b w)(F:Cv (i.length+(Gl a).length))(B:a.length≤1000):
  Ye Zb 42 #[.pointer (some ⟨b,0,none⟩),.slice (some ⟨D,0,none⟩) a.length cap] w (Kh w b i t (Gl a)):=by
 obtain⟨r,N,M,Q,R⟩:=Y5 f G F I J;clear f G F I J;go_enter func42,ntmps42;go_wp2
 go_loopw [5,6,7,10] (fun _ _ _ C wr=> ∃k:Nat,k≤a.length∧C= ι k∧Ca wr b (i++Gl (a.take k)) t∧PFr b w wr) (fun _ _ _ C _=>a.length-(Yg C).toNat)
 case atStart=>exact⟨0,Zu _,rfl,by simpa [Gl]using r.o,PFr.refl _ _⟩
 case round=>
  obtain⟨k,X,rfl,f,A⟩:=hrel;obtain⟨d,h⟩:=Y2 f A;have W:=f.lt;have O:=Za (N.o.step A);clear f A
  by_cases hlt:k<a.length
  ·have c:=O.o.cell k (by simpa using hlt)
   have H:a.getD k fW∈a:=by rw[List.getD_eq_getElem?_getD,Zp hlt];exact List.getElem_mem hlt
   have y:(a.map WIt.val)[k]'(by simpa using hlt)=(a.getD k fW).val:=by simp [Zp hlt]
   rw[y]at c;have g:=Za (eX a k hlt);have l:Yf (Cv ((i++Gl (a.take k)).length+((a.getD k fW).text).length)):=by
    refine M.o.mono ?_;have e:=Wa a (k+1);rw[g.out]at e;simp at e;simp;omega
   have p:=Za (Q.o _ H);clear y H;generalize a.getD k fW=x at c g l p
   cases x with
   |s x=>
    simp only[WIt.val,WIt.text]at c g l;go_wp2_with fail;refine(Rk x b _ t _ (by simp) (d.o.alloc _) l.out).mono ?_;rintro T U ⟨rfl,m,j⟩;obtain⟨u,n⟩:=Y2 m j;clear m j;go_wp2;go_roundw
    case rel=>exact⟨k+1,by omega,by go_num,by rw[g.out,←Zg];exact u.o,h.o.trans ((PFr.alloc d.o _).trans n.o)⟩
    case measure=>simp [Yg];omega
   |e e v=>
    obtain⟨z,B,K⟩:=p.o;obtain⟨V,y,rfl⟩:=z.shape;obtain⟨L,P,S⟩:=Y3 z B K;clear z B K p;simp only[WIt.val,WIt.text,exV]at c g l;go_wp2_with fail;refine(Vv _ e (Nat.le_refl _) b _ t _ _ E (R.o.fr (h.o.trans (PFr.alloc d.o _)) r.o E) (d.o.alloc _) (L.o.keep ((h.o.trans (PFr.alloc d.o _)).keeps r.o)) P.o S.o l.out).mono ?_;rintro T U ⟨rfl,m,j⟩;obtain⟨u,n⟩:=Y2 m j;clear m j;go_wp2;go_roundw
    case rel=>exact⟨k+1,by omega,by go_num,by rw[g.out,←Zg];exact u.o,h.o.trans ((PFr.alloc d.o _).trans n.o)⟩
    case measure=>simp [Yg];omega
  ·go_wp2
   go_end0
   exact⟨rfl,by have e:a.take k=a:=Zw (by omega);have q:=d.o;rwa[e]at q,h.o⟩
theorem iG(c:Nat):Lib.repeatL [9] c=Qi c:=by
 induction c with
 |zero=>rfl
 |succ n ih=>simp [Lib.repeatL,Qi,List.replicate_succ]at*;try exact ih
theorem Ca.tab {w:Yd}{b:Nat}{a:Bs}{t:Int}(c:Ca w b a t):w.cell? ⟨b,2,none⟩=some (.int .i64 t):=by
 obtain⟨p,v,d,_⟩:=c;rw[Zt d];rfl
theorem vV(a:List WIt)(f cap b:Nat)(g:Bs)(t:Nat){w:Yd}(l:0<b)(z:Ev w)(i:Ca w b g t)(r:Loc w b f (a.map WIt.val))(s:∀x,x∈a→x.ok b w)
  (O:t≤1000000) (m:Cv (g.length+(Qi t++Gl a++[10]).length)) (L:a.length≤1000):
  Ye Zb 17 #[.pointer (some ⟨b,0,none⟩),.slice (some ⟨f,0,none⟩) a.length cap] w (Kh w b g t (Qi t++Gl a++[10])):=by
 have K:=i.tab;obtain⟨d,D,e,E,J⟩:=Y5 i r m s z;clear i r m s z;go_enter func17,ntmps17;go_wp2_with fail;refine(Tryz.strings_Repeat _ t _ (by omega) (by show 1*t≤_;omega)).mono ?_;rintro j M ⟨rfl,h⟩;have k:((ByteArray.mk #[9]).data.toList)=[9]:=rfl;rw[k,iG];obtain⟨F,A⟩:=Y2 (d.o.old h) (PFr.of_below h d.o.lt);clear h K k;go_wp2_with fail;refine(Rk (Qi t) b _ t M rfl F.o (e.o.mono (by simp))).mono ?_;rintro j w2 ⟨rfl,u,n⟩;obtain⟨G,c⟩:=Y2 u (A.o.trans n);clear u n;go_wp2_with fail;refine(oA a f cap b t w2 l (J.o.fr c.o d.o l) G.o (D.o.step c.o) (fun x hx=>(E.o x hx).keep (c.o.keeps d.o)) (e.o.mono (by simp;omega)) L).mono ?_;rintro j N ⟨rfl,v,p⟩;obtain⟨H,B⟩:=Y2 v (c.o.trans p);clear v p;go_wp2_with fail;refine(Rk [10] b _ t N rfl H.o (e.o.mono (by simp;omega))).mono ?_;rintro j P ⟨rfl,y,q⟩;obtain⟨I,C⟩:=Y2 y (B.o.trans q);clear y q;go_wp2
 go_end0
 exact⟨rfl,by simpa using I.o,C.o⟩
def gW(t:Nat)(a:List WIt):Bs:=ln t (a.map WIt.text)
theorem line_at(a:List WIt)(e:Yi)(f b:Nat)(d:Bs)(t:Nat)(w:Yd)(j:f=w.heap.size)(g:0<b)(n:Ev w)(c:Ca w b d t)(m:∀x,x∈a→x.ok b w)
  (o:t≤1000000) (k:Cv (d.length+(gW t a).length)) (l:a.length≤1000):
  Ye Zb 17 #[.pointer (some ⟨b,0,none⟩),.slice (some ⟨f,0,none⟩) a.length a.length] (w.alloc (.cells (a.map WIt.val).toArray e)) (Kh w b d t (gW t a)):=by
 subst j;refine(vV a w.heap.size a.length b d t g (n.fr (PFr.alloc c _) c g) (c.alloc _) (Loc.new c (a.map WIt.val) e) (fun x hx=>(m x hx).keep ((PFr.alloc c _).keeps c)) o k l).mono ?_;rintro p w' ⟨rfl,h,i⟩;exact⟨rfl,h,(PFr.alloc c _).trans i⟩
theorem Cv.left {n:Nat}{a c:Bs}(b:Cv (n+(a++c).length)):Cv (n+a.length):=b.mono (by simp only[Zl];omega)
theorem Cv.right {b a c:Bs}(d:Cv (b.length+(a++c).length)):Cv ((b++a).length+c.length):=d.mono (by simp only[Zl];omega)
def Hs(b:Nat)(w:Yd)(l:List WIt):Prop:= ∀x,x∈l→x.ok b w
theorem Hs.nil {b:Nat}{w:Yd}:Hs b w []:=fun _ a=>by cases a
theorem Hs.s {b:Nat}{w:Yd}{x:Bs}{l:List WIt}(c:Hs b w l):Hs b w (.s x::l):=fun y a=>by
 rcases List.mem_cons.1 a with rfl|a
 ·trivial
 ·exact c y a
theorem Hs.e {b:Nat}{w:Yd}{x:Ex}{v:Value}{l:List WIt}(hx:Ag (· <b) w x.args v)(d:I64 x.n)(f:Cc x=true)(c:Hs b w l):Hs b w (.e x v::l):=fun y a=>by
 rcases List.mem_cons.1 a with rfl|a
 ·exact⟨hx,d,f⟩
 ·exact c y a
theorem Fp(a:List WIt){e:Yi}{d:Nat}(b:Nat){c:Bs}(t:Nat)(w:Yd)(f:d=w.heap.size)(g:0<b)(l:Ev w)(k:Ca w b c t)(j:Hs b w a)
  (m:t≤1000000) (h:Cv (c.length+(ln t (a.map WIt.text)).length)) (i:a.length≤1000):
  Ye Zb 17 #[.pointer (some ⟨b,0,none⟩),.slice (some ⟨d,0,none⟩) a.length a.length] (w.alloc (.cells (a.map WIt.val).toArray e)) (Kh w b c t (ln t (a.map WIt.text))):=
 line_at a e d b c t w f g l k j m h i
theorem Ag.at0 {D:Nat→Prop}{w:Yd}{l:List Ex}{a:Option Addr}{n cap:Nat}(e:Ag D w l (.slice a n cap))(p:0<l.length):∃b c s,a=some ⟨b,c,none⟩∧D b∧b<w.heap.size∧
  w.cell? ⟨b,c,none⟩=some (.int .i64 (Bx l 0).kind)∧w.cell? ⟨b,c+1,none⟩=some (.int .i64 (Bx l 0).op)∧w.cell? ⟨b,c+2,none⟩=some (.int .i64 (Bx l 0).n)∧
  w.cell? ⟨b,c+3,none⟩=some (.string (Aa (Bx l 0).name))∧w.cell? ⟨b,c+4,none⟩=some s∧Ag D w (Bx l 0).args s∧I64 (Bx l 0).n:=by
 obtain⟨b,c,s,o,m,d,f,g,h,i,j,k⟩:=e.cellAt 0 p;exact⟨b,c,s,o,m,Yc _ _ d,by simpa using d,by simpa using f,by simpa using g,by simpa using h,by simpa using i,j,k⟩
theorem Ag.at1 {D:Nat→Prop}{w:Yd}{l:List Ex}{b a:Nat}{n cap:Nat}(c:Ag D w l (.slice (some ⟨b,a,none⟩) n cap))(m:1<l.length):∃s,
  w.cell? ⟨b,a+5,none⟩=some (.int .i64 (Bx l 1).kind)∧w.cell? ⟨b,a+5+1,none⟩=some (.int .i64 (Bx l 1).op)∧w.cell? ⟨b,a+5+2,none⟩=some (.int .i64 (Bx l 1).n)∧
  w.cell? ⟨b,a+5+3,none⟩=some (.string (Aa (Bx l 1).name))∧w.cell? ⟨b,a+5+4,none⟩=some s∧Ag D w (Bx l 1).args s∧I64 (Bx l 1).n:=by
 obtain⟨o,p,s,k,_,d,e,f,g,h,i,j⟩:=c.cellAt 1 m
 cases k
 exact⟨s,by simpa using d,by simpa using e,by simpa using f,by simpa using g,by simpa using h,i,j⟩
theorem Er {a:Nat}{k:Int}{nm:Bs}{args:List Ex}{thn els:List St}(b:Dy (a+1) (.mk k nm args thn els)=true):
  (args.length:Int)=Ey k∧(1≤k∧k≤10)∧(∀x,x∈args→Cc x=true)∧thn.all (Dy a)=true∧els.all (Dy a)=true:=by
 simp only[Dy,Io,St.kind,St.args,St.thn,St.els,Zs,Bool.not_eq_true',Bool.or_eq_false_iff,Bool.not_eq_false',beq_iff_eq,fOk,decide_eq_true_eq,Zy]at b;obtain⟨⟨⟨⟨c,g⟩,d⟩,e⟩,f⟩:=b;refine⟨by have:=c.1.1.2;simpa using this,of_decide_eq_true c.1.1.1.1,fun x hx=>?_,Zy.2 e,Zy.2 f⟩;have:=d x hx;unfold Cf at this;exact(Zs _ _ ▸ this:_∧_).2
def mL(c:Nat):Prop:= ∀(x:St),Dy c x=true→∀(b:Nat) (a:Bs) (t:Nat) (s st d:Value) (w:Yd),0<b→Ev w→Ca w b a t→Ag (· <b) w x.args s→Au (· <b) w x.thn st→Au (· <b) w x.els d→
 t+c≤1000→Cv (a.length+(Cy t x).length)→
 Ye Zb 95 #[.pointer (some ⟨b,0,none⟩),stV x s st d] w (Kh w b a t (Cy t x))
def Mj(c:Nat):Prop:= ∀(l:List St),l.all (Dy c)=true→∀(b:Nat) (a:Bs) (t:Nat) (v:Value) (w:Yd),0<b→Ev w→Ca w b a t→Au (· <b) w l v→
 t+1+c≤1000→Cv (a.length+(Ci (t+1) l).length)→
 Ye Zb 46 #[.pointer (some ⟨b,0,none⟩),v] w (Kh w b a t (Ci (t+1) l))
theorem pst_5(m:Nat)(y:Mj m)(nm:Bs)(args:List Ex)(thn els:List St)(hx:Dy (m+1) (.mk 5 nm args thn els)=true)(b:Nat)(g:Bs)(t:Nat)(s st z:Value)(w:Yd)(p:0<b)(x:Ev w)(a:Ca w b g t)
  (v:Ag (· <b) w args s) (l:Au (· <b) w thn st) (k:Au (· <b) w els z) (P:t+(m+1)≤1000) (h:Cv (g.length+(Cy t (.mk 5 nm args thn els)).length)):
  Ye Zb 95 #[.pointer (some ⟨b,0,none⟩),stV (.mk 5 nm args thn els) s st z] w (Kh w b g t (Cy t (.mk 5 nm args thn els))):=by
 obtain⟨j,H,I,r,q⟩:=Er hx;clear H;replace j:args.length=0:=by simp only[Ey,Ze,if_true,if_false,reduceIte,or_true,true_or,or_false,false_or,or_self]at j;omega
 rw[Ft,qH]at h ⊢;obtain⟨c,sc,rfl⟩:=v.shape;obtain⟨d,e,rfl⟩:=l.shape;obtain⟨f,uc,rfl⟩:=k.shape;show Ye _ _ #[π b,.agg #[ι 5,σ nm,ρ c args sc,ρ d thn e,ρ f els uc]] _ _
 obtain⟨O,G,D,A,N,M,L,K,E⟩:=Y9 y x a h l k r q (a.alloc (.cells #[ι 5,σ nm,ρ c args sc,ρ d thn e,ρ f els uc] 50));obtain⟨n,C⟩:=Y2 (PFr.alloc a (.cells #[ι 5,σ nm,ρ c args sc,ρ d thn e,ρ f els uc] 50)) (Loc.new a [ι 5,σ nm,ρ c args sc,ρ d thn e,ρ f els uc] 50);clear y x a h l k hx I r q j v;go_enter Zm,Zn;go_wp2_with fail;refine(Fp [.s [98,114,101,97,107,59]] b t _ (by simp) p (G.o.fr n.o D.o p) E.o (.s (Hs.nil)) (by omega) A.o (by simp)).mono ?_;rintro Q w2 ⟨rfl,u,i⟩;obtain⟨F,B,J⟩:=Y3 u (n.o.trans i) (C.o.step i);clear u i;go_wp2
 go_end0
 exact⟨rfl,by simpa only[Zg,Zh,Zi,WIt.text,Zk,Zj]using F.o,B.o⟩
theorem pst_6(m:Nat)(y:Mj m)(nm:Bs)(args:List Ex)(thn els:List St)(hx:Dy (m+1) (.mk 6 nm args thn els)=true)(b:Nat)(g:Bs)(t:Nat)(s st z:Value)(w:Yd)(p:0<b)(x:Ev w)(a:Ca w b g t)
  (v:Ag (· <b) w args s) (l:Au (· <b) w thn st) (k:Au (· <b) w els z) (P:t+(m+1)≤1000) (h:Cv (g.length+(Cy t (.mk 6 nm args thn els)).length)):
  Ye Zb 95 #[.pointer (some ⟨b,0,none⟩),stV (.mk 6 nm args thn els) s st z] w (Kh w b g t (Cy t (.mk 6 nm args thn els))):=by
 obtain⟨j,H,I,r,q⟩:=Er hx;clear H;replace j:args.length=0:=by simp only[Ey,Ze,if_true,if_false,reduceIte,or_true,true_or,or_false,false_or,or_self]at j;omega
 rw[Ft,nS]at h ⊢;obtain⟨c,sc,rfl⟩:=v.shape;obtain⟨d,e,rfl⟩:=l.shape;obtain⟨f,uc,rfl⟩:=k.shape;show Ye _ _ #[π b,.agg #[ι 6,σ nm,ρ c args sc,ρ d thn e,ρ f els uc]] _ _
 obtain⟨O,G,D,A,N,M,L,K,E⟩:=Y9 y x a h l k r q (a.alloc (.cells #[ι 6,σ nm,ρ c args sc,ρ d thn e,ρ f els uc] 50));obtain⟨n,C⟩:=Y2 (PFr.alloc a (.cells #[ι 6,σ nm,ρ c args sc,ρ d thn e,ρ f els uc] 50)) (Loc.new a [ι 6,σ nm,ρ c args sc,ρ d thn e,ρ f els uc] 50);clear y x a h l k hx I r q j v;go_enter Zm,Zn;go_wp2_with fail;refine(Fp [.s [99,111,110,116,105,110,117,101,59]] b t _ (by simp) p (G.o.fr n.o D.o p) E.o (.s (Hs.nil)) (by omega) A.o (by simp)).mono ?_;rintro Q w2 ⟨rfl,u,i⟩;obtain⟨F,B,J⟩:=Y3 u (n.o.trans i) (C.o.step i);clear u i;go_wp2
 go_end0
 exact⟨rfl,by simpa only[Zg,Zh,Zi,WIt.text,Zk,Zj]using F.o,B.o⟩
theorem pst_7(x:Nat)(G:Mj x)(nm:Bs)(args:List Ex)(thn els:List St)(hx:Dy (x+1) (.mk 7 nm args thn els)=true)(b:Nat)(k:Bs)(t:Nat)(s st H:Value)(w:Yd)(z:0<b)(E:Ev w)(a:Ca w b k t)
  (r:Ag (· <b) w args s) (v:Au (· <b) w thn st) (u:Au (· <b) w els H) (al:t+(x+1)≤1000) (n:Cv (k.length+(Cy t (.mk 7 nm args thn els)).length)):
  Ye Zb 95 #[.pointer (some ⟨b,0,none⟩),stV (.mk 7 nm args thn els) s st H] w (Kh w b k t (Cy t (.mk 7 nm args thn els))):=by
 obtain⟨q,U,F,C,B⟩:=Er hx;clear U;replace q:args.length=1:=by simp only[Ey,Ze,if_true,if_false,reduceIte,or_true,true_or,or_false,false_or,or_self]at q;omega
 rw[Ft,rG]at n ⊢;obtain⟨an,sc,rfl⟩:=r.shape;obtain⟨f,g,rfl⟩:=v.shape;obtain⟨h,uc,rfl⟩:=u.shape;obtain⟨c,d,ag,rfl,ah,ai,V,W,X,Y,Z,m,A⟩:=r.at0 (by omega);obtain⟨S,T,rfl⟩:=m.shape;have R:=Za (F _ (Cs (l:=args) (i:=0) (by omega)));have aj:(0:Int)<(args.length:Int):=by omega
 have ak:0<args.length:=by omega
 generalize Bx args 0=I at*;show Ye _ _ #[π b,.agg #[ι 7,σ nm,.slice (some ⟨c,d,none⟩) args.length sc,ρ f thn g,ρ h els uc]] _ _
 obtain⟨af,Q,y,K,ae,ad,ac,ab,O⟩:=Y9 G E a n v u C B (a.alloc (.cells #[ι 7,σ nm,.slice (some ⟨c,d,none⟩) args.length sc,ρ f thn g,ρ h els uc] 50));obtain⟨j,M,J,N⟩:=Y4 (PFr.alloc a (.cells #[ι 7,σ nm,.slice (some ⟨c,d,none⟩) args.length sc,ρ f thn g,ρ h els uc] 50)) (Loc.new a [ι 7,σ nm,.slice (some ⟨c,d,none⟩) args.length sc,ρ f thn g,ρ h els uc] 50) m A;clear G E a n v u hx F C B q r m A;go_enter Zm,Zn;go_wp2_with fail;refine(Fp [.s [114,101,116,117,114,110,32],.e I (ρ S I.args T),.s [59]] b t _ (by simp) z (Q.o.fr j.o y.o z) O.o (.s (.e (J.o.keep (j.o.keeps y.o)) N.o R.o (.s (Hs.nil)))) (by omega) K.o (by simp)).mono ?_;rintro am w2 ⟨rfl,D,p⟩;obtain⟨P,L,aa⟩:=Y3 D (j.o.trans p) (M.o.step p);clear D p;clear V W X Y Z;go_wp2
 go_end0
 exact⟨rfl,by simpa only[Zg,Zh,Zi,WIt.text,Zk,Zj]using P.o,L.o⟩
theorem pst_8(x:Nat)(G:Mj x)(nm:Bs)(args:List Ex)(thn els:List St)(hx:Dy (x+1) (.mk 8 nm args thn els)=true)(b:Nat)(k:Bs)(t:Nat)(s st H:Value)(w:Yd)(z:0<b)(E:Ev w)(a:Ca w b k t)
  (r:Ag (· <b) w args s) (v:Au (· <b) w thn st) (u:Au (· <b) w els H) (al:t+(x+1)≤1000) (n:Cv (k.length+(Cy t (.mk 8 nm args thn els)).length)):
  Ye Zb 95 #[.pointer (some ⟨b,0,none⟩),stV (.mk 8 nm args thn els) s st H] w (Kh w b k t (Cy t (.mk 8 nm args thn els))):=by
 obtain⟨q,U,F,C,B⟩:=Er hx;clear U;replace q:args.length=1:=by simp only[Ey,Ze,if_true,if_false,reduceIte,or_true,true_or,or_false,false_or,or_self]at q;omega
 rw[Ft,oB]at n ⊢;obtain⟨an,sc,rfl⟩:=r.shape;obtain⟨f,g,rfl⟩:=v.shape;obtain⟨h,uc,rfl⟩:=u.shape;obtain⟨c,d,ag,rfl,ah,ai,V,W,X,Y,Z,m,A⟩:=r.at0 (by omega);obtain⟨S,T,rfl⟩:=m.shape;have R:=Za (F _ (Cs (l:=args) (i:=0) (by omega)));have aj:(0:Int)<(args.length:Int):=by omega
 have ak:0<args.length:=by omega
 generalize Bx args 0=I at*;show Ye _ _ #[π b,.agg #[ι 8,σ nm,.slice (some ⟨c,d,none⟩) args.length sc,ρ f thn g,ρ h els uc]] _ _
 obtain⟨af,Q,y,K,ae,ad,ac,ab,O⟩:=Y9 G E a n v u C B (a.alloc (.cells #[ι 8,σ nm,.slice (some ⟨c,d,none⟩) args.length sc,ρ f thn g,ρ h els uc] 50));obtain⟨j,M,J,N⟩:=Y4 (PFr.alloc a (.cells #[ι 8,σ nm,.slice (some ⟨c,d,none⟩) args.length sc,ρ f thn g,ρ h els uc] 50)) (Loc.new a [ι 8,σ nm,.slice (some ⟨c,d,none⟩) args.length sc,ρ f thn g,ρ h els uc] 50) m A;clear G E a n v u hx F C B q r m A;go_enter Zm,Zn;go_wp2_with fail;refine(Fp [.s [112,114,105,110,116,40],.e I (ρ S I.args T),.s [41,59]] b t _ (by simp) z (Q.o.fr j.o y.o z) O.o (.s (.e (J.o.keep (j.o.keeps y.o)) N.o R.o (.s (Hs.nil)))) (by omega) K.o (by simp)).mono ?_;rintro am w2 ⟨rfl,D,p⟩;obtain⟨P,L,aa⟩:=Y3 D (j.o.trans p) (M.o.step p);clear D p;clear V W X Y Z;go_wp2
 go_end0
 exact⟨rfl,by simpa only[Zg,Zh,Zi,WIt.text,Zk,Zj]using P.o,L.o⟩
theorem pst_9(x:Nat)(G:Mj x)(nm:Bs)(args:List Ex)(thn els:List St)(hx:Dy (x+1) (.mk 9 nm args thn els)=true)(b:Nat)(k:Bs)(t:Nat)(s st H:Value)(w:Yd)(z:0<b)(E:Ev w)(a:Ca w b k t)
  (r:Ag (· <b) w args s) (v:Au (· <b) w thn st) (u:Au (· <b) w els H) (al:t+(x+1)≤1000) (n:Cv (k.length+(Cy t (.mk 9 nm args thn els)).length)):
  Ye Zb 95 #[.pointer (some ⟨b,0,none⟩),stV (.mk 9 nm args thn els) s st H] w (Kh w b k t (Cy t (.mk 9 nm args thn els))):=by
 obtain⟨q,U,F,C,B⟩:=Er hx;clear U;replace q:args.length=1:=by simp only[Ey,Ze,if_true,if_false,reduceIte,or_true,true_or,or_false,false_or,or_self]at q;omega
 rw[Ft,qT]at n ⊢;obtain⟨an,sc,rfl⟩:=r.shape;obtain⟨f,g,rfl⟩:=v.shape;obtain⟨h,uc,rfl⟩:=u.shape;obtain⟨c,d,ag,rfl,ah,ai,V,W,X,Y,Z,m,A⟩:=r.at0 (by omega);obtain⟨S,T,rfl⟩:=m.shape;have R:=Za (F _ (Cs (l:=args) (i:=0) (by omega)));have aj:(0:Int)<(args.length:Int):=by omega
 have ak:0<args.length:=by omega
 generalize Bx args 0=I at*;show Ye _ _ #[π b,.agg #[ι 9,σ nm,.slice (some ⟨c,d,none⟩) args.length sc,ρ f thn g,ρ h els uc]] _ _
 obtain⟨af,Q,y,K,ae,ad,ac,ab,O⟩:=Y9 G E a n v u C B (a.alloc (.cells #[ι 9,σ nm,.slice (some ⟨c,d,none⟩) args.length sc,ρ f thn g,ρ h els uc] 50));obtain⟨j,M,J,N⟩:=Y4 (PFr.alloc a (.cells #[ι 9,σ nm,.slice (some ⟨c,d,none⟩) args.length sc,ρ f thn g,ρ h els uc] 50)) (Loc.new a [ι 9,σ nm,.slice (some ⟨c,d,none⟩) args.length sc,ρ f thn g,ρ h els uc] 50) m A;clear G E a n v u hx F C B q r m A;go_enter Zm,Zn;go_wp2_with fail;refine(Fp [.s [116,114,97,112,40],.e I (ρ S I.args T),.s [41,59]] b t _ (by simp) z (Q.o.fr j.o y.o z) O.o (.s (.e (J.o.keep (j.o.keeps y.o)) N.o R.o (.s (Hs.nil)))) (by omega) K.o (by simp)).mono ?_;rintro am w2 ⟨rfl,D,p⟩;obtain⟨P,L,aa⟩:=Y3 D (j.o.trans p) (M.o.step p);clear D p;clear V W X Y Z;go_wp2
 go_end0
 exact⟨rfl,by simpa only[Zg,Zh,Zi,WIt.text,Zk,Zj]using P.o,L.o⟩
theorem pst_10(x:Nat)(G:Mj x)(nm:Bs)(args:List Ex)(thn els:List St)(hx:Dy (x+1) (.mk 10 nm args thn els)=true)(b:Nat)(k:Bs)(t:Nat)(s st H:Value)(w:Yd)(z:0<b)(E:Ev w)(a:Ca w b k t)
  (r:Ag (· <b) w args s) (v:Au (· <b) w thn st) (u:Au (· <b) w els H) (al:t+(x+1)≤1000) (n:Cv (k.length+(Cy t (.mk 10 nm args thn els)).length)):
  Ye Zb 95 #[.pointer (some ⟨b,0,none⟩),stV (.mk 10 nm args thn els) s st H] w (Kh w b k t (Cy t (.mk 10 nm args thn els))):=by
 obtain⟨q,U,F,C,B⟩:=Er hx;clear U;replace q:args.length=1:=by simp only[Ey,Ze,if_true,if_false,reduceIte,or_true,true_or,or_false,false_or,or_self]at q;omega
 rw[Ft,jC]at n ⊢;obtain⟨an,sc,rfl⟩:=r.shape;obtain⟨f,g,rfl⟩:=v.shape;obtain⟨h,uc,rfl⟩:=u.shape;obtain⟨c,d,ag,rfl,ah,ai,V,W,X,Y,Z,m,A⟩:=r.at0 (by omega);obtain⟨S,T,rfl⟩:=m.shape;have R:=Za (F _ (Cs (l:=args) (i:=0) (by omega)));have aj:(0:Int)<(args.length:Int):=by omega
 have ak:0<args.length:=by omega
 generalize Bx args 0=I at*;show Ye _ _ #[π b,.agg #[ι 10,σ nm,.slice (some ⟨c,d,none⟩) args.length sc,ρ f thn g,ρ h els uc]] _ _
 obtain⟨af,Q,y,K,ae,ad,ac,ab,O⟩:=Y9 G E a n v u C B (a.alloc (.cells #[ι 10,σ nm,.slice (some ⟨c,d,none⟩) args.length sc,ρ f thn g,ρ h els uc] 50));obtain⟨j,M,J,N⟩:=Y4 (PFr.alloc a (.cells #[ι 10,σ nm,.slice (some ⟨c,d,none⟩) args.length sc,ρ f thn g,ρ h els uc] 50)) (Loc.new a [ι 10,σ nm,.slice (some ⟨c,d,none⟩) args.length sc,ρ f thn g,ρ h els uc] 50) m A;clear G E a n v u hx F C B q r m A;go_enter Zm,Zn;go_wp2_with fail;refine(Fp [.e I (ρ S I.args T),.s [59]] b t _ (by simp) z (Q.o.fr j.o y.o z) O.o (.e (J.o.keep (j.o.keeps y.o)) N.o R.o (.s (Hs.nil))) (by omega) K.o (by simp)).mono ?_;rintro am w2 ⟨rfl,D,p⟩;obtain⟨P,L,aa⟩:=Y3 D (j.o.trans p) (M.o.step p);clear D p;clear V W X Y Z;go_wp2
 go_end0
 exact⟨rfl,by simpa only[Zg,Zh,Zi,WIt.text,Zk,Zj]using P.o,L.o⟩
theorem pst_1(H:Nat)(Y:Mj H)(nm:Bs)(args:List Ex)(thn els:List St)(hx:Dy (H+1) (.mk 1 nm args thn els)=true)(b:Nat)(A:Bs)(t:Nat)(s st Z:Value)(w:Yd)(Q:0<b)(W:Ev w)(q:Ca w b A t)
  (E:Ag (· <b) w args s) (G:Au (· <b) w thn st) (F:Au (· <b) w els Z) (aE:t+(H+1)≤1000) (C:Cv (A.length+(Cy t (.mk 1 nm args thn els)).length)):
  Ye Zb 95 #[.pointer (some ⟨b,0,none⟩),stV (.mk 1 nm args thn els) s st Z] w (Kh w b A t (Cy t (.mk 1 nm args thn els))):=by
 obtain⟨D,al,X,U,T⟩:=Er hx;clear al;replace D:args.length=1:=by simp only[Ey,Ze,if_true,if_false,reduceIte,or_true,true_or,or_false,false_or,or_self]at D;omega
 rw[Ft,pA]at C ⊢;obtain⟨aG,sc,rfl⟩:=E.shape;obtain⟨f,g,rfl⟩:=G.shape;obtain⟨h,uc,rfl⟩:=F.shape;obtain⟨a,c,au,rfl,m,p,I,J,K,L,M,B,S⟩:=E.at0 (by omega);obtain⟨r,u,rfl⟩:=B.shape;have ah:=Za (X _ (Cs (l:=args) (i:=0) (by omega)));have aC:(0:Int)<(args.length:Int):=by omega
 have aD:0<args.length:=by omega
 generalize Bx args 0=d at*;show Ye _ _ #[π b,.agg #[ι 1,σ nm,.slice (some ⟨a,c,none⟩) args.length sc,ρ f thn g,ρ h els uc]] _ _
 obtain⟨ar,ag,O,ab,ap,ao,an,am,P⟩:=Y9 Y W q C G F U T (q.alloc (.cells #[ι 1,σ nm,.slice (some ⟨a,c,none⟩) args.length sc,ρ f thn g,ρ h els uc] 50));obtain⟨ac,y,aa,ae⟩:=Y4 (PFr.alloc q (.cells #[ι 1,σ nm,.slice (some ⟨a,c,none⟩) args.length sc,ρ f thn g,ρ h els uc] 50)) (Loc.new q [ι 1,σ nm,.slice (some ⟨a,c,none⟩) args.length sc,ρ f thn g,ρ h els uc] 50) B S;clear Y W q C G F hx X U T D E B S;go_enter Zm,Zn;go_wp2_with fail;have I:(w.alloc (.cells #[ι 1,σ nm,.slice (some ⟨a,c,none⟩) args.length sc,ρ f thn g,ρ h els uc] 50)).cell? ⟨a,c,none⟩=some (ι d.kind):=by rw[Zf _ _ _ p];exact I
 have J:(w.alloc (.cells #[ι 1,σ nm,.slice (some ⟨a,c,none⟩) args.length sc,ρ f thn g,ρ h els uc] 50)).cell? ⟨a,c+1,none⟩=some (ι d.op):=by rw[Zf _ _ _ p];exact J
 have K:(w.alloc (.cells #[ι 1,σ nm,.slice (some ⟨a,c,none⟩) args.length sc,ρ f thn g,ρ h els uc] 50)).cell? ⟨a,c+2,none⟩=some (ι d.n):=by rw[Zf _ _ _ p];exact K
 have L:(w.alloc (.cells #[ι 1,σ nm,.slice (some ⟨a,c,none⟩) args.length sc,ρ f thn g,ρ h els uc] 50)).cell? ⟨a,c+3,none⟩=some (σ d.name):=by rw[Zf _ _ _ p];exact L
 have M:(w.alloc (.cells #[ι 1,σ nm,.slice (some ⟨a,c,none⟩) args.length sc,ρ f thn g,ρ h els uc] 50)).cell? ⟨a,c+4,none⟩=some (ρ r d.args u):=by rw[Zf _ _ _ p];exact M
 have R:=P.o.lt;have aq:Yf (w.heap.size<(w.alloc (.cells #[ι 1,σ nm,.slice (some ⟨a,c,none⟩) args.length sc,ρ f thn g,ρ h els uc] 50)).heap.size):=by show _<_;simp
 generalize w.alloc (.cells #[ι 1,σ nm,.slice (some ⟨a,c,none⟩) args.length sc,ρ f thn g,ρ h els uc] 50)=z at*;have ai:=y.o.cell 1 (by simp);have aj:=y.o.cell 2 (by simp);simp only[Zc,Zd]at ai aj;have v:Yh z.heap.size z z.drew:=(Below.refl _ _).drew;obtain⟨k,x,N⟩:=Y3 (P.o.old v) (ac.o.trans (PFr.of_below v R)) (y.o.step (PFr.of_below v R));clear v
 go_region_held3 (fun w'=>w'.cell? ⟨w.heap.size,1,none⟩=some (σ nm)∧w'.cell? ⟨w.heap.size,2,none⟩=some (.slice (some ⟨a,c,none⟩) args.length sc)∧w'.cell? ⟨a,c,none⟩=some (ι d.kind)∧w'.cell? ⟨a,c+1,none⟩=some (ι d.op)∧w'.cell? ⟨a,c+2,none⟩=some (ι d.n)∧w'.cell? ⟨a,c+3,none⟩=some (σ d.name)∧w'.cell? ⟨a,c+4,none⟩=some (ρ r d.args u)) (first|(simp [*,Zf];done)|go_keep) (first|(go_at_call 17;refine(Fp [.s nm,.s [32,61,32],.e d (ρ r d.args u),.s [59]] b t _ (by simp) Q (ag.o.fr x.o O.o Q) k.o (.s (.s (.e (aa.o.keep (x.o.keeps O.o)) ae.o ah.o (.s (Hs.nil))))) (by omega) ab.o (by simp)).mono ?_;rintro aF w2 ⟨ak,V,j⟩;subst ak;have av:w2.cell? ⟨w.heap.size,1,none⟩=some (σ nm):=(N.o.step j).cell 1 (by simp);have aw:w2.cell? ⟨w.heap.size,2,none⟩=some (.slice (some ⟨a,c,none⟩) args.length sc):=(N.o.step j).cell 2 (by simp);have ax:w2.cell? ⟨a,c,none⟩=some (ι d.kind):=j.keeps k.o a _ _ m (by simpa using I);have ay:w2.cell? ⟨a,c+1,none⟩=some (ι d.op):=j.keeps k.o a _ _ m (by simpa using J);have az:w2.cell? ⟨a,c+2,none⟩=some (ι d.n):=j.keeps k.o a _ _ m (by simpa using K);have aA:w2.cell? ⟨a,c+3,none⟩=some (σ d.name):=j.keeps k.o a _ _ m (by simpa using L);have aB:w2.cell? ⟨a,c+4,none⟩=some (ρ r d.args u):=j.keeps k.o a _ _ m (by simpa using M);obtain⟨af,ad⟩:=Y2 V (x.o.trans j);clear V j))
 go_wp2
 go_end0
 exact⟨rfl,by simpa only[Zg,Zh,Zi,WIt.text,Zk,Zj]using af.o,ad.o⟩
theorem pst_2(N:Nat)(ai:Mj N)(nm:Bs)(args:List Ex)(thn els:List St)(hx:Dy (N+1) (.mk 2 nm args thn els)=true)(b:Nat)(F:Bs)(t:Nat)(s st aj:Value)(w:Yd)(aa:0<b)(ah:Ev w)(r:Ca w b F t)
  (B:Ag (· <b) w args s) (L:Au (· <b) w thn st) (K:Au (· <b) w els aj) (aZ:t+(N+1)≤1000) (I:Cv (F.length+(Cy t (.mk 2 nm args thn els)).length)):
  Ye Zb 95 #[.pointer (some ⟨b,0,none⟩),stV (.mk 2 nm args thn els) s st aj] w (Kh w b F t (Cy t (.mk 2 nm args thn els))):=by
 obtain⟨J,aA,M,af,ae⟩:=Er hx;clear aA;replace J:args.length=2:=by simp only[Ey,Ze,if_true,if_false,reduceIte,or_true,true_or,or_false,false_or,or_self]at J;omega
 rw[Ft,oV]at I ⊢;obtain⟨bb,sc,rfl⟩:=B.shape;obtain⟨g,h,rfl⟩:=L.shape;obtain⟨j,uc,rfl⟩:=K.shape;obtain⟨a,c,aH,rfl,p,q,T,U,V,W,X,G,ac⟩:=B.at0 (by omega);obtain⟨v,x,rfl⟩:=G.shape;have av:=Za (M _ (Cs (l:=args) (i:=0) (by omega)));have aV:(0:Int)<(args.length:Int):=by omega
 have aW:0<args.length:=by omega
 obtain⟨aI,O,P,Q,R,S,H,ad⟩:=B.at1 (by omega);obtain⟨y,z,rfl⟩:=H.shape;have aw:=Za (M _ (Cs (l:=args) (i:=1) (by omega)));have aX:(1:Int)<(args.length:Int):=by omega
 have aY:1<args.length:=by omega
 generalize Bx args 1=f at*;generalize Bx args 0=d at*;show Ye _ _ #[π b,.agg #[ι 2,σ nm,.slice (some ⟨a,c,none⟩) args.length sc,ρ g thn h,ρ j els uc]] _ _
 obtain⟨aG,au,D,am,aE,aD,aC,aB,Z⟩:=Y9 ai ah r I L K af ae (r.alloc (.cells #[ι 2,σ nm,.slice (some ⟨a,c,none⟩) args.length sc,ρ g thn h,ρ j els uc] 50));obtain⟨an,C,ak,ap,al,aq⟩:=Y6 (PFr.alloc r (.cells #[ι 2,σ nm,.slice (some ⟨a,c,none⟩) args.length sc,ρ g thn h,ρ j els uc] 50)) (Loc.new r [ι 2,σ nm,.slice (some ⟨a,c,none⟩) args.length sc,ρ g thn h,ρ j els uc] 50) G ac H ad;clear ai ah r I L K hx M af ae J B G ac H ad;go_enter Zm,Zn;go_wp2_with fail;have T:(w.alloc (.cells #[ι 2,σ nm,.slice (some ⟨a,c,none⟩) args.length sc,ρ g thn h,ρ j els uc] 50)).cell? ⟨a,c,none⟩=some (ι d.kind):=by rw[Zf _ _ _ q];exact T
 have U:(w.alloc (.cells #[ι 2,σ nm,.slice (some ⟨a,c,none⟩) args.length sc,ρ g thn h,ρ j els uc] 50)).cell? ⟨a,c+1,none⟩=some (ι d.op):=by rw[Zf _ _ _ q];exact U
 have V:(w.alloc (.cells #[ι 2,σ nm,.slice (some ⟨a,c,none⟩) args.length sc,ρ g thn h,ρ j els uc] 50)).cell? ⟨a,c+2,none⟩=some (ι d.n):=by rw[Zf _ _ _ q];exact V
 have W:(w.alloc (.cells #[ι 2,σ nm,.slice (some ⟨a,c,none⟩) args.length sc,ρ g thn h,ρ j els uc] 50)).cell? ⟨a,c+3,none⟩=some (σ d.name):=by rw[Zf _ _ _ q];exact W
 have X:(w.alloc (.cells #[ι 2,σ nm,.slice (some ⟨a,c,none⟩) args.length sc,ρ g thn h,ρ j els uc] 50)).cell? ⟨a,c+4,none⟩=some (ρ v d.args x):=by rw[Zf _ _ _ q];exact X
 have O:(w.alloc (.cells #[ι 2,σ nm,.slice (some ⟨a,c,none⟩) args.length sc,ρ g thn h,ρ j els uc] 50)).cell? ⟨a,c+5,none⟩=some (ι f.kind):=by rw[Zf _ _ _ q];exact O
 have P:(w.alloc (.cells #[ι 2,σ nm,.slice (some ⟨a,c,none⟩) args.length sc,ρ g thn h,ρ j els uc] 50)).cell? ⟨a,c+5+1,none⟩=some (ι f.op):=by rw[Zf _ _ _ q];exact P
 have Q:(w.alloc (.cells #[ι 2,σ nm,.slice (some ⟨a,c,none⟩) args.length sc,ρ g thn h,ρ j els uc] 50)).cell? ⟨a,c+5+2,none⟩=some (ι f.n):=by rw[Zf _ _ _ q];exact Q
 have R:(w.alloc (.cells #[ι 2,σ nm,.slice (some ⟨a,c,none⟩) args.length sc,ρ g thn h,ρ j els uc] 50)).cell? ⟨a,c+5+3,none⟩=some (σ f.name):=by rw[Zf _ _ _ q];exact R
 have S:(w.alloc (.cells #[ι 2,σ nm,.slice (some ⟨a,c,none⟩) args.length sc,ρ g thn h,ρ j els uc] 50)).cell? ⟨a,c+5+4,none⟩=some (ρ y f.args z):=by rw[Zf _ _ _ q];exact S
 have ab:=Z.o.lt;have aF:Yf (w.heap.size<(w.alloc (.cells #[ι 2,σ nm,.slice (some ⟨a,c,none⟩) args.length sc,ρ g thn h,ρ j els uc] 50)).heap.size):=by show _<_;simp
 generalize w.alloc (.cells #[ι 2,σ nm,.slice (some ⟨a,c,none⟩) args.length sc,ρ g thn h,ρ j els uc] 50)=E at*;have ax:=C.o.cell 1 (by simp);have ay:=C.o.cell 2 (by simp);simp only[Zc,Zd]at ax ay;have A:Yh E.heap.size E E.drew:=(Below.refl _ _).drew;obtain⟨m,u,Y⟩:=Y3 (Z.o.old A) (an.o.trans (PFr.of_below A ab)) (C.o.step (PFr.of_below A ab));clear A
 go_region_held3 (fun w'=>w'.cell? ⟨w.heap.size,1,none⟩=some (σ nm)∧w'.cell? ⟨w.heap.size,2,none⟩=some (.slice (some ⟨a,c,none⟩) args.length sc)∧w'.cell? ⟨a,c,none⟩=some (ι d.kind)∧w'.cell? ⟨a,c+1,none⟩=some (ι d.op)∧w'.cell? ⟨a,c+2,none⟩=some (ι d.n)∧w'.cell? ⟨a,c+3,none⟩=some (σ d.name)∧w'.cell? ⟨a,c+4,none⟩=some (ρ v d.args x)∧w'.cell? ⟨a,c+5,none⟩=some (ι f.kind)∧w'.cell? ⟨a,c+5+1,none⟩=some (ι f.op)∧w'.cell? ⟨a,c+5+2,none⟩=some (ι f.n)∧w'.cell? ⟨a,c+5+3,none⟩=some (σ f.name)∧w'.cell? ⟨a,c+5+4,none⟩=some (ρ y f.args z)) (first|(simp [*,Zf];done)|go_keep) (first|(go_at_call 17;refine(Fp [.s nm,.s [91],.e d (ρ v d.args x),.s [93,32,61,32],.e f (ρ y f.args z),.s [59]] b t _ (by simp) aa (au.o.fr u.o D.o aa) m.o (.s (.s (.e (ak.o.keep (u.o.keeps D.o)) ap.o av.o (.s (.e (al.o.keep (u.o.keeps D.o)) aq.o aw.o (.s (Hs.nil))))))) (by omega) am.o (by simp)).mono ?_;rintro ba w2 ⟨az,ag,k⟩;subst az;have aJ:w2.cell? ⟨w.heap.size,1,none⟩=some (σ nm):=(Y.o.step k).cell 1 (by simp);have aK:w2.cell? ⟨w.heap.size,2,none⟩=some (.slice (some ⟨a,c,none⟩) args.length sc):=(Y.o.step k).cell 2 (by simp);have aQ:w2.cell? ⟨a,c,none⟩=some (ι d.kind):=k.keeps m.o a _ _ p (by simpa using T);have aR:w2.cell? ⟨a,c+1,none⟩=some (ι d.op):=k.keeps m.o a _ _ p (by simpa using U);have aS:w2.cell? ⟨a,c+2,none⟩=some (ι d.n):=k.keeps m.o a _ _ p (by simpa using V);have aT:w2.cell? ⟨a,c+3,none⟩=some (σ d.name):=k.keeps m.o a _ _ p (by simpa using W);have aU:w2.cell? ⟨a,c+4,none⟩=some (ρ v d.args x):=k.keeps m.o a _ _ p (by simpa using X);have aL:w2.cell? ⟨a,c+5,none⟩=some (ι f.kind):=k.keeps m.o a _ _ p (by simpa using O);have aM:w2.cell? ⟨a,c+5+1,none⟩=some (ι f.op):=k.keeps m.o a _ _ p (by simpa using P);have aN:w2.cell? ⟨a,c+5+2,none⟩=some (ι f.n):=k.keeps m.o a _ _ p (by simpa using Q);have aO:w2.cell? ⟨a,c+5+3,none⟩=some (σ f.name):=k.keeps m.o a _ _ p (by simpa using R);have aP:w2.cell? ⟨a,c+5+4,none⟩=some (ρ y f.args z):=k.keeps m.o a _ _ p (by simpa using S);obtain⟨ar,ao⟩:=Y2 ag (u.o.trans k);clear ag k))
 go_wp2
 go_end0
 exact⟨rfl,by simpa only[Zg,Zh,Zi,WIt.text,Zk,Zj]using ar.o,ao.o⟩
theorem pst_3a(E:Nat)(R:Mj E)(nm:Bs)(args:List Ex)(thn:List St)(hx:Dy (E+1) (.mk 3 nm args thn ([]:List St))=true)(b:Nat)(u:Bs)(t:Nat)(s st T:Value)(w:Yd)(a:0<b)(P:Ev w)(d:Ca w b u t)
  (B:Ag (· <b) w args s) (D:Au (· <b) w thn st) (C:Au (· <b) w ([]:List St) T) (aA:t+(E+1)≤1000) (g:Cv (u.length+(Cy t (.mk 3 nm args thn ([]:List St))).length)):
  Ye Zb 95 #[.pointer (some ⟨b,0,none⟩),stV (.mk 3 nm args thn ([]:List St)) s st T] w (Kh w b u t (Cy t (.mk 3 nm args thn ([]:List St)))):=by
 obtain⟨A,ak,Q,L,K⟩:=Er hx;clear ak;replace A:args.length=1:=by simp only[Ey,Ze,if_true,if_false,reduceIte,or_true,true_or,or_false,false_or,or_self]at A;omega
 rw[Ft,aR]at g ⊢;simp only[List.isEmpty_nil,if_true,Zk]at g ⊢;obtain⟨aB,sc,rfl⟩:=B.shape;obtain⟨j,k,rfl⟩:=D.shape;obtain⟨m,uc,rfl⟩:=C.shape;obtain⟨f,h,av,rfl,aw,ax,al,am,an,ao,ap,v,J⟩:=B.at0 (by omega);obtain⟨ah,ai,rfl⟩:=v.shape;have af:=Za (Q _ (Cs (l:=args) (i:=0) (by omega)));have ay:(0:Int)<(args.length:Int):=by omega
 have az:0<args.length:=by omega
 generalize Bx args 0=U at*;show Ye _ _ #[π b,.agg #[ι 3,σ nm,.slice (some ⟨f,h,none⟩) args.length sc,ρ j thn k,.slice m ([]:List St).length uc]] _ _
 obtain⟨ag,r,c,n,ae,au,Z,ar,aa⟩:=Y9 R P d g D C L K (d.alloc (.cells #[ι 3,σ nm,.slice (some ⟨f,h,none⟩) args.length sc,ρ j thn k,.slice m ([]:List St).length uc] 50));obtain⟨p,X,V,Y⟩:=Y4 (PFr.alloc d (.cells #[ι 3,σ nm,.slice (some ⟨f,h,none⟩) args.length sc,ρ j thn k,.slice m ([]:List St).length uc] 50)) (Loc.new d [ι 3,σ nm,.slice (some ⟨f,h,none⟩) args.length sc,ρ j thn k,.slice m ([]:List St).length uc] 50) v J;clear R P d g D C hx Q L K A B v J;go_enter Zm,Zn;go_wp2_with fail;refine(Fp [.s [105,102,32,40],.e U (ρ ah U.args ai),.s [41,32,123]] b t _ (by simp) a (r.o.fr p.o c.o a) aa.o (.s (.e (V.o.keep (p.o.keeps c.o)) Y.o af.o (.s (Hs.nil)))) (by omega) n.o.left (by simp)).mono ?_;rintro S w2 ⟨rfl,M,x⟩;obtain⟨ab,q,G⟩:=Y3 M (p.o.trans x) (X.o.step x);clear M x;clear al am an ao ap;have I:=G.o.cell 3 (by simp);simp only[Zc,Zd]at I;go_wp2_with fail;refine(ag.out thn Z.o b _ t _ _ a (r.o.fr q.o c.o a) ab.o (ae.o.keep (q.o.keeps c.o)) (by omega) n.o.right.left).mono ?_
 rintro S aC ⟨rfl,N,y⟩;obtain⟨ac,F,H⟩:=Y3 N (q.o.trans y) (G.o.step y);clear N y I;have aj:=H.o.cell 4 (by simp);simp only[Zc,Zd]at aj;go_wp2_with fail;refine(Fp [.s [125]] b t _ (by simp) a (r.o.fr F.o c.o a) ac.o (.s (Hs.nil)) (by omega) n.o.right.right (by simp)).mono ?_;rintro S aD ⟨rfl,O,z⟩;obtain⟨ad,W,aq⟩:=Y3 O (F.o.trans z) (H.o.step z);clear O z;go_wp2
 go_end0
 exact⟨rfl,by simpa only[Zg,Zh,Zi,WIt.text,Zk,Zj]using ad.o,W.o⟩
theorem pst_3b(L:Nat)(af:Mj L)(nm:Bs)(args:List Ex)(thn:List St)(a:St)(c:List St)(hx:Dy (L+1) (.mk 3 nm args thn (a::c))=true)(b:Nat)(A:Bs)(t:Nat)(s st ag:Value)(w:Yd)(d:0<b)(ad:Ev w)(k:Ca w b A t)
  (I:Ag (· <b) w args s) (K:Au (· <b) w thn st) (J:Au (· <b) w (a::c) ag) (aQ:t+(L+1)≤1000) (n:Cv (A.length+(Cy t (.mk 3 nm args thn (a::c))).length)):
  Ye Zb 95 #[.pointer (some ⟨b,0,none⟩),stV (.mk 3 nm args thn (a::c)) s st ag] w (Kh w b A t (Cy t (.mk 3 nm args thn (a::c)))):=by
 obtain⟨H,aC,ae,X,W⟩:=Er hx;clear aC;replace H:args.length=1:=by simp only[Ey,Ze,if_true,if_false,reduceIte,or_true,true_or,or_false,false_or,or_self]at H;omega
 rw[Ft,aR]at n ⊢;have M:((if(a::c).isEmpty=true then([]:Bs)else ln t [[125,32,101,108,115,101,32,123]]++Ci (t+1) (a::c))++ln t [[125]])=ln t [[125,32,101,108,115,101,32,123]]++(Ci (t+1) (a::c)++ln t [[125]]):=by simp
 rw[M]at n ⊢;clear M;obtain⟨aS,sc,rfl⟩:=I.shape;obtain⟨r,u,rfl⟩:=K.shape;obtain⟨v,uc,rfl⟩:=J.shape;obtain⟨m,p,aK,rfl,aL,aM,aD,aE,aF,aG,aH,B,V⟩:=I.at0 (by omega);obtain⟨aA,aB,rfl⟩:=B.shape;have az:=Za (ae _ (Cs (l:=args) (i:=0) (by omega)));have aN:(0:Int)<(args.length:Int):=by omega
 have aO:0<args.length:=by omega
 generalize Bx args 0=ah at*;show Ye _ _ #[π b,.agg #[ι 3,σ nm,.slice (some ⟨m,p,none⟩) args.length sc,ρ r thn u,.slice v (a::c).length uc]] _ _
 obtain⟨S,h,f,g,ay,ax,ao,an,ap⟩:=Y9 af ad k n K J X W (k.alloc (.cells #[ι 3,σ nm,.slice (some ⟨m,p,none⟩) args.length sc,ρ r thn u,.slice v (a::c).length uc] 50));obtain⟨x,ak,ai,am⟩:=Y4 (PFr.alloc k (.cells #[ι 3,σ nm,.slice (some ⟨m,p,none⟩) args.length sc,ρ r thn u,.slice v (a::c).length uc] 50)) (Loc.new k [ι 3,σ nm,.slice (some ⟨m,p,none⟩) args.length sc,ρ r thn u,.slice v (a::c).length uc] 50) B V;clear af ad k n K J hx ae X W H I B V;have aP:(0:Int)<((a::c).length:Int):=by simp only[List.length_cons];omega
 generalize U:a::c=els at*;have aI:=Za U;clear U;go_enter Zm,Zn;go_wp2_with fail;refine(Fp [.s [105,102,32,40],.e ah (ρ aA ah.args aB),.s [41,32,123]] b t _ (by simp) d (h.o.fr x.o f.o d) ap.o (.s (.e (ai.o.keep (x.o.keeps f.o)) am.o az.o (.s (Hs.nil)))) (by omega) g.o.left (by simp)).mono ?_;rintro q w2 ⟨rfl,Y,C⟩;obtain⟨aq,y,P⟩:=Y3 Y (x.o.trans C) (ak.o.step C);clear Y C;clear aD aE aF aG aH;have T:=P.o.cell 3 (by simp);simp only[Zc,Zd]at T;go_wp2_with fail;refine(S.out thn ao.o b _ t _ _ d (h.o.fr y.o f.o d) aq.o (ay.o.keep (y.o.keeps f.o)) (by omega) g.o.right.left).mono ?_;rintro q aT ⟨rfl,Z,D⟩;obtain⟨ar,N,Q⟩:=Y3 Z (y.o.trans D) (P.o.step D);clear Z D T;have j:=Q.o.cell 4 (by simp);simp only[Zc,Zd]at j;go_wp2_with fail;refine(Fp [.s [125,32,101,108,115,101,32,123]] b t _ (by simp) d (h.o.fr N.o f.o d) ar.o (.s (Hs.nil)) (by omega) g.o.right.right.left (by simp)).mono ?_;rintro q aU ⟨rfl,aa,E⟩;obtain⟨au,z,R⟩:=Y3 aa (N.o.trans E) (Q.o.step E);clear aa E;clear j;have j:=R.o.cell 4 (by simp);simp only[Zc,Zd]at j;go_wp2_with fail
 refine(S.out els an.o b _ t _ _ d (h.o.fr z.o f.o d) au.o (ax.o.keep (z.o.keeps f.o)) (by omega) g.o.right.right.right.left).mono ?_;rintro q aV ⟨rfl,ab,F⟩;obtain⟨av,O,al⟩:=Y3 ab (z.o.trans F) (R.o.step F);clear ab F j;go_wp2_with fail;refine(Fp [.s [125]] b t _ (by simp) d (h.o.fr O.o f.o d) av.o (.s (Hs.nil)) (by omega) g.o.right.right.right.right (by simp)).mono ?_;rintro q aW ⟨rfl,ac,G⟩;obtain⟨aw,aj,aJ⟩:=Y3 ac (O.o.trans G) (al.o.step G);clear ac G;go_wp2
 go_end0
 exact⟨rfl,by simpa only[Zg,Zh,Zi,WIt.text,Zk,Zj]using aw.o,aj.o⟩
theorem pst_4(E:Nat)(Q:Mj E)(nm:Bs)(args:List Ex)(thn els:List St)(hx:Dy (E+1) (.mk 4 nm args thn els)=true)(b:Nat)(r:Bs)(t:Nat)(s st S:Value)(w:Yd)(a:0<b)(O:Ev w)(d:Ca w b r t)
  (B:Ag (· <b) w args s) (D:Au (· <b) w thn st) (C:Au (· <b) w els S) (az:t+(E+1)≤1000) (v:Cv (r.length+(Cy t (.mk 4 nm args thn els)).length)):
  Ye Zb 95 #[.pointer (some ⟨b,0,none⟩),stV (.mk 4 nm args thn els) s st S] w (Kh w b r t (Cy t (.mk 4 nm args thn els))):=by
 obtain⟨A,aj,P,K,J⟩:=Er hx;clear aj;replace A:args.length=1:=by simp only[Ey,Ze,if_true,if_false,reduceIte,or_true,true_or,or_false,false_or,or_self]at A;omega
 rw[Ft,oD]at v ⊢;obtain⟨aA,sc,rfl⟩:=B.shape;obtain⟨h,j,rfl⟩:=D.shape;obtain⟨k,uc,rfl⟩:=C.shape;obtain⟨f,g,au,rfl,av,aw,ak,al,am,an,ao,u,I⟩:=B.at0 (by omega);obtain⟨ah,ai,rfl⟩:=u.shape;have af:=Za (P _ (Cs (l:=args) (i:=0) (by omega)));have ax:(0:Int)<(args.length:Int):=by omega
 have ay:0<args.length:=by omega
 generalize Bx args 0=T at*;show Ye _ _ #[π b,.agg #[ι 4,σ nm,.slice (some ⟨f,g,none⟩) args.length sc,ρ h thn j,ρ k els uc]] _ _
 obtain⟨ag,q,c,m,ae,ar,Z,aq,aa⟩:=Y9 Q O d v D C K J (d.alloc (.cells #[ι 4,σ nm,.slice (some ⟨f,g,none⟩) args.length sc,ρ h thn j,ρ k els uc] 50));obtain⟨n,W,U,Y⟩:=Y4 (PFr.alloc d (.cells #[ι 4,σ nm,.slice (some ⟨f,g,none⟩) args.length sc,ρ h thn j,ρ k els uc] 50)) (Loc.new d [ι 4,σ nm,.slice (some ⟨f,g,none⟩) args.length sc,ρ h thn j,ρ k els uc] 50) u I;clear Q O d v D C hx P K J A B u I;go_enter Zm,Zn;go_wp2_with fail;refine(Fp [.s [119,104,105,108,101,32,40],.e T (ρ ah T.args ai),.s [41,32,123]] b t _ (by simp) a (q.o.fr n.o c.o a) aa.o (.s (.e (U.o.keep (n.o.keeps c.o)) Y.o af.o (.s (Hs.nil)))) (by omega) m.o.left (by simp)).mono ?_;rintro R w2 ⟨rfl,L,x⟩;obtain⟨ab,p,G⟩:=Y3 L (n.o.trans x) (W.o.step x);clear L x;clear ak al am an ao;have H:=G.o.cell 3 (by simp);simp only[Zc,Zd]at H;go_wp2_with fail;refine(ag.out thn Z.o b _ t _ _ a (q.o.fr p.o c.o a) ab.o (ae.o.keep (p.o.keeps c.o)) (by omega) m.o.right.left).mono ?_
 rintro R aB ⟨rfl,M,y⟩;obtain⟨ac,F,X⟩:=Y3 M (p.o.trans y) (G.o.step y);clear M y H;go_wp2_with fail;refine(Fp [.s [125]] b t _ (by simp) a (q.o.fr F.o c.o a) ac.o (.s (Hs.nil)) (by omega) m.o.right.right (by simp)).mono ?_;rintro R aC ⟨rfl,N,z⟩;obtain⟨ad,V,ap⟩:=Y3 N (F.o.trans z) (X.o.step z);clear N z;go_wp2
 go_end0
 exact⟨rfl,by simpa only[Zg,Zh,Zi,WIt.text,Zk,Zj]using ad.o,V.o⟩
theorem Au.cellAt {D:Nat→Prop}{w:Yd}{l:List St}{a:Option Addr}{n cap:Nat}(g:Au D w l (.slice a n cap))(i:Nat)(c:i<l.length):∃b d s t e,a=some ⟨b,d,none⟩∧D b∧b<w.heap.size∧
  w.cell? ⟨b,d+i*5,none⟩=some (.int .i64 (Fk l i).kind)∧w.cell? ⟨b,d+i*5+1,none⟩=some (.string (Aa (Fk l i).name))∧w.cell? ⟨b,d+i*5+2,none⟩=some s∧
  w.cell? ⟨b,d+i*5+3,none⟩=some t∧w.cell? ⟨b,d+i*5+4,none⟩=some e∧Ag D w (Fk l i).args s∧Au D w (Fk l i).thn t∧Au D w (Fk l i).els e:=by
 cases g with
 |mk _ _ _ b d sa st se hcap hfit f h0 h1 h2 h3 h4 ea et ee=>
  rcases f with f|⟨f,h⟩
  ·omega
  ·exact⟨b,d,sa i,st i,se i,f,h,Yc _ _ (h0 i c),h0 i c,h1 i c,h2 i c,h3 i c,h4 i c,ea i c,et i c,ee i c⟩
theorem Au.fits {D:Nat→Prop}{w:Yd}{l:List St}{v:Value}(a:Au D w l v):Cv l.length:=by
 cases a with
 |mk _ _ _ b off sa st se hcap hfit=>exact hfit
theorem tW(a:Nat)(c:Mj a):mL (a+1):=by
 intro x hx b bs t s st se w hb ht hp hs hst hse htm hf;obtain⟨k,nm,args,thn,els⟩:=x;have e:=(Er hx).2.1;have d:k=1∨k=2∨k=3∨k=4∨k=5∨k=6∨k=7∨k=8∨k=9∨k=10:=by omega
 rcases d with rfl|rfl|rfl|rfl|rfl|rfl|rfl|rfl|rfl|rfl
 ·exact pst_1 a c nm args thn els hx b bs t s st se w hb ht hp hs hst hse htm hf
 ·exact pst_2 a c nm args thn els hx b bs t s st se w hb ht hp hs hst hse htm hf
 ·cases els with
  |nil=>exact pst_3a a c nm args thn hx b bs t s st se w hb ht hp hs hst hse htm hf
  |cons e0 el=>exact pst_3b a c nm args thn e0 el hx b bs t s st se w hb ht hp hs hst hse htm hf
 ·exact pst_4 a c nm args thn els hx b bs t s st se w hb ht hp hs hst hse htm hf
 ·exact pst_5 a c nm args thn els hx b bs t s st se w hb ht hp hs hst hse htm hf
 ·exact pst_6 a c nm args thn els hx b bs t s st se w hb ht hp hs hst hse htm hf
 ·exact pst_7 a c nm args thn els hx b bs t s st se w hb ht hp hs hst hse htm hf
 ·exact pst_8 a c nm args thn els hx b bs t s st se w hb ht hp hs hst hse htm hf
 ·exact pst_9 a c nm args thn els hx b bs t s st se w hb ht hp hs hst hse htm hf
 ·exact pst_10 a c nm args thn els hx b bs t s st se w hb ht hp hs hst hse htm hf
theorem Ca.frozen {w:Yd}{b:Nat}{a:Bs}{t:Int}(c:Ca w b a t):w.frozen? ⟨b,2,none⟩=false:=by
 obtain⟨p,v,d,_⟩:=c;exact Lib.frozen_of_heap d 2
theorem Ca.set {w:Yd}{b:Nat}{c:Bs}{t:Int}(h:Ca w b c t)(u:Int):Ca (w.setCell ⟨b,2,none⟩ (.int .i64 u)) b c u∧PFr b w (w.setCell ⟨b,2,none⟩ (.int .i64 u)):=by
 obtain⟨p,v,d,i,g⟩:=h;have f:(w.setCell ⟨b,2,none⟩ (ι u)).heap[b]? =some (.cells #[p,v,ι u] 58 (0,0)):=by
  simp [Zr,Array.getElem?_modify,d]
 refine⟨⟨p,v,f,i,?_⟩,⟨rfl,rfl,rfl,by simp [Zr],fun k _ a _=>Yb _ _ _ _ a,.inl (by simp [own,d,f])⟩⟩;refine g.kept (row:=some b) ⟨rfl,rfl,rfl,by simp [Zr],fun k _ a=>Yb _ _ _ _ (fun e=>a (by simp [e]))⟩ (Or.inr ?_);intro e;have:=g.lt b e;omega
theorem gH(A:Nat)(R:mL A):Mj A:=by
 intro l M b s t v w I Q f m az J;obtain⟨aC,sc,rfl⟩:=m.shape;have aw:=m.fits.lt;have F:=f.tab;have H:=f.frozen;have a:=f.set (t+1);obtain⟨af,ae,E,ad,V,Y⟩:=Y6 R Q f m J M;have aa:Yf (Ca (w.setCell ⟨b,2,none⟩ (ι (t+1))) b s ((t+1:Nat):Int)):=by have q:=a.1;show Ca _ _ _ _;rwa[show((t+1:Nat):Int)=(t:Int)+1 from by omega]
 have W:=Za a.2;clear R Q f m J M a;have ax:(0:Int)≤(t:Int):=by omega
 have ay:(t:Int)≤1000:=by omega
 go_enter func46,ntmps46;go_wp2
 go_loopw [5,15] (fun _ B wr=> ∃k:Nat,k≤l.length∧B= ι k∧Ca wr b (s++Ci (t+1) (l.take k)) ((t+1:Nat):Int)∧PFr b w wr) (fun _ B _=>l.length-(Yg B).toNat)
 case atStart=>exact⟨0,Zu _,rfl,by simpa [Ci]using aa.o,W.o⟩
 case round=>
  obtain⟨k,av,rfl,c,L⟩:=hrel;obtain⟨h,g⟩:=Y2 c L;have ar:=c.lt;have F:=c.tab;have H:=c.frozen;have a:=c.set t;clear c L
  by_cases hlt:k<l.length
  ·clear a F H
   obtain⟨an,aA,ap,aq,ao,rfl,ag,au,ai,aj,ak,al,am,y,z,u⟩:=(ad.o.keep (g.o.keeps E.o)).cellAt k hlt;obtain⟨i,j,rfl⟩:=y.shape;obtain⟨n,p,rfl⟩:=z.shape;obtain⟨u1,u2,rfl⟩:=u.shape;have O:Dy A (Fk l k)=true:=Zy.1 Y.o _ (Jy hlt);have N:=Za (eK (t+1) l k hlt);have ah:Yf (Cv ((s++Ci (t+1) (l.take k)).length+(Cy (t+1) (Fk l k)).length)):=by
    refine V.o.mono ?_;have e:=Um (t+1) l (k+1);rw[N.out,Zl]at e;rw[Zl];omega
   obtain⟨T,U,S,Z⟩:=Y4 y z u O;clear y z u O ag;generalize Fk l k=x at*;obtain⟨ab,D,r⟩:=Y3 (h.o.alloc (.cells #[ι x.kind,σ x.name,ρ i x.args j,ρ n x.thn p,ρ u1 x.els u2] 50)) (g.o.trans (PFr.alloc h.o (.cells #[ι x.kind,σ x.name,ρ i x.args j,ρ n x.thn p,ρ u1 x.els u2] 50))) ((PFr.alloc h.o (.cells #[ι x.kind,σ x.name,ρ i x.args j,ρ n x.thn p,ρ u1 x.els u2] 50)).keeps h.o);go_wp2_with fail;refine(af.out x Z.o b _ (t+1) (ρ i x.args j) (ρ n x.thn p) (ρ u1 x.els u2) _ I (ae.o.fr D.o E.o I) ab.o (T.o.keep r.o) (U.o.keep r.o) (S.o.keep r.o) (by omega) ah.out).mono ?_;rintro aB aD ⟨rfl,P,K⟩;obtain⟨ac,X⟩:=Y2 P (D.o.trans K);clear P K ai aj ak al am;go_wp2;go_roundw
   case rel=>exact⟨k+1,by omega,by go_num,by rw[N.out,←Zg];exact ac.o,X.o⟩
   case measure=>simp [Yg];omega
  ·have d:=Za a;clear a
   have G:((t+1:Nat):Int)-1=t:=by omega
   have e:l.take k=l:=Zw (by omega);rw[e]at d;have C:=Za G;clear e G;go_wp2
   go_end0
   refine⟨rfl,?_,?_⟩
   ·first|exact d.o.1|(have q:=d.o.1;simpa [C.out]using q)
   ·first|exact g.o.trans d.o.2|(have q:=g.o.trans d.o.2;simpa [C.out]using q)
theorem nL:∀b,mL b∧Mj b
 |0=>have a:mL 0:=fun x hx=>by simp [Dy]at hx
  ⟨a,gH 0 a⟩
 |b+1=>have a:=tW b (nL b).2;⟨a,gH (b+1) a⟩
theorem pS:Tryz.prog.cellsOf 5=1:=by kernel_rfl
theorem Vt(b:Nat){a:Bs}{t:Int}{w:Yd}(u:Ca w b a t)(d:a≠[]):
  Ye Zb 20 #[.pointer (some ⟨b,0,none⟩)] w fun e w'=>e=.returned (.string (Aa a))∧Yh b w w':=by
 obtain⟨p,v,h,y,f⟩:=u;have l:a.length≠0:=by simpa using d
 obtain⟨g,cap,c,rfl,n,k,s,i,q,z⟩:∃g cap c,v= κ g a.length cap∧b+1≤g∧w.heap[g]? =some (.cells c 5 (0,0))∧a.length≤cap∧cap≤maxLen∧c.size=cap*1∧c.toList.take (a.length*1)=Zo a:=by
  rcases f.2 with⟨_,B⟩|⟨g,cap,c,A,C⟩
  ·exact absurd B l
  ·exact⟨g,cap,c,A,C⟩
 have D:w.drew.cell? ⟨b,1,none⟩=some (κ g a.length cap):=by
  have:w.drew.heap[b]? =some (.cells #[p,κ g a.length cap,ι t] 58 (0,0)):=h;rw[Zt this];rfl
 have E:(Builtin.unsafeSliceData_ #[54] 102 #[κ g a.length cap]).run Zb w.drew=.ok (π g) w.drew:=
  Lib.run_unsafeSliceData_row _ _ _ _ _ _ (by omega)
 have F:(Builtin.unsafeString_ #[102,3] 9 #[π g,ι a.length]).run Zb w.drew=.ok (σ a) (w.drew.freeze ⟨g,0,none⟩ a.length):=by
  refine Lib.run_unsafeString_row w.drew 102 3 9 5 underlying102 pS g c.size (by have r:w.drew.heap[g]? =some (.cells c 5 (0,0)):=k;simp [World.shape?,r]) a d (by omega) (by unfold maxLen at i;omega) ?_;intro j x hx;have:=f.cells (g:=g) rfl j (.int .u8 x.toNat) (by simp [Zo,hx]);exact this
 have m:Yf (b≤g):=by show _≤_;omega
 clear h f k q z i s d l n y;have G:Tryz.prog.follows .mixedOrders=true:=by kernel_rfl
 go_enter func20,ntmps20
 go_wp2
 go_region_o
 all_goals(go_wp2;go_ret;exact⟨rfl,Lib.below_freeze (Below.drew (Below.refl b w)) (p:=⟨g,0,none⟩) m.o _⟩)
theorem Ca.new(w:Yd):Ca (w.alloc (.cells #[.pointer none,.slice none 0 0,.int .i64 0] 58)) w.heap.size [] 0:=by
 refine⟨.pointer none,ν,Array.getElem?_push_size,.inl rfl,rfl,.inl ⟨rfl,rfl⟩⟩
theorem itoa_ne(n:Int):Lib.itoa n≠[]:=by
 unfold Lib.itoa;split
 ·simp
 ·intro b
  have a:=Lib.decDigits_length n.toNat;rw[b]at a;have:=Lib.nDigits_pos n.toNat;simp at a;omega
theorem oW {e:Ex}(d:Cc e=true):Aj e≠[]:=by
 have f:=Rg (Cn d).1;have b:=(Cn d).1;obtain⟨k,a,n,nm,args⟩:=e;simp only[Ex.kind]at f;rcases f with rfl|rfl|rfl|rfl|rfl|rfl|rfl
 ·rw[Qv];exact itoa_ne n
 ·rw[Ru];intro d;subst d;simp [Cl,Gr,Ex.kind,Ex.name,Ak]at b
 ·have c:0<args.length:=by simp [Cl,De,Ex.kind,Ex.args]at b;omega
  rw[Sg a n nm args c];have g:Gr (.mk 3 a n nm args)=true:=by unfold Cl at b;simp only[Zs]at b;exact b.1.1.1.1
  have h:decide (a=17∨a=18∨a=19)=true:=g;have i:a=17∨a=18∨a=19:=of_decide_eq_true h;rcases i with rfl|rfl|rfl<;>simp [As]
 ·have c:1<args.length:=by simp [Cl,De,Ex.kind,Ex.args]at b;omega
  rw[Ry a n nm args c];simp
 ·rw[Ra];simp
 ·have c:0<args.length:=by simp [Cl,De,Ex.kind,Ex.args]at b;omega
  rw[Rt a n nm args c];simp
 ·rw[Rv];simp
theorem Wv(e:Ex){s:Value}(w:Yd)(q:0<w.heap.size)(y:Ev w)(i:Ag (· <w.heap.size) w e.args s)(v:I64 e.n)(d:Cf e=true)(t:Cv (Aj e).length):
  Ye Zb 7 #[exV e s] w fun g w'=>g=.returned (.tuple #[.string (Aa (Aj e)),.int .i64 0])∧Yh w.heap.size w w':=by
 obtain⟨j,sc,rfl⟩:=i.shape;have z:Cc e=true:=by unfold Cf at d;exact((Zs _ _).mp d).2
 have c:Yh w.heap.size w (w.alloc (ξ e (ρ j e.args sc))):=bA;obtain⟨k,I,m,F,H,D,p,l⟩:=Y8 c y i v d t z q;clear c y i v d t z q;go_enter func7,ntmps7;go_wp2_with fail;refine(Mm e (· <w.heap.size) _ (m.o.old k.o)).mono ?_;rintro g a ⟨rfl,c⟩;rw[H.o];have f:w.heap.size<a.heap.size:=by have:=c.size;simp at this;omega
 have A:=Za (k.o.trans (c.mono (by simp)));have J:a.cell? ⟨w.heap.size,0,none⟩=some (ι e.kind):=Ac c (by simp);have K:a.cell? ⟨w.heap.size,1,none⟩=some (ι e.op):=Ac c (by simp);have L:a.cell? ⟨w.heap.size,2,none⟩=some (ι e.n):=Ac c (by simp);have M:a.cell? ⟨w.heap.size,3,none⟩=some (σ e.name):=Ac c (by simp);have N:a.cell? ⟨w.heap.size,4,none⟩=some (ρ j e.args sc):=Ac c (by simp);clear c;go_wp2_with fail;have h:Yf (Yh w.heap.size w (a.alloc (.cells #[.pointer none,ν,ι 0] 58))):=A.o.alloc (by omega) _;have E:Yf (Ag (· <a.heap.size) (a.alloc (.cells #[.pointer none,ν,ι 0] 58)) e.args (ρ j e.args sc)):=(m.o.old h.o).mono (fun b O=>Nat.lt_trans O f);refine(Vv _ e (Nat.le_refl _) a.heap.size [] 0 _ _ (Nat.lt_trans l.o f) (I.o.keep (h.o.block _ l.o)) (Ca.new a) E.o F.o p.o (by simpa using D.o)).mono ?_;rintro g w2 ⟨rfl,x,u⟩;obtain⟨G,B⟩:=Y2 x (h.o.trans ((u.below (Ca.new a)).mono (Nat.le_of_lt f)));clear x u J K L M N;go_wp2_with fail;refine(Vt _ G.o (by simpa using oW p.o)).mono ?_;rintro g P ⟨rfl,r⟩;have C:=Za (B.o.trans (r.mono (Nat.le_of_lt f)));clear r;go_wp2
 go_ret2
 exact⟨by simp,C.o⟩
def Kz(p:Bs):Bs:=[105,110,116,32]++p
def Gh(l:List Bs):Bs:=l.flatMap fun x=>ln 1 [[105,110,116,32],x,[59]]
def Lj(f:Fu):Bs:=[105,110,116,32]++(f.name++[40])++(Bm (f.params.map Kz)++([41,32,123,10]++(Gh f.locals++(Ci 1 f.body++ln 0 [[125]]))))
theorem dU(l:List Bs)(k:Nat)(a:k<l.length):Gh (l.take (k+1))=Gh (l.take k)++ln 1 [[105,110,116,32],l.getD k [],[59]]:=by
 unfold Gh;rw[Zv a,Zq];simp [Zp a]
theorem Ur(l:List Bs)(k:Nat):(Gh (l.take k)).length≤(Gh l).length:=by
 have e:Gh l=Gh (l.take k)++Gh (l.drop k):=by unfold Gh;rw[←Zq,Zx]
 rw[e];simp
def Sp(a:Ar):Bs:=ln 0 [[105,110,116,32],a.name,[91],Lib.itoa a.size,[93,59]]
def Fq(l:List Ar):Bs:=l.flatMap Sp
def Gi(l:List Fu):Bs:=l.flatMap Lj
def Jw(p:Pr):Bs:=Fq p.arrays++Gi p.funcs
theorem rK(f:Bs→Bs)(l:List Bs)(k:Nat)(a:k<l.length):(l.take (k+1)).map f=(l.take k).map f++[f (l.getD k [])]:=by
 rw[Zv a,List.map_append,Zh,Zi];simp [Zp a]
theorem eY(p:Bs)(c b:Nat){a:Bs}(t:Int){w:Yd}(l:w.cell? ⟨c,0,none⟩=some (.pointer (some ⟨b,0,none⟩)))(f:Ca w b a t)(d:Cv (a.length+(Kz p).length)):
  Ye Zb 45 #[.string (Aa p),.pointer (some ⟨c,0,none⟩)] w (Kh w b a t (Kz p)):=by
 obtain⟨j,h⟩:=Y2 f d;clear f d;go_enter func45,ntmps45;go_wp2_with fail;refine(put2 [105,110,116,32] p b a t _ (by simp) j.o h.o).mono ?_;rintro m n ⟨rfl,g,e⟩;obtain⟨k,i⟩:=Y2 g e;clear g e;go_wp2
 go_end0
 exact⟨rfl,k.o,i.o⟩
theorem oZ(l:List Bs)(m b:Nat){d:Bs}(t:Int){s:Value}{w:Yd}(I:Loc w b m [.pointer (some ⟨b,0,none⟩)])(M:Ca w b d t)(p:Bb (· <b) w l s)(J:Cv (d.length+(Bm (l.map Kz)).length)):
  Ye Zb 44 #[.pointer (some ⟨b,0,none⟩),s,.func (.func 45) #[] #[.pointer (some ⟨m,0,none⟩)]] w (Kh w b d t (Bm (l.map Kz))):=by
 obtain⟨S,G,E⟩:=Y3 I M J;obtain⟨af,sc,rfl⟩:=p.shape;have ad:=p.fits.lt;have R:=Za p;clear I p J M;go_enter func44,ntmps44;go_wp2
 go_loopw [6,7,10] (fun _ _ D wr=> ∃k:Nat,k≤l.length∧D= ι k∧Ca wr b (d++Bm ((l.take k).map Kz)) t∧PFr b w wr) (fun _ _ D _=>l.length-(Yg D).toNat)
 case atStart=>exact⟨0,Zu _,rfl,by simpa [Bm]using G.o,PFr.refl _ _⟩
 case round=>
  obtain⟨k,aa,rfl,C,z⟩:=hrel;obtain⟨x,j⟩:=Y2 C z;have Y:=C.lt;have H:=Za (S.o.step z);clear C z
  by_cases hlt:k<l.length
  ·obtain⟨X,ae,rfl,U,Z,c⟩:=Te (Bb.keep (j.o.keeps G.o) R.o) k hlt
   obtain⟨n,h⟩:=Y2 (rK Kz l k hlt) (Nx (l.map Kz) (k+1));rw[←List.map_take,n.out,Le]at h;clear U;generalize l.getD k []=e at c n h;have a:=H.o.cell 0 (by simp);simp only[Zc]at a
   by_cases hk0:k=0
   ·have ab:(k:Int)≤0:=by omega
    have B:(l.take k).map Kz=[]:=by rw[hk0];simp
    rw[if_pos B]at h;have F:=Za B;have V:Yf (Cv ((d++Bm ((l.take k).map Kz)).length+(Kz e).length)):=E.o.mono (by have:=h.out;rw[F.o];simp [Bm];exact this);have A:Yf (Bm ((l.take (k+1)).map Kz)=Bm ((l.take k).map Kz)++Kz e):=by show _=_;rw[n.out,F.o];simp [Bm]
    clear hk0 B;have r:=Za a;clear a;go_wp2_with fail;refine(eY e m b t r.out x.o V.out).mono ?_;rintro O W ⟨rfl,i,g⟩;obtain⟨v,u⟩:=Y2 i (j.o.trans g);clear i g c;go_wp2;go_roundw
    case rel=>exact⟨k+1,by omega,by go_num,by have q:=v.o;rw[A.out];simpa using q,u.o⟩
    case measure=>simp [Yg];omega
   ·have ac:(0:Int)<k:=by omega
    have L:Yf ((l.take k).map Kz≠[]):=by
     intro f;rw[List.map_eq_nil_iff,List.take_eq_nil_iff]at f;rcases f with f|f
     ·exact hk0 f
     ·rw[f]at hlt;simp at hlt
    have K:Yf (Cv ((d++Bm ((l.take k).map Kz)).length+([44,32]:Bs).length+(Kz e).length)):=E.o.mono (by have:=h.out;rw[if_neg L.out]at this;simp at this;simp;omega);have A:Yf (Bm ((l.take (k+1)).map Kz)=Bm ((l.take k).map Kz)++[44,32]++Kz e):=by show _=_;rw[n.out,Le,if_neg L.out]
    clear hk0 a;go_wp2_with fail;refine(Rk [44,32] b _ t _ rfl x.o (K.out.mono (by omega))).mono ?_;rintro O w2 ⟨rfl,N,y⟩;obtain⟨Q,P,T⟩:=Y3 N (j.o.trans y) (H.o.step y);clear N y c;have a:=T.o.cell 0 (by simp);simp only[Zc]at a;have r:=Za a;clear a;go_wp2_with fail;refine(eY e m b t r.out Q.o (K.out.mono (by simp;omega))).mono ?_;rintro O W ⟨rfl,i,g⟩;obtain⟨v,u⟩:=Y2 i (P.o.trans g);clear i g;go_wp2;go_roundw
    case rel=>exact⟨k+1,by omega,by go_num,by have q:=v.o;rw[A.out];simpa using q,u.o⟩
    case measure=>simp [Yg];omega
  ·go_wp2
   go_end0
   exact⟨rfl,by have e:l.take k=l:=Zw (by omega);have q:=x.o;rwa[e]at q,j.o⟩
abbrev fuV(f:Fu)(p l bd:Value):Value:=.agg #[.string (Aa f.name),p,l,bd]
theorem Loc.alloc {w:Yd}{b a:Nat}{c:List Value}{e:Bs}{t:Int}(f:Loc w b a c)(g:Ca w b e t)(d:Obj):Loc (w.alloc d) b a c:=f.step (PFr.alloc g d)
theorem eD(f:Fu)(b:Nat){t:Bs}(pv lv ag:Value){w:Yd}(u:0<b)(az:Ev w)(z:Ca w b t 0)(T:Bb (· <b) w f.params pv)(J:Bb (· <b) w f.locals lv)(R:Au (· <b) w f.body ag)
  (ap:f.body.all (Dy 40)=true) (S:Cv (t.length+(Lj f).length)):
  Ye Zb 19 #[.pointer (some ⟨b,0,none⟩),fuV f pv lv ag] w (Kh w b t 0 (Lj f)):=by
 obtain⟨nm,h,a,i⟩:=f;obtain⟨pa,p,rfl⟩:=T.shape;obtain⟨m,n,rfl⟩:=J.shape;obtain⟨j,l,rfl⟩:=R.shape;have bn:=J.fits.lt;unfold Lj at S ⊢;unfold fuV;dsimp only at*;have q1:=z.alloc (.cells #[π b] 52);have aC:=PFr.alloc z (.cells #[π b] 52);have aB:=Loc.new z [π b] 52;obtain⟨aT,aL,aD,Y⟩:=Y4 (q1.alloc (.cells #[σ nm,ρ pa h p,ρ m a n,ρ j i l] 48)) (aC.trans (PFr.alloc q1 (.cells #[σ nm,ρ pa h p,ρ m a n,ρ j i l] 48))) (aB.alloc q1 (.cells #[σ nm,ρ pa h p,ρ m a n,ρ j i l] 48)) (Loc.new q1 [σ nm,ρ pa h p,ρ m a n,ρ j i l] 48);have aA:(w.alloc (.cells #[π b] 52)).heap.size=w.heap.size+1:=by simp
 rw[aA]at Y;obtain⟨O,r,bb,aR,aK,aS,q⟩:=Y7 az z T J R ap S;clear az z T J R ap S q1 aC aB aA;go_enter func19,ntmps19;go_wp2_with fail;have am:w.heap.size+1+1=((w.alloc (.cells #[π b] 52)).alloc (.cells #[σ nm,ρ pa h p,ρ m a n,ρ j i l] 48)).heap.size:=by simp
 generalize bf:w.heap.size+1=bd at*;clear bf;generalize w.heap.size=af at*;generalize (w.alloc (.cells #[π b] 52)).alloc (.cells #[σ nm,ρ pa h p,ρ m a n,ρ j i l] 48)=bc at*;refine(put3 [105,110,116,32] nm [40] _ b t 0 bc am aT.o q.o.left).mono ?_;clear am;rintro A w2 ⟨rfl,ar,E⟩;obtain⟨aV,ad,K,Z⟩:=Y4 ar (aL.o.trans E) (aD.o.step E) (Y.o.step E);clear ar E;have d:=K.o.cell 0 (by simp);have y:=Z.o.cell 1 (by simp);simp only[Zc,Zd]at d y;go_wp2_with fail;refine(oZ h af b 0 K.o aV.o (Bb.keep (ad.o.keeps r.o) bb.o) q.o.right.left).mono ?_;rintro A bh ⟨rfl,au,F⟩;obtain⟨aW,aN,V,aa⟩:=Y4 au (ad.o.trans F) (K.o.step F) (Z.o.step F);clear au F d y;have d:=V.o.cell 0 (by simp);have y:=aa.o.cell 1 (by simp);simp only[Zc,Zd]at d y;go_wp2_with fail;refine(Rk [41,32,123,10] b _ 0 bh rfl aW.o q.o.right.right.left).mono ?_;rintro A bq ⟨rfl,av,G⟩;obtain⟨N,aO,W,ab⟩:=Y4 av (aN.o.trans G) (V.o.step G) (aa.o.step G);clear av G d y;have d:=W.o.cell 0 (by simp);have ah:=ab.o.cell 2 (by simp);simp only[Zc,Zd]at d ah
 have P:=N.o.tab;have Q:=N.o.frozen;have g:=N.o.set 1;obtain⟨aX,aP,aE,ac⟩:=Y4 g.1 (aO.o.trans g.2) (W.o.step g.2) (ab.o.step g.2);clear g;have ai:=ac.o.cell 2 (by simp);simp only[Zc,Zd]at ai;go_wp2
 go_loopw [5,25] (fun _ U wr=> ∃k:Nat,k≤a.length∧U= ι k∧Ca wr b ((t++([105,110,116,32]++(nm++[40]))++Bm (h.map Kz)++[41,32,123,10])++Gh (a.take k)) 1∧PFr b w wr∧Loc wr b af [π b]∧Loc wr b bd [σ nm,ρ pa h p,ρ m a n,ρ j i l]) (fun _ U _=>a.length-(Yg U).toNat)
 case atStart=>exact⟨0,Zu _,rfl,by simpa [Gh]using aX.o,aP.o,aE.o,ac.o⟩
 case round=>
  clear P Q d ah ai;obtain⟨k,bm,rfl,ay,an,ak,al⟩:=hrel;obtain⟨v,C,B,L⟩:=Y4 ay an ak al;clear ay an ak al
  by_cases hlt:k<a.length
  ·obtain⟨bk,bo,rfl,be,bl,c⟩:=Te (Bb.keep (C.o.keeps r.o) aR.o) k hlt
   have ao:=Za (dU a k hlt);have bg:Yf (Cv (((t++([105,110,116,32]++(nm++[40]))++Bm (h.map Kz)++[41,32,123,10])++Gh (a.take k)).length+(ln 1 [[105,110,116,32],a.getD k [],[59]]).length)):=by
    refine q.o.right.right.right.left.mono ?_;have e:=Ur a (k+1);rw[ao.out,Zl]at e;simp only[Zl]at e ⊢;omega
   clear be;generalize a.getD k []=x at*;have d:=B.o.cell 0 (by simp);simp only[Zc,Zd]at d;go_wp2_with fail;refine(Fp [.s [105,110,116,32],.s x,.s [59]] b 1 _ (by simp) u (O.o.fr C.o r.o u) v.o (.s (.s (.s .nil))) (by omega) bg.out (by simp)).mono ?_;rintro A br ⟨rfl,aw,H⟩;obtain⟨aY,aQ,aF,aH⟩:=Y4 aw (C.o.trans H) (B.o.step H) (L.o.step H);clear aw H c d;go_wp2;go_roundw
   case rel=>exact⟨k+1,by omega,by go_num,by rw[ao.out,←Zg];exact aY.o,aQ.o,aF.o,aH.o⟩
   case measure=>simp [Yg];omega
  ·have e:a.take k=a:=Zw (by omega)
   rw[e]at v;clear e;have d:=B.o.cell 0 (by simp);have aj:=L.o.cell 3 (by simp);simp only[Zc,Zd]at d aj;have P:=v.o.tab;have Q:=v.o.frozen;have g:=v.o.set 0;obtain⟨aZ,M,aG,aI⟩:=Y4 g.1 (C.o.trans g.2) (B.o.step g.2) (L.o.step g.2);clear g;go_wp2_with fail;refine((nL 40).2 i aS.o b _ 0 _ _ u (O.o.fr M.o r.o u) aZ.o (aK.o.keep (M.o.keeps r.o)) (by omega) q.o.right.right.right.right.left).mono ?_;rintro A bs ⟨rfl,ax,I⟩;obtain⟨ba,ae,X,aJ⟩:=Y4 ax (M.o.trans I) (aG.o.step I) (aI.o.step I);clear ax I d aj P Q;have d:=X.o.cell 0 (by simp);simp only[Zc,Zd]at d;go_wp2_with fail;refine(Fp [.s [125]] b 0 _ (by simp) u (O.o.fr ae.o r.o u) ba.o (.s .nil) (by omega) q.o.right.right.right.right.right (by simp)).mono ?_;rintro A bp ⟨rfl,aq,D⟩;obtain⟨aU,aM,bi,bj⟩:=Y4 aq (ae.o.trans D) (X.o.step D) (aJ.o.step D);clear aq D;go_wp2
   go_end0
   exact⟨rfl,by simpa [WIt.text]using aU.o,aM.o⟩
theorem dP(l:List Ar)(k:Nat)(a:k<l.length):Fq (l.take (k+1))=Fq (l.take k)++Sp (Em l k):=by
 unfold Fq;rw[Zv a,Zq];simp [Em,Zp a]
theorem Uq(l:List Ar)(k:Nat):(Fq (l.take k)).length≤(Fq l).length:=by
 have e:Fq l=Fq (l.take k)++Fq (l.drop k):=by unfold Fq;rw[←Zq,Zx]
 rw[e];simp
theorem dV(l:List Fu)(k:Nat)(a:k<l.length):Gi (l.take (k+1))=Gi (l.take k)++Lj (Bc l k):=by
 unfold Gi;rw[Zv a,Zq];simp [Bc,Zp a]
theorem Ul(l:List Fu)(k:Nat):(Gi (l.take k)).length≤(Gi l).length:=by
 have e:Gi l=Gi (l.take k)++Gi (l.drop k):=by unfold Gi;rw[←Zq,Zx]
 rw[e];simp
theorem kL(p:Pr)(aO aP:Value)(w:Yd)(aH:0<w.heap.size)(aN:Ev w)(L:Cd (· <w.heap.size) w p.arrays aO)(O:Bw (· <w.heap.size) w p.funcs aP)(B:Eh p=true)
  (aM:∀b ah,Ca ah b (Jw p) 0→Ye Zb 20 #[.pointer (some ⟨b,0,none⟩)] ah fun e w'=>e=.returned (.string (Aa (Jw p)))∧Yh b ah w') (r:Cv (Jw p).length):
  Ye Zb 5 #[.agg #[aO,aP]] w fun t w'=>t=.returned (.tuple #[.string (Aa (Jw p)),.int .i64 0])∧Yh w.heap.size w w':=by
 obtain⟨H,I,rfl⟩:=L.shape;obtain⟨J,K,rfl⟩:=O.shape;have bz:=L.fits.lt;have bB:=O.fits.lt;have i:Yh w.heap.size w (w.alloc (.cells #[ρ H p.arrays I,ρ J p.funcs K] 30)):=bA;have ap:(∀a,a∈p.arrays→Cz a=true)∧∀f,f∈p.funcs→Dr f=true:=by unfold Eh at B;rw[Zs,Zy,Zy]at B;exact B
 obtain⟨X,W,Y,ba,bb,bc,aE,aC,aX⟩:=Y9 i L O B ap.1 ap.2 aN aH aM;have aA:=Za r;clear i L O B ap aN aH aM r;go_enter func5,ntmps5;go_wp2_with fail;refine(bT p (· <w.heap.size) (Cd.old X.o W.o) (Bw.old X.o Y.o)).mono ?_;rintro t c ⟨rfl,i⟩;rw[ba.o];have C:w.heap.size<c.heap.size:=by have:=i.size;simp at this;omega
 have y:c.cell? ⟨w.heap.size,0,none⟩=some (ρ H p.arrays I):=Ac i (by simp);have n:c.cell? ⟨w.heap.size,1,none⟩=some (ρ J p.funcs K):=Ac i (by simp);have aT:=Za (X.o.trans (i.mono (by simp)));clear i;have ak:Yh c.heap.size c (c.alloc (.cells #[.pointer none,ν,ι 0] 58)):=bA;have D:Yf (Yh w.heap.size w (c.alloc (.cells #[.pointer none,ν,ι 0] 58))):=aT.o.alloc (by omega) _;have g:=Za (Ca.new c);have bp:Yf ((c.alloc (.cells #[.pointer none,ν,ι 0] 58)).cell? ⟨w.heap.size,0,none⟩=some (ρ H p.arrays I)):=Ac ak y;have aR:Yf ((c.alloc (.cells #[.pointer none,ν,ι 0] 58)).cell? ⟨w.heap.size,1,none⟩=some (ρ J p.funcs K)):=Ac ak n;have ag:Yf (Ev (c.alloc (.cells #[.pointer none,ν,ι 0] 58))):=aE.o.keep (D.o.block _ aC.o);have aS:Yf (Cd (· <c.heap.size) (c.alloc (.cells #[.pointer none,ν,ι 0] 58)) p.arrays (ρ H p.arrays I)):=(Cd.old D.o W.o).mono (fun b ai=>Nat.lt_trans ai C);have aV:Yf (Bw (· <c.heap.size) (c.alloc (.cells #[.pointer none,ν,ι 0] 58)) p.funcs (ρ J p.funcs K)):=(Bw.old D.o Y.o).mono (fun b ai=>Nat.lt_trans ai C);have v:Yf (0<c.heap.size):=Nat.lt_trans aC.o C;clear ak W Y aE;go_wp2_with fail;generalize c.alloc (.cells #[.pointer none,ν,ι 0] 58)=aF at*
 generalize c.heap.size=b at*
 go_loopw [6,17] (fun _ au wr=> ∃k:Nat,k≤p.arrays.length∧au= ι k∧Ca wr b (Fq (p.arrays.take k)) 0∧PFr b aF wr) (fun _ au _=>p.arrays.length-(Yg au).toNat)
 case atStart=>exact⟨0,Zu _,rfl,by simpa [Fq]using g.o,PFr.refl _ _⟩
 case round=>
  obtain⟨k,bv,rfl,an,aL⟩:=hrel;obtain⟨m,u⟩:=Y2 an aL;have bi:=an.lt;clear an aL y n
  by_cases hlt:k<p.arrays.length
  ·obtain⟨bg,bm,rfl,aj,bj,ax,ay⟩:=Cd.cellAt (Cd.keep (u.o.keeps g.o) aS.o) k hlt
   have z:=Za (dP p.arrays k hlt);have d:=bb.o _ (sO hlt);have r:Yf (Cv ((Fq (p.arrays.take k)).length+(Sp (Em p.arrays k)).length)):=by
    refine aA.o.mono ?_;have e:=Uq p.arrays (k+1);rw[z.out,Zl]at e;unfold Jw;rw[Zl];omega
   clear aj;generalize Em p.arrays k=x at*;have bl:Yf (I64 x.size):=by
    unfold Cz at d;rw[Zs]at d;have:=of_decide_eq_true d.2;show _∧_;omega
   clear d;obtain⟨F,E,ad⟩:=Y3 (m.o.alloc (.cells #[σ x.name,ι x.size] 60)) (u.o.trans (PFr.alloc m.o (.cells #[σ x.name,ι x.size] 60))) (Loc.new m.o [σ x.name,ι x.size] 60);have aJ:b<(wr.alloc (.cells #[σ x.name,ι x.size] 60)).heap.size:=F.o.lt;go_wp2_with fail;generalize wr.alloc (.cells #[σ x.name,ι x.size] 60)=G at*;generalize wr.heap.size=h at*;clear ax ay;have y:=ad.o.cell 0 (by simp);have n:=ad.o.cell 1 (by simp);simp only[Zc,Zd]at y n;have bs:h<G.heap.size:=Yc _ _ y;have N:Yh G.heap.size G G.drew:=(Below.refl _ _).drew;obtain⟨af,aB,aW⟩:=Y3 (F.o.old N) (E.o.trans (PFr.of_below N aJ)) (ad.o.step (PFr.of_below N aJ));have be:=Za (ag.o.fr aB.o g.o v.o);clear N
   go_region_held3 (fun w'=>w'.cell? ⟨h,0,none⟩=some (σ x.name)∧w'.cell? ⟨h,1,none⟩=some (ι x.size)) (first|(simp [*,Zf];done)|go_keep) (first
    |(go_at_call 18;refine(gR x.size bl.out _ be.o).mono ?_;rintro t V ⟨al,M⟩;subst al;obtain⟨aY,az,ac⟩:=Y3 (af.o.old M) (aB.o.trans (PFr.of_below M af.o.lt)) (aW.o.step (PFr.of_below M af.o.lt));have bh:V.cell? ⟨h,0,none⟩=some (σ x.name):=ac.o.cell 0 (by simp);have bq:V.cell? ⟨h,1,none⟩=some (ι x.size):=ac.o.cell 1 (by simp);have br:h<V.heap.size:=Yc _ _ bh;clear M)
    |(go_at_call 17;refine(Fp [.s [105,110,116,32],.s x.name,.s [91],.s (Lib.itoa x.size),.s [93,59]] b 0 V (by simp) v.o (ag.o.fr az.o g.o v.o) aY.o (.s (.s (.s (.s (.s .nil))))) (by omega) r.out (by simp)).mono ?_;rintro t aw ⟨al,A,q⟩;subst al;obtain⟨ae,Z,aD⟩:=Y3 A (az.o.trans q) (ac.o.step q);have bw:aw.cell? ⟨h,0,none⟩=some (σ x.name):=aD.o.cell 0 (by simp);have bx:aw.cell? ⟨h,1,none⟩=some (ι x.size):=aD.o.cell 1 (by simp);clear A q))
   go_wp2;go_roundw
   case rel=>exact⟨k+1,by omega,by go_num,by rw[z.out];exact ae.o,Z.o⟩
   case measure=>simp [Yg];omega
  ·have e:p.arrays.take k=p.arrays:=Zw (by omega)
   rw[e]at m;clear e;have aG:=u.o.keeps g.o;have n:=aG _ _ _ C aR.out;clear aG;go_wp2_with fail;clear n
   go_loopw [8,38] (fun _ av aQ=> ∃k:Nat,k≤p.funcs.length∧av= ι k∧Ca aQ b (Fq p.arrays++Gi (p.funcs.take k)) 0∧PFr b aF aQ) (fun _ av _=>p.funcs.length-(Yg av).toNat)
   case atStart=>exact⟨0,Zu _,rfl,by simpa [Gi]using m.o,u.o⟩
   case round=>
    obtain⟨j,bu,rfl,am,aK⟩:=hrel;obtain⟨l,aa⟩:=Y2 am aK;have bt:=am.lt;clear am aK m u bi
    by_cases hlj:j<p.funcs.length
    ·obtain⟨bg,bm,pv,bD,bC,rfl,aj,bj,ax,ay,bn,bo,ao,ar,aq⟩:=Bw.cellAt (Bw.keep (aa.o.keeps g.o) aV.o) j hlj
     obtain⟨P,Q,rfl⟩:=ao.shape;obtain⟨T,U,rfl⟩:=ar.shape;obtain⟨R,S,rfl⟩:=aq.shape;have z:=Za (dV p.funcs j hlj);have d:=bc.o _ (Xg hlj);have r:Yf (Cv ((Fq p.arrays++Gi (p.funcs.take j)).length+(Lj (Bc p.funcs j)).length)):=by
      refine aA.o.mono ?_;have e:=Ul p.funcs (j+1);rw[z.out,Zl]at e;unfold Jw;rw[Zl,Zl];omega
     obtain⟨aZ,bf,bd⟩:=Y3 ao ar aq;clear aj ao ar aq;generalize Bc p.funcs j=x at*;have bk:Yf (x.body.all (Dy 40)=true):=by
      unfold Dr at d;rw[Zs]at d;exact d.2
     clear d;obtain⟨F,E,ab⟩:=Y3 (l.o.alloc (.cells #[σ x.name,ρ P x.params Q,ρ T x.locals U,ρ R x.body S] 48)) (aa.o.trans (PFr.alloc l.o (.cells #[σ x.name,ρ P x.params Q,ρ T x.locals U,ρ R x.body S] 48))) ((PFr.alloc l.o (.cells #[σ x.name,ρ P x.params Q,ρ T x.locals U,ρ R x.body S] 48)).keeps l.o);go_wp2_with fail;refine(eD x b (ρ P x.params Q) (ρ T x.locals U) (ρ R x.body S) v.o (ag.o.fr E.o g.o v.o) F.o (Bb.keep ab.o aZ.o) (Bb.keep ab.o bf.o) (bd.o.keep ab.o) bk.out r.out).mono ?_;rintro t aw ⟨rfl,A,q⟩;obtain⟨ae,Z⟩:=Y2 A (E.o.trans q);clear A q ax ay bn bo;go_wp2;go_roundw
     case rel=>exact⟨j+1,by omega,by go_num,by rw[z.out,←Zg];exact ae.o,Z.o⟩
     case measure=>simp [Yg];omega
    ·have e:p.funcs.take j=p.funcs:=Zw (by omega)
     rw[e]at l;clear e;go_wp2_with fail;refine(aX.o b _ l.o).mono ?_;rintro t bE ⟨rfl,aI⟩;have aU:=Za (D.o.trans (((aa.o.below g.o).trans aI).mono (Nat.le_of_lt C)));clear aI;go_wp2
     go_ret2
     exact⟨rfl,aU.o⟩
end Go.Proofs.YthcpopmmlneneaaGreatDoor
