/-
  The texts of expressions and programs, as plain functions. No program in sight.
-/
import Derived.Test.YthcpopmmlneneaaGreatDoorPt00
import Derived.Lib.ItoaNum
set_option linter.unusedVariables false
set_option linter.unusedSimpArgs false
namespace Go.Proofs.YthcpopmmlneneaaGreatDoor
open Go.RowKit
set_option maxHeartbeats 20000000
set_option maxRecDepth 100000
def Bm:List Bs→Bs
 |[]=>[]
 |x::l=>x++l.flatMap (fun y=>[44,32]++y)
theorem Le(l:List Bs)(y:Bs):Bm (l++[y])=if l=[]then y else Bm l++[44,32]++y:=by
 cases l with
 |nil=>simp [Bm]
 |cons x l=>simp [Bm]
def Fm(e:Ex)(b:Int)(a:Bs):Bs:=if e.kind=4∧Ao e.op<b then [40]++a++[41]else a
def Gg(k b n:Int)(nm:Bs)(args:List Ex)(a:List Bs):Bs:=
 if k=1 then Lib.itoa n
 else if k=2 then nm
 else if k=3 then As b++Fm (Bx args 0) 9 (a.getD 0 [])
 else if k=4 then Fm (Bx args 0) (Ao b) (a.getD 0 [])++([32]++As b++[32])++Fm (Bx args 1) (Ao b+1) (a.getD 1 [])
 else if k=5 then nm++[40]++Bm a++[41]
 else if k=6 then nm++[91]++a.getD 0 []++[93]
 else if k=7 then [114,101,97,100,40,41]else []
mutual
def Aj:Ex→Bs
 |.mk k o n nm args=>Gg k o n nm args (Ve args)
def Ve:List Ex→List Bs
 |[]=>[]
 |x::l=>Aj x::Ve l
end
theorem Xh:∀l,Ve l=l.map Aj
 |[]=>rfl
 |x::l=>by simp [Ve,Xh l]
theorem Hl(e:Ex):Aj e=Gg e.kind e.op e.n e.name e.args (e.args.map Aj):=by
 cases e;rw[Aj,Xh];rfl
def Et(e:Ex)(a:Int):Bs:=Fm e a (Aj e)
theorem Sa {l:List Ex}{i:Nat}(a:i<l.length):(l.map Aj).getD i []=Aj (Bx l i):=by
 simp [Bx,List.getElem?_eq_getElem a]
theorem Qv(a n:Int)(nm:Bs)(args:List Ex):Aj (.mk 1 a n nm args)=Lib.itoa n:=by
 rw[Hl];show Gg 1 a n nm args (args.map Aj)=_;unfold Gg;rw[if_pos rfl]
theorem Ru(a n:Int)(nm:Bs)(args:List Ex):Aj (.mk 2 a n nm args)=nm:=by
 rw[Hl];show Gg 2 a n nm args (args.map Aj)=_;unfold Gg;rw[if_neg (by decide),if_pos rfl]
theorem Sg(a n:Int)(nm:Bs)(args:List Ex)(b:0<args.length):Aj (.mk 3 a n nm args)=As a++Et (Bx args 0) 9:=by
 rw[Hl];show Gg 3 a n nm args (args.map Aj)=_;unfold Gg;rw[if_neg (by decide),if_neg (by decide),if_pos rfl,Sa b];unfold Et;rfl
theorem Ry(a n:Int)(nm:Bs)(args:List Ex)(b:1<args.length):Aj (.mk 4 a n nm args)=Et (Bx args 0) (Ao a)++([32]++(As a++[32]))++Et (Bx args 1) (Ao a+1):=by
 rw[Hl];show Gg 4 a n nm args (args.map Aj)=_;unfold Gg;rw[if_neg (by decide),if_neg (by decide),if_neg (by decide),if_pos rfl,Sa (by omega),Sa b,List.append_assoc [32]];unfold Et;rfl
theorem Ra(a n:Int)(nm:Bs)(args:List Ex):Aj (.mk 5 a n nm args)=nm++[40]++Bm (args.map Aj)++[41]:=by
 rw[Hl];show Gg 5 a n nm args (args.map Aj)=_;unfold Gg;rw[if_neg (by decide),if_neg (by decide),if_neg (by decide),if_neg (by decide),if_pos rfl]
theorem Rt(a n:Int)(nm:Bs)(args:List Ex)(b:0<args.length):Aj (.mk 6 a n nm args)=nm++[91]++Aj (Bx args 0)++[93]:=by
 rw[Hl];show Gg 6 a n nm args (args.map Aj)=_;unfold Gg;rw[if_neg (by decide),if_neg (by decide),if_neg (by decide),if_neg (by decide),if_neg (by decide),if_pos rfl,Sa b]
theorem Rv(a n:Int)(nm:Bs)(args:List Ex):Aj (.mk 7 a n nm args)=[114,101,97,100,40,41]:=by
 rw[Hl];show Gg 7 a n nm args (args.map Aj)=_;unfold Gg;rw[if_neg (by decide),if_neg (by decide),if_neg (by decide),if_neg (by decide),if_neg (by decide),if_neg (by decide),if_pos rfl]
end Go.Proofs.YthcpopmmlneneaaGreatDoor
