/-
  tree.only, tree.well and tree.RightExpr, of every expression in memory. No condition beside the cells.
-/
import Derived.Test.YtfhbinbjkpfedaaGreatDoorTT00
import Derived.Lib.ItoaNum
import Derived.Laws.RangeAny
import Derived.Lib.Strings
import Derived.Lib.Slices
import Derived.Lib.Walk
import Derived.Lib.Builder
import Derived.Lib.AppendStr
import Derived.Lib.UnsafeStr
import Derived.Lib.MakeNoZero
import Derived.Laws.Externs
set_option linter.unusedVariables false
set_option linter.unusedSimpArgs false
namespace Go.Proofs.YtfhbinbjkpfedaaGreatDoor
open Go.RowKit Go.Proofs.Tryz
set_option maxHeartbeats 20000000
set_option maxRecDepth 100000
open Go.Proofs.Tryz renaming prog→Za,func94→Zh,ntmps94→Zi,results94→Zj
open Go.Lib renaming hid→Zb,byteCells→Zo,cell_of_heap→Zr
open World renaming cell?_alloc_lt→Zc,setCell→Zs
open Below renaming refl→Zd,setCell→Zk,alloc→Zn,drew→Zp,heap_setCell→Zu
open List renaming setIfInBounds_toArray→Ze,set_cons_zero→Zf,set_cons_succ→Zg,getElem?_eq_getElem→Zm,flatMap_append→Zt,getElem_toArray→Zv,getElem_cons_succ→Zw,getElem_cons_zero→Zx,take_succ_eq_append_getElem→Zy,getD_eq_getElem?_getD→Ya
open Int renaming reduceEq→Zl
open Nat renaming le_refl→Zq,lt_succ_iff_lt_or_eq→Zz
def Ba:List Bs→Bs
 |[]=>[]
 |x::l=>x++l.flatMap (fun y=>[44,32]++y)
theorem Gr(l:List Bs)(y:Bs):Ba (l++[y])=if l=[]then y else Ba l++[44,32]++y:=by
 cases l with
 |nil=>simp [Ba]
 |cons x l=>simp [Ba]
def Cn(e:Ex)(level:Int)(txt:Bs):Bs:=if e.kind=4∧Au e.op<level then [40]++txt++[41]else txt
def Eu(k o n:Int)(nm:Bs)(args:List Ex)(ts:List Bs):Bs:=
 if k=1 then Lib.itoa n
 else if k=2 then nm
 else if k=3 then Ck o++Cn (Ao args 0) 9 (ts.getD 0 [])
 else if k=4 then Cn (Ao args 0) (Au o) (ts.getD 0 [])++([32]++Ck o++[32])++Cn (Ao args 1) (Au o+1) (ts.getD 1 [])
 else if k=5 then nm++[40]++Ba ts++[41]
 else if k=6 then nm++[91]++ts.getD 0 []++[93]
 else if k=7 then [114,101,97,100,40,41]else []
mutual
def Ae:Ex→Bs
 |.mk k o n nm args=>Eu k o n nm args (Ny args)
def Ny:List Ex→List Bs
 |[]=>[]
 |x::l=>Ae x::Ny l
end
theorem Rl:∀l,Ny l=l.map Ae
 |[]=>rfl
 |x::l=>by simp [Ny,Rl l]
theorem Gq(e:Ex):Ae e=Eu e.kind e.op e.n e.name e.args (e.args.map Ae):=by
 cases e;rw[Ae,Rl];rfl
def Bh(e:Ex)(level:Int):Bs:=Cn e level (Ae e)
theorem Nf {l:List Ex}{i:Nat}(h:i<l.length):(l.map Ae).getD i []=Ae (Ao l i):=by
 simp [Ao,Zm h]
theorem Lc(o n:Int)(nm:Bs)(args:List Ex):Ae (.mk 1 o n nm args)=Lib.itoa n:=by
 rw[Gq];show Eu 1 o n nm args (args.map Ae)=_;unfold Eu;rw[if_pos rfl]
theorem Jr(o n:Int)(nm:Bs)(args:List Ex):Ae (.mk 2 o n nm args)=nm:=by
 rw[Gq];show Eu 2 o n nm args (args.map Ae)=_;unfold Eu;rw[if_neg (by decide),if_pos rfl]
theorem Jc(o n:Int)(nm:Bs)(args:List Ex)(h:0<args.length):Ae (.mk 3 o n nm args)=Ck o++Bh (Ao args 0) 9:=by
 rw[Gq];show Eu 3 o n nm args (args.map Ae)=_;unfold Eu;rw[if_neg (by decide),if_neg (by decide),if_pos rfl,Nf h];unfold Bh;rfl
theorem Ja(o n:Int)(nm:Bs)(args:List Ex)(h:1<args.length):Ae (.mk 4 o n nm args)=Bh (Ao args 0) (Au o)++([32]++(Ck o++[32]))++Bh (Ao args 1) (Au o+1):=by
 rw[Gq];show Eu 4 o n nm args (args.map Ae)=_;unfold Eu;rw[if_neg (by decide),if_neg (by decide),if_neg (by decide),if_pos rfl,Nf (by omega),Nf h,List.append_assoc [32]];unfold Bh;rfl
theorem Iu(o n:Int)(nm:Bs)(args:List Ex):Ae (.mk 5 o n nm args)=nm++[40]++Ba (args.map Ae)++[41]:=by
 rw[Gq];show Eu 5 o n nm args (args.map Ae)=_;unfold Eu;rw[if_neg (by decide),if_neg (by decide),if_neg (by decide),if_neg (by decide),if_pos rfl]
theorem Iv(o n:Int)(nm:Bs)(args:List Ex)(h:0<args.length):Ae (.mk 6 o n nm args)=nm++[91]++Ae (Ao args 0)++[93]:=by
 rw[Gq];show Eu 6 o n nm args (args.map Ae)=_;unfold Eu;rw[if_neg (by decide),if_neg (by decide),if_neg (by decide),if_neg (by decide),if_neg (by decide),if_pos rfl,Nf h]
theorem Ju(o n:Int)(nm:Bs)(args:List Ex):Ae (.mk 7 o n nm args)=[114,101,97,100,40,41]:=by
 rw[Gq];show Eu 7 o n nm args (args.map Ae)=_;unfold Eu;rw[if_neg (by decide),if_neg (by decide),if_neg (by decide),if_neg (by decide),if_neg (by decide),if_neg (by decide),if_pos rfl]
def Am(t:Nat):Bs:=List.replicate t 9
def ln(t:Nat)(l:List Bs):Bs:=Am t++l.flatten++[10]
def Cf(t:Nat)(k:Int)(nm:Bs)(args:List Ex)(noEls:Bool)(T E:Bs):Bs:=
 if k=1 then ln t [nm,[32,61,32],Ae (Ao args 0),[59]]
 else if k=2 then ln t [nm,[91],Ae (Ao args 0),[93,32,61,32],Ae (Ao args 1),[59]]
 else if k=3 then ln t [[105,102,32,40],Ae (Ao args 0),[41,32,123]]++(T++((if noEls then []else ln t [[125,32,101,108,115,101,32,123]]++E)++ln t [[125]]))
 else if k=4 then ln t [[119,104,105,108,101,32,40],Ae (Ao args 0),[41,32,123]]++(T++ln t [[125]])
 else if k=5 then ln t [[98,114,101,97,107,59]]
 else if k=6 then ln t [[99,111,110,116,105,110,117,101,59]]
 else if k=7 then ln t [[114,101,116,117,114,110,32],Ae (Ao args 0),[59]]
 else if k=8 then ln t [[112,114,105,110,116,40],Ae (Ao args 0),[41,59]]
 else if k=9 then ln t [[116,114,97,112,40],Ae (Ao args 0),[41,59]]
 else if k=10 then ln t [Ae (Ao args 0),[59]]else []
mutual
def Br(t:Nat):St→Bs
 |.mk k nm args thn els=>Cf t k nm args els.isEmpty (Ag (t+1) thn) (Ag (t+1) els)
def Ag(t:Nat):List St→Bs
 |[]=>[]
 |x::l=>Br t x++Ag t l
end
theorem Cj(t:Nat)(k:Int)(nm:Bs)(args:List Ex)(thn els:List St):Br t (.mk k nm args thn els)=Cf t k nm args els.isEmpty (Ag (t+1) thn) (Ag (t+1) els):=by rw[Br]
theorem Gs(t:Nat):∀l,Ag t l=l.flatMap (Br t)
 |[]=>rfl
 |x::l=>by rw[Ag,Gs t l];rfl
theorem Nb(t:Nat)(l:List St)(k:Nat)(h:k<l.length):Ag t (l.take (k+1))=Ag t (l.take k)++Br t (Db l k):=by
 rw[Gs,Gs,Zy h,Zt];simp [Db,Zm h]
theorem Ku(t:Nat)(l:List St)(k:Nat):(Ag t (l.take k)).length≤(Ag t l).length:=by
 have e:Ag t l=Ag t (l.take k)++Ag t (l.drop k):=by rw[Gs,Gs,Gs,←Zt,List.take_append_drop]
 rw[e];simp
theorem Ox(t:Nat)(nm:Bs)(args:List Ex)(ne:Bool)(T E:Bs):Cf t 1 nm args ne T E=ln t [nm,[32,61,32],Ae (Ao args 0),[59]]:=by
 unfold Cf;simp only[Zl,if_true,if_false,reduceIte]
theorem Pa(t:Nat)(nm:Bs)(args:List Ex)(ne:Bool)(T E:Bs):Cf t 2 nm args ne T E=ln t [nm,[91],Ae (Ao args 0),[93,32,61,32],Ae (Ao args 1),[59]]:=by
 unfold Cf;simp only[Zl,if_true,if_false,reduceIte]
theorem Lr(t:Nat)(nm:Bs)(args:List Ex)(ne:Bool)(T E:Bs):Cf t 3 nm args ne T E=ln t [[105,102,32,40],Ae (Ao args 0),[41,32,123]]++(T++((if ne then []else ln t [[125,32,101,108,115,101,32,123]]++E)++ln t [[125]])):=by
 unfold Cf;simp only[Zl,if_true,if_false,reduceIte]
theorem Ot(t:Nat)(nm:Bs)(args:List Ex)(ne:Bool)(T E:Bs):Cf t 4 nm args ne T E=ln t [[119,104,105,108,101,32,40],Ae (Ao args 0),[41,32,123]]++(T++ln t [[125]]):=by
 unfold Cf;simp only[Zl,if_true,if_false,reduceIte]
theorem Om(t:Nat)(nm:Bs)(args:List Ex)(ne:Bool)(T E:Bs):Cf t 5 nm args ne T E=ln t [[98,114,101,97,107,59]]:=by
 unfold Cf;simp only[Zl,if_true,if_false,reduceIte]
theorem Oz(t:Nat)(nm:Bs)(args:List Ex)(ne:Bool)(T E:Bs):Cf t 6 nm args ne T E=ln t [[99,111,110,116,105,110,117,101,59]]:=by
 unfold Cf;simp only[Zl,if_true,if_false,reduceIte]
theorem On(t:Nat)(nm:Bs)(args:List Ex)(ne:Bool)(T E:Bs):Cf t 7 nm args ne T E=ln t [[114,101,116,117,114,110,32],Ae (Ao args 0),[59]]:=by
 unfold Cf;simp only[Zl,if_true,if_false,reduceIte]
theorem Ol(t:Nat)(nm:Bs)(args:List Ex)(ne:Bool)(T E:Bs):Cf t 8 nm args ne T E=ln t [[112,114,105,110,116,40],Ae (Ao args 0),[41,59]]:=by
 unfold Cf;simp only[Zl,if_true,if_false,reduceIte]
theorem Ow(t:Nat)(nm:Bs)(args:List Ex)(ne:Bool)(T E:Bs):Cf t 9 nm args ne T E=ln t [[116,114,97,112,40],Ae (Ao args 0),[41,59]]:=by
 unfold Cf;simp only[Zl,if_true,if_false,reduceIte]
theorem Mo(t:Nat)(nm:Bs)(args:List Ex)(ne:Bool)(T E:Bs):Cf t 10 nm args ne T E=ln t [Ae (Ao args 0),[59]]:=by
 unfold Cf;simp only[Zl,if_true,if_false,reduceIte]
def Fm(p:Bs):Bs:=[105,110,116,32]++p
def Cm(l:List Bs):Bs:=l.flatMap fun x=>ln 1 [[105,110,116,32],x,[59]]
def Er(f:Fu):Bs:=[105,110,116,32]++(f.name++[40])++(Ba (f.params.map Fm)++([41,32,123,10]++(Cm f.locals++(Ag 1 f.body++ln 0 [[125]]))))
theorem Oc(l:List Bs)(k:Nat)(h:k<l.length):Cm (l.take (k+1))=Cm (l.take k)++ln 1 [[105,110,116,32],l.getD k [],[59]]:=by
 unfold Cm;rw[Zy h,Zt];simp [Zm h]
theorem Im(l:List Bs)(k:Nat):(Cm (l.take k)).length≤(Cm l).length:=by
 have e:Cm l=Cm (l.take k)++Cm (l.drop k):=by unfold Cm;rw[←Zt,List.take_append_drop]
 rw[e];simp
def Il(a:Ar):Bs:=ln 0 [[105,110,116,32],a.name,[91],Lib.itoa a.size,[93,59]]
def Bm(l:List Ar):Bs:=l.flatMap Il
def Bv(l:List Fu):Bs:=l.flatMap Er
def Dv(p:Pr):Bs:=Bm p.arrays++Bv p.funcs
theorem Yo(b off n cap:Nat)(k:FuncId)(caps:Array Value)(hk:∀args w,(callFunc k args).run Za w=.ok (.enter k args) w)(w:World)(c0 c1 c2 c3 c4:Nat→Value)(p:Nat→Bool)(hn:n≤140737488355328)
  (hc:∀i,i<n→w.cell? ⟨b,off+i*5,none⟩=some (c0 i)∧w.cell? ⟨b,off+i*5+1,none⟩=some (c1 i)∧w.cell? ⟨b,off+i*5+2,none⟩=some (c2 i)∧w.cell? ⟨b,off+i*5+3,none⟩=some (c3 i)∧w.cell? ⟨b,off+i*5+4,none⟩=some (c4 i))
  (hf:∀i,i<n→∀w1,Below w.heap.size w w1→Calls Za k (#[.agg #[c0 i,c1 i,c2 i,c3 i,c4 i]]++caps) w1 fun e w2=>e=.returned (.bool (p i))∧Below w1.heap.size w1 w2):
  Calls Za 121 #[.slice (some ⟨b,off,none⟩) n cap,.func (.func k) #[] caps] w fun e w'=>e=.returned (.int .i64 (Ej p n))∧Below w.heap.size w w':=by
 have HF:=Zb hf;clear hf;have HC:=Zb hc;clear hc;have hn1:n<9223372036854775807:=by omega
 clear hn;go_enter func121,ntmps121
 go_wp2_with fail
 go_loopw [5,8] (fun _ i8 wr=> ∃j:Nat,j≤n∧i8=.int .i64 j∧(∀i,i<j→p i=false)∧Below w.heap.size w wr) (fun _ i8 _=>n-(intOf i8).toNat)
 case atStart=>exact⟨0,Nat.zero_le _,rfl,fun i hi=>by omega,Zd _ _⟩
 case round=>
  obtain⟨j,hj,rfl,hno,hb⟩:=hrel;have HNO:=Zb hno;clear hno
  by_cases hlt:j<n
  ·obtain⟨g0,g1,g2,g3,g4⟩:=HC.o j hlt
   have k0:=Ac hb g0;have k1:=Ac hb g1;have k2:=Ac hb g2;have k3:=Ac hb g3;have k4:=Ac hb g4;clear g0 g1 g2 g3 g4;have call:=HF.o j hlt wr hb;have HB:=Zb hb;clear hb;have HCALL:=Zb call;clear call;go_wp2_with fail
   refine HCALL.o.mono ?_
   cases hp:p j
   ·rintro e w2 ⟨rfl,hb2⟩
    have HP:=Zb hp;clear hp;go_wp2_with fail
    go_roundw
    case rel=>exact⟨j+1,by omega,by go_num,fun i hi=>by rcases Zz.1 hi with h|rfl;exact HNO.o i h;exact HP.o,HB.o.trans (hb2.mono HB.o.size)⟩
    case measure=>simp [intOf];omega
   ·rintro e w2 ⟨rfl,hb2⟩
    have HP:=Zb hp;clear hp;go_wp2_with fail
    go_ret
    exact⟨Je (Lv p j HP.o HNO.o n hlt).symm,HB.o.trans (hb2.mono HB.o.size)⟩
  ·have hje:n≤j:=by omega
   have HB:=Zb hb;clear hb;go_wp2_with fail
   go_ret
   exact⟨Je (Ij p n (fun i hi=>HNO.o i (by omega))).symm,HB.o⟩
theorem Xk(a:Option Addr)(cap:Nat)(f:Value)(w:World):
  Calls Za 121 #[.slice a 0 cap,f] w fun e w'=>e=.returned (.int .i64 (-1))∧Below w.heap.size w w':=by
 go_enter func121,ntmps121
 go_wp2_with fail
 refine wp_loop_rounds 1 ?_;rw[rounds_succ];go_wp2_with fail
 go_ret
 exact⟨rfl,Zd _ _⟩
theorem Sq(a:Option Addr)(n cap:Nat)(k:FuncId)(caps:Array Value)(hk:∀args w,(callFunc k args).run Za w=.ok (.enter k args) w)(w:World)(c0 c1 c2 c3 c4:Nat→Value)(p:Nat→Bool)(hn:n≤140737488355328)
  (hc:n=0∨∃b off,a=some ⟨b,off,none⟩∧∀i,i<n→w.cell? ⟨b,off+i*5,none⟩=some (c0 i)∧w.cell? ⟨b,off+i*5+1,none⟩=some (c1 i)∧w.cell? ⟨b,off+i*5+2,none⟩=some (c2 i)∧w.cell? ⟨b,off+i*5+3,none⟩=some (c3 i)∧w.cell? ⟨b,off+i*5+4,none⟩=some (c4 i))
  (hf:∀i,i<n→∀w1,Below w.heap.size w w1→Calls Za k (#[.agg #[c0 i,c1 i,c2 i,c3 i,c4 i]]++caps) w1 fun e w2=>e=.returned (.bool (p i))∧Below w1.heap.size w1 w2):
  Calls Za 92 #[.slice a n cap,.func (.func k) #[] caps] w fun e w'=>e=.returned (.bool (Le p n))∧Below w.heap.size w w':=by
 have H:Hid (Calls Za 121 #[.slice a n cap,.func (.func k) #[] caps] w fun e w'=>e=.returned (.int .i64 (Ej p n))∧Below w.heap.size w w'):=by
  rcases hc with rfl|⟨b,off,rfl,hc⟩
  ·exact Xk _ _ _ _
  ·exact Yo b off n cap k caps hk w c0 c1 c2 c3 c4 p hn hc hf
 clear hc hf hk hn;have E:Hid (decide (0≤Ej p n)=Le p n):=Jn p n;generalize Ej p n=r at H E;generalize Le p n=q at E;go_enter func92,ntmps92
 go_wp2_with fail
 refine H.out.mono ?_;rintro e w1 ⟨rfl,hb⟩;go_wp2_with fail
 go_ret
 exact⟨Af E.out,hb⟩
theorem cK(b off n cap:Nat)(k:FuncId)(caps:Array Value)(hk:∀args w,(callFunc k args).run Za w=.ok (.enter k args) w)(w:World)(c0 c1 c2 c3 c4:Nat→Value)(p:Nat→Bool)(hn:n≤140737488355328)
  (hc:∀i,i<n→w.cell? ⟨b,off+i*5,none⟩=some (c0 i)∧w.cell? ⟨b,off+i*5+1,none⟩=some (c1 i)∧w.cell? ⟨b,off+i*5+2,none⟩=some (c2 i)∧w.cell? ⟨b,off+i*5+3,none⟩=some (c3 i)∧w.cell? ⟨b,off+i*5+4,none⟩=some (c4 i))
  (hf:∀i,i<n→∀w1,Below w.heap.size w w1→Calls Za k (#[.agg #[c0 i,c1 i,c2 i,c3 i,c4 i]]++caps) w1 fun e w2=>e=.returned (.bool (p i))∧Below w1.heap.size w1 w2):
  Calls Za 117 #[.slice (some ⟨b,off,none⟩) n cap,.func (.func k) #[] caps] w fun e w'=>e=.returned (.int .i64 (Ej p n))∧Below w.heap.size w w':=by
 have HF:=Zb hf;clear hf;have HC:=Zb hc;clear hc;have hn1:n<9223372036854775807:=by omega
 clear hn;go_enter func117,ntmps117
 go_wp2_with fail
 go_loopw [5,8] (fun _ i8 wr=> ∃j:Nat,j≤n∧i8=.int .i64 j∧(∀i,i<j→p i=false)∧Below w.heap.size w wr) (fun _ i8 _=>n-(intOf i8).toNat)
 case atStart=>exact⟨0,Nat.zero_le _,rfl,fun i hi=>by omega,Zd _ _⟩
 case round=>
  obtain⟨j,hj,rfl,hno,hb⟩:=hrel;have HNO:=Zb hno;clear hno
  by_cases hlt:j<n
  ·obtain⟨g0,g1,g2,g3,g4⟩:=HC.o j hlt
   have k0:=Ac hb g0;have k1:=Ac hb g1;have k2:=Ac hb g2;have k3:=Ac hb g3;have k4:=Ac hb g4;clear g0 g1 g2 g3 g4;have call:=HF.o j hlt wr hb;have HB:=Zb hb;clear hb;have HCALL:=Zb call;clear call;go_wp2_with fail
   refine HCALL.o.mono ?_
   cases hp:p j
   ·rintro e w2 ⟨rfl,hb2⟩
    have HP:=Zb hp;clear hp;go_wp2_with fail
    go_roundw
    case rel=>exact⟨j+1,by omega,by go_num,fun i hi=>by rcases Zz.1 hi with h|rfl;exact HNO.o i h;exact HP.o,HB.o.trans (hb2.mono HB.o.size)⟩
    case measure=>simp [intOf];omega
   ·rintro e w2 ⟨rfl,hb2⟩
    have HP:=Zb hp;clear hp;go_wp2_with fail
    go_ret
    exact⟨Je (Lv p j HP.o HNO.o n hlt).symm,HB.o.trans (hb2.mono HB.o.size)⟩
  ·have hje:n≤j:=by omega
   have HB:=Zb hb;clear hb;go_wp2_with fail
   go_ret
   exact⟨Je (Ij p n (fun i hi=>HNO.o i (by omega))).symm,HB.o⟩
theorem Wo(a:Option Addr)(cap:Nat)(f:Value)(w:World):
  Calls Za 117 #[.slice a 0 cap,f] w fun e w'=>e=.returned (.int .i64 (-1))∧Below w.heap.size w w':=by
 go_enter func117,ntmps117
 go_wp2_with fail
 refine wp_loop_rounds 1 ?_;rw[rounds_succ];go_wp2_with fail
 go_ret
 exact⟨rfl,Zd _ _⟩
theorem Sr(a:Option Addr)(n cap:Nat)(k:FuncId)(caps:Array Value)(hk:∀args w,(callFunc k args).run Za w=.ok (.enter k args) w)(w:World)(c0 c1 c2 c3 c4:Nat→Value)(p:Nat→Bool)(hn:n≤140737488355328)
  (hc:n=0∨∃b off,a=some ⟨b,off,none⟩∧∀i,i<n→w.cell? ⟨b,off+i*5,none⟩=some (c0 i)∧w.cell? ⟨b,off+i*5+1,none⟩=some (c1 i)∧w.cell? ⟨b,off+i*5+2,none⟩=some (c2 i)∧w.cell? ⟨b,off+i*5+3,none⟩=some (c3 i)∧w.cell? ⟨b,off+i*5+4,none⟩=some (c4 i))
  (hf:∀i,i<n→∀w1,Below w.heap.size w w1→Calls Za k (#[.agg #[c0 i,c1 i,c2 i,c3 i,c4 i]]++caps) w1 fun e w2=>e=.returned (.bool (p i))∧Below w1.heap.size w1 w2):
  Calls Za 74 #[.slice a n cap,.func (.func k) #[] caps] w fun e w'=>e=.returned (.bool (Le p n))∧Below w.heap.size w w':=by
 have H:Hid (Calls Za 117 #[.slice a n cap,.func (.func k) #[] caps] w fun e w'=>e=.returned (.int .i64 (Ej p n))∧Below w.heap.size w w'):=by
  rcases hc with rfl|⟨b,off,rfl,hc⟩
  ·exact Wo _ _ _ _
  ·exact cK b off n cap k caps hk w c0 c1 c2 c3 c4 p hn hc hf
 clear hc hf hk hn;have E:Hid (decide (0≤Ej p n)=Le p n):=Jn p n;generalize Ej p n=r at H E;generalize Le p n=q at E;go_enter func74,ntmps74
 go_wp2_with fail
 refine H.out.mono ?_;rintro e w1 ⟨rfl,hb⟩;go_wp2_with fail
 go_ret
 exact⟨Af E.out,hb⟩
theorem bH(b off n cap:Nat)(k:FuncId)(caps:Array Value)(hk:∀args w,(callFunc k args).run Za w=.ok (.enter k args) w)(w:World)(c0:Nat→Value)(p:Nat→Bool)(hn:n≤140737488355328)
  (hc:∀i,i<n→w.cell? ⟨b,off+i,none⟩=some (c0 i))
  (hf:∀i,i<n→∀w1,Below w.heap.size w w1→Calls Za k (#[c0 i]++caps) w1 fun e w2=>e=.returned (.bool (p i))∧Below w1.heap.size w1 w2):
  Calls Za 115 #[.slice (some ⟨b,off,none⟩) n cap,.func (.func k) #[] caps] w fun e w'=>e=.returned (.int .i64 (Ej p n))∧Below w.heap.size w w':=by
 have HF:=Zb hf;clear hf;have HC:=Zb hc;clear hc;have hn1:n<9223372036854775807:=by omega
 clear hn;go_enter func115,ntmps115
 go_wp2_with fail
 go_loopw [5,8] (fun _ i8 wr=> ∃j:Nat,j≤n∧i8=.int .i64 j∧(∀i,i<j→p i=false)∧Below w.heap.size w wr) (fun _ i8 _=>n-(intOf i8).toNat)
 case atStart=>exact⟨0,Nat.zero_le _,rfl,fun i hi=>by omega,Zd _ _⟩
 case round=>
  obtain⟨j,hj,rfl,hno,hb⟩:=hrel;have HNO:=Zb hno;clear hno
  by_cases hlt:j<n
  ·have g0:=HC.o j hlt
   have k0:=Ac hb g0;clear g0;have call:=HF.o j hlt wr hb;have HB:=Zb hb;clear hb;have HCALL:=Zb call;clear call;go_wp2_with fail
   refine HCALL.o.mono ?_
   cases hp:p j
   ·rintro e w2 ⟨rfl,hb2⟩
    have HP:=Zb hp;clear hp;go_wp2_with fail
    go_roundw
    case rel=>exact⟨j+1,by omega,by go_num,fun i hi=>by rcases Zz.1 hi with h|rfl;exact HNO.o i h;exact HP.o,HB.o.trans (hb2.mono HB.o.size)⟩
    case measure=>simp [intOf];omega
   ·rintro e w2 ⟨rfl,hb2⟩
    have HP:=Zb hp;clear hp;go_wp2_with fail
    go_ret
    exact⟨Je (Lv p j HP.o HNO.o n hlt).symm,HB.o.trans (hb2.mono HB.o.size)⟩
  ·have hje:n≤j:=by omega
   have HB:=Zb hb;clear hb;go_wp2_with fail
   go_ret
   exact⟨Je (Ij p n (fun i hi=>HNO.o i (by omega))).symm,HB.o⟩
theorem Xe(a:Option Addr)(cap:Nat)(f:Value)(w:World):
  Calls Za 115 #[.slice a 0 cap,f] w fun e w'=>e=.returned (.int .i64 (-1))∧Below w.heap.size w w':=by
 go_enter func115,ntmps115
 go_wp2_with fail
 refine wp_loop_rounds 1 ?_;rw[rounds_succ];go_wp2_with fail
 go_ret
 exact⟨rfl,Zd _ _⟩
theorem Sl(a:Option Addr)(n cap:Nat)(k:FuncId)(caps:Array Value)(hk:∀args w,(callFunc k args).run Za w=.ok (.enter k args) w)(w:World)(c0:Nat→Value)(p:Nat→Bool)(hn:n≤140737488355328)
  (hc:n=0∨∃b off,a=some ⟨b,off,none⟩∧∀i,i<n→w.cell? ⟨b,off+i,none⟩=some (c0 i))
  (hf:∀i,i<n→∀w1,Below w.heap.size w w1→Calls Za k (#[c0 i]++caps) w1 fun e w2=>e=.returned (.bool (p i))∧Below w1.heap.size w1 w2):
  Calls Za 71 #[.slice a n cap,.func (.func k) #[] caps] w fun e w'=>e=.returned (.bool (Le p n))∧Below w.heap.size w w':=by
 have H:Hid (Calls Za 115 #[.slice a n cap,.func (.func k) #[] caps] w fun e w'=>e=.returned (.int .i64 (Ej p n))∧Below w.heap.size w w'):=by
  rcases hc with rfl|⟨b,off,rfl,hc⟩
  ·exact Xe _ _ _ _
  ·exact bH b off n cap k caps hk w c0 p hn hc hf
 clear hc hf hk hn;have E:Hid (decide (0≤Ej p n)=Le p n):=Jn p n;generalize Ej p n=r at H E;generalize Le p n=q at E;go_enter func71,ntmps71
 go_wp2_with fail
 refine H.out.mono ?_;rintro e w1 ⟨rfl,hb⟩;go_wp2_with fail
 go_ret
 exact⟨Af E.out,hb⟩
theorem row_eq {s:ByteArray}{l op:Int}{F1 F2:Value}(hs:s=Aa (Ck op))(hl:l=Au op):
  ∃f1 f2,Ending.returned (.agg #[.string s,.int .i64 l,F1,F2])=.returned (.agg #[.string (Aa (Ck op)),.int .i64 (Au op),f1,f2]):=by
 subst hs hl;exact⟨_,_,rfl⟩
theorem Tg(op:Int)(w:World):
  Calls Za 120 #[.int .i64 op] w fun e w'=>(∃f1 f2,e=.returned (.agg #[.string (Aa (Ck op)),.int .i64 (Au op),f1,f2]))∧Below w.heap.size w w':=by
 go_enter func120,ntmps120
 go_wp2
 all_goals(refine bodyPost_ret (by simp [results,results120,go_sem];rfl) rfl ?_)
 all_goals(refine⟨row_eq ?_ ?_,by repeat(first|exact Zd _ _|refine Zn ?_ (Zq _) _)⟩)
 all_goals(simp only[beq_iff_eq,beq_eq_false_iff_ne,ne_eq]at*;simp [Ck,Au,Aa, *])
@[go_sem] theorem field_row0 (a b c d:Value) (w:World):(Instr.field 154 (.agg #[a,b,c,d]) 0).run Za w=.ok a w:=by kernel_rfl
@[go_sem] theorem field_row1 (a b c d:Value) (w:World):(Instr.field 154 (.agg #[a,b,c,d]) 1).run Za w=.ok b w:=by kernel_rfl
theorem Lw(op:Int)(w:World):
  Calls Za 87 #[.int .i64 op] w fun e w'=>e=.returned (.int .i64 (Au op))∧Below w.heap.size w w':=by
 go_enter func87,ntmps87
 go_wp2_with fail
 refine(Tg op _).mono ?_;rintro e w1 ⟨⟨f1,f2,rfl⟩,hb⟩;go_wp2_with fail
 go_ret
 exact⟨rfl,hb⟩
theorem It(op:Int)(w:World):
  Calls Za 85 #[.int .i64 op] w fun e w'=>e=.returned (.tuple #[.string (Aa (Ck op)),.bool (!(Ck op).isEmpty)])∧Below w.heap.size w w':=by
 go_enter func85,ntmps85
 go_wp2_with fail
 refine(Tg op _).mono ?_;rintro e w1 ⟨⟨f1,f2,rfl⟩,hb⟩;go_wp2_with fail
 go_ret2
 exact⟨by simp [Aa],hb⟩
def Hi(r:Int):Bool:=decide (r=95∨(97≤r∧r≤122)∨(65≤r∧r≤90))
def Iz(r:Int):Bool:=decide (48≤r∧r≤57)
theorem Kc(r:Int)(w:World):
  Calls Za 102 #[.int .i32 r] w fun e w'=>e=.returned (.bool (Hi r))∧w=w':=by
 go_enter func102,ntmps102
 go_wp2
 all_goals go_ret
 all_goals(refine⟨Af ?_,rfl⟩;rw[Bool.eq_iff_iff];simp [Hi];omega)
theorem Ti(r:Int)(w:World):
  Calls Za 104 #[.int .i32 r] w fun e w'=>e=.returned (.bool (Iz r))∧w=w':=by
 go_enter func104,ntmps104
 go_wp2
 all_goals go_ret
 all_goals(refine⟨Af ?_,rfl⟩;rw[Bool.eq_iff_iff];simp [Iz];omega)
theorem Wc(l:Bs)(w:World):
  Calls Za 116 #[.string (Aa l)] w fun e w'=>e=.returned (.bool (Fd l))∧w=w':=by
 go_enter func116,ntmps116
 go_wp2
 all_goals go_ret
 all_goals(refine⟨Af ?_,rfl⟩;simp_all [Fd,Iw])
theorem Rx(c:UInt8):Hi (c.toNat:Nat)=Ce c:=by
 rw[Bool.eq_iff_iff];simp [Hi,Ce,UInt8.le_iff_toNat_le,←UInt8.toNat_inj];omega
theorem Sw(c:UInt8):Iz (c.toNat:Nat)=Dn c:=by
 rw[Bool.eq_iff_iff];simp [Iz,Dn,UInt8.le_iff_toNat_le];omega
theorem Nr {r:Nat}(h:128≤r):Hi r=false:=by simp [Hi];omega
theorem Pt {r:Nat}(h:128≤r):Iz r=false:=by simp [Iz];omega
theorem Sk {c:UInt8}(h:128≤c.toNat):Ce c=false:=by rw[←Rx];exact Nr h
theorem Vn {c:UInt8}(h:128≤c.toNat):Dn c=false:=by rw[←Sw];exact Pt h
theorem eH(l:Bs)(k:Nat)(h:k<l.length):∃r d,Utf8.decode (Aa l) k=(r,d)∧1≤d∧Hi r=Ce l[k]∧Iz r=Dn l[k]∧(r<128→r=l[k].toNat∧d=1)∧r≤2147483647:=by
 have hs:k<(Aa l).size:=h;have he:(Aa l)[k]'hs=l[k]:=rfl;have hle:=decode_le (Aa l) k
 by_cases ha:((Aa l)[k]'hs).toNat<128
 ·rw[decode_ascii _ _ hs ha]at hle
  exact⟨_,_,decode_ascii _ _ hs ha,Zq _,by rw[he];exact Rx _,by rw[he];exact Sw _,fun _=>⟨by rw[he],rfl⟩,hle⟩
 ·have hh:=decode_high (Aa l) k hs (by omega)
  have h2:128≤l[k].toNat:=by rw[←he];omega
  generalize Utf8.decode (Aa l) k=q at hh hle ⊢;exact⟨q.1,q.2,rfl,hh.2,by rw[Nr hh.1,Sk h2],by rw[Pt hh.1,Vn h2],fun h=>by omega,hle⟩
theorem Xh {r:Nat}(h:Hi r=true):r<128:=by simp [Hi]at h;omega
theorem Yj {r:Nat}(h:Iz r=true):r<128:=by simp [Iz]at h;omega
theorem fF(l:Bs)(h20:l.length≤20)(h0:l.isEmpty=false)(hw:Fd l=false)(w:World):
  Calls Za 73 #[.string (Aa l)] w fun e w'=>e=.returned (.bool (Cw true l))∧Below w.heap.size w w':=by
 go_enter func73,ntmps73
 go_wp2_with (go_at_call 116;refine(Wc _ _).mono ?_;rintro e w1 ⟨rfl,rfl⟩)
 go_loopw [3,4] (fun _ _ wr=> ∃k:Nat,k≤l.length∧wr=w.iter (Aa l) k∧Hid (Cw true l=Cw (decide (k=0)) (l.drop k))) (fun _ _ wr=>l.length-wr.iterPos w.heap.size)
 case atStart=>exact⟨0,Nat.zero_le _,rfl,rfl⟩
 case round=>
  obtain⟨k,hk,rfl,HI⟩:=hrel
  by_cases hlt:k<l.length
  ·have hnx:=fun ty=>run_next_any (P:=Za) w (Aa l) k ty hlt
   obtain⟨r,d,hd,h1,hl,hdg,hlow,hr⟩:=eH l k hlt;rw[hd]at hnx;have HL:=Zb hl;have HD:=Zb hdg;have HLOW:=Zb hlow;have HE:Hid (Cw (decide (k=0)) (l.drop k)=((Ce l[k]||(!decide (k=0) && Dn l[k])) && Cw false (l.drop (k+1)))):=by
    show _=_
    rw[List.drop_eq_getElem_cons hlt];rfl
   clear hl hdg hlow hd
   by_cases q:Hi r=true
   ·go_wp2_with (go_at_call 102;refine(Kc _ _).mono ?_;rintro e w1 ⟨rfl,rfl⟩)
    have h3:=HLOW.o (Xh q);obtain rfl:=h3.2;go_roundw
    case rel=>exact⟨k+1,by omega,rfl,by show _=_;rw[HI.o,HE.o,←HL.o,q];simp⟩
    case measure=>simp;omega
   ·have q':Hi r=false:=by simpa using q
    clear q
    by_cases z:k=0
    ·subst z
     go_wp2_with (go_at_call 102;refine(Kc _ _).mono ?_;rintro e w1 ⟨rfl,rfl⟩)
     go_ret
     exact⟨Af (by rw[HI.o,HE.o,←HL.o,q'];simp),bA⟩
    ·have z':((k:Int)==0)=false:=by simpa using z
     by_cases g:Iz r=true
     ·go_wp2_with (first|(go_at_call 102;refine(Kc _ _).mono ?_;rintro e w1 ⟨rfl,rfl⟩)|(go_at_call 104;refine(Ti _ _).mono ?_;rintro e w1 ⟨rfl,rfl⟩))
      have h3:=HLOW.o (Yj g);obtain rfl:=h3.2;go_roundw
      case rel=>exact⟨k+1,by omega,rfl,by show _=_;rw[HI.o,HE.o,←HL.o,←HD.o,q',g];simp [z]⟩
      case measure=>simp;omega
     ·have g':Iz r=false:=by simpa using g
      clear g;go_wp2_with (first|(go_at_call 102;refine(Kc _ _).mono ?_;rintro e w1 ⟨rfl,rfl⟩)|(go_at_call 104;refine(Ti _ _).mono ?_;rintro e w1 ⟨rfl,rfl⟩))
      go_ret
      exact⟨Af (by rw[HI.o,HE.o,←HL.o,←HD.o,q',g'];simp),bA⟩
  ·have hnx:=fun ty=>run_next_end (P:=Za) w (Aa l) k ty hlt
   go_wp2_with fail
   go_ret
   exact⟨Af (by rw[HI.o,List.drop_eq_nil_of_le (by omega)];rfl),bA⟩
theorem Jq(l:Bs)(w:World):
  Calls Za 73 #[.string (Aa l)] w fun e w'=>e=.returned (.bool (An l))∧Below w.heap.size w w':=by
 by_cases h0:l=[]
 ·subst h0
  go_enter func73,ntmps73
  go_wp2_with fail
  go_ret
  exact⟨rfl,Zd _ _⟩
 ·have h0':l.isEmpty=false:=by simpa using h0
  by_cases h20:l.length≤20
  ·cases hw:Fd l
   ·have h:=fF l h20 h0' hw w
    have e:An l=Cw true l:=by simp [An,h0,h20,hw]
    rw[e];exact h
   ·go_enter func73,ntmps73
    go_wp2_with (go_at_call 116;refine(Wc _ _).mono ?_;rintro e w1 ⟨rfl,rfl⟩)
    go_ret
    exact⟨Af (by simp [An,hw]),Zd _ _⟩
  ·have h20':20<l.length:=by omega
   go_enter func73,ntmps73
   go_wp2_with fail
   go_ret
   exact⟨Af (by simp [An,h20]),Zd _ _⟩
theorem Bf {l:List Ex}{i:Nat}(h:i<l.length):Ao l i∈l:=by
 simp only[Ao,Ya,Zm h,Option.getD_some];exact List.getElem_mem h
theorem Ld {l:List Ex}{i:Nat}(h:i<l.length):Ao l i=l[i]:=by
 simp [Ao,Zm h]
theorem Dy {l:List St}{i:Nat}(h:i<l.length):Db l i∈l:=by
 simp only[Db,Ya,Zm h,Option.getD_some];exact List.getElem_mem h
theorem Wl {l:List St}{i:Nat}(h:i<l.length):Db l i=l[i]:=by
 simp [Db,Zm h]
theorem Kk(k:FuncId)(caps:Array Value)(hk:∀args w,(callFunc k args).run Za w=.ok (.enter k args) w)(l:List Ex)(s:Value)(D:Nat→Prop)(w:World)(h:Aj D w l s)(f:Ex→Bool)
  (hf:∀e s' w1,e∈l→Below w.heap.size w w1→Aj D w1 e.args s'→Calls Za k (#[exV e s']++caps) w1 fun r w2=>r=.returned (.bool (f e))∧Below w1.heap.size w1 w2):
  Calls Za 92 #[s,.func (.func k) #[] caps] w fun r w'=>r=.returned (.bool (l.any f))∧Below w.heap.size w w':=by
 cases h with
 |mk _ a cap b off sv hcap hfit ha h0 h1 h2 h3 h4 hs=>
  rw[←Oh f (fun i=>f (Ao l i)) l (fun i hi=>by rw[Ld hi])];refine Sq a l.length cap k caps hk w (fun i=>.int .i64 (Ao l i).kind) (fun i=>.int .i64 (Ao l i).op) (fun i=>.int .i64 (Ao l i).n) (fun i=>.string (Aa (Ao l i).name)) sv (fun i=>f (Ao l i)) (hfit).out ?_ ?_
  ·rcases ha with ha|⟨ha,_⟩
   ·exact .inl ha
   ·exact .inr ⟨b,off,ha,fun i hi=>⟨h0 i hi,h1 i hi,h2 i hi,h3 i hi,h4 i hi⟩⟩
  ·intro i hi w1 hb
   exact hf (Ao l i) (sv i) w1 (Bf hi) hb ((hs i hi).old hb)
abbrev stV(x:St)(a t e:Value):Value:=.agg #[.int .i64 x.kind,.string (Aa x.name),a,t,e]
theorem Ua(k:FuncId)(caps:Array Value)(hk:∀args w,(callFunc k args).run Za w=.ok (.enter k args) w)(l:List St)(s:Value)(D:Nat→Prop)(w:World)(h:Ap D w l s)(f:St→Bool)
  (hf:∀x a t e w1,x∈l→Below w.heap.size w w1→Aj D w1 x.args a→Ap D w1 x.thn t→Ap D w1 x.els e→Calls Za k (#[stV x a t e]++caps) w1 fun r w2=>r=.returned (.bool (f x))∧Below w1.heap.size w1 w2):
  Calls Za 74 #[s,.func (.func k) #[] caps] w fun r w'=>r=.returned (.bool (l.any f))∧Below w.heap.size w w':=by
 cases h with
 |mk _ a cap b off sa st se hcap hfit ha h0 h1 h2 h3 h4 ea et ee=>
  rw[←Oh f (fun i=>f (Db l i)) l (fun i hi=>by rw[Wl hi])];refine Sr a l.length cap k caps hk w (fun i=>.int .i64 (Db l i).kind) (fun i=>.string (Aa (Db l i).name)) sa st se (fun i=>f (Db l i)) (hfit).out ?_ ?_
  ·rcases ha with ha|⟨ha,_⟩
   ·exact .inl ha
   ·exact .inr ⟨b,off,ha,fun i hi=>⟨h0 i hi,h1 i hi,h2 i hi,h3 i hi,h4 i hi⟩⟩
  ·intro i hi w1 hb
   exact hf (Db l i) (sa i) (st i) (se i) w1 (Dy hi) hb ((ea i hi).old hb) ((et i hi).old hb) ((ee i hi).old hb)
def gL(m:Nat):Prop:= ∀(D:Nat→Prop) (e:Ex) (s:Value) (w:World),Aj D w e.args s→
 Calls Za 54 #[exV e s,.int .i64 m] w fun r w'=>r=.returned (.bool (Fn m e))∧Below w.heap.size w w'
theorem deep_fn(m:Nat)(ih:gL m)(D:Nat→Prop)(e:Ex)(s:Value)(w:World)(h:Aj D w e.args s)(B:Nat)(hB:w.cell? ⟨B,0,none⟩=some (.int .i64 (m+1)))(hm:m≤1000):
  Calls Za 93 #[exV e s,.pointer (some ⟨B,0,none⟩)] w fun r w'=>r=.returned (.bool (!Fn m e))∧Below w.heap.size w w':=by
 have H:=Zb h;clear h;have hBl:B<w.heap.size:=World.block_lt_of_cell? _ _ hB;go_enter func93,ntmps93
 go_wp2_with fail
 refine(ih D e s _ (H.out.old (bA))).mono ?_;rintro r w1 ⟨rfl,hb⟩;go_wp2_with fail
 go_ret
 exact⟨rfl,(bA).trans (hb.mono (by simp))⟩
theorem Yc:∀m,m≤1000→gL m
 |0,_=>by
  intro D e s w _;go_enter func54,ntmps54
  go_wp2_with fail
  go_ret
  exact⟨rfl,(bA).alloc (by simp) _⟩
 |m+1,hm=>by
  intro D e s w h;have ih:=Zb (Yc m (by omega));have H:=Zb h;clear h;have hm':(0:Int)<(m:Int)+1:=by omega
  go_enter func54,ntmps54
  go_wp2_with fail
  refine(Kk 93 _ Tryz.call93 e.args s D _ (H.out.old ((bA).alloc (by simp) _)) (fun x=> !Fn m x) ?_).mono ?_
  ·intro x s' w1 _ hb hx
   exact deep_fn m ih.out D x s' w1 hx _ (Ac hb (by simp)) (by omega)
  ·rintro r w1 ⟨rfl,hb⟩
   go_wp2_with fail
   go_ret
   exact⟨Af (by simp [Fn,List.any_eq_not_all_not]),((bA).alloc (by simp) _).trans (hb.mono (by simp;omega))⟩
theorem Hv {Ix:Type}(F:Ix→World){P:Program}{id:Nat}{Q:Exit→Act→World→Prop}{a:Act}{w:World}{l:List Oper}(hm:P.follows .mixedOrders=true)(hB:Region.lexB .any l.toArray=true)(hC:∃n,w.drew=F n)
  (h:wpQuiet P l.toArray (fun w'=> ∃n,w'=F n) (fun a'=> ∀w',(∃n,w'=F n)→Q .normal a' w') l a):(Code.region id l.toArray true).wp P Q a w:=
 wp_region_quiet (C:=fun w'=> ∃n,w'=F n) hm hB hC (by simpa using h)
abbrev Lat(w:World):Type:= {w':World // Below w.heap.size w w'}
theorem Kl(wr:World):∃(Ix:Type) (_:Nonempty Ix) (F:Ix→World),Hid (∀n,Below wr.heap.size wr (F n))∧Hid (∀w',Below wr.heap.size wr w'→∃n,w'=F n):=⟨Lat wr,⟨⟨wr,Zd _ _⟩⟩,fun n=>n.1,fun n=>n.2,fun w' h=>⟨⟨w',h⟩,rfl⟩⟩
def own(w:World)(b:Nat):Option Nat:=
 match w.heap[b]? with
 |some (.cells cs _ _)=>(cs.getD 1 undef).ownBlock
 |_=>none
def Bt(w:World)(b:Nat)(bs:Bs)(t:Int):Prop:=
 ∃p v,w.heap[b]? =some (.cells #[p,v,.int .i64 t] 76 (0,0))∧(p=.pointer none∨p=.pointer (some ⟨b,0,none⟩))∧w.ownsRow (b+1) 5 1 v bs.length (Zo bs)
structure PFr (b:Nat)(w w':World):Prop where
 os:w'.os=w.os
 tape:w'.tape=w.tape
 output:w'.output=w.output
 size:w.heap.size≤w'.heap.size
 block:∀k,k<w.heap.size→k≠b→own w b≠some k→w'.heap[k]? =w.heap[k]?
 own:own w' b=own w b∨∃k,w.heap.size≤k∧own w' b=some k
theorem PFr.refl(b:Nat)(w:World):PFr b w w:=⟨rfl,rfl,rfl,Zq _,fun _ _ _ _=>rfl,.inl rfl⟩
theorem PFr.trans {b:Nat}{u v w:World}(h:PFr b u v)(k:PFr b v w):PFr b u w where
 os:=k.os.trans h.os
 tape:=k.tape.trans h.tape
 output:=k.output.trans h.output
 size:=Nat.le_trans h.size k.size
 block i hi hb ho:=by
  refine(k.block i (Nat.lt_of_lt_of_le hi h.size) hb ?_).trans (h.block i hi hb ho);rcases h.own with e|⟨j,hj,e⟩
  ·rw[e];exact ho
  ·rw[e];intro c;cases c;omega
 own:=by
  rcases k.own with e|⟨j,hj,e⟩
  ·rcases h.own with e'|⟨j,hj,e'⟩
   ·exact .inl (e.trans e')
   ·exact .inr ⟨j,hj,e.trans e'⟩
  ·exact .inr ⟨j,Nat.le_trans h.size hj,e⟩
theorem iG {w w':World}{b:Nat}(h:w'.heap[b]? =w.heap[b]?):own w' b=own w b:=by simp [own,h]
theorem PFr.of_below {b:Nat}{w w':World}(h:Below w.heap.size w w')(hb:b<w.heap.size):PFr b w w':=
 ⟨h.os,h.tape,h.output,h.size,fun k hk _ _=>h.block k hk,.inl (iG (h.block b hb))⟩
theorem Bt.lt {w:World}{b:Nat}{bs:Bs}{t:Int}(h:Bt w b bs t):b<w.heap.size:=by
 obtain⟨p,v,hb,_⟩:=h;rcases Nat.lt_or_ge b w.heap.size with h'|h'
 ·exact h'
 ·simp [Array.getElem?_eq_none h']at hb
theorem Bt.own_gt {w:World}{b:Nat}{bs:Bs}{t:Int}(h:Bt w b bs t){k:Nat}(ho:own w b=some k):b<k∧k<w.heap.size:=by
 obtain⟨p,v,hb,_,hown⟩:=h;have:v.ownBlock=some k:=by simpa [own,hb]using ho
 have:=hown.lt k this;omega
theorem PFr.below {w w':World}{b:Nat}{bs:Bs}{t:Int}(h:PFr b w w')(hp:Bt w b bs t):Below b w w':=
 ⟨h.os,h.tape,h.output,h.size,fun k hk=>h.block k (by have:=hp.lt;omega) (by omega) (fun e=>by have:=hp.own_gt e;omega)⟩
theorem Bt.old {w w':World}{b:Nat}{bs:Bs}{t:Int}(hp:Bt w b bs t)(h:Below w.heap.size w w'):Bt w' b bs t:=by
 obtain⟨p,v,hb,hq,hown⟩:=hp;have hlt:b<w.heap.size:=Bt.lt ⟨p,v,hb,hq,hown⟩;refine⟨p,v,(h.block b hlt).trans hb,hq,hown.1,?_⟩;rcases hown.2 with e|⟨g,cap,cur,hv,hg,hh,r⟩
 ·exact .inl e
 ·refine .inr ⟨g,cap,cur,hv,hg,?_,r⟩
  have hl:g<w.heap.size:=by
   rcases Nat.lt_or_ge g w.heap.size with h'|h'
   ·exact h'
   ·simp [Array.getElem?_eq_none h']at hh
  exact(h.block g hl).trans hh
def Loc(w:World)(b X:Nat)(cs:List Value):Prop:=X≠b∧own w b≠some X∧X<w.heap.size∧Bx w X 0 cs
theorem Loc.step {w w':World}{b X:Nat}{cs:List Value}(h:Loc w b X cs)(hf:PFr b w w'):Loc w' b X cs:=by
 obtain⟨h1,h2,h3,h4⟩:=h;refine⟨h1,?_,Nat.lt_of_lt_of_le h3 hf.size,fun i hi=>?_⟩
 ·rcases hf.own with e|⟨j,hj,e⟩
  ·rw[e];exact h2
  ·rw[e];intro c;cases c;omega
 ·rw[World.cell?_of_block (w:=w) (hf.block X h3 h1 h2)];exact h4 i hi
theorem Loc.new {w:World}{b:Nat}{bs:Bs}{t:Int}(hp:Bt w b bs t)(cs:List Value)(T:TypeId):Loc (w.alloc (.cells cs.toArray T)) b w.heap.size cs:=by
 refine⟨by have:=hp.lt;omega,?_,by simp,fun i hi=>by simp⟩;rw[iG (Below.heap_alloc w _ b hp.lt)];intro e;have:=(hp.own_gt e).2;omega
theorem Loc.cell {w:World}{b X:Nat}{cs:List Value}(h:Loc w b X cs)(i:Nat)(hi:i<cs.length):w.cell? ⟨X,i,none⟩=some cs[i]:=by
 have:=h.2.2.2 i hi;simpa using this
theorem PFr.keeps {w w':World}{b:Nat}{bs:Bs}{t:Int}(h:PFr b w w')(hp:Bt w b bs t):Fe (· <b) w w':=
 fun k off x hk hx=>by rw[(h.below hp).cell (p:=⟨k,off,none⟩) hk];exact hx
theorem infoByte:(Tryz.prog.info? 5).map (fun i=>(i.zero,i.size,i.bytes))=some (some (.int .u8 0),1,1):=by kernel_rfl
theorem Pf:(Tryz.prog.info? 74).map (fun i=>i.size)=some 2:=by kernel_rfl
theorem liesBuilder:liesAt Za Tryz.prog.depth 76 (3 / Tryz.prog.cellsOf 76) 0 74 1=true:=by kernel_rfl
theorem Rv(b:Nat)(w:World)(h0:w.cell? ⟨b,0,none⟩=some (.pointer (some ⟨b,0,none⟩))):
  Calls Za 132 #[.pointer (some ⟨b,0,none⟩)] w fun e w'=>e=.returned (.tuple #[])∧w=w':=by
 obtain⟨j,hj,_⟩:=Option.map_eq_some_iff.1 Pf;go_enter func132,ntmps132
 go_wp2_with fail
 rw[Lib.run_neq_ptr_same w _ underlying71 hj];go_wp2_with fail
 go_end0
 exact⟨rfl,rfl⟩
theorem Qa(b:Nat)(w:World)(h0:w.cell? ⟨b,0,none⟩=some (.pointer none))(hsh:w.shape? b=some (76,3))(hfz:w.frozen? ⟨b,0,none⟩=false):
  Calls Za 132 #[.pointer (some ⟨b,0,none⟩)] w fun e w'=>e=.returned (.tuple #[])∧w'=w.setCell ⟨b,0,none⟩ (.pointer (some ⟨b,0,none⟩)):=by
 obtain⟨j,hj,hjs⟩:=Option.map_eq_some_iff.1 Pf;go_enter func132,ntmps132
 go_wp2_with fail
 rw[Lib.run_to_unsafe w ⟨b,0,none⟩ underlying71 underlying181 hj (by rw[hjs];decide) hsh (Nat.zero_lt_succ 2)];simp only[Result.andThen];rw[Oper.upon_value];go_wp2_with fail
 rw[run_callFunc_extern func166 (by kernel_rfl) (by kernel_rfl) (by kernel_rfl) (e:=Extern.AbiNoEscape.same) (by kernel_rfl)];rw[Lib.run_noEscape];simp only[Result.andThen];rw[Oper.upon_value];go_wp2_with fail
 rw[Lib.run_from_unsafe w ⟨b,0,none⟩ underlying181 underlying71 hj hsh liesBuilder];simp only[Result.andThen];rw[Oper.upon_value];go_wp2_with fail
 go_end0
 exact⟨rfl,rfl⟩
def Hw(w:World)(b:Nat)(bs:Bs)(t:Int)(txt:Bs)(r:Ending)(w':World):Prop:=r=.returned (.tuple #[])∧Bt w' b (bs++txt) t∧PFr b w w'
theorem Sh(b:Nat)(bs:Bs)(t:Int)(w:World)(h:Bt w b bs t):
  Calls Za 132 #[.pointer (some ⟨b,0,none⟩)] w fun e w'=>e=.returned (.tuple #[])∧PFr b w w'∧
   ∃v,w'.heap[b]? =some (.cells #[.pointer (some ⟨b,0,none⟩),v,.int .i64 t] 76 (0,0))∧w'.ownsRow (b+1) 5 1 v bs.length (Zo bs):=by
 have hlt:=h.lt;obtain⟨p,v,hb,hq,hown⟩:=h;rcases hq with rfl|rfl
 ·refine(Qa b w (by rw[Zr hb];rfl) (by simp [World.shape?,hb]) (Lib.frozen_of_heap hb 0)).mono ?_
  rintro e w' ⟨rfl,rfl⟩;have hb':(w.setCell ⟨b,0,none⟩ (.pointer (some ⟨b,0,none⟩))).heap[b]? =some (.cells #[.pointer (some ⟨b,0,none⟩),v,.int .i64 t] 76 (0,0)):=by
   simp [Zs,Array.getElem?_modify,hb]
  refine⟨rfl,⟨rfl,rfl,rfl,by simp [Zs],fun k _ hk _=>Zu _ _ _ _ hk,.inl (by simp [own,hb,hb'])⟩,v,hb',?_⟩;refine hown.kept (row:=some b) ⟨rfl,rfl,rfl,by simp [Zs],fun k _ hk=>Zu _ _ _ _ (fun e=>hk (by simp [e]))⟩ (Or.inr ?_);intro e;have:=hown.lt b e;omega
 ·refine(Rv b w (by rw[Zr hb];rfl)).mono ?_
  rintro e w' ⟨rfl,rfl⟩;exact⟨rfl,PFr.refl _ _,v,hb,hown⟩
theorem aV(P:Program)(w:World)(base:Nat)(t u ty e:TypeId)(i:TypeInfo)(ht:P.underlying t=some (.slice e))(hu:P.underlying u=some .string)(hi:P.info? e=some i)(hz:i.zero=some (.int .u8 0))
  (hsize:i.size=1) (hby:i.bytes=1) (v:Value) (n:Nat) (xs:List Value) (hown:w.ownsRow base e 1 v n xs) (s:ByteArray)
  (h63:n+s.size≤maxLen) (hbytes:n+s.size≤140737488355328) (hbase:base≤w.heap.size):
  ∃v' w',(Builtin.append_ #[t,u] ty #[v,.string s]).run P w=.ok v' w'∧w'.ownsRow base e 1 v' (n+s.size) (xs++Lib.strCells s)∧w.grownBy w' v.ownBlock∧
   (v'.ownBlock=v.ownBlock∨∃k,w.heap.size≤k∧v'.ownBlock=some k):=by
 obtain⟨v',w',hr,h2,h3,h4⟩:=Lib.run_append_own_string (P:=P) w base t u ty e i ht hu hi hz hsize hby v n xs hown s h63 hbytes hbase;refine⟨v',w',hr,h2,h3,?_⟩;have h63':n+s.size≤9223372036854775807:=by simp only[maxLen]at h63;omega
 rcases hown.2 with⟨rfl,rfl⟩|⟨g,cap,cur,rfl,hbg,hg,hnc,hcm,hcs,htake⟩
 ·by_cases hm:s.size=0
  ·rw[h4.2 ⟨rfl,hm⟩];exact .inl rfl
  ·have hq:=run_append_nil_string (P:=P) w t u ty e i (.int .u8 0) ht hu hi hz s (by omega) (by omega) (by rw[hby];omega)
   rw[hr]at hq
   cases hq
   exact .inr ⟨w.heap.size,Zq _,rfl⟩
 ·by_cases hroom:n+s.size≤cap
  ·have hcs':cur.size=cap:=by simpa using hcs
   have hq:=Lib.run_append_room_string (P:=P) w t u ty e i ht hu hi hsize g n cap cur hg s hroom (by omega);rw[hr]at hq
   cases hq
   exact .inl rfl
  ·have hxl:xs.length=n:=by simpa using hown.1
   have holds:∀j u,xs[j]? =some u→w.cell? ((⟨g,0,none⟩:Addr).add j)=some u:=hown.cells (g:=g) rfl;have hq:=Lib.run_append_grow_string (P:=P) w t u ty e i (.int .u8 0) ht hu hi hz ⟨g,0,none⟩ n cap xs (by rw[hsize];simpa using hxl) holds s (by omega) (by omega) (by rw[hby];exact growslice_fits (by omega) (by omega));rw[hr]at hq
   cases hq
   exact .inr ⟨w.heap.size,Zq _,rfl⟩
theorem Mz {P:Program}{w:World}{ops:Array Oper}{rest:List Oper}{o:Oper}{a:Act}{Q:Exit→Act→World→Prop}(hgd:o.guard=none)(sl x:Operand)(t u:TypeId)
  (ho:o.op=.call {callee:=.builtin .append,args:= #[sl,x],argTypes:= #[t,u]})
  (base:Nat) (e:TypeId) (i:TypeInfo) (ht:P.underlying t=some (.slice e)) (hu:P.underlying u=some .string) (hi:P.info? e=some i) (hz:i.zero=some (.int .u8 0))
  (hsize:i.size=1) (hby:i.bytes=1)
  (v:Value) (n:Nat) (xs:List Value) (hs:a.eval sl=v) (hown:w.ownsRow base e 1 v n xs) (s:ByteArray) (hx:a.eval x=.string s)
  (h63:n+s.size≤maxLen) (hbytes:n+s.size≤140737488355328) (hbase:base≤w.heap.size)
  (h:∀v' w',w'.ownsRow base e 1 v' (n+s.size) (xs++Lib.strCells s)→w.grownBy w' v.ownBlock→(v'.ownBlock=v.ownBlock∨∃k,w.heap.size≤k∧v'.ownBlock=some k)→wpList P ops Q rest (a.put o.dst v') w'):wpList P ops Q (o::rest) a w:=by
 refine wpList_plain hgd fun K hK=>?_
 obtain⟨v',w',hr,h2,h3,h4⟩:=aV P w base t u o.type e i ht hu hi hz hsize hby v n xs hown s h63 hbytes hbase;unfold Oper.wp execOp;simp only[ho,resolve,invoke,builtin,Sem.run_bind,Sem.run_pure,Result.andThen_ok,List.map_toArray,List.map_cons,List.map_nil,hs,hx,hr];exact hK _ _ (h v' w' h2 h3 h4)
theorem Rr(s:Bs):Lib.strCells (Aa s)=Zo s:=by simp [Lib.strCells,Zo]
theorem Si(a c:Bs):Zo a++Zo c=Zo (a++c):=by simp [Zo]
theorem Pz(s:Bs)(b:Nat)(bs:Bs)(t:Int)(w:World)(h:Bt w b bs t)(hlen:Ci (bs.length+s.length)):
  Calls Za 109 #[.pointer (some ⟨b,0,none⟩),.string (Aa s)] w fun e w'=>e=.returned (.tuple #[.int .i64 s.length,.nilIface])∧Bt w' b (bs++s) t∧PFr b w w':=by
 obtain⟨i0,hi,hz0,hz1,hz2⟩:=info_parts infoByte;have hlt:=h.lt;have HL:Hid (bs.length+s.length≤140737488355328):=hlen;clear hlen;go_enter func109,ntmps109
 go_wp2_with fail
 refine(Sh b bs t _ h).mono ?_;rintro e w1 ⟨rfl,hf1,v,hbk,hown⟩;have HF1:=Zb hf1;have hs1:=hf1.size;clear hf1 h;have c0:w1.cell? ⟨b,0,none⟩=some (.pointer (some ⟨b,0,none⟩)):=by rw[Zr hbk];rfl
 have c1:w1.cell? ⟨b,1,none⟩=some v:=by rw[Zr hbk];rfl
 go_wp2_with (at_builtin;refine Mz (P:=Za) rfl _ _ 72 9 rfl (b+1) 5 i0 underlying72 underlying9 hi hz0 hz1 hz2 _ _ _ rfl hown (Aa s) rfl ?c3 ?c4 ?c5 ?_)
 case c3=>have:=HL.o;unfold maxLen;show bs.length+s.length≤_;omega
 case c4=>exact HL.o
 case c5=>omega
 intro v' w2 hown' hgrow hwhere;have hlt1:b<w1.heap.size:=by omega
 have hb2:w2.heap[b]? =some (.cells #[.pointer (some ⟨b,0,none⟩),v,.int .i64 t] 76 (0,0)):=by
  rw[hgrow.block b hlt1 (fun e=>by have:=hown.lt b e.symm;omega)];exact hbk
 have d0:w2.cell? ⟨b,0,none⟩=some (.pointer (some ⟨b,0,none⟩)):=by rw[Zr hb2];rfl
 have d1:w2.cell? ⟨b,1,none⟩=some v:=by rw[Zr hb2];rfl
 have f1:w2.frozen? ⟨b,1,none⟩=false:=Lib.frozen_of_heap hb2 1;obtain⟨ao,n',cap,rfl⟩:∃ao n' cap,v'=.slice ao n' cap:=by
  rcases hown'.2 with⟨hv,_⟩|⟨g,cap,cur,hv,_⟩
  ·exact⟨_,_,_,hv⟩
  ·exact⟨_,_,_,hv⟩
 have HBK:=Zb hbk;have HB2:=Zb hb2;have HOWN:=Zb hown;have HOWN':=Zb hown';have HG:=Zb hgrow;have HW:=Zb hwhere;clear hbk hb2 hown hown' hgrow hwhere;go_wp2_with fail
 go_ret2
 have hb3:(w2.setCell ⟨b,1,none⟩ (.slice ao n' cap)).heap[b]? =some (.cells #[.pointer (some ⟨b,0,none⟩),.slice ao n' cap,.int .i64 t] 76 (0,0)):=by
  simp [Zs,Array.getElem?_modify,HB2.o]
 have own1:own w1 b=v.ownBlock:=by simp [own,HBK.o]
 have own3:own (w2.setCell ⟨b,1,none⟩ (.slice ao n' cap)) b=(Value.slice ao n' cap).ownBlock:=by simp [own,hb3]
 refine⟨rfl,⟨_,_,hb3,.inr rfl,?_⟩,HF1.o.trans ⟨?_,?_,?_,?_,?_,?_⟩⟩
 ·have q:=HOWN'.o
  rw[Rr,Si]at q;rw[show(bs++s).length=bs.length+(Aa s).size from by simp;rfl];refine q.kept (row:=some b) ⟨rfl,rfl,rfl,by simp [Zs],fun k _ hk=>Zu _ _ _ _ (fun e=>hk (by simp [e]))⟩ (Or.inr ?_);intro e;have:=q.lt b e;omega
 ·exact HG.o.os
 ·exact HG.o.tape
 ·exact HG.o.output
 ·have:=HG.o.size;simp [Zs];omega
 ·intro k hk hkb hko
  rw[Zu _ _ _ _ (by simpa using hkb)];exact HG.o.block k hk (fun e=>hko (by rw[own1];exact e.symm))
 ·rw[own3,own1];exact HW.o
theorem Bt.alloc {w:World}{b:Nat}{bs:Bs}{t:Int}(h:Bt w b bs t)(o:Obj):Bt (w.alloc o) b bs t:=h.old (bA)
theorem PFr.alloc {w:World}{b:Nat}{bs:Bs}{t:Int}(h:Bt w b bs t)(o:Obj):PFr b w (w.alloc o):=PFr.of_below (bA) h.lt
theorem Uy(ws:List Bs)(X cap b:Nat)(bs:Bs)(t:Int)(w:World)(hp:Bt w b bs t)(hl:Loc w b X (ws.map fun s=>.string (Aa s)))(hf:Ci (bs.length+ws.flatten.length))(hn:ws.length≤1000):
  Calls Za 64 #[.pointer (some ⟨b,0,none⟩),.slice (some ⟨X,0,none⟩) ws.length cap] w (Hw w b bs t ws.flatten):=by
 have HP:=Zb hp;have HL:=Zb hl;have HF:=Zb hf;clear hp hl hf;go_enter func64,ntmps64
 go_wp2_with fail
 go_loopw [5,8] (fun _ s8 wr=> ∃k:Nat,k≤ws.length∧s8=.int .i64 k∧Bt wr b (bs++(ws.take k).flatten) t∧PFr b w wr) (fun _ s8 _=>ws.length-(intOf s8).toNat)
 case atStart=>exact⟨0,Nat.zero_le _,rfl,by simpa using HP.o,PFr.refl _ _⟩
 case round=>
  obtain⟨k,hk,rfl,hp,hfr⟩:=hrel;have HPK:=Zb hp;have HFR:=Zb hfr;have hbl:=hp.lt;have HLK:=Zb (HL.o.step hfr);clear hp hfr
  by_cases hlt:k<ws.length
  ·have c:=HLK.o.cell k (by simpa using hlt)
   have ec:(ws.map fun s=>Value.string (Aa s))[k]'(by simpa using hlt)=.string (Aa (ws.getD k [])):=by simp [Zm hlt]
   rw[ec]at c;have hsp:Hid ((ws.take (k+1)).flatten=(ws.take k).flatten++ws.getD k []):=by
    show _=_
    rw[Zy hlt];simp only[List.flatten_append,List.flatten_cons,List.flatten_nil,List.append_nil,Ya,Zm hlt,Option.getD_some]
   have hfit:Hid (Ci ((bs++(ws.take k).flatten).length+(ws.getD k []).length)):=by
    refine HF.o.mono ?_;have e:ws.flatten=(ws.take (k+1)).flatten++(ws.drop (k+1)).flatten:=by rw[←List.flatten_append,List.take_append_drop]
    rw[e,hsp.out];simp;omega
   clear ec;generalize ws.getD k []=s at c hsp hfit;go_wp2_with fail
   refine(Pz s b _ t _ HPK.o hfit.out).mono ?_;rintro r w3 ⟨rfl,hp3,hf3⟩;have HP3:=Zb hp3;have HF3:=Zb hf3;clear hp3 hf3;go_wp2_with fail
   go_roundw
   case rel=>exact⟨k+1,by omega,by go_num,by rw[hsp.out,←List.append_assoc];exact HP3.o,HFR.o.trans HF3.o⟩
   case measure=>simp [intOf];omega
  ·go_wp2_with fail
   go_end0
   exact⟨rfl,by have e:ws.take k=ws:=List.take_of_length_le (by omega);have q:=HPK.o;rwa[e]at q,HFR.o⟩
theorem Nh(s:Bs)(T:TypeId)(X b:Nat)(bs:Bs)(t:Int)(w:World)(hX:X=w.heap.size)(hp:Bt w b bs t)(hf:Ci (bs.length+s.length)):
  Calls Za 64 #[.pointer (some ⟨b,0,none⟩),.slice (some ⟨X,0,none⟩) 1 1] (w.alloc (.cells #[.string (Aa s)] T)) (Hw w b bs t s):=by
 subst hX;refine(Uy [s] w.heap.size 1 b bs t _ (hp.alloc _) (Loc.new hp [.string (Aa s)] T) (by simpa using hf) (by simp)).mono ?_;rintro r w' ⟨rfl,h2,h3⟩;exact⟨rfl,by simpa using h2,(PFr.alloc hp _).trans h3⟩
theorem put2(s1 s2:Bs)(T:TypeId)(X b:Nat)(bs:Bs)(t:Int)(w:World)(hX:X=w.heap.size)(hp:Bt w b bs t)(hf:Ci (bs.length+(s1++s2).length)):
  Calls Za 64 #[.pointer (some ⟨b,0,none⟩),.slice (some ⟨X,0,none⟩) 2 2] (w.alloc (.cells #[.string (Aa s1),.string (Aa s2)] T)) (Hw w b bs t (s1++s2)):=by
 subst hX;refine(Uy [s1,s2] w.heap.size 2 b bs t _ (hp.alloc _) (Loc.new hp [.string (Aa s1),.string (Aa s2)] T) (by simpa using hf) (by simp)).mono ?_;rintro r w' ⟨rfl,h2,h3⟩;exact⟨rfl,by simpa using h2,(PFr.alloc hp _).trans h3⟩
theorem put3(s1 s2 s3:Bs)(T:TypeId)(X b:Nat)(bs:Bs)(t:Int)(w:World)(hX:X=w.heap.size)(hp:Bt w b bs t)(hf:Ci (bs.length+(s1++(s2++s3)).length)):
  Calls Za 64 #[.pointer (some ⟨b,0,none⟩),.slice (some ⟨X,0,none⟩) 3 3] (w.alloc (.cells #[.string (Aa s1),.string (Aa s2),.string (Aa s3)] T)) (Hw w b bs t (s1++(s2++s3))):=by
 subst hX;refine(Uy [s1,s2,s3] w.heap.size 3 b bs t _ (hp.alloc _) (Loc.new hp [.string (Aa s1),.string (Aa s2),.string (Aa s3)] T) (by simpa using hf) (by simp)).mono ?_;rintro r w' ⟨rfl,h2,h3⟩;exact⟨rfl,by simpa using h2,(PFr.alloc hp _).trans h3⟩
theorem iV(o n:Int)(nm:Bs)(s:Value)(w:World):
  Calls Za 94 #[.agg #[.int .i64 1,.int .i64 o,.int .i64 n,.string (Aa nm),s]] w fun r w'=>r=.returned (.tuple #[.agg #[.int .i64 1,.int .i64 0,.int .i64 n,.string (Aa []),.slice none 0 0],.int .i64 0,.bool (decide (0≤n))])∧Below w.heap.size w w':=by
 go_enter Zh,Zi
 go_wp2_with fail
 go_region
 go_wp2_with fail
 all_goals(refine bodyPost_ret (v:=.tuple #[.agg #[.int .i64 1,.int .i64 0,.int .i64 n,.string (Aa []),.slice none 0 0],.int .i64 0,.bool (decide (0≤n))]) (by simp [results,Zj,go_sem]) rfl ⟨rfl,?_⟩)
 all_goals(repeat(first|exact Zd _ _|refine Zk ?_ (by simp) _|refine Zp ?_ |refine Zn ?_ (by simp) _))
theorem gP(o n:Int)(nm:Bs)(s:Value)(w:World):
  Calls Za 94 #[.agg #[.int .i64 2,.int .i64 o,.int .i64 n,.string (Aa nm),s]] w fun r w'=>r=.returned (.tuple #[.agg #[.int .i64 2,.int .i64 0,.int .i64 0,.string (Aa nm),.slice none 0 0],.int .i64 0,.bool (An nm)])∧Below w.heap.size w w':=by
 go_enter Zh,Zi
 go_wp2_with fail
 go_region_held3 (fun w'=>w'.cell? ⟨w.heap.size,3,none⟩=some (.string (Aa nm))∧w'.cell? ⟨w.heap.size+1,0,none⟩=some (.int .i64 2)∧w'.cell? ⟨w.heap.size+1,1,none⟩=some (.int .i64 0)∧w'.cell? ⟨w.heap.size+1,2,none⟩=some (.int .i64 0)∧w'.cell? ⟨w.heap.size+1,3,none⟩=some (.string (Aa nm))∧w'.cell? ⟨w.heap.size+1,4,none⟩=some (.slice none 0 0)) (first|(simp [*,Ek,Zc];done)|go_keep) (first|(go_at_call 73;refine(Jq _ _).mono ?_;rintro e w1 ⟨he,hb⟩;subst he;obtain⟨hc,hf⟩:=Ph hb;have hz:w.heap.size+1<w1.heap.size:=(by have:=hb.size;simp at this;omega);have g03:w1.cell? ⟨w.heap.size,3,none⟩=some (.string (Aa nm)):=Ac hb (by simp [Zc]);have g10:w1.cell? ⟨w.heap.size+1,0,none⟩=some (.int .i64 2):=Ac hb (by simp [Zc]);have g11:w1.cell? ⟨w.heap.size+1,1,none⟩=some (.int .i64 0):=Ac hb (by simp [Zc]);have g12:w1.cell? ⟨w.heap.size+1,2,none⟩=some (.int .i64 0):=Ac hb (by simp [Zc]);have g13:w1.cell? ⟨w.heap.size+1,3,none⟩=some (.string (Aa nm)):=Ac hb (by simp [Zc]);have g14:w1.cell? ⟨w.heap.size+1,4,none⟩=some (.slice none 0 0):=Ac hb (by simp [Zc])))
 go_wp2_with fail
 all_goals(refine bodyPost_ret (v:=.tuple #[.agg #[.int .i64 2,.int .i64 0,.int .i64 0,.string (Aa nm),.slice none 0 0],.int .i64 0,.bool (An nm)]) (by simp [results,Zj,go_sem,hc]) rfl ⟨rfl,?_⟩)
 all_goals(repeat(refine Zk ?_ (by simp) _))
 all_goals(exact((bA).alloc (by simp) _).drew.trans (hb.mono (by simp;omega)))
theorem Yw(n:Int)(nm:Bs)(s:Value)(w:World):
  Calls Za 94 #[.agg #[.int .i64 3,.int .i64 17,.int .i64 n,.string (Aa nm),s]] w fun r w'=>r=.returned (.tuple #[.agg #[.int .i64 3,.int .i64 17,.int .i64 0,.string (Aa []),.slice none 0 0],.int .i64 1,.bool true])∧Below w.heap.size w w':=by
 go_enter Zh,Zi
 go_wp2_with fail
 go_region
 go_wp2_with fail
 all_goals(refine bodyPost_ret (v:=.tuple #[.agg #[.int .i64 3,.int .i64 17,.int .i64 0,.string (Aa []),.slice none 0 0],.int .i64 1,.bool true]) (by simp [results,Zj,go_sem]) rfl ⟨rfl,?_⟩)
 all_goals(repeat(first|exact Zd _ _|refine Zk ?_ (by simp) _|refine Zp ?_ |refine Zn ?_ (by simp) _))
theorem bU(n:Int)(nm:Bs)(s:Value)(w:World):
  Calls Za 94 #[.agg #[.int .i64 3,.int .i64 18,.int .i64 n,.string (Aa nm),s]] w fun r w'=>r=.returned (.tuple #[.agg #[.int .i64 3,.int .i64 18,.int .i64 0,.string (Aa []),.slice none 0 0],.int .i64 1,.bool true])∧Below w.heap.size w w':=by
 go_enter Zh,Zi
 go_wp2_with fail
 go_region
 go_wp2_with fail
 all_goals(refine bodyPost_ret (v:=.tuple #[.agg #[.int .i64 3,.int .i64 18,.int .i64 0,.string (Aa []),.slice none 0 0],.int .i64 1,.bool true]) (by simp [results,Zj,go_sem]) rfl ⟨rfl,?_⟩)
 all_goals(repeat(first|exact Zd _ _|refine Zk ?_ (by simp) _|refine Zp ?_ |refine Zn ?_ (by simp) _))
theorem aO(n:Int)(nm:Bs)(s:Value)(w:World):
  Calls Za 94 #[.agg #[.int .i64 3,.int .i64 19,.int .i64 n,.string (Aa nm),s]] w fun r w'=>r=.returned (.tuple #[.agg #[.int .i64 3,.int .i64 19,.int .i64 0,.string (Aa []),.slice none 0 0],.int .i64 1,.bool true])∧Below w.heap.size w w':=by
 go_enter Zh,Zi
 go_wp2_with fail
 go_region
 go_wp2_with fail
 all_goals(refine bodyPost_ret (v:=.tuple #[.agg #[.int .i64 3,.int .i64 19,.int .i64 0,.string (Aa []),.slice none 0 0],.int .i64 1,.bool true]) (by simp [results,Zj,go_sem]) rfl ⟨rfl,?_⟩)
 all_goals(repeat(first|exact Zd _ _|refine Zk ?_ (by simp) _|refine Zp ?_ |refine Zn ?_ (by simp) _))
theorem jY(o n:Int)(nm:Bs)(s:Value)(w:World)(h1:o≠17)(h2:o≠18)(h3:o≠19):
  Calls Za 94 #[.agg #[.int .i64 3,.int .i64 o,.int .i64 n,.string (Aa nm),s]] w fun r w'=>r=.returned (.tuple #[.agg #[.int .i64 3,.int .i64 o,.int .i64 0,.string (Aa []),.slice none 0 0],.int .i64 1,.bool false])∧Below w.heap.size w w':=by
 have k1:(o==17)=false:=by simpa using h1
 have k2:(o==18)=false:=by simpa using h2
 have k3:(o==19)=false:=by simpa using h3
 clear h1 h2 h3;go_enter Zh,Zi
 go_wp2_with fail
 go_region
 go_wp2_with fail
 all_goals(refine bodyPost_ret (v:=.tuple #[.agg #[.int .i64 3,.int .i64 o,.int .i64 0,.string (Aa []),.slice none 0 0],.int .i64 1,.bool false]) (by simp [results,Zj,go_sem]) rfl ⟨rfl,?_⟩)
 all_goals(repeat(first|exact Zd _ _|refine Zk ?_ (by simp) _|refine Zp ?_ |refine Zn ?_ (by simp) _))
theorem gN(o n:Int)(nm:Bs)(s:Value)(w:World):
  Calls Za 94 #[.agg #[.int .i64 4,.int .i64 o,.int .i64 n,.string (Aa nm),s]] w fun r w'=>r=.returned (.tuple #[.agg #[.int .i64 4,.int .i64 o,.int .i64 0,.string (Aa []),.slice none 0 0],.int .i64 2,.bool (decide (0<Au o))])∧Below w.heap.size w w':=by
 go_enter Zh,Zi
 go_wp2_with fail
 go_region_held3 (fun w'=>w'.cell? ⟨w.heap.size,1,none⟩=some (.int .i64 o)∧w'.cell? ⟨w.heap.size+1,0,none⟩=some (.int .i64 4)∧w'.cell? ⟨w.heap.size+1,1,none⟩=some (.int .i64 o)∧w'.cell? ⟨w.heap.size+1,2,none⟩=some (.int .i64 0)∧w'.cell? ⟨w.heap.size+1,3,none⟩=some (.string (Aa []))∧w'.cell? ⟨w.heap.size+1,4,none⟩=some (.slice none 0 0)) (first|(simp [*,Ek,Zc];done)|go_keep) (first|(go_at_call 87;refine(Lw _ _).mono ?_;rintro e w1 ⟨he,hb⟩;subst he;obtain⟨hc,hf⟩:=Ph hb;have hz:w.heap.size+1<w1.heap.size:=(by have:=hb.size;simp at this;omega);have g01:w1.cell? ⟨w.heap.size,1,none⟩=some (.int .i64 o):=Ac hb (by simp [Zc]);have g10:w1.cell? ⟨w.heap.size+1,0,none⟩=some (.int .i64 4):=Ac hb (by simp [Zc]);have g11:w1.cell? ⟨w.heap.size+1,1,none⟩=some (.int .i64 o):=Ac hb (by simp [Zc]);have g12:w1.cell? ⟨w.heap.size+1,2,none⟩=some (.int .i64 0):=Ac hb (by simp [Zc]);have g13:w1.cell? ⟨w.heap.size+1,3,none⟩=some (.string (Aa [])):=Ac hb (by simp [Zc]);have g14:w1.cell? ⟨w.heap.size+1,4,none⟩=some (.slice none 0 0):=Ac hb (by simp [Zc])))
 go_wp2_with fail
 all_goals(refine bodyPost_ret (v:=.tuple #[.agg #[.int .i64 4,.int .i64 o,.int .i64 0,.string (Aa []),.slice none 0 0],.int .i64 2,.bool (decide (0<Au o))]) (by simp [results,Zj,go_sem,hc]) rfl ⟨rfl,?_⟩)
 all_goals(repeat(refine Zk ?_ (by simp) _))
 all_goals(exact((bA).alloc (by simp) _).drew.trans (hb.mono (by simp;omega)))
theorem eQ(o n:Int)(nm:Bs)(a:Option Addr)(len cap:Nat)(hn:An nm=true)(w:World):
  Calls Za 94 #[.agg #[.int .i64 5,.int .i64 o,.int .i64 n,.string (Aa nm),.slice a len cap]] w fun r w'=>r=.returned (.tuple #[.agg #[.int .i64 5,.int .i64 0,.int .i64 0,.string (Aa nm),.slice none 0 0],.int .i64 len,.bool (decide ((len:Int)≤6))])∧Below w.heap.size w w':=by
 go_enter Zh,Zi
 go_wp2_with fail
 go_region_held3 (fun w'=>w'.cell? ⟨w.heap.size,3,none⟩=some (.string (Aa nm))∧w'.cell? ⟨w.heap.size,4,none⟩=some (.slice a len cap)∧w'.cell? ⟨w.heap.size+1,0,none⟩=some (.int .i64 5)∧w'.cell? ⟨w.heap.size+1,1,none⟩=some (.int .i64 0)∧w'.cell? ⟨w.heap.size+1,2,none⟩=some (.int .i64 0)∧w'.cell? ⟨w.heap.size+1,3,none⟩=some (.string (Aa nm))∧w'.cell? ⟨w.heap.size+1,4,none⟩=some (.slice none 0 0)) (first|(simp [*,Ek,Zc];done)|go_keep) (first|(go_at_call 73;refine(Jq _ _).mono ?_;rintro e w1 ⟨he,hb⟩;rw[hn]at he;subst he;obtain⟨hc,hf⟩:=Ph hb;have hz:w.heap.size+1<w1.heap.size:=(by have:=hb.size;simp at this;omega);have g03:w1.cell? ⟨w.heap.size,3,none⟩=some (.string (Aa nm)):=Ac hb (by simp [Zc]);have g04:w1.cell? ⟨w.heap.size,4,none⟩=some (.slice a len cap):=Ac hb (by simp [Zc]);have g10:w1.cell? ⟨w.heap.size+1,0,none⟩=some (.int .i64 5):=Ac hb (by simp [Zc]);have g11:w1.cell? ⟨w.heap.size+1,1,none⟩=some (.int .i64 0):=Ac hb (by simp [Zc]);have g12:w1.cell? ⟨w.heap.size+1,2,none⟩=some (.int .i64 0):=Ac hb (by simp [Zc]);have g13:w1.cell? ⟨w.heap.size+1,3,none⟩=some (.string (Aa nm)):=Ac hb (by simp [Zc]);have g14:w1.cell? ⟨w.heap.size+1,4,none⟩=some (.slice none 0 0):=Ac hb (by simp [Zc])))
 go_wp2_with fail
 all_goals(refine bodyPost_ret (v:=.tuple #[.agg #[.int .i64 5,.int .i64 0,.int .i64 0,.string (Aa nm),.slice none 0 0],.int .i64 len,.bool (decide ((len:Int)≤6))]) (by simp [results,Zj,go_sem,hc]) rfl ⟨rfl,?_⟩)
 all_goals(repeat(refine Zk ?_ (by simp) _))
 all_goals(exact((bA).alloc (by simp) _).drew.trans (hb.mono (by simp;omega)))
theorem Ym(o n:Int)(nm:Bs)(a:Option Addr)(len cap:Nat)(hn:An nm=false)(w:World):
  Calls Za 94 #[.agg #[.int .i64 5,.int .i64 o,.int .i64 n,.string (Aa nm),.slice a len cap]] w fun r w'=>r=.returned (.tuple #[.agg #[.int .i64 5,.int .i64 0,.int .i64 0,.string (Aa nm),.slice none 0 0],.int .i64 len,.bool false])∧Below w.heap.size w w':=by
 go_enter Zh,Zi
 go_wp2_with fail
 refine wp_region_held_drew (S:=(fun w'=>w'.cell? ⟨w.heap.size,3,none⟩=some (.string (Aa nm))∧w'.cell? ⟨w.heap.size,4,none⟩=some (.slice a len cap)∧w'.cell? ⟨w.heap.size+1,0,none⟩=some (.int .i64 5)∧w'.cell? ⟨w.heap.size+1,1,none⟩=some (.int .i64 0)∧w'.cell? ⟨w.heap.size+1,2,none⟩=some (.int .i64 0)∧w'.cell? ⟨w.heap.size+1,3,none⟩=some (.string (Aa nm))∧w'.cell? ⟨w.heap.size+1,4,none⟩=some (.slice none 0 0))) (by kernel_rfl) ?_ (fun hHeld=>?_)
 ·(first|(simp [*,Ek,Zc];done)|go_keep)
 refine wpAnyH_take (i:=0) (v:= ?_) rfl (by kernel_rfl) (by kernel_rfl) (by kernel_rfl) (fun _ _ _ h=>h) (Or.inl ⟨rfl,?_⟩) (by assumption) ?_;rotate_left 1
 ·intro w hSw;(try dsimp only at hSw);go_simp;(try with_reducible rfl)
 (try simp only[Act.put,Ze,Zf,Zg]);refine wpAnyH_take (i:=1) (v:= ?_) rfl (by kernel_rfl) (by kernel_rfl) (by kernel_rfl) (fun _ _ _ h=>h) (Or.inl ⟨rfl,?_⟩) (by assumption) ?_;rotate_left 1
 ·intro w hSw;(try dsimp only at hSw);go_simp;(try with_reducible rfl)
 (try simp only[Act.put,Ze,Zf,Zg]);refine wpAnyH_take (i:=2) (v:= ?_) rfl (by kernel_rfl) (by kernel_rfl) (by kernel_rfl) (fun _ _ _ h=>h) (Or.inl ⟨rfl,?_⟩) (by assumption) ?_;rotate_left 1
 ·intro w hSw;(try dsimp only at hSw);go_simp;(try with_reducible rfl)
 (try simp only[Act.put,Ze,Zf,Zg]);refine wpAnyH_take (i:=3) (v:= ?_) rfl (by kernel_rfl) (by kernel_rfl) (by kernel_rfl) (fun _ _ _ h=>h) (Or.inl ⟨rfl,?_⟩) (by assumption) ?_;rotate_left 1
 ·intro w hSw;(try dsimp only at hSw);go_simp;(try with_reducible rfl)
 (try simp only[Act.put,Ze,Zf,Zg]);refine wpAnyH_take (i:=4) (v:= ?_) rfl (by kernel_rfl) (by kernel_rfl) (by kernel_rfl) (fun _ _ _ h=>h) (Or.inl ⟨rfl,?_⟩) (by assumption) ?_;rotate_left 1
 ·intro w hSw;(try dsimp only at hSw);go_simp;(try with_reducible rfl)
 (try simp only[Act.put,Ze,Zf,Zg]);refine wpAnyH_take (i:=5) (v:= ?_) rfl (by kernel_rfl) (by kernel_rfl) (by kernel_rfl) (fun _ _ _ h=>h) (Or.inl ⟨rfl,?_⟩) (by assumption) ?_;rotate_left 1
 ·intro w hSw;(try dsimp only at hSw);go_simp;(try with_reducible rfl)
 (try simp only[Act.put,Ze,Zf,Zg]);refine wpAnyH_ready (rs:=[6]) (by kernel_rfl) (by simp) ?_;refine AllReadyH.cons rfl (fun K hK=>?_) AllReadyH.nil;(try simp only[Zv,Zw,Zx]);go_simp;go_at_call 73;refine(Jq _ _).mono ?_;rintro e w1 ⟨he,hb⟩;rw[hn]at he;subst he;obtain⟨hc,hf⟩:=Ph hb;have hz:w.heap.size+1<w1.heap.size:=(by have:=hb.size;simp at this;omega);have g03:w1.cell? ⟨w.heap.size,3,none⟩=some (.string (Aa nm)):=Ac hb (by simp [Zc]);have g04:w1.cell? ⟨w.heap.size,4,none⟩=some (.slice a len cap):=Ac hb (by simp [Zc]);have g10:w1.cell? ⟨w.heap.size+1,0,none⟩=some (.int .i64 5):=Ac hb (by simp [Zc]);have g11:w1.cell? ⟨w.heap.size+1,1,none⟩=some (.int .i64 0):=Ac hb (by simp [Zc]);have g12:w1.cell? ⟨w.heap.size+1,2,none⟩=some (.int .i64 0):=Ac hb (by simp [Zc]);have g13:w1.cell? ⟨w.heap.size+1,3,none⟩=some (.string (Aa nm)):=Ac hb (by simp [Zc]);have g14:w1.cell? ⟨w.heap.size+1,4,none⟩=some (.slice none 0 0):=Ac hb (by simp [Zc])
 refine hK.out _ _ ?_ (fun hHeld=>?_)
 ·(try dsimp only);(first|(simp [*,Ek,Zc];done)|go_keep)
 clear hK K;(try simp only[Act.put,Ze,Zf,Zg]);refine wpAnyH_take (i:=7) (v:= ?_) rfl (by kernel_rfl) (by kernel_rfl) (by kernel_rfl) (fun _ _ _ h=>h) (Or.inl ⟨rfl,?_⟩) (by assumption) ?_;rotate_left 1
 ·intro w hSw;(try dsimp only at hSw);go_simp;(try with_reducible rfl)
 (try simp only[Act.put,Ze,Zf,Zg]);refine wpAnyH_take (i:=8) rfl (by kernel_rfl) (by kernel_rfl) (by kernel_rfl) (fun _ _ _ h=>h) (Or.inr ⟨rfl,rfl⟩) (by assumption) ?_;(try simp only[Act.put,Ze,Zf,Zg]);refine wpAnyH_take (i:=9) rfl (by kernel_rfl) (by kernel_rfl) (by kernel_rfl) (fun _ _ _ h=>h) (Or.inr ⟨rfl,rfl⟩) (by assumption) ?_;(try simp only[Act.put,Ze,Zf,Zg]);refine wpAnyH_take (i:=10) rfl (by kernel_rfl) (by kernel_rfl) (by kernel_rfl) (fun _ _ _ h=>h) (Or.inr ⟨rfl,rfl⟩) (by assumption) ?_;(try simp only[Act.put,Ze,Zf,Zg]);refine wpAnyH_take (i:=11) rfl (by kernel_rfl) (by kernel_rfl) (by kernel_rfl) (fun _ _ _ h=>h) (Or.inr ⟨rfl,rfl⟩) (by assumption) ?_;(try simp only[Act.put,Ze,Zf,Zg]);refine wpAnyH_take (i:=12) (v:= ?_) rfl (by kernel_rfl) (by kernel_rfl) (by kernel_rfl) (fun _ _ _ h=>h) (Or.inl ⟨rfl,?_⟩) (by assumption) ?_;rotate_left 1
 ·intro w hSw;(try dsimp only at hSw);go_simp;(try with_reducible rfl)
 (try simp only[Act.put,Ze,Zf,Zg]);refine wpAnyH_ready (rs:=[13]) (by kernel_rfl) (by simp) ?_;refine AllReadyH.cons rfl (fun K hK=>?_) AllReadyH.nil;(try simp only[Zv,Zw,Zx]);go_simp
 refine hK.out _ _ ?_ (fun hHeld=>?_)
 ·(try dsimp only);(first|(simp [*,Ek,Zc];done)|go_keep)
 clear hK K;(try simp only[Act.put,Ze,Zf,Zg]);refine wpAnyH_ready (rs:=[14]) (by kernel_rfl) (by simp) ?_;refine AllReadyH.cons rfl (fun K hK=>?_) AllReadyH.nil;(try simp only[Zv,Zw,Zx]);go_simp
 refine hK.out _ _ ?_ (fun hHeld=>?_)
 ·(try dsimp only);(first|(simp [*,Ek,Zc];done)|go_keep)
 clear hK K;(try simp only[Act.put,Ze,Zf,Zg]);refine wpAnyH_ready (rs:=[15]) (by kernel_rfl) (by simp) ?_;refine AllReadyH.cons rfl (fun K hK=>?_) AllReadyH.nil;(try simp only[Zv,Zw,Zx]);go_simp
 refine hK.out _ _ ?_ (fun hHeld=>?_)
 ·(try dsimp only);(first|(simp [*,Ek,Zc];done)|go_keep)
 clear hK K;(try simp only[Act.put,Ze,Zf,Zg]);refine wpAnyH_done (by kernel_rfl) ?_ _;go_wp2_with fail
 all_goals(refine bodyPost_ret (v:=.tuple #[.agg #[.int .i64 5,.int .i64 0,.int .i64 0,.string (Aa nm),.slice none 0 0],.int .i64 len,.bool false]) (by simp [results,Zj,go_sem,hc]) rfl ⟨rfl,?_⟩)
 all_goals(repeat(refine Zk ?_ (by simp) _))
 all_goals(exact((bA).alloc (by simp) _).drew.trans (hb.mono (by simp;omega)))
theorem aJ(o n:Int)(nm:Bs)(s:Value)(w:World):
  Calls Za 94 #[.agg #[.int .i64 6,.int .i64 o,.int .i64 n,.string (Aa nm),s]] w fun r w'=>r=.returned (.tuple #[.agg #[.int .i64 6,.int .i64 0,.int .i64 0,.string (Aa nm),.slice none 0 0],.int .i64 1,.bool (An nm)])∧Below w.heap.size w w':=by
 go_enter Zh,Zi
 go_wp2_with fail
 go_region_held3 (fun w'=>w'.cell? ⟨w.heap.size,3,none⟩=some (.string (Aa nm))∧w'.cell? ⟨w.heap.size+1,0,none⟩=some (.int .i64 6)∧w'.cell? ⟨w.heap.size+1,1,none⟩=some (.int .i64 0)∧w'.cell? ⟨w.heap.size+1,2,none⟩=some (.int .i64 0)∧w'.cell? ⟨w.heap.size+1,3,none⟩=some (.string (Aa nm))∧w'.cell? ⟨w.heap.size+1,4,none⟩=some (.slice none 0 0)) (first|(simp [*,Ek,Zc];done)|go_keep) (first|(go_at_call 73;refine(Jq _ _).mono ?_;rintro e w1 ⟨he,hb⟩;subst he;obtain⟨hc,hf⟩:=Ph hb;have hz:w.heap.size+1<w1.heap.size:=(by have:=hb.size;simp at this;omega);have g03:w1.cell? ⟨w.heap.size,3,none⟩=some (.string (Aa nm)):=Ac hb (by simp [Zc]);have g10:w1.cell? ⟨w.heap.size+1,0,none⟩=some (.int .i64 6):=Ac hb (by simp [Zc]);have g11:w1.cell? ⟨w.heap.size+1,1,none⟩=some (.int .i64 0):=Ac hb (by simp [Zc]);have g12:w1.cell? ⟨w.heap.size+1,2,none⟩=some (.int .i64 0):=Ac hb (by simp [Zc]);have g13:w1.cell? ⟨w.heap.size+1,3,none⟩=some (.string (Aa nm)):=Ac hb (by simp [Zc]);have g14:w1.cell? ⟨w.heap.size+1,4,none⟩=some (.slice none 0 0):=Ac hb (by simp [Zc])))
 go_wp2_with fail
 all_goals(refine bodyPost_ret (v:=.tuple #[.agg #[.int .i64 6,.int .i64 0,.int .i64 0,.string (Aa nm),.slice none 0 0],.int .i64 1,.bool (An nm)]) (by simp [results,Zj,go_sem,hc]) rfl ⟨rfl,?_⟩)
 all_goals(repeat(refine Zk ?_ (by simp) _))
 all_goals(exact((bA).alloc (by simp) _).drew.trans (hb.mono (by simp;omega)))
theorem fJ(o n:Int)(nm:Bs)(s:Value)(w:World):
  Calls Za 94 #[.agg #[.int .i64 7,.int .i64 o,.int .i64 n,.string (Aa nm),s]] w fun r w'=>r=.returned (.tuple #[.agg #[.int .i64 7,.int .i64 0,.int .i64 0,.string (Aa []),.slice none 0 0],.int .i64 0,.bool true])∧Below w.heap.size w w':=by
 go_enter Zh,Zi
 go_wp2_with fail
 all_goals(refine bodyPost_ret (v:=.tuple #[.agg #[.int .i64 7,.int .i64 0,.int .i64 0,.string (Aa []),.slice none 0 0],.int .i64 0,.bool true]) (by simp [results,Zj,go_sem]) rfl ⟨rfl,?_⟩)
 all_goals(repeat(first|exact Zd _ _|refine Zk ?_ (by simp) _|refine Zp ?_ |refine Zn ?_ (by simp) _))
theorem bN(k:Int)(h1:(k==1)=false)(h2:(k==2)=false)(h3:(k==3)=false)(h4:(k==4)=false)(h5:(k==5)=false)(h6:(k==6)=false)(h7:(k==7)=false)(o n:Int)(nm:Bs)(s:Value)(w:World):
  Calls Za 94 #[.agg #[.int .i64 k,.int .i64 o,.int .i64 n,.string (Aa nm),s]] w fun r w'=>r=.returned (.tuple #[.agg #[.int .i64 k,.int .i64 0,.int .i64 0,.string (Aa []),.slice none 0 0],.int .i64 0,.bool false])∧Below w.heap.size w w':=by
 go_enter Zh,Zi
 go_wp2_with fail
 all_goals(refine bodyPost_ret (v:=.tuple #[.agg #[.int .i64 k,.int .i64 0,.int .i64 0,.string (Aa []),.slice none 0 0],.int .i64 0,.bool false]) (by simp [results,Zj,go_sem]) rfl ⟨rfl,?_⟩)
 all_goals(repeat(first|exact Zd _ _|refine Zk ?_ (by simp) _|refine Zp ?_ |refine Zn ?_ (by simp) _))
theorem jC(e:Ex)(a:Option Addr)(cap:Nat)(w:World):
  Calls Za 94 #[exV e (.slice a e.args.length cap)] w fun r w'=>r=.returned (.tuple #[.agg #[.int .i64 e.kind,.int .i64 (Gd e),.int .i64 (Ho e),.string (Aa (Ds e)),.slice none 0 0],.int .i64 (Ca e),.bool (Du e)])∧Below w.heap.size w w':=by
 obtain⟨k,o,n,nm,args⟩:=e;show Calls _ _ #[.agg #[.int .i64 k,.int .i64 o,.int .i64 n,.string (Aa nm),.slice a args.length cap]] _ _
 have key:∀ {R R':Ending→World→Prop},R=R'→Calls Za 94 #[.agg #[.int .i64 k,.int .i64 o,.int .i64 n,.string (Aa nm),.slice a args.length cap]] w R→Calls Za 94 #[.agg #[.int .i64 k,.int .i64 o,.int .i64 n,.string (Aa nm),.slice a args.length cap]] w R':=fun h=>h ▸ id
 by_cases h1:k=1
 ·subst h1;exact iV _ _ _ _ _
 by_cases h2:k=2
 ·subst h2;exact gP _ _ _ _ _
 by_cases h3:k=3
 ·subst h3
  by_cases q1:o=17
  ·subst q1;exact Yw _ _ _ _
  by_cases q2:o=18
  ·subst q2;exact bU _ _ _ _
  by_cases q3:o=19
  ·subst q3;exact aO _ _ _ _
  refine key ?_ (jY o n nm _ w q1 q2 q3);simp [Gd,Ho,Ds,Ca,Du,Ex.kind,Ex.op,q1,q2,q3]
 by_cases h4:k=4
 ·subst h4;exact gN _ _ _ _ _
 by_cases h5:k=5
 ·subst h5
  cases hn:An nm
  ·refine key ?_ (Ym o n nm a args.length cap hn w)
   simp [Gd,Ho,Ds,Ca,Du,Ex.kind,Ex.name,Ex.args,hn]
  ·refine key ?_ (eQ o n nm a args.length cap hn w)
   simp [Gd,Ho,Ds,Ca,Du,Ex.kind,Ex.name,Ex.args,hn];rfl
 by_cases h6:k=6
 ·subst h6;exact aJ _ _ _ _ _
 by_cases h7:k=7
 ·subst h7;exact fJ _ _ _ _ _
 refine key ?_ (bN k (by simpa using h1) (by simpa using h2) (by simpa using h3) (by simpa using h4) (by simpa using h5) (by simpa using h6) (by simpa using h7) o n nm _ w);simp [Gd,Ho,Ds,Ca,Du,Ex.kind,h1,h2,h3,h4,h5,h6,h7]
def Ub(e:Ex):Prop:= ∀(D:Nat→Prop) (s:Value) (w:World),Aj D w e.args s→
 Calls Za 55 #[exV e s] w fun r w'=>r=.returned (.bool (Bb e))∧Below w.heap.size w w'
theorem well_fn(e:Ex)(ih:Ub e)(D:Nat→Prop)(s:Value)(w:World)(h:Aj D w e.args s):
  Calls Za 95 #[exV e s] w fun r w'=>r=.returned (.bool (!Bb e))∧Below w.heap.size w w':=by
 have H:=Zb h;clear h;have IH:=Zb ih;clear ih;go_enter func95,ntmps95
 go_wp2_with fail
 refine(IH.out D s _ (H.out.old (bA))).mono ?_;rintro r w1 ⟨rfl,hb⟩;go_wp2_with fail
 go_ret
 exact⟨rfl,(bA).trans (hb.mono (by simp))⟩
theorem fG(e:Ex)(ih:∀x,x∈e.args→Ub x):Ub e:=by
 intro D s w h;have H:=Zb h;have IH:=Zb ih;clear ih;generalize hl:e.args=l at h
 cases h with
 |mk _ a cap b off sv hcap hfit ha h0 h1 h2 h3 h4 hs=>
  subst hl;clear hcap hfit ha h0 h1 h2 h3 h4 hs;have HO:=Zb (jC e a cap ((w.alloc (.cells #[.int .i64 e.kind,.int .i64 e.op,.int .i64 e.n,.string (Aa e.name),.slice a e.args.length cap] 31))));go_enter func55,ntmps55
  go_wp2_with fail
  refine HO.o.mono ?_;rintro r w1 ⟨rfl,hb⟩;obtain⟨hc,hf⟩:=Ph hb;have hz:w.heap.size<w1.heap.size:=by have:=hb.size;simp at this;omega
  go_wp2_with fail
  ·refine(Kk 95 #[] Tryz.call95 e.args _ D _ (((H.out.old (bA)).old hb).old (bA)) (fun x=> !Bb x) ?_).mono ?_
   ·intro x s' w2 hx _ hs
    exact well_fn x (IH.out x hx) D s' w2 hs
   ·rintro r w2 ⟨rfl,hb2⟩
    go_wp2_with fail
    go_ret
    refine⟨Af ?_,(((bA).trans (hb.mono (by simp))).alloc (by omega) _).trans (hb2.mono (by simp;omega))⟩;rw[Hf];simp [Bw, *,List.any_eq_not_all_not]
  all_goals
   go_ret
   refine⟨Af ?_,((bA).trans (hb.mono (by simp))).alloc (by omega) _⟩;rw[Hf];simp [Bw, *]
theorem Xq:∀(n:Nat) (e:Ex),SizeOf.sizeOf e≤n→Ub e
 |0,e,h=>by cases e;simp at h
 |n+1,e,h=>fG e fun x hx=>Xq n x (by have:=Ex.size_lt hx;omega)
theorem Fz(e:Ex)(D:Nat→Prop)(s:Value)(w:World)(h:Aj D w e.args s):
  Calls Za 20 #[exV e s] w fun r w'=>r=.returned (.bool (Be e))∧Below w.heap.size w w':=by
 have H:=Zb h;clear h;have E:Hid (Be e=(Fn 40 e && Bb e)):=rfl;go_enter func20,ntmps20
 go_wp2_with fail
 refine(Yc 40 (by omega) D e s _ (H.out.old (bA))).mono ?_;rintro r w1 ⟨rfl,hb⟩;obtain⟨hc,hf⟩:=Ph hb
 cases hd:Fn 40 e
 ·have HD:=Zb hd;clear hd
  go_wp2_with fail
  go_ret
  exact⟨Af (by rw[E.out,HD.o];rfl),(bA).trans (hb.mono (by simp))⟩
 ·have HD:=Zb hd;clear hd
  go_wp2_with fail
  refine(Xq _ e (Zq _) D s _ ((H.out.old (bA)).old hb)).mono ?_;rintro r w2 ⟨rfl,hb2⟩;go_wp2_with fail
  go_ret
  exact⟨Af (by rw[E.out,HD.o];rfl),(bA).trans ((hb.mono (by simp)).trans (hb2.mono (by have:=hb.size;simp at this;omega)))⟩
end Go.Proofs.YtfhbinbjkpfedaaGreatDoor
