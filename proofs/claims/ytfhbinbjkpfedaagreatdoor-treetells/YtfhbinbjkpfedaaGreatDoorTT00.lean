/-
  Small trees in memory, put together. No condition.
-/
import Derived.Test.YtfhbinbjkpfedaaGreatDoorProg
import Derived.WalkKit
import Derived.WalkSpells
import Derived.WalkLawsBesides
import Derived.Laws.EntriesVeiled
import Derived.Deep.QuietTactic
import Derived.BigQuiet
import Derived.Deep.RegionHeld3
import Derived.Deep.RegionWith
import Derived.StillTailTactics
import Derived.Deep.RegionLaw
import Derived.Deep.Cut
import Derived.Deep.DeepCutAuto
import Derived.Deep.DeepFit
import Derived.Deep.DeepMust
import Derived.Deep.LoopGhost
import Derived.Lib.Hide
import Derived.KernelRfl
import Derived.Below
set_option linter.unusedVariables false
set_option linter.unusedSimpArgs false
namespace Go.RowKit
theorem Hid.o{p:Prop}(h:Hid p):p:=h
end Go.RowKit
namespace Go.Proofs.YtfhbinbjkpfedaaGreatDoor
open Go.RowKit
set_option maxHeartbeats 20000000
set_option maxRecDepth 100000
theorem cSm{α:Type _}{a b:α}(h:a=b):some a=some b:=congrArg some h
theorem bA {w : World} {o : Obj} : Below w.heap.size w (w.alloc o) := (Below.refl _ _).alloc (Nat.le_refl _) _
theorem Je {k:IntKind}{a b:Int}(h:a=b):Ending.returned (.int k a)=.returned (.int k b):=by rw[h]
theorem Af {a b:Bool}(h:a=b):Ending.returned (.bool a)=.returned (.bool b):=by rw[h]
theorem Ph {W w1:World}(hb:Below W.heap.size W w1):(∀b o,b<W.heap.size→w1.cell? ⟨b,o,none⟩=W.cell? ⟨b,o,none⟩)∧(∀b o,b<W.heap.size→w1.frozen? ⟨b,o,none⟩=W.frozen? ⟨b,o,none⟩):=
 ⟨fun b o h=>hb.cell (p:=⟨b,o,none⟩) h,fun b o h=>hb.frozen (p:=⟨b,o,none⟩) h⟩
def Bx(w:World)(b off:Nat)(cs:List Value):Prop:= ∀i (h:i<cs.length),w.cell? ⟨b,off+i,none⟩=some cs[i]
theorem Ac {w w':World}(h:Below w.heap.size w w'){a:Addr}{x:Value}(hx:w.cell? a=some x):w'.cell? a=some x:=by
 rw[h.cell (p:=a) (World.block_lt_of_cell? w a hx)];exact hx
theorem Bx.below {w w':World}(h:Below w.heap.size w w'){b off:Nat}{cs:List Value}(hr:Bx w b off cs):Bx w' b off cs:=
 fun i hi=>Ac h (hr i hi)
theorem Ek {w:World}{a:Addr}{v:Value}(h:w.cell? a=some v):w.setCell a v=w:=by
 have hb:=World.block_lt_of_cell? w a h;unfold World.cell? at h;rw[Array.getElem?_eq_getElem hb]at h
 cases ho:w.heap[a.block]with
 |cells c e fz=>
  simp only[ho]at h
  cases hs:a.spot.isSome with
  |true=>simp [hs]at h
  |false=>
   simp only[hs,Bool.false_eq_true,if_false]at h;have hc:c.setIfInBounds a.off v=c:=by
    apply Array.ext_getElem?
    intro i;rw[Array.getElem?_setIfInBounds]
    by_cases hi:a.off=i
    ·subst hi
     have hlt:a.off<c.size:=by
      rcases Nat.lt_or_ge a.off c.size with h'|h'
      ·exact h'
      ·rw[Array.getElem?_eq_none h']at h;cases h
     rw[Array.getElem?_eq_getElem hlt]at h;simp [hlt,Option.some.inj h]
    ·simp [hi]
   have hh:(w.setCell a v).heap=w.heap:=by
    apply Array.ext_getElem?
    intro i;simp only[World.setCell,Array.getElem?_modify]
    by_cases hi:a.block=i
    ·subst hi
     simp [Array.getElem?_eq_getElem hb,ho,hs,hc]
    ·simp [hi]
   have he:w.setCell a v= {w with heap:=(w.setCell a v).heap}:=rfl;rw[he,hh]
 |_=>simp [ho]at h
def Ej(p:Nat→Bool):Nat→Int
 |0=> -1
 |n+1=>let r:=Ej p n;if 0≤r then r else if p n then n else -1
def Le(p:Nat→Bool)(n:Nat):Bool:=(List.range n).any p
theorem Ij(p:Nat→Bool):∀n,(∀i,i<n→p i=false)→Ej p n= -1
 |0,_=>rfl
 |n+1,h=>by
  have ih:=Ij p n (fun i hi=>h i (by omega));simp [Ej,ih,h n (by omega)]
theorem Lv(p:Nat→Bool)(j:Nat)(hp:p j=true)(h:∀i,i<j→p i=false):∀n,j<n→Ej p n=j
 |0,hn=>by omega
 |n+1,hn=>by
  by_cases hj:j=n
  ·subst hj
   have:=Ij p j h;simp [Ej,this,hp]
  ·have ih:=Lv p j hp h n (by omega)
   simp [Ej,ih]
theorem cD {p:Nat→Bool}{n:Nat}(h:∀i,i<n→p i=false):Le p n=false:=by
 simp only[Le,List.any_eq_false,List.mem_range];intro x hx;simp [h x hx]
theorem fB {p:Nat→Bool}{n j:Nat}(hj:j<n)(h:p j=true):Le p n=true:=by
 simp only[Le,List.any_eq_true,List.mem_range];exact⟨j,hj,h⟩
theorem Ul(p:Nat→Bool)(n:Nat):(Ej p n= -1∧∀i,i<n→p i=false)∨∃j,j<n∧p j=true∧Ej p n=j:=by
 induction n with
 |zero=>exact .inl ⟨rfl,fun i hi=>by omega⟩
 |succ n ih=>
  rcases ih with⟨e,h⟩|⟨j,hj,hp,e⟩
  ·cases hp:p n
   ·refine .inl ⟨by simp [Ej,e,hp],fun i hi=>?_⟩
    rcases Nat.lt_succ_iff_lt_or_eq.1 hi with h'|rfl
    ·exact h i h'
    ·exact hp
   ·exact .inr ⟨n,by omega,hp,by simp [Ej,e,hp]⟩
  ·exact .inr ⟨j,by omega,hp,by simp [Ej,e]⟩
theorem Jn(p:Nat→Bool)(n:Nat):decide (0≤Ej p n)=Le p n:=by
 rcases Ul p n with⟨e,h⟩|⟨j,hj,hp,e⟩
 ·rw[e,cD h];rfl
 ·rw[e,fB hj hp];simp
theorem Oh {α:Type}(f:α→Bool)(p:Nat→Bool)(l:List α)(h:∀i (hi:i<l.length),p i=f l[i]):Le p l.length=l.any f:=by
 rw[Bool.eq_iff_iff];simp only[Le,List.any_eq_true,List.mem_range];constructor
 ·rintro⟨i,hi,hp⟩;exact⟨l[i],List.getElem_mem hi,by rw[←h i hi];exact hp⟩
 ·rintro⟨x,hx,hf⟩;obtain⟨i,hi,rfl⟩:=List.getElem_of_mem hx;exact⟨i,hi,by rw[h i hi];exact hf⟩
end Go.Proofs.YtfhbinbjkpfedaaGreatDoor
namespace Go.Proofs.YtfhbinbjkpfedaaGreatDoor
abbrev Bs:=List UInt8
abbrev Aa(l:Bs):ByteArray:=⟨l.toArray⟩
inductive Ex where
 |mk (kind op n:Int) (name:Bs) (args:List Ex)
namespace Ex
def kind:Ex→Int|mk k _ _ _ _=>k
def op:Ex→Int|mk _ o _ _ _=>o
def n:Ex→Int|mk _ _ n _ _=>n
def name:Ex→Bs|mk _ _ _ s _=>s
def args:Ex→List Ex|mk _ _ _ _ l=>l
end Ex
inductive St where
 |mk (kind:Int) (name:Bs) (args:List Ex) (thn els:List St)
namespace St
def kind:St→Int|mk k _ _ _ _=>k
def name:St→Bs|mk _ s _ _ _=>s
def args:St→List Ex|mk _ _ l _ _=>l
def thn:St→List St|mk _ _ _ l _=>l
def els:St→List St|mk _ _ _ _ l=>l
end St
structure Fu where
 name:Bs
 params:List Bs
 locals:List Bs
 body:List St
structure Ar where
 name:Bs
 size:Int
structure Pr where
 arrays:List Ar
 funcs:List Fu
def Ck(op:Int):Bs:=
 if op=1 then [43]else if op=2 then [45]else if op=3 then [42]else if op=4 then [47]else if op=5 then [37]
 else if op=6 then [38]else if op=7 then [124]else if op=8 then [94]else if op=9 then [60,60]else if op=10 then [62,62]
 else if op=11 then [60]else if op=12 then [60,61]else if op=13 then [62]else if op=14 then [62,61]else if op=15 then [61,61]
 else if op=16 then [33,61]else if op=17 then [45]else if op=18 then [33]else if op=19 then [126]else []
def Au(op:Int):Int:=
 if op=1 then 7 else if op=2 then 7 else if op=3 then 8 else if op=4 then 8 else if op=5 then 8
 else if op=6 then 3 else if op=7 then 1 else if op=8 then 2 else if op=9 then 6 else if op=10 then 6
 else if op=11 then 5 else if op=12 then 5 else if op=13 then 5 else if op=14 then 5 else if op=15 then 4
 else if op=16 then 4 else 0
def Ce(c:UInt8):Bool:=c==95||(97≤c && c≤122)||(65≤c && c≤90)
def Dn(c:UInt8):Bool:=48≤c && c≤57
def Iw:List Bs:=[[105,110,116],[105,102],[101,108,115,101],[119,104,105,108,101],[98,114,101,97,107],[99,111,110,116,105,110,117,101],[114,101,116,117,114,110],[112,114,105,110,116],[114,101,97,100],[116,114,97,112]]
def Fd(l:Bs):Bool:=Iw.contains l
def Cw:Bool→Bs→Bool
 |_,[]=>true
 |first,c::l=>(Ce c||(!first && Dn c)) && Cw false l
def An(l:Bs):Bool:= !l.isEmpty && decide (l.length≤20) && !Fd l && Cw true l
def Fn:Nat→Ex→Bool
 |0,_=>false
 |m+1,e=>e.args.all (Fn m)
def Gd(e:Ex):Int:=if e.kind=3∨e.kind=4 then e.op else 0
def Ho(e:Ex):Int:=if e.kind=1 then e.n else 0
def Ds(e:Ex):Bs:=if e.kind=2∨e.kind=5∨e.kind=6 then e.name else []
def Ca(e:Ex):Int:=if e.kind=3∨e.kind=6 then 1 else if e.kind=4 then 2 else if e.kind=5 then e.args.length else 0
def Du(e:Ex):Bool:=
 if e.kind=1 then decide (0≤e.n)else if e.kind=2 then An e.name else if e.kind=3 then decide (e.op=17∨e.op=18∨e.op=19)
 else if e.kind=4 then decide (0<Au e.op)else if e.kind=5 then An e.name && decide ((e.args.length:Int)≤6)
 else if e.kind=6 then An e.name else decide (e.kind=7)
def Bw(e:Ex):Bool:=Du e && ((e.args.length:Int)==Ca e) && (Gd e==e.op) && (Ho e==e.n) && (Ds e==e.name)
mutual
def Bb:Ex→Bool
 |.mk k o n nm args=>Bw (.mk k o n nm args) && Lp args
def Lp:List Ex→Bool
 |[]=>true
 |x::l=>Bb x && Lp l
end
theorem Sa:∀l,Lp l=l.all Bb
 |[]=>rfl
 |x::l=>by simp [Lp,Sa l]
theorem Hf(e:Ex):Bb e=(Bw e && e.args.all Bb):=by
 cases e;rw[Bb,Sa];rfl
def Be(e:Ex):Bool:=Fn 40 e && Bb e
def Dq(k:Int):Bool:=decide (k=1∨k=2)
def Ea(k:Int):Int:=if k=2 then 2 else if k=1∨k=3∨k=4∨k=7∨k=8∨k=9∨k=10 then 1 else 0
def Gv(k:Int):Bool:=decide (k=3∨k=4)
def Gu(k:Int):Bool:=decide (k=3)
def fOk(k:Int):Bool:=decide (1≤k∧k≤10)
def Ge(most:Int)(x:St):Bool:= !fOk x.kind||most==0|| !((x.args.length:Int)==Ea x.kind)||(!Gv x.kind && !x.thn.isEmpty)||(!Gu x.kind && !x.els.isEmpty)
def In(x:St):Bool:= !(Dq x.kind==An x.name)||(!Dq x.kind && !(x.name==[]))||(x.kind==10 && !((x.args.headD (.mk 0 0 0 [] [])).kind==5))
def De:Nat→St→Bool
 |0,_=>false
 |m+1,x=> !Ge (m+1) x && !In x && x.args.all Be && x.thn.all (De m) && x.els.all (De m)
def Co(f:Fu):Bool:=An f.name && f.params.all An && f.locals.all An && decide (f.params.length≤6) && f.body.all (De 40)
def Ch(a:Ar):Bool:=An a.name && decide (1≤a.size∧a.size≤1048576)
def Cd(p:Pr):Bool:=p.arrays.all Ch && p.funcs.all Co
theorem Ex.size_lt {e x:Ex}(h:x∈e.args):SizeOf.sizeOf x<SizeOf.sizeOf e:=by
 cases e with
 |mk k o n nm args=>
  have:=List.sizeOf_lt_of_mem (show x∈args from h);simp only[Ex.mk.sizeOf_spec];omega
end Go.Proofs.YtfhbinbjkpfedaaGreatDoor
namespace Go.Proofs.YtfhbinbjkpfedaaGreatDoor
open Go.RowKit
set_option maxHeartbeats 20000000
set_option maxRecDepth 100000
open Nat renaming not_lt_zero→Za,le_refl→Zb
open List renaming getD_eq_getElem?_getD→Zc,getElem?_eq_getElem→Zd
open World renaming block_lt_of_cell?→Ze
def Ci(n:Nat):Prop:=n≤140737488355328
theorem Ci.out {n:Nat}(h:Ci n):n≤140737488355328:=h
theorem Ci.lt {n:Nat}(h:Ci n):n<9223372036854775807:=by have:=h.out;omega
theorem Ci.mono {m n:Nat}(h:Ci n)(hm:m≤n):Ci m:=Nat.le_trans hm h
def I64(n:Int):Prop:= -9223372036854775808≤n∧n≤9223372036854775807
def Ex.nil:Ex:=.mk 0 0 0 [] []
abbrev Ao(l:List Ex)(i:Nat):Ex:=l.getD i Ex.nil
def St.nil:St:=.mk 0 [] [] [] []
abbrev Db(l:List St)(i:Nat):St:=l.getD i St.nil
inductive Aj (D:Nat→Prop)(w:World):List Ex→Value→Prop
 |mk (l:List Ex) (a:Option Addr) (cap b off:Nat) (sv:Nat→Value) (hcap:l.length≤cap) (hfit:Ci l.length)
  (ha:l.length=0∨(a=some ⟨b,off,none⟩∧D b))
  (h0:∀i,i<l.length→w.cell? ⟨b,off+i*5,none⟩=some (.int .i64 (Ao l i).kind))
  (h1:∀i,i<l.length→w.cell? ⟨b,off+i*5+1,none⟩=some (.int .i64 (Ao l i).op))
  (h2:∀i,i<l.length→w.cell? ⟨b,off+i*5+2,none⟩=some (.int .i64 (Ao l i).n))
  (h3:∀i,i<l.length→w.cell? ⟨b,off+i*5+3,none⟩=some (.string (Aa (Ao l i).name)))
  (h4:∀i,i<l.length→w.cell? ⟨b,off+i*5+4,none⟩=some (sv i))
  (hs:∀i,i<l.length→Aj D w (Ao l i).args (sv i))
  (hn:∀i,i<l.length→I64 (Ao l i).n):Aj D w l (.slice a l.length cap)
def Fe(D:Nat→Prop)(w w':World):Prop:= ∀b off x,D b→w.cell? ⟨b,off,none⟩=some x→w'.cell? ⟨b,off,none⟩=some x
theorem Dp {D:Nat→Prop}{w w':World}(h:Below w.heap.size w w'):Fe D w w':=fun _ _ _ _ hx=>Ac h hx
theorem Aj.keep {D:Nat→Prop}{w w':World}(hk:Fe D w w'){l:List Ex}{v:Value}(h:Aj D w l v):Aj D w' l v:=by
 induction h with
 |mk l a cap b off sv hcap hfit ha h0 h1 h2 h3 h4 _ hn ih=>
  rcases ha with ha|⟨ha,hD⟩
  ·refine .mk l a cap b off sv hcap hfit (.inl ha) ?_ ?_ ?_ ?_ ?_ ih hn<;>(intro i hi;omega)
  ·exact .mk l a cap b off sv hcap hfit (.inr ⟨ha,hD⟩) (fun i hi=>hk _ _ _ hD (h0 i hi)) (fun i hi=>hk _ _ _ hD (h1 i hi)) (fun i hi=>hk _ _ _ hD (h2 i hi))
    (fun i hi=>hk _ _ _ hD (h3 i hi)) (fun i hi=>hk _ _ _ hD (h4 i hi)) ih hn
theorem Aj.mono {D D':Nat→Prop}{w:World}(hD:∀b,D b→D' b){l:List Ex}{v:Value}(h:Aj D w l v):Aj D' w l v:=by
 induction h with
 |mk l a cap b off sv hcap hfit ha h0 h1 h2 h3 h4 _ hn ih=>exact .mk l a cap b off sv hcap hfit (ha.imp id fun h=>⟨h.1,hD _ h.2⟩) h0 h1 h2 h3 h4 ih hn
theorem Aj.old {D:Nat→Prop}{w w':World}(hb:Below w.heap.size w w'){l:List Ex}{v:Value}(h:Aj D w l v):Aj D w' l v:=h.keep (Dp hb)
inductive Ap (D:Nat→Prop)(w:World):List St→Value→Prop
 |mk (l:List St) (a:Option Addr) (cap b off:Nat) (sa st se:Nat→Value) (hcap:l.length≤cap) (hfit:Ci l.length)
  (ha:l.length=0∨(a=some ⟨b,off,none⟩∧D b))
  (h0:∀i,i<l.length→w.cell? ⟨b,off+i*5,none⟩=some (.int .i64 (Db l i).kind))
  (h1:∀i,i<l.length→w.cell? ⟨b,off+i*5+1,none⟩=some (.string (Aa (Db l i).name)))
  (h2:∀i,i<l.length→w.cell? ⟨b,off+i*5+2,none⟩=some (sa i))
  (h3:∀i,i<l.length→w.cell? ⟨b,off+i*5+3,none⟩=some (st i))
  (h4:∀i,i<l.length→w.cell? ⟨b,off+i*5+4,none⟩=some (se i))
  (ea:∀i,i<l.length→Aj D w (Db l i).args (sa i))
  (et:∀i,i<l.length→Ap D w (Db l i).thn (st i))
  (ee:∀i,i<l.length→Ap D w (Db l i).els (se i)):Ap D w l (.slice a l.length cap)
theorem Ap.keep {D:Nat→Prop}{w w':World}(hk:Fe D w w'){l:List St}{v:Value}(h:Ap D w l v):Ap D w' l v:=by
 induction h with
 |mk l a cap b off sa st se hcap hfit ha h0 h1 h2 h3 h4 ea _ _ ih1 ih2=>
  rcases ha with ha|⟨ha,hD⟩
  ·refine .mk l a cap b off sa st se hcap hfit (.inl ha) ?_ ?_ ?_ ?_ ?_ ?_ ih1 ih2<;>(intro i hi;omega)
  ·exact .mk l a cap b off sa st se hcap hfit (.inr ⟨ha,hD⟩) (fun i hi=>hk _ _ _ hD (h0 i hi)) (fun i hi=>hk _ _ _ hD (h1 i hi)) (fun i hi=>hk _ _ _ hD (h2 i hi))
    (fun i hi=>hk _ _ _ hD (h3 i hi)) (fun i hi=>hk _ _ _ hD (h4 i hi)) (fun i hi=>(ea i hi).keep hk) ih1 ih2
theorem Ap.mono {D D':Nat→Prop}{w:World}(hD:∀b,D b→D' b){l:List St}{v:Value}(h:Ap D w l v):Ap D' w l v:=by
 induction h with
 |mk l a cap b off sa st se hcap hfit ha h0 h1 h2 h3 h4 ea _ _ ih1 ih2=>exact .mk l a cap b off sa st se hcap hfit (ha.imp id fun h=>⟨h.1,hD _ h.2⟩) h0 h1 h2 h3 h4 (fun i hi=>(ea i hi).mono hD) ih1 ih2
theorem Ap.old {D:Nat→Prop}{w w':World}(hb:Below w.heap.size w w'){l:List St}{v:Value}(h:Ap D w l v):Ap D w' l v:=h.keep (Dp hb)
theorem Aj.shape {D:Nat→Prop}{w:World}{l:List Ex}{v:Value}(h:Aj D w l v):∃a cap,v=.slice a l.length cap:=by cases h;exact⟨_,_,rfl⟩
theorem Aj.cell0 {D:Nat→Prop}{w:World}{l:List Ex}{a:Option Addr}{n cap:Nat}(h:Aj D w l (.slice a n cap))(hl:0<l.length):∃b off,a=some ⟨b,off,none⟩∧w.cell? ⟨b,off,none⟩=some (.int .i64 (Ao l 0).kind):=by
 cases h with
 |mk _ _ _ b off sv hcap hfit ha h0=>
  rcases ha with ha|⟨ha,_⟩
  ·omega
  ·exact⟨b,off,ha,by simpa using h0 0 hl⟩
theorem Aj.cellAt {D:Nat→Prop}{w:World}{l:List Ex}{a:Option Addr}{n cap:Nat}(h:Aj D w l (.slice a n cap))(i:Nat)(hl:i<l.length):∃b off s,a=some ⟨b,off,none⟩∧D b∧
  w.cell? ⟨b,off+i*5,none⟩=some (.int .i64 (Ao l i).kind)∧w.cell? ⟨b,off+i*5+1,none⟩=some (.int .i64 (Ao l i).op)∧w.cell? ⟨b,off+i*5+2,none⟩=some (.int .i64 (Ao l i).n)∧
  w.cell? ⟨b,off+i*5+3,none⟩=some (.string (Aa (Ao l i).name))∧w.cell? ⟨b,off+i*5+4,none⟩=some s∧Aj D w (Ao l i).args s∧I64 (Ao l i).n:=by
 cases h with
 |mk _ _ _ b off sv hcap hfit ha h0 h1 h2 h3 h4 hs hn=>
  rcases ha with ha|⟨ha,hD⟩
  ·omega
  ·exact⟨b,off,sv i,ha,hD,h0 i hl,h1 i hl,h2 i hl,h3 i hl,h4 i hl,hs i hl,hn i hl⟩
theorem Aj.fits {D:Nat→Prop}{w:World}{l:List Ex}{v:Value}(h:Aj D w l v):Ci l.length:=by
 cases h with
 |mk _ _ _ b off sv hcap hfit=>exact hfit
theorem Ap.shape {D:Nat→Prop}{w:World}{l:List St}{v:Value}(h:Ap D w l v):∃a cap,v=.slice a l.length cap:=by cases h;exact⟨_,_,rfl⟩
def Ay(D:Nat→Prop)(w:World)(l:List Bs)(v:Value):Prop:=
 ∃a cap b off,v=.slice a l.length cap∧l.length≤cap∧Ci l.length∧(l.length=0∨(a=some ⟨b,off,none⟩∧D b))∧
  ∀i,i<l.length→w.cell? ⟨b,off+i,none⟩=some (.string (Aa (l.getD i [])))
theorem Ay.keep {D:Nat→Prop}{w w':World}(hk:Fe D w w'){l:List Bs}{v:Value}(h:Ay D w l v):Ay D w' l v:=by
 obtain⟨a,cap,b,off,hv,h1,h2,h3,h4⟩:=h;refine⟨a,cap,b,off,hv,h1,h2,h3,fun i hi=>?_⟩;rcases h3 with h3|⟨_,hD⟩
 ·omega
 ·exact hk _ _ _ hD (h4 i hi)
theorem Ay.old {D:Nat→Prop}{w w':World}(hb:Below w.heap.size w w'){l:List Bs}{v:Value}(h:Ay D w l v):Ay D w' l v:=h.keep (Dp hb)
theorem Ay.mono {D D':Nat→Prop}{w:World}(hD:∀b,D b→D' b){l:List Bs}{v:Value}(h:Ay D w l v):Ay D' w l v:=by
 obtain⟨a,cap,b,off,hv,h1,h2,h3,h4⟩:=h;exact⟨a,cap,b,off,hv,h1,h2,h3.imp id fun h=>⟨h.1,hD _ h.2⟩,h4⟩
def Ar.nil:Ar:=⟨[],0⟩
def Fu.nil:Fu:=⟨[],[],[],[]⟩
abbrev Dj(l:List Ar)(i:Nat):Ar:=l.getD i Ar.nil
abbrev Bc(l:List Fu)(i:Nat):Fu:=l.getD i Fu.nil
def Bp(D:Nat→Prop)(w:World)(l:List Ar)(v:Value):Prop:=
 ∃a cap b off,v=.slice a l.length cap∧l.length≤cap∧Ci l.length∧(l.length=0∨(a=some ⟨b,off,none⟩∧D b))∧
  ∀i,i<l.length→w.cell? ⟨b,off+i*2,none⟩=some (.string (Aa (Dj l i).name))∧w.cell? ⟨b,off+i*2+1,none⟩=some (.int .i64 (Dj l i).size)
theorem Bp.keep {D:Nat→Prop}{w w':World}(hk:Fe D w w'){l:List Ar}{v:Value}(h:Bp D w l v):Bp D w' l v:=by
 obtain⟨a,cap,b,off,hv,h1,h2,h3,h4⟩:=h;refine⟨a,cap,b,off,hv,h1,h2,h3,fun i hi=>?_⟩;rcases h3 with h3|⟨_,hD⟩
 ·omega
 ·exact⟨hk _ _ _ hD (h4 i hi).1,hk _ _ _ hD (h4 i hi).2⟩
theorem Bp.old {D:Nat→Prop}{w w':World}(hb:Below w.heap.size w w'){l:List Ar}{v:Value}(h:Bp D w l v):Bp D w' l v:=h.keep (Dp hb)
def Bk(D:Nat→Prop)(w:World)(l:List Fu)(v:Value):Prop:=
 ∃a cap b off,∃pv lv bv:Nat→Value,v=.slice a l.length cap∧l.length≤cap∧Ci l.length∧(l.length=0∨(a=some ⟨b,off,none⟩∧D b))∧
  ∀i,i<l.length→(w.cell? ⟨b,off+i*4,none⟩=some (.string (Aa (Bc l i).name))∧w.cell? ⟨b,off+i*4+1,none⟩=some (pv i)∧w.cell? ⟨b,off+i*4+2,none⟩=some (lv i)∧w.cell? ⟨b,off+i*4+3,none⟩=some (bv i))∧
   Ay D w (Bc l i).params (pv i)∧Ay D w (Bc l i).locals (lv i)∧Ap D w (Bc l i).body (bv i)
theorem Bk.keep {D:Nat→Prop}{w w':World}(hk:Fe D w w'){l:List Fu}{v:Value}(h:Bk D w l v):Bk D w' l v:=by
 obtain⟨a,cap,b,off,pv,lv,bv,hv,h1,h2,h3,h4⟩:=h;refine⟨a,cap,b,off,pv,lv,bv,hv,h1,h2,h3,fun i hi=>?_⟩;rcases h3 with h3|⟨_,hD⟩
 ·omega
 ·obtain⟨⟨c0,c1,c2,c3⟩,e1,e2,e3⟩:=h4 i hi
  exact⟨⟨hk _ _ _ hD c0,hk _ _ _ hD c1,hk _ _ _ hD c2,hk _ _ _ hD c3⟩,e1.keep hk,e2.keep hk,e3.keep hk⟩
theorem Bk.old {D:Nat→Prop}{w w':World}(hb:Below w.heap.size w w'){l:List Fu}{v:Value}(h:Bk D w l v):Bk D w' l v:=h.keep (Dp hb)
theorem Xm {l:List Ar}{i:Nat}(h:i<l.length):Dj l i∈l:=by
 simp only[Dj,Zc,Zd h,Option.getD_some];exact List.getElem_mem h
theorem Ln {l:List Fu}{i:Nat}(h:i<l.length):Bc l i∈l:=by
 simp only[Bc,Zc,Zd h,Option.getD_some];exact List.getElem_mem h
theorem Tc {α:Type}(l:List α)(d:α)(f:α→Bool)(h:∀i,i<l.length→f (l.getD i d)=true):l.all f=true:=by
 rw[List.all_eq_true];intro x hx;obtain⟨i,hi,rfl⟩:=List.getElem_of_mem hx;have:=h i hi
 rwa[Zc,Zd hi,Option.getD_some]at this
theorem Nd {α:Type}(l:List α)(d:α)(f:α→Bool)(i:Nat)(hi:i<l.length)(h:f (l.getD i d)=false):l.all f=false:=by
 rw[List.all_eq_false];refine⟨l[i],List.getElem_mem hi,?_⟩;rw[Zc,Zd hi,Option.getD_some]at h;simp [h]
theorem Js {D:Nat→Prop}{w:World}{l:List Bs}{a:Option Addr}{n cap:Nat}(h:Ay D w l (.slice a n cap))(i:Nat)(hl:i<l.length):∃b off,a=some ⟨b,off,none⟩∧D b∧b<w.heap.size∧w.cell? ⟨b,off+i,none⟩=some (.string (Aa (l.getD i []))):=by
 obtain⟨a',cap',b,off,hv,h1,h2,h3,h4⟩:=h
 cases hv
 rcases h3 with h3|⟨h3,hD⟩
 ·omega
 ·exact⟨b,off,h3,hD,Ze _ _ (h4 i hl),h4 i hl⟩
theorem Ay.shape {D:Nat→Prop}{w:World}{l:List Bs}{v:Value}(h:Ay D w l v):∃a cap,v=.slice a l.length cap:=by
 obtain⟨a',cap',b,off,hv,_⟩:=h;exact⟨_,_,hv⟩
theorem Ay.fits {D:Nat→Prop}{w:World}{l:List Bs}{v:Value}(h:Ay D w l v):Ci l.length:=by
 obtain⟨a',cap',b,off,hv,h1,h2,_⟩:=h;exact h2
theorem Bp.mono {D D':Nat→Prop}{w:World}(hD:∀b,D b→D' b){l:List Ar}{v:Value}(h:Bp D w l v):Bp D' w l v:=by
 obtain⟨a,cap,b,off,hv,h1,h2,h3,h4⟩:=h;exact⟨a,cap,b,off,hv,h1,h2,h3.imp id fun h=>⟨h.1,hD _ h.2⟩,h4⟩
theorem Bk.mono {D D':Nat→Prop}{w:World}(hD:∀b,D b→D' b){l:List Fu}{v:Value}(h:Bk D w l v):Bk D' w l v:=by
 obtain⟨a,cap,b,off,pv,lv,bv,hv,h1,h2,h3,h4⟩:=h;exact⟨a,cap,b,off,pv,lv,bv,hv,h1,h2,h3.imp id fun h=>⟨h.1,hD _ h.2⟩,fun i hi=>⟨(h4 i hi).1,(h4 i hi).2.1.mono hD,(h4 i hi).2.2.1.mono hD,(h4 i hi).2.2.2.mono hD⟩⟩
theorem Bp.shape {D:Nat→Prop}{w:World}{l:List Ar}{v:Value}(h:Bp D w l v):∃a cap,v=.slice a l.length cap:=by
 obtain⟨a,cap,b,off,hv,_⟩:=h;exact⟨a,cap,hv⟩
theorem Bk.shape {D:Nat→Prop}{w:World}{l:List Fu}{v:Value}(h:Bk D w l v):∃a cap,v=.slice a l.length cap:=by
 obtain⟨a,cap,b,off,pv,lv,bv,hv,_⟩:=h;exact⟨a,cap,hv⟩
theorem Bp.fits {D:Nat→Prop}{w:World}{l:List Ar}{v:Value}(h:Bp D w l v):Ci l.length:=by
 obtain⟨a,cap,b,off,hv,h1,h2,_⟩:=h;exact h2
theorem Bk.fits {D:Nat→Prop}{w:World}{l:List Fu}{v:Value}(h:Bk D w l v):Ci l.length:=by
 obtain⟨a,cap,b,off,pv,lv,bv,hv,h1,h2,_⟩:=h;exact h2
theorem Bp.cellAt {D:Nat→Prop}{w:World}{l:List Ar}{a:Option Addr}{n cap:Nat}(h:Bp D w l (.slice a n cap))(i:Nat)(hl:i<l.length):∃b off,a=some ⟨b,off,none⟩∧D b∧b<w.heap.size∧
  w.cell? ⟨b,off+i*2,none⟩=some (.string (Aa (Dj l i).name))∧w.cell? ⟨b,off+i*2+1,none⟩=some (.int .i64 (Dj l i).size):=by
 obtain⟨a',cap',b,off,hv,h1,h2,h3,h4⟩:=h
 cases hv
 rcases h3 with h3|⟨h3,hD⟩
 ·omega
 ·exact⟨b,off,h3,hD,Ze _ _ (h4 i hl).1,(h4 i hl).1,(h4 i hl).2⟩
theorem Bk.cellAt {D:Nat→Prop}{w:World}{l:List Fu}{a:Option Addr}{n cap:Nat}(h:Bk D w l (.slice a n cap))(i:Nat)(hl:i<l.length):∃b off p v s,a=some ⟨b,off,none⟩∧D b∧b<w.heap.size∧
  w.cell? ⟨b,off+i*4,none⟩=some (.string (Aa (Bc l i).name))∧w.cell? ⟨b,off+i*4+1,none⟩=some p∧w.cell? ⟨b,off+i*4+2,none⟩=some v∧w.cell? ⟨b,off+i*4+3,none⟩=some s∧
  Ay D w (Bc l i).params p∧Ay D w (Bc l i).locals v∧Ap D w (Bc l i).body s:=by
 obtain⟨a',cap',b,off,pv,lv,bv,hv,h1,h2,h3,h4⟩:=h
 cases hv
 rcases h3 with h3|⟨h3,hD⟩
 ·omega
 ·obtain⟨⟨c0,c1,c2,c3⟩,e1,e2,e3⟩:=h4 i hl
  exact⟨b,off,pv i,lv i,bv i,h3,hD,Ze _ _ c0,c0,c1,c2,c3,e1,e2,e3⟩
abbrev exV(e:Ex)(s:Value):Value:=.agg #[.int .i64 e.kind,.int .i64 e.op,.int .i64 e.n,.string (Aa e.name),s]
theorem Dw {n:Int}(h: -1000000≤n∧n≤1000000):I64 n:=⟨by omega,by omega⟩
theorem Lh:(Tryz.prog.info? 31).map (fun i=>(i.zero,i.size,i.bytes))=some (some (.agg #[.int .i64 0,.int .i64 0,.int .i64 0,.string ⟨#[]⟩,.slice none 0 0]),5,64):=by kernel_rfl
theorem Aj.zero {D:Nat→Prop}{w:World}:Aj D w [] (.slice none 0 0):=
 .mk [] none 0 0 0 (fun _=>undef) (Zb _) (by show _≤_;simp) (.inl rfl) (fun i hi=>absurd hi (Za _)) (fun i hi=>absurd hi (Za _)) (fun i hi=>absurd hi (Za _)) (fun i hi=>absurd hi (Za _)) (fun i hi=>absurd hi (Za _)) (fun i hi=>absurd hi (Za _)) (fun i hi=>absurd hi (Za _))
theorem Ap.zero {D:Nat→Prop}{w:World}:Ap D w [] (.slice none 0 0):=
 .mk [] none 0 0 0 (fun _=>undef) (fun _=>undef) (fun _=>undef) (Zb _) (by show _≤_;simp) (.inl rfl) (fun i hi=>absurd hi (Za _)) (fun i hi=>absurd hi (Za _)) (fun i hi=>absurd hi (Za _)) (fun i hi=>absurd hi (Za _)) (fun i hi=>absurd hi (Za _)) (fun i hi=>absurd hi (Za _)) (fun i hi=>absurd hi (Za _)) (fun i hi=>absurd hi (Za _))
theorem Ay.zero {D:Nat→Prop}{w:World}:Ay D w [] (.slice none 0 0):=
 ⟨_,0,0,0,rfl,Zb _,by show _≤_;simp,.inl rfl,fun i hi=>absurd hi (Za _)⟩
theorem Bp.zero {D:Nat→Prop}{w:World}:Bp D w [] (.slice none 0 0):=
 ⟨_,0,0,0,rfl,Zb _,by show _≤_;simp,.inl rfl,fun i hi=>absurd hi (Za _)⟩
theorem Bk.zero {D:Nat→Prop}{w:World}:Bk D w [] (.slice none 0 0):=
 ⟨_,0,0,0,fun _=>undef,fun _=>undef,fun _=>undef,rfl,Zb _,by show _≤_;simp,.inl rfl,fun i hi=>absurd hi (Za _)⟩
def Aq(e:Ex)(s:Value):List Value:=[.int .i64 e.kind,.int .i64 e.op,.int .i64 e.n,.string (Aa e.name),s]
theorem Bx.new(w:World)(cs:List Value)(T:TypeId):Bx (w.alloc (.cells cs.toArray T)) w.heap.size 0 cs:=fun i hi=>by simp
theorem Bx.at {w:World}{b:Nat}{cs:List Value}(h:Bx w b 0 cs)(i:Nat)(v:Value)(hi:cs[i]? =some v):w.cell? ⟨b,i,none⟩=some v:=by
 obtain⟨hl,e⟩:=List.getElem?_eq_some_iff.1 hi;have:=h i hl;rw[e]at this;simpa using this
theorem Aj.one {D:Nat→Prop}{w:World}{b:Nat}(e:Ex)(s:Value)(hD:D b)(h:Bx w b 0 (Aq e s))(hs:Aj D w e.args s)(hn:I64 e.n):Aj D w [e] (.slice (some ⟨b,0,none⟩) 1 1):=by
 refine .mk [e] _ 1 b 0 (fun _=>s) (Zb _) (by show _≤_;simp) (.inr ⟨rfl,hD⟩) ?_ ?_ ?_ ?_ ?_ ?_ ?_
 all_goals
  intro i hi;have hi0:i=0:=by simp at hi;omega
  subst hi0
 ·exact h.at 0 _ rfl
 ·exact h.at 1 _ rfl
 ·exact h.at 2 _ rfl
 ·exact h.at 3 _ rfl
 ·exact h.at 4 _ rfl
 ·exact hs
 ·exact hn
theorem Aj.two {D:Nat→Prop}{w:World}{b:Nat}(e f:Ex)(s t:Value)(hD:D b)(h:Bx w b 0 (Aq e s++Aq f t))(hs:Aj D w e.args s)(hn:I64 e.n)(ht:Aj D w f.args t)(hm:I64 f.n):Aj D w [e,f] (.slice (some ⟨b,0,none⟩) 2 2):=by
 refine .mk [e,f] _ 2 b 0 (fun i=>if i=0 then s else t) (Zb _) (by show _≤_;simp) (.inr ⟨rfl,hD⟩) ?_ ?_ ?_ ?_ ?_ ?_ ?_
 all_goals
  intro i hi;have hi0:i=0∨i=1:=by simp at hi;omega
  rcases hi0 with rfl|rfl
 ·exact h.at 0 _ rfl
 ·exact h.at 5 _ rfl
 ·exact h.at 1 _ rfl
 ·exact h.at 6 _ rfl
 ·exact h.at 2 _ rfl
 ·exact h.at 7 _ rfl
 ·exact h.at 3 _ rfl
 ·exact h.at 8 _ rfl
 ·exact h.at 4 _ rfl
 ·exact h.at 9 _ rfl
 ·exact hs
 ·exact ht
 ·exact hn
 ·exact hm
def Bl(x:St)(a t e:Value):List Value:=[.int .i64 x.kind,.string (Aa x.name),a,t,e]
theorem Ap.one {D:Nat→Prop}{w:World}{b:Nat}(x:St)(a t e:Value)(hD:D b)(h:Bx w b 0 (Bl x a t e))(ha:Aj D w x.args a)(ht:Ap D w x.thn t)(he:Ap D w x.els e):Ap D w [x] (.slice (some ⟨b,0,none⟩) 1 1):=by
 refine .mk [x] _ 1 b 0 (fun _=>a) (fun _=>t) (fun _=>e) (Zb _) (by show _≤_;simp) (.inr ⟨rfl,hD⟩) ?_ ?_ ?_ ?_ ?_ ?_ ?_ ?_
 all_goals
  intro i hi;have hi0:i=0:=by simp at hi;omega
  subst hi0
 ·exact h.at 0 _ rfl
 ·exact h.at 1 _ rfl
 ·exact h.at 2 _ rfl
 ·exact h.at 3 _ rfl
 ·exact h.at 4 _ rfl
 ·exact ha
 ·exact ht
 ·exact he
def Vh(f:Fu)(p l s:Value):List Value:=[.string (Aa f.name),p,l,s]
theorem Bk.one {D:Nat→Prop}{w:World}{b:Nat}(f:Fu)(p l s:Value)(hD:D b)(h:Bx w b 0 (Vh f p l s))(hp:Ay D w f.params p)(hl:Ay D w f.locals l)(hs:Ap D w f.body s):Bk D w [f] (.slice (some ⟨b,0,none⟩) 1 1):=by
 refine⟨_,1,b,0,fun _=>p,fun _=>l,fun _=>s,rfl,Zb _,by show _≤_;simp,.inr ⟨rfl,hD⟩,?_⟩;intro i hi;have hi0:i=0:=by simp at hi;omega
 subst hi0;exact⟨⟨h.at 0 _ rfl,h.at 1 _ rfl,h.at 2 _ rfl,h.at 3 _ rfl⟩,hp,hl,hs⟩
theorem Bx.alloc {w:World}{b:Nat}{cs:List Value}(h:Bx w b 0 cs)(o:Obj):Bx (w.alloc o) b 0 cs:=h.below (bA)
end Go.Proofs.YtfhbinbjkpfedaaGreatDoor
