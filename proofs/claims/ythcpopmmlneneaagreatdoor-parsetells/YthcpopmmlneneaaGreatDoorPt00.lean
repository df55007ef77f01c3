/-
  Small trees in memory, put together. No condition.
-/
import Derived.Test.YthcpopmmlneneaaGreatDoorProg
import Derived.WalkKit
import Derived.WalkSpells
import Derived.WalkLawsBesides
import Derived.Laws.EntriesVeiled
import Derived.Deep.QuietTactic
import Derived.BigQuiet
import Derived.Deep.RegionHeld3
import Derived.Deep.RegionWith
import Derived.StillTailTactics
import Derived.Deep.RegionLaw
import Derived.Deep.Cut
import Derived.Deep.DeepCutAuto
import Derived.Deep.DeepFit
import Derived.Deep.DeepMust
import Derived.Deep.LoopGhost
import Derived.Lib.Hide
import Derived.KernelRfl
import Derived.Below
set_option linter.unusedVariables false
set_option linter.unusedSimpArgs false
namespace Go.RowKit
theorem Hid.o{p:Prop}(a:Hid p):p:=a
end Go.RowKit
namespace Go.Proofs.YthcpopmmlneneaaGreatDoor
open Go.RowKit
set_option maxHeartbeats 20000000
set_option maxRecDepth 100000
abbrev ι(n:Int):Value:=.int .i64 n
abbrev ν:Value:=.slice none 0 0
abbrev ε:Value:=.string ⟨#[]⟩
abbrev σ(x:List UInt8):Value:=.string ⟨x.toArray⟩
abbrev π(b:Nat):Value:=.pointer (some ⟨b,0,none⟩)
abbrev η:List Value:=[ι 0,ι 0,ι 0,ε,ν]
abbrev ζ:Obj:=.cells η.toArray 35
abbrev θ:List Value:=[ι 0,ε,ν,ν,ν]
abbrev ϑ:Obj:=.cells θ.toArray 50
abbrev ρ{α:Type}(a:Option Addr)(l:List α)(c:Nat):Value:=.slice a l.length c
abbrev κ(b n c:Nat):Value:=.slice (some ⟨b,0,none⟩) n c
theorem Y2{p q:Prop}(a:p)(b:q):Hid p∧Hid q:=⟨Lib.hid a,Lib.hid b⟩
theorem Y3{p q b:Prop}(a:p)(c:q)(d:b):Hid p∧Hid q∧Hid b:=⟨Lib.hid a,Y2 c d⟩
theorem Y4{p q b s:Prop}(a:p)(c:q)(d:b)(e:s):Hid p∧Hid q∧Hid b∧Hid s:=⟨Lib.hid a,Y3 c d e⟩
theorem Y5{p q b s t:Prop}(a:p)(c:q)(d:b)(e:s)(f:t):Hid p∧Hid q∧Hid b∧Hid s∧Hid t:=⟨Lib.hid a,Y4 c d e f⟩
theorem Y6{p q b s t u:Prop}(a:p)(c:q)(d:b)(e:s)(f:t)(g:u):Hid p∧Hid q∧Hid b∧Hid s∧Hid t∧Hid u:=⟨Lib.hid a,Y5 c d e f g⟩
theorem Y7{p q b s t u v:Prop}(a:p)(c:q)(d:b)(e:s)(f:t)(g:u)(h:v):Hid p∧Hid q∧Hid b∧Hid s∧Hid t∧Hid u∧Hid v:=⟨Lib.hid a,Y6 c d e f g h⟩
theorem Y8{p q b s t u v w:Prop}(a:p)(c:q)(d:b)(e:s)(f:t)(g:u)(h:v)(i:w):Hid p∧Hid q∧Hid b∧Hid s∧Hid t∧Hid u∧Hid v∧Hid w:=⟨Lib.hid a,Y7 c d e f g h i⟩
theorem Y9{p q b s t u v w x:Prop}(a:p)(c:q)(d:b)(e:s)(f:t)(g:u)(h:v)(i:w)(hx:x):Hid p∧Hid q∧Hid b∧Hid s∧Hid t∧Hid u∧Hid v∧Hid w∧Hid x:=⟨Lib.hid a,Y8 c d e f g h i hx⟩
theorem cSm{α:Type _}{a b:α}(c:a=b):some a=some b:=congrArg some c
theorem bA {w : World} {a : Obj} : Below w.heap.size w (w.alloc a) := (Below.refl _ _).alloc (Nat.le_refl _) _
theorem Iv {k:IntKind}{a b:Int}(c:a=b):Ending.returned (.int k a)=.returned (.int k b):=by rw[c]
theorem Ae {a b:Bool}(c:a=b):Ending.returned (.bool a)=.returned (.bool b):=by rw[c]
theorem Uk {c e:World}(f:Below c.heap.size c e):(∀b a,b<c.heap.size→e.cell? ⟨b,a,none⟩=c.cell? ⟨b,a,none⟩)∧(∀b a,b<c.heap.size→e.frozen? ⟨b,a,none⟩=c.frozen? ⟨b,a,none⟩):=
 ⟨fun b a d=>f.cell (p:=⟨b,a,none⟩) d,fun b a d=>f.frozen (p:=⟨b,a,none⟩) d⟩
def Dv(w:World)(b c:Nat)(a:List Value):Prop:= ∀i (d:i<a.length),w.cell? ⟨b,c+i,none⟩=some a[i]
theorem Ac {w w':World}(b:Below w.heap.size w w'){a:Addr}{x:Value}(hx:w.cell? a=some x):w'.cell? a=some x:=by
 rw[b.cell (p:=a) (World.block_lt_of_cell? w a hx)];exact hx
theorem Dv.below {w w':World}(d:Below w.heap.size w w'){b c:Nat}{a:List Value}(f:Dv w b c a):Dv w' b c a:=
 fun i e=>Ac d (f i e)
theorem Af {w:World}{a:Addr}{v:Value}(b:w.cell? a=some v):w.setCell a v=w:=by
 have f:=World.block_lt_of_cell? w a b;unfold World.cell? at b;rw[Array.getElem?_eq_getElem f]at b
 cases ho:w.heap[a.block]with
 |cells c e fz=>
  simp only[ho]at b
  cases hs:a.spot.isSome with
  |true=>simp [hs]at b
  |false=>
   simp only[hs,Bool.false_eq_true,if_false]at b;have h:c.setIfInBounds a.off v=c:=by
    apply Array.ext_getElem?
    intro i;rw[Array.getElem?_setIfInBounds]
    by_cases hi:a.off=i
    ·subst hi
     have g:a.off<c.size:=by
      rcases Nat.lt_or_ge a.off c.size with d|d
      ·exact d
      ·rw[Array.getElem?_eq_none d]at b;cases b
     rw[Array.getElem?_eq_getElem g]at b;simp [g,Option.some.inj b]
    ·simp [hi]
   have k:(w.setCell a v).heap=w.heap:=by
    apply Array.ext_getElem?
    intro i;simp only[World.setCell,Array.getElem?_modify]
    by_cases hi:a.block=i
    ·subst hi
     simp [Array.getElem?_eq_getElem f,ho,hs,h]
    ·simp [hi]
   have j:w.setCell a v= {w with heap:=(w.setCell a v).heap}:=rfl;rw[j,k]
 |_=>simp [ho]at b
def Ff(p:Nat→Bool):Nat→Int
 |0=> -1
 |n+1=>let r:=Ff p n;if 0≤r then r else if p n then n else -1
def Oy(p:Nat→Bool)(n:Nat):Bool:=(List.range n).any p
theorem Kw(p:Nat→Bool):∀n,(∀i,i<n→p i=false)→Ff p n= -1
 |0,_=>rfl
 |n+1,h=>by
  have a:=Kw p n (fun i b=>h i (by omega));simp [Ff,a,h n (by omega)]
theorem Pd(p:Nat→Bool)(j:Nat)(b:p j=true)(a:∀i,i<j→p i=false):∀n,j<n→Ff p n=j
 |0,hn=>by omega
 |n+1,hn=>by
  by_cases hj:j=n
  ·subst hj
   have:=Kw p j a;simp [Ff,this,b]
  ·have c:=Pd p j b a n (by omega)
   simp [Ff,c]
theorem kS {p:Nat→Bool}{n:Nat}(a:∀i,i<n→p i=false):Oy p n=false:=by
 simp only[Oy,List.any_eq_false,List.mem_range];intro x hx;simp [a x hx]
theorem qD {p:Nat→Bool}{n j:Nat}(b:j<n)(a:p j=true):Oy p n=true:=by
 simp only[Oy,List.any_eq_true,List.mem_range];exact⟨j,b,a⟩
theorem cS(p:Nat→Bool)(n:Nat):(Ff p n= -1∧∀i,i<n→p i=false)∨∃j,j<n∧p j=true∧Ff p n=j:=by
 induction n with
 |zero=>exact .inl ⟨rfl,fun i b=>by omega⟩
 |succ n ih=>
  rcases ih with⟨e,c⟩|⟨j,f,a,e⟩
  ·cases a:p n
   ·refine .inl ⟨by simp [Ff,e,a],fun i b=>?_⟩
    rcases Nat.lt_succ_iff_lt_or_eq.1 b with d|rfl
    ·exact c i d
    ·exact a
   ·exact .inr ⟨n,by omega,a,by simp [Ff,e,a]⟩
  ·exact .inr ⟨j,by omega,a,by simp [Ff,e]⟩
theorem Mk(p:Nat→Bool)(n:Nat):decide (0≤Ff p n)=Oy p n:=by
 rcases cS p n with⟨e,a⟩|⟨j,b,c,e⟩
 ·rw[e,kS a];rfl
 ·rw[e,qD b c];simp
theorem Tc {α:Type}(f:α→Bool)(p:Nat→Bool)(l:List α)(b:∀i (a:i<l.length),p i=f l[i]):Oy p l.length=l.any f:=by
 rw[Bool.eq_iff_iff];simp only[Oy,List.any_eq_true,List.mem_range];constructor
 ·rintro⟨i,a,d⟩;exact⟨l[i],List.getElem_mem a,by rw[←b i a];exact d⟩
 ·rintro⟨x,hx,c⟩;obtain⟨i,a,rfl⟩:=List.getElem_of_mem hx;exact⟨i,a,by rw[b i a];exact c⟩
end Go.Proofs.YthcpopmmlneneaaGreatDoor
namespace Go.Proofs.YthcpopmmlneneaaGreatDoor
abbrev Bs:=List UInt8
abbrev Aa(l:Bs):ByteArray:=⟨l.toArray⟩
inductive Ex where
 |mk (kind op n:Int) (name:Bs) (args:List Ex)
namespace Ex
def kind:Ex→Int|mk k _ _ _ _=>k
def op:Ex→Int|mk _ o _ _ _=>o
def n:Ex→Int|mk _ _ n _ _=>n
def name:Ex→Bs|mk _ _ _ s _=>s
def args:Ex→List Ex|mk _ _ _ _ l=>l
end Ex
inductive St where
 |mk (kind:Int) (name:Bs) (args:List Ex) (thn els:List St)
namespace St
def kind:St→Int|mk k _ _ _ _=>k
def name:St→Bs|mk _ s _ _ _=>s
def args:St→List Ex|mk _ _ l _ _=>l
def thn:St→List St|mk _ _ _ l _=>l
def els:St→List St|mk _ _ _ _ l=>l
end St
abbrev χ(x:Ex)(s:Value):List Value:=[ι x.kind,ι x.op,ι x.n,σ x.name,s]
abbrev ξ(x:Ex)(s:Value):Obj:=.cells (χ x s).toArray 35
abbrev ψ(x:St)(a t u:Value):List Value:=[ι x.kind,σ x.name,a,t,u]
structure Fu where
 name:Bs
 params:List Bs
 locals:List Bs
 body:List St
structure Ar where
 name:Bs
 size:Int
structure Pr where
 arrays:List Ar
 funcs:List Fu
def As(op:Int):Bs:=
 if op=1 then [43]else if op=2 then [45]else if op=3 then [42]else if op=4 then [47]else if op=5 then [37]
 else if op=6 then [38]else if op=7 then [124]else if op=8 then [94]else if op=9 then [60,60]else if op=10 then [62,62]
 else if op=11 then [60]else if op=12 then [60,61]else if op=13 then [62]else if op=14 then [62,61]else if op=15 then [61,61]
 else if op=16 then [33,61]else if op=17 then [45]else if op=18 then [33]else if op=19 then [126]else []
def Ao(op:Int):Int:=
 if op=1 then 7 else if op=2 then 7 else if op=3 then 8 else if op=4 then 8 else if op=5 then 8
 else if op=6 then 3 else if op=7 then 1 else if op=8 then 2 else if op=9 then 6 else if op=10 then 6
 else if op=11 then 5 else if op=12 then 5 else if op=13 then 5 else if op=14 then 5 else if op=15 then 4
 else if op=16 then 4 else 0
def Bu(c:UInt8):Bool:=c==95||(97≤c && c≤122)||(65≤c && c≤90)
def Ax(c:UInt8):Bool:=48≤c && c≤57
def Od:List Bs:=[[105,110,116],[105,102],[101,108,115,101],[119,104,105,108,101],[98,114,101,97,107],[99,111,110,116,105,110,117,101],[114,101,116,117,114,110],[112,114,105,110,116],[114,101,97,100],[116,114,97,112]]
def Es(l:Bs):Bool:=Od.contains l
def Dx:Bool→Bs→Bool
 |_,[]=>true
 |first,c::l=>(Bu c||(!first && Ax c)) && Dx false l
def Ak(l:Bs):Bool:= !l.isEmpty && decide (l.length≤20) && !Es l && Dx true l
def Ic:Nat→Ex→Bool
 |0,_=>false
 |m+1,e=>e.args.all (Ic m)
def Iq(e:Ex):Int:=if e.kind=3∨e.kind=4 then e.op else 0
def Lb(e:Ex):Int:=if e.kind=1 then e.n else 0
def Ez(e:Ex):Bs:=if e.kind=2∨e.kind=5∨e.kind=6 then e.name else []
def De(e:Ex):Int:=if e.kind=3∨e.kind=6 then 1 else if e.kind=4 then 2 else if e.kind=5 then e.args.length else 0
def Gr(e:Ex):Bool:=
 if e.kind=1 then decide (0≤e.n)else if e.kind=2 then Ak e.name else if e.kind=3 then decide (e.op=17∨e.op=18∨e.op=19)
 else if e.kind=4 then decide (0<Ao e.op)else if e.kind=5 then Ak e.name && decide ((e.args.length:Int)≤6)
 else if e.kind=6 then Ak e.name else decide (e.kind=7)
def Cl(e:Ex):Bool:=Gr e && ((e.args.length:Int)==De e) && (Iq e==e.op) && (Lb e==e.n) && (Ez e==e.name)
mutual
def Cc:Ex→Bool
 |.mk k o n nm args=>Cl (.mk k o n nm args) && Uy args
def Uy:List Ex→Bool
 |[]=>true
 |x::l=>Cc x && Uy l
end
theorem Vm:∀l,Uy l=l.all Cc
 |[]=>rfl
 |x::l=>by simp [Uy,Vm l]
theorem Lh(e:Ex):Cc e=(Cl e && e.args.all Cc):=by
 cases e;rw[Cc,Vm];rfl
def Cf(e:Ex):Bool:=Ic 40 e && Cc e
def En(k:Int):Bool:=decide (k=1∨k=2)
def Ey(k:Int):Int:=if k=2 then 2 else if k=1∨k=3∨k=4∨k=7∨k=8∨k=9∨k=10 then 1 else 0
def Ji(k:Int):Bool:=decide (k=3∨k=4)
def Jn(k:Int):Bool:=decide (k=3)
def fOk(k:Int):Bool:=decide (1≤k∧k≤10)
def Io(a:Int)(x:St):Bool:= !fOk x.kind||a==0|| !((x.args.length:Int)==Ey x.kind)||(!Ji x.kind && !x.thn.isEmpty)||(!Jn x.kind && !x.els.isEmpty)
def Nn(x:St):Bool:= !(En x.kind==Ak x.name)||(!En x.kind && !(x.name==[]))||(x.kind==10 && !((x.args.headD (.mk 0 0 0 [] [])).kind==5))
def Dy:Nat→St→Bool
 |0,_=>false
 |m+1,x=> !Io (m+1) x && !Nn x && x.args.all Cf && x.thn.all (Dy m) && x.els.all (Dy m)
def Dr(f:Fu):Bool:=Ak f.name && f.params.all Ak && f.locals.all Ak && decide (f.params.length≤6) && f.body.all (Dy 40)
def Cz(a:Ar):Bool:=Ak a.name && decide (1≤a.size∧a.size≤1048576)
def Eh(p:Pr):Bool:=p.arrays.all Cz && p.funcs.all Dr
theorem Ex.size_lt {e x:Ex}(a:x∈e.args):SizeOf.sizeOf x<SizeOf.sizeOf e:=by
 cases e with
 |mk k o n nm args=>
  have:=List.sizeOf_lt_of_mem (show x∈args from a);simp only[Ex.mk.sizeOf_spec];omega
end Go.Proofs.YthcpopmmlneneaaGreatDoor
namespace Go.Proofs.YthcpopmmlneneaaGreatDoor
open Go.RowKit
set_option maxHeartbeats 20000000
set_option maxRecDepth 100000
open Go renaming World→Ze
open Nat renaming not_lt_zero→Za,le_refl→Zb
open List renaming getD_eq_getElem?_getD→Zc,getElem?_eq_getElem→Zd
def Cv(n:Nat):Prop:=n≤140737488355328
theorem Cv.out {n:Nat}(a:Cv n):n≤140737488355328:=a
theorem Cv.lt {n:Nat}(a:Cv n):n<9223372036854775807:=by have:=a.out;omega
theorem Cv.mono {a n:Nat}(b:Cv n)(c:a≤n):Cv a:=Nat.le_trans c b
def I64(n:Int):Prop:= -9223372036854775808≤n∧n≤9223372036854775807
def Ex.nil:Ex:=.mk 0 0 0 [] []
abbrev Bx(l:List Ex)(i:Nat):Ex:=l.getD i Ex.nil
def St.nil:St:=.mk 0 [] [] [] []
abbrev Fk(l:List St)(i:Nat):St:=l.getD i St.nil
inductive Ag (D:Nat→Prop)(w:Ze):List Ex→Value→Prop
 |mk (l:List Ex) (a:Option Addr) (cap b off:Nat) (sv:Nat→Value) (hcap:l.length≤cap) (hfit:Cv l.length)
  (ha:l.length=0∨(a=some ⟨b,off,none⟩∧D b))
  (h0:∀i,i<l.length→w.cell? ⟨b,off+i*5,none⟩=some (.int .i64 (Bx l i).kind))
  (h1:∀i,i<l.length→w.cell? ⟨b,off+i*5+1,none⟩=some (.int .i64 (Bx l i).op))
  (h2:∀i,i<l.length→w.cell? ⟨b,off+i*5+2,none⟩=some (.int .i64 (Bx l i).n))
  (h3:∀i,i<l.length→w.cell? ⟨b,off+i*5+3,none⟩=some (.string (Aa (Bx l i).name)))
  (h4:∀i,i<l.length→w.cell? ⟨b,off+i*5+4,none⟩=some (sv i))
  (hs:∀i,i<l.length→Ag D w (Bx l i).args (sv i))
  (hn:∀i,i<l.length→I64 (Bx l i).n):Ag D w l (.slice a l.length cap)
def Db(D:Nat→Prop)(w w':Ze):Prop:= ∀b a x,D b→w.cell? ⟨b,a,none⟩=some x→w'.cell? ⟨b,a,none⟩=some x
theorem Db.refl(D:Nat→Prop)(w:Ze):Db D w w:=fun _ _ _ _ a=>a
theorem Db.trans {D:Nat→Prop}{a b c:Ze}(e:Db D a b)(k:Db D b c):Db D a c:=fun _ _ _ d x=>k _ _ _ d (e _ _ _ d x)
theorem Be {D:Nat→Prop}{w w':Ze}(a:Below w.heap.size w w'):Db D w w':=fun _ _ _ _ hx=>Ac a hx
theorem Ag.keep {D:Nat→Prop}{w w':Ze}(f:Db D w w'){l:List Ex}{v:Value}(g:Ag D w l v):Ag D w' l v:=by
 induction g with
 |mk l a cap b off sv hcap hfit e h0 h1 h2 h3 h4 _ hn ih=>
  rcases e with e|⟨e,d⟩
  ·refine .mk l a cap b off sv hcap hfit (.inl e) ?_ ?_ ?_ ?_ ?_ ih hn<;>(intro i c;omega)
  ·exact .mk l a cap b off sv hcap hfit (.inr ⟨e,d⟩) (fun i c=>f _ _ _ d (h0 i c)) (fun i c=>f _ _ _ d (h1 i c)) (fun i c=>f _ _ _ d (h2 i c))
    (fun i c=>f _ _ _ d (h3 i c)) (fun i c=>f _ _ _ d (h4 i c)) ih hn
theorem Ag.mono {D D':Nat→Prop}{w:Ze}(d:∀b,D b→D' b){l:List Ex}{v:Value}(c:Ag D w l v):Ag D' w l v:=by
 induction c with
 |mk l a cap b off sv hcap hfit ha h0 h1 h2 h3 h4 _ hn ih=>exact .mk l a cap b off sv hcap hfit (ha.imp id fun c=>⟨c.1,d _ c.2⟩) h0 h1 h2 h3 h4 ih hn
theorem Ag.old {D:Nat→Prop}{w w':Ze}(b:Below w.heap.size w w'){l:List Ex}{v:Value}(a:Ag D w l v):Ag D w' l v:=a.keep (Be b)
inductive Au (D:Nat→Prop)(w:Ze):List St→Value→Prop
 |mk (l:List St) (a:Option Addr) (cap b off:Nat) (sa st se:Nat→Value) (hcap:l.length≤cap) (hfit:Cv l.length)
  (ha:l.length=0∨(a=some ⟨b,off,none⟩∧D b))
  (h0:∀i,i<l.length→w.cell? ⟨b,off+i*5,none⟩=some (.int .i64 (Fk l i).kind))
  (h1:∀i,i<l.length→w.cell? ⟨b,off+i*5+1,none⟩=some (.string (Aa (Fk l i).name)))
  (h2:∀i,i<l.length→w.cell? ⟨b,off+i*5+2,none⟩=some (sa i))
  (h3:∀i,i<l.length→w.cell? ⟨b,off+i*5+3,none⟩=some (st i))
  (h4:∀i,i<l.length→w.cell? ⟨b,off+i*5+4,none⟩=some (se i))
  (ea:∀i,i<l.length→Ag D w (Fk l i).args (sa i))
  (et:∀i,i<l.length→Au D w (Fk l i).thn (st i))
  (ee:∀i,i<l.length→Au D w (Fk l i).els (se i)):Au D w l (.slice a l.length cap)
theorem Au.keep {D:Nat→Prop}{w w':Ze}(e:Db D w w'){l:List St}{v:Value}(g:Au D w l v):Au D w' l v:=by
 induction g with
 |mk l a cap b off sa st se hcap hfit f h0 h1 h2 h3 h4 ea _ _ ih1 ih2=>
  rcases f with f|⟨f,d⟩
  ·refine .mk l a cap b off sa st se hcap hfit (.inl f) ?_ ?_ ?_ ?_ ?_ ?_ ih1 ih2<;>(intro i c;omega)
  ·exact .mk l a cap b off sa st se hcap hfit (.inr ⟨f,d⟩) (fun i c=>e _ _ _ d (h0 i c)) (fun i c=>e _ _ _ d (h1 i c)) (fun i c=>e _ _ _ d (h2 i c))
    (fun i c=>e _ _ _ d (h3 i c)) (fun i c=>e _ _ _ d (h4 i c)) (fun i c=>(ea i c).keep e) ih1 ih2
theorem Au.mono {D D':Nat→Prop}{w:Ze}(d:∀b,D b→D' b){l:List St}{v:Value}(c:Au D w l v):Au D' w l v:=by
 induction c with
 |mk l a cap b off sa st se hcap hfit ha h0 h1 h2 h3 h4 ea _ _ ih1 ih2=>exact .mk l a cap b off sa st se hcap hfit (ha.imp id fun c=>⟨c.1,d _ c.2⟩) h0 h1 h2 h3 h4 (fun i e=>(ea i e).mono d) ih1 ih2
theorem Au.old {D:Nat→Prop}{w w':Ze}(b:Below w.heap.size w w'){l:List St}{v:Value}(a:Au D w l v):Au D w' l v:=a.keep (Be b)
theorem Ag.shape {D:Nat→Prop}{w:Ze}{l:List Ex}{v:Value}(b:Ag D w l v):∃a cap,v=.slice a l.length cap:=by cases b;exact⟨_,_,rfl⟩
theorem Ag.cell0 {D:Nat→Prop}{w:Ze}{l:List Ex}{a:Option Addr}{n cap:Nat}(e:Ag D w l (.slice a n cap))(f:0<l.length):∃b d,a=some ⟨b,d,none⟩∧w.cell? ⟨b,d,none⟩=some (.int .i64 (Bx l 0).kind):=by
 cases e with
 |mk _ _ _ b d sv hcap hfit c h0=>
  rcases c with c|⟨c,_⟩
  ·omega
  ·exact⟨b,d,c,by simpa using h0 0 f⟩
theorem Ag.cellAt {D:Nat→Prop}{w:Ze}{l:List Ex}{a:Option Addr}{n cap:Nat}(f:Ag D w l (.slice a n cap))(i:Nat)(d:i<l.length):∃b c s,a=some ⟨b,c,none⟩∧D b∧
  w.cell? ⟨b,c+i*5,none⟩=some (.int .i64 (Bx l i).kind)∧w.cell? ⟨b,c+i*5+1,none⟩=some (.int .i64 (Bx l i).op)∧w.cell? ⟨b,c+i*5+2,none⟩=some (.int .i64 (Bx l i).n)∧
  w.cell? ⟨b,c+i*5+3,none⟩=some (.string (Aa (Bx l i).name))∧w.cell? ⟨b,c+i*5+4,none⟩=some s∧Ag D w (Bx l i).args s∧I64 (Bx l i).n:=by
 cases f with
 |mk _ _ _ b c sv hcap hfit e h0 h1 h2 h3 h4 hs hn=>
  rcases e with e|⟨e,g⟩
  ·omega
  ·exact⟨b,c,sv i,e,g,h0 i d,h1 i d,h2 i d,h3 i d,h4 i d,hs i d,hn i d⟩
theorem Ag.fits {D:Nat→Prop}{w:Ze}{l:List Ex}{v:Value}(a:Ag D w l v):Cv l.length:=by
 cases a with
 |mk _ _ _ b off sv hcap hfit=>exact hfit
theorem Au.shape {D:Nat→Prop}{w:Ze}{l:List St}{v:Value}(b:Au D w l v):∃a cap,v=.slice a l.length cap:=by cases b;exact⟨_,_,rfl⟩
def Bb(D:Nat→Prop)(w:Ze)(l:List Bs)(v:Value):Prop:=
 ∃a cap b c,v=.slice a l.length cap∧l.length≤cap∧Cv l.length∧(l.length=0∨(a=some ⟨b,c,none⟩∧D b))∧
  ∀i,i<l.length→w.cell? ⟨b,c+i,none⟩=some (.string (Aa (l.getD i [])))
theorem Bb.keep {D:Nat→Prop}{w w':Ze}(k:Db D w w'){l:List Bs}{v:Value}(d:Bb D w l v):Bb D w' l v:=by
 obtain⟨a,cap,b,n,m,e,f,c,g⟩:=d;refine⟨a,cap,b,n,m,e,f,c,fun i j=>?_⟩;rcases c with c|⟨_,h⟩
 ·omega
 ·exact k _ _ _ h (g i j)
theorem Bb.old {D:Nat→Prop}{w w':Ze}(b:Below w.heap.size w w'){l:List Bs}{v:Value}(a:Bb D w l v):Bb D w' l v:=a.keep (Be b)
theorem Bb.mono {D D':Nat→Prop}{w:Ze}(h:∀b,D b→D' b){l:List Bs}{v:Value}(c:Bb D w l v):Bb D' w l v:=by
 obtain⟨a,cap,b,j,i,d,e,f,g⟩:=c;exact⟨a,cap,b,j,i,d,e,f.imp id fun c=>⟨c.1,h _ c.2⟩,g⟩
def Ar.nil:Ar:=⟨[],0⟩
def Fu.nil:Fu:=⟨[],[],[],[]⟩
abbrev Em(l:List Ar)(i:Nat):Ar:=l.getD i Ar.nil
abbrev Bc(l:List Fu)(i:Nat):Fu:=l.getD i Fu.nil
def Cd(D:Nat→Prop)(w:Ze)(l:List Ar)(v:Value):Prop:=
 ∃a cap b c,v=.slice a l.length cap∧l.length≤cap∧Cv l.length∧(l.length=0∨(a=some ⟨b,c,none⟩∧D b))∧
  ∀i,i<l.length→w.cell? ⟨b,c+i*2,none⟩=some (.string (Aa (Em l i).name))∧w.cell? ⟨b,c+i*2+1,none⟩=some (.int .i64 (Em l i).size)
theorem Cd.keep {D:Nat→Prop}{w w':Ze}(g:Db D w w'){l:List Ar}{v:Value}(h:Cd D w l v):Cd D w' l v:=by
 obtain⟨a,cap,b,n,m,j,k,c,d⟩:=h;refine⟨a,cap,b,n,m,j,k,c,fun i f=>?_⟩;rcases c with c|⟨_,e⟩
 ·omega
 ·exact⟨g _ _ _ e (d i f).1,g _ _ _ e (d i f).2⟩
theorem Cd.old {D:Nat→Prop}{w w':Ze}(b:Below w.heap.size w w'){l:List Ar}{v:Value}(a:Cd D w l v):Cd D w' l v:=a.keep (Be b)
def Bw(D:Nat→Prop)(w:Ze)(l:List Fu)(v:Value):Prop:=
 ∃a cap b c,∃pv lv d:Nat→Value,v=.slice a l.length cap∧l.length≤cap∧Cv l.length∧(l.length=0∨(a=some ⟨b,c,none⟩∧D b))∧
  ∀i,i<l.length→(w.cell? ⟨b,c+i*4,none⟩=some (.string (Aa (Bc l i).name))∧w.cell? ⟨b,c+i*4+1,none⟩=some (pv i)∧w.cell? ⟨b,c+i*4+2,none⟩=some (lv i)∧w.cell? ⟨b,c+i*4+3,none⟩=some (d i))∧
   Bb D w (Bc l i).params (pv i)∧Bb D w (Bc l i).locals (lv i)∧Au D w (Bc l i).body (d i)
theorem Bw.keep {D:Nat→Prop}{w w':Ze}(c:Db D w w'){l:List Fu}{v:Value}(p:Bw D w l v):Bw D w' l v:=by
 obtain⟨a,cap,b,x,pv,lv,f,u,q,r,e,s⟩:=p;refine⟨a,cap,b,x,pv,lv,f,u,q,r,e,fun i t=>?_⟩;rcases e with e|⟨_,d⟩
 ·omega
 ·obtain⟨⟨g,h,j,k⟩,m,n,o⟩:=s i t
  exact⟨⟨c _ _ _ d g,c _ _ _ d h,c _ _ _ d j,c _ _ _ d k⟩,m.keep c,n.keep c,o.keep c⟩
theorem Bw.old {D:Nat→Prop}{w w':Ze}(b:Below w.heap.size w w'){l:List Fu}{v:Value}(a:Bw D w l v):Bw D w' l v:=a.keep (Be b)
theorem sO {l:List Ar}{i:Nat}(a:i<l.length):Em l i∈l:=by
 simp only[Em,Zc,Zd a,Option.getD_some];exact List.getElem_mem a
theorem Xg {l:List Fu}{i:Nat}(a:i<l.length):Bc l i∈l:=by
 simp only[Bc,Zc,Zd a,Option.getD_some];exact List.getElem_mem a
theorem bD {α:Type}(l:List α)(d:α)(f:α→Bool)(b:∀i,i<l.length→f (l.getD i d)=true):l.all f=true:=by
 rw[List.all_eq_true];intro x hx;obtain⟨i,a,rfl⟩:=List.getElem_of_mem hx;have:=b i a
 rwa[Zc,Zd a,Option.getD_some]at this
theorem Rl {α:Type}(l:List α)(d:α)(f:α→Bool)(i:Nat)(b:i<l.length)(a:f (l.getD i d)=false):l.all f=false:=by
 rw[List.all_eq_false];refine⟨l[i],List.getElem_mem b,?_⟩;rw[Zc,Zd b,Option.getD_some]at a;simp [a]
abbrev exV(e:Ex)(s:Value):Value:=.agg #[.int .i64 e.kind,.int .i64 e.op,.int .i64 e.n,.string (Aa e.name),s]
theorem Jh {n:Int}(a: -1000000≤n∧n≤1000000):I64 n:=⟨by omega,by omega⟩
theorem Mo:(Tryz.prog.info? 35).map (fun i=>(i.zero,i.size,i.bytes))=some (some (.agg #[.int .i64 0,.int .i64 0,.int .i64 0,.string ⟨#[]⟩,.slice none 0 0]),5,64):=by kernel_rfl
theorem Ag.zero {D:Nat→Prop}{w:Ze}:Ag D w [] (.slice none 0 0):=
 .mk [] none 0 0 0 (fun _=>undef) (Zb _) (by show _≤_;simp) (.inl rfl) (fun i a=>absurd a (Za _)) (fun i a=>absurd a (Za _)) (fun i a=>absurd a (Za _)) (fun i a=>absurd a (Za _)) (fun i a=>absurd a (Za _)) (fun i a=>absurd a (Za _)) (fun i a=>absurd a (Za _))
theorem Au.zero {D:Nat→Prop}{w:Ze}:Au D w [] (.slice none 0 0):=
 .mk [] none 0 0 0 (fun _=>undef) (fun _=>undef) (fun _=>undef) (Zb _) (by show _≤_;simp) (.inl rfl) (fun i a=>absurd a (Za _)) (fun i a=>absurd a (Za _)) (fun i a=>absurd a (Za _)) (fun i a=>absurd a (Za _)) (fun i a=>absurd a (Za _)) (fun i a=>absurd a (Za _)) (fun i a=>absurd a (Za _)) (fun i a=>absurd a (Za _))
theorem Bb.zero {D:Nat→Prop}{w:Ze}:Bb D w [] (.slice none 0 0):=
 ⟨_,0,0,0,rfl,Zb _,by show _≤_;simp,.inl rfl,fun i a=>absurd a (Za _)⟩
theorem Cd.zero {D:Nat→Prop}{w:Ze}:Cd D w [] (.slice none 0 0):=
 ⟨_,0,0,0,rfl,Zb _,by show _≤_;simp,.inl rfl,fun i a=>absurd a (Za _)⟩
theorem Bw.zero {D:Nat→Prop}{w:Ze}:Bw D w [] (.slice none 0 0):=
 ⟨_,0,0,0,fun _=>undef,fun _=>undef,fun _=>undef,rfl,Zb _,by show _≤_;simp,.inl rfl,fun i a=>absurd a (Za _)⟩
def Ba(e:Ex)(s:Value):List Value:=[.int .i64 e.kind,.int .i64 e.op,.int .i64 e.n,.string (Aa e.name),s]
theorem Dv.new(w:Ze)(a:List Value)(b:TypeId):Dv (w.alloc (.cells a.toArray b)) w.heap.size 0 a:=fun i c=>by simp
theorem Dv.at {w:Ze}{b:Nat}{a:List Value}(c:Dv w b 0 a)(i:Nat)(v:Value)(d:a[i]? =some v):w.cell? ⟨b,i,none⟩=some v:=by
 obtain⟨f,e⟩:=List.getElem?_eq_some_iff.1 d;have:=c i f;rw[e]at this;simpa using this
theorem Ag.one {D:Nat→Prop}{w:Ze}{b:Nat}(e:Ex)(s:Value)(c:D b)(a:Dv w b 0 (Ba e s))(h:Ag D w e.args s)(g:I64 e.n):Ag D w [e] (.slice (some ⟨b,0,none⟩) 1 1):=by
 refine .mk [e] _ 1 b 0 (fun _=>s) (Zb _) (by show _≤_;simp) (.inr ⟨rfl,c⟩) ?_ ?_ ?_ ?_ ?_ ?_ ?_
 all_goals
  intro i d;have f:i=0:=by simp at d;omega
  subst f
 ·exact a.at 0 _ rfl
 ·exact a.at 1 _ rfl
 ·exact a.at 2 _ rfl
 ·exact a.at 3 _ rfl
 ·exact a.at 4 _ rfl
 ·exact h
 ·exact g
theorem Ag.two {D:Nat→Prop}{w:Ze}{b:Nat}(e f:Ex)(s t:Value)(c:D b)(a:Dv w b 0 (Ba e s++Ba f t))(k:Ag D w e.args s)(j:I64 e.n)(l:Ag D w f.args t)(h:I64 f.n):Ag D w [e,f] (.slice (some ⟨b,0,none⟩) 2 2):=by
 refine .mk [e,f] _ 2 b 0 (fun i=>if i=0 then s else t) (Zb _) (by show _≤_;simp) (.inr ⟨rfl,c⟩) ?_ ?_ ?_ ?_ ?_ ?_ ?_
 all_goals
  intro i d;have g:i=0∨i=1:=by simp at d;omega
  rcases g with rfl|rfl
 ·exact a.at 0 _ rfl
 ·exact a.at 5 _ rfl
 ·exact a.at 1 _ rfl
 ·exact a.at 6 _ rfl
 ·exact a.at 2 _ rfl
 ·exact a.at 7 _ rfl
 ·exact a.at 3 _ rfl
 ·exact a.at 8 _ rfl
 ·exact a.at 4 _ rfl
 ·exact a.at 9 _ rfl
 ·exact k
 ·exact l
 ·exact j
 ·exact h
def Fo(x:St)(a t e:Value):List Value:=[.int .i64 x.kind,.string (Aa x.name),a,t,e]
theorem Au.one {D:Nat→Prop}{w:Ze}{b:Nat}(x:St)(a t e:Value)(d:D b)(c:Dv w b 0 (Fo x a t e))(f:Ag D w x.args a)(k:Au D w x.thn t)(g:Au D w x.els e):Au D w [x] (.slice (some ⟨b,0,none⟩) 1 1):=by
 refine .mk [x] _ 1 b 0 (fun _=>a) (fun _=>t) (fun _=>e) (Zb _) (by show _≤_;simp) (.inr ⟨rfl,d⟩) ?_ ?_ ?_ ?_ ?_ ?_ ?_ ?_
 all_goals
  intro i h;have j:i=0:=by simp at h;omega
  subst j
 ·exact c.at 0 _ rfl
 ·exact c.at 1 _ rfl
 ·exact c.at 2 _ rfl
 ·exact c.at 3 _ rfl
 ·exact c.at 4 _ rfl
 ·exact f
 ·exact k
 ·exact g
def fuCells(f:Fu)(p l s:Value):List Value:=[.string (Aa f.name),p,l,s]
theorem Bw.one {D:Nat→Prop}{w:Ze}{b:Nat}(f:Fu)(p l s:Value)(c:D b)(a:Dv w b 0 (fuCells f p l s))(h:Bb D w f.params p)(g:Bb D w f.locals l)(j:Au D w f.body s):Bw D w [f] (.slice (some ⟨b,0,none⟩) 1 1):=by
 refine⟨_,1,b,0,fun _=>p,fun _=>l,fun _=>s,rfl,Zb _,by show _≤_;simp,.inr ⟨rfl,c⟩,?_⟩;intro i d;have e:i=0:=by simp at d;omega
 subst e;exact⟨⟨a.at 0 _ rfl,a.at 1 _ rfl,a.at 2 _ rfl,a.at 3 _ rfl⟩,h,g,j⟩
theorem Dv.alloc {w:Ze}{b:Nat}{a:List Value}(c:Dv w b 0 a)(d:Obj):Dv (w.alloc d) b 0 a:=c.below (bA)
end Go.Proofs.YthcpopmmlneneaaGreatDoor
