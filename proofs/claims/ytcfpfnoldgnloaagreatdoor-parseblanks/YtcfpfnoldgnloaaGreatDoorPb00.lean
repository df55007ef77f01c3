/-
  Small trees in memory, put together. No condition.
-/
import Derived.Test.YtcfpfnoldgnloaaGreatDoorProg
import Derived.WalkKit
import Derived.WalkSpells
import Derived.WalkLawsBesides
import Derived.Laws.EntriesVeiled
import Derived.Deep.QuietTactic
import Derived.BigQuiet
import Derived.Deep.RegionHeld3
import Derived.Deep.RegionWith
import Derived.StillTailTactics
import Derived.Deep.RegionLaw
import Derived.Deep.Cut
import Derived.Deep.DeepCutAuto
import Derived.Deep.DeepFit
import Derived.Deep.DeepMust
import Derived.Deep.LoopGhost
import Derived.Lib.Hide
import Derived.KernelRfl
import Derived.Below
set_option linter.unusedVariables false
set_option linter.unusedSimpArgs false
namespace Go.RowKit
theorem Hid.o{p:Prop}(h:Hid p):p:=h
end Go.RowKit
namespace Go.Proofs.YtcfpfnoldgnloaaGreatDoor
open Go.RowKit
set_option maxHeartbeats 20000000
set_option maxRecDepth 100000
theorem cSm{α:Type _}{a b:α}(h:a=b):some a=some b:=congrArg some h
theorem bA {w : World} {o : Obj} : Below w.heap.size w (w.alloc o) := (Below.refl _ _).alloc (Nat.le_refl _) _
theorem Iv {k:IntKind}{a b:Int}(h:a=b):Ending.returned (.int k a)=.returned (.int k b):=by rw[h]
theorem Au {a b:Bool}(h:a=b):Ending.returned (.bool a)=.returned (.bool b):=by rw[h]
theorem Uy {W w1:World}(hb:Below W.heap.size W w1):(∀b o,b<W.heap.size→w1.cell? ⟨b,o,none⟩=W.cell? ⟨b,o,none⟩)∧(∀b o,b<W.heap.size→w1.frozen? ⟨b,o,none⟩=W.frozen? ⟨b,o,none⟩):=
 ⟨fun b o h=>hb.cell (p:=⟨b,o,none⟩) h,fun b o h=>hb.frozen (p:=⟨b,o,none⟩) h⟩
def Fc(w:World)(b off:Nat)(cs:List Value):Prop:= ∀i (h:i<cs.length),w.cell? ⟨b,off+i,none⟩=some cs[i]
theorem Ad {w w':World}(h:Below w.heap.size w w'){a:Addr}{x:Value}(hx:w.cell? a=some x):w'.cell? a=some x:=by
 rw[h.cell (p:=a) (World.block_lt_of_cell? w a hx)];exact hx
theorem Bj {w:World}{a:Addr}{v:Value}(h:w.cell? a=some v):w.setCell a v=w:=by
 have hb:=World.block_lt_of_cell? w a h;unfold World.cell? at h;rw[Array.getElem?_eq_getElem hb]at h
 cases ho:w.heap[a.block]with
 |cells c e fz=>
  simp only[ho]at h
  cases hs:a.spot.isSome with
  |true=>simp [hs]at h
  |false=>
   simp only[hs,Bool.false_eq_true,if_false]at h;have hc:c.setIfInBounds a.off v=c:=by
    apply Array.ext_getElem?
    intro i;rw[Array.getElem?_setIfInBounds]
    by_cases hi:a.off=i
    ·subst hi
     have hlt:a.off<c.size:=by
      rcases Nat.lt_or_ge a.off c.size with h'|h'
      ·exact h'
      ·rw[Array.getElem?_eq_none h']at h;cases h
     rw[Array.getElem?_eq_getElem hlt]at h;simp [hlt,Option.some.inj h]
    ·simp [hi]
   have hh:(w.setCell a v).heap=w.heap:=by
    apply Array.ext_getElem?
    intro i;simp only[World.setCell,Array.getElem?_modify]
    by_cases hi:a.block=i
    ·subst hi
     simp [Array.getElem?_eq_getElem hb,ho,hs,hc]
    ·simp [hi]
   have he:w.setCell a v= {w with heap:=(w.setCell a v).heap}:=rfl;rw[he,hh]
 |_=>simp [ho]at h
def Er(p:Nat→Bool):Nat→Int
 |0=> -1
 |n+1=>let r:=Er p n;if 0≤r then r else if p n then n else -1
def Pi(p:Nat→Bool)(n:Nat):Bool:=(List.range n).any p
theorem Kq(p:Nat→Bool):∀n,(∀i,i<n→p i=false)→Er p n= -1
 |0,_=>rfl
 |n+1,h=>by
  have ih:=Kq p n (fun i hi=>h i (by omega));simp [Er,ih,h n (by omega)]
theorem Pp(p:Nat→Bool)(j:Nat)(hp:p j=true)(h:∀i,i<j→p i=false):∀n,j<n→Er p n=j
 |0,hn=>by omega
 |n+1,hn=>by
  by_cases hj:j=n
  ·subst hj
   have:=Kq p j h;simp [Er,this,hp]
  ·have ih:=Pp p j hp h n (by omega)
   simp [Er,ih]
theorem kB {p:Nat→Bool}{n:Nat}(h:∀i,i<n→p i=false):Pi p n=false:=by
 simp only[Pi,List.any_eq_false,List.mem_range];intro x hx;simp [h x hx]
theorem rC {p:Nat→Bool}{n j:Nat}(hj:j<n)(h:p j=true):Pi p n=true:=by
 simp only[Pi,List.any_eq_true,List.mem_range];exact⟨j,hj,h⟩
theorem cL(p:Nat→Bool)(n:Nat):(Er p n= -1∧∀i,i<n→p i=false)∨∃j,j<n∧p j=true∧Er p n=j:=by
 induction n with
 |zero=>exact .inl ⟨rfl,fun i hi=>by omega⟩
 |succ n ih=>
  rcases ih with⟨e,h⟩|⟨j,hj,hp,e⟩
  ·cases hp:p n
   ·refine .inl ⟨by simp [Er,e,hp],fun i hi=>?_⟩
    rcases Nat.lt_succ_iff_lt_or_eq.1 hi with h'|rfl
    ·exact h i h'
    ·exact hp
   ·exact .inr ⟨n,by omega,hp,by simp [Er,e,hp]⟩
  ·exact .inr ⟨j,by omega,hp,by simp [Er,e]⟩
theorem Ml(p:Nat→Bool)(n:Nat):decide (0≤Er p n)=Pi p n:=by
 rcases cL p n with⟨e,h⟩|⟨j,hj,hp,e⟩
 ·rw[e,kB h];rfl
 ·rw[e,rC hj hp];simp
theorem Tw {α:Type}(f:α→Bool)(p:Nat→Bool)(l:List α)(h:∀i (hi:i<l.length),p i=f l[i]):Pi p l.length=l.any f:=by
 rw[Bool.eq_iff_iff];simp only[Pi,List.any_eq_true,List.mem_range];constructor
 ·rintro⟨i,hi,hp⟩;exact⟨l[i],List.getElem_mem hi,by rw[←h i hi];exact hp⟩
 ·rintro⟨x,hx,hf⟩;obtain⟨i,hi,rfl⟩:=List.getElem_of_mem hx;exact⟨i,hi,by rw[h i hi];exact hf⟩
end Go.Proofs.YtcfpfnoldgnloaaGreatDoor
namespace Go.Proofs.YtcfpfnoldgnloaaGreatDoor
abbrev Bs:=List UInt8
abbrev Aa(l:Bs):ByteArray:=⟨l.toArray⟩
inductive Ex where
 |mk (kind op n:Int) (name:Bs) (args:List Ex)
namespace Ex
def kind:Ex→Int|mk k _ _ _ _=>k
def op:Ex→Int|mk _ o _ _ _=>o
def n:Ex→Int|mk _ _ n _ _=>n
def name:Ex→Bs|mk _ _ _ s _=>s
def args:Ex→List Ex|mk _ _ _ _ l=>l
end Ex
inductive St where
 |mk (kind:Int) (name:Bs) (args:List Ex) (thn els:List St)
namespace St
def kind:St→Int|mk k _ _ _ _=>k
def name:St→Bs|mk _ s _ _ _=>s
def args:St→List Ex|mk _ _ l _ _=>l
def thn:St→List St|mk _ _ _ l _=>l
def els:St→List St|mk _ _ _ _ l=>l
end St
structure Fu where
 name:Bs
 params:List Bs
 locals:List Bs
 body:List St
structure Ar where
 name:Bs
 size:Int
structure Pr where
 arrays:List Ar
 funcs:List Fu
def Aw(op:Int):Bs:=
 if op=1 then [43]else if op=2 then [45]else if op=3 then [42]else if op=4 then [47]else if op=5 then [37]
 else if op=6 then [38]else if op=7 then [124]else if op=8 then [94]else if op=9 then [60,60]else if op=10 then [62,62]
 else if op=11 then [60]else if op=12 then [60,61]else if op=13 then [62]else if op=14 then [62,61]else if op=15 then [61,61]
 else if op=16 then [33,61]else if op=17 then [45]else if op=18 then [33]else if op=19 then [126]else []
def Al(op:Int):Int:=
 if op=1 then 7 else if op=2 then 7 else if op=3 then 8 else if op=4 then 8 else if op=5 then 8
 else if op=6 then 3 else if op=7 then 1 else if op=8 then 2 else if op=9 then 6 else if op=10 then 6
 else if op=11 then 5 else if op=12 then 5 else if op=13 then 5 else if op=14 then 5 else if op=15 then 4
 else if op=16 then 4 else 0
def Cc(c:UInt8):Bool:=c==95||(97≤c && c≤122)||(65≤c && c≤90)
def Bn(c:UInt8):Bool:=48≤c && c≤57
def gX:List Bs:=[[105,110,116],[105,102],[101,108,115,101],[119,104,105,108,101],[98,114,101,97,107],[99,111,110,116,105,110,117,101],[114,101,116,117,114,110],[112,114,105,110,116],[114,101,97,100],[116,114,97,112]]
def Ia(l:Bs):Bool:=gX.contains l
def Hi:Bool→Bs→Bool
 |_,[]=>true
 |first,c::l=>(Cc c||(!first && Bn c)) && Hi false l
def Am(l:Bs):Bool:= !l.isEmpty && decide (l.length≤20) && !Ia l && Hi true l
def Jr:Nat→Ex→Bool
 |0,_=>false
 |m+1,e=>e.args.all (Jr m)
def Ir(e:Ex):Int:=if e.kind=3∨e.kind=4 then e.op else 0
def Le(e:Ex):Int:=if e.kind=1 then e.n else 0
def En(e:Ex):Bs:=if e.kind=2∨e.kind=5∨e.kind=6 then e.name else []
def Dm(e:Ex):Int:=if e.kind=3∨e.kind=6 then 1 else if e.kind=4 then 2 else if e.kind=5 then e.args.length else 0
def Hn(e:Ex):Bool:=
 if e.kind=1 then decide (0≤e.n)else if e.kind=2 then Am e.name else if e.kind=3 then decide (e.op=17∨e.op=18∨e.op=19)
 else if e.kind=4 then decide (0<Al e.op)else if e.kind=5 then Am e.name && decide ((e.args.length:Int)≤6)
 else if e.kind=6 then Am e.name else decide (e.kind=7)
def Cy(e:Ex):Bool:=Hn e && ((e.args.length:Int)==Dm e) && (Ir e==e.op) && (Le e==e.n) && (En e==e.name)
mutual
def Cn:Ex→Bool
 |.mk k o n nm args=>Cy (.mk k o n nm args) && Vr args
def Vr:List Ex→Bool
 |[]=>true
 |x::l=>Cn x && Vr l
end
theorem Xd:∀l,Vr l=l.all Cn
 |[]=>rfl
 |x::l=>by simp [Vr,Xd l]
theorem Ll(e:Ex):Cn e=(Cy e && e.args.all Cn):=by
 cases e;rw[Cn,Xd];rfl
def Ew(e:Ex):Bool:=Jr 40 e && Cn e
def Eh(k:Int):Bool:=decide (k=1∨k=2)
def Dz(k:Int):Int:=if k=2 then 2 else if k=1∨k=3∨k=4∨k=7∨k=8∨k=9∨k=10 then 1 else 0
def Ji(k:Int):Bool:=decide (k=3∨k=4)
def Je(k:Int):Bool:=decide (k=3)
def fOk(k:Int):Bool:=decide (1≤k∧k≤10)
def Jo(most:Int)(x:St):Bool:= !fOk x.kind||most==0|| !((x.args.length:Int)==Dz x.kind)||(!Ji x.kind && !x.thn.isEmpty)||(!Je x.kind && !x.els.isEmpty)
def Qs(x:St):Bool:= !(Eh x.kind==Am x.name)||(!Eh x.kind && !(x.name==[]))||(x.kind==10 && !((x.args.headD (.mk 0 0 0 [] [])).kind==5))
def Ef:Nat→St→Bool
 |0,_=>false
 |m+1,x=> !Jo (m+1) x && !Qs x && x.args.all Ew && x.thn.all (Ef m) && x.els.all (Ef m)
def Gh(f:Fu):Bool:=Am f.name && f.params.all Am && f.locals.all Am && decide (f.params.length≤6) && f.body.all (Ef 40)
def Dk(a:Ar):Bool:=Am a.name && decide (1≤a.size∧a.size≤1048576)
def Eb(p:Pr):Bool:=p.arrays.all Dk && p.funcs.all Gh
theorem Ex.size_lt {e x:Ex}(h:x∈e.args):SizeOf.sizeOf x<SizeOf.sizeOf e:=by
 cases e with
 |mk k o n nm args=>
  have:=List.sizeOf_lt_of_mem (show x∈args from h);simp only[Ex.mk.sizeOf_spec];omega
end Go.Proofs.YtcfpfnoldgnloaaGreatDoor
namespace Go.Proofs.YtcfpfnoldgnloaaGreatDoor
open Go.RowKit
set_option maxHeartbeats 20000000
set_option maxRecDepth 100000
open Nat renaming not_lt_zero→Za,le_refl→Zb
open List renaming getD_eq_getElem?_getD→Zc,getElem?_eq_getElem→Zd
def Ct(n:Nat):Prop:=n≤140737488355328
theorem Ct.out {n:Nat}(h:Ct n):n≤140737488355328:=h
theorem Ct.lt {n:Nat}(h:Ct n):n<9223372036854775807:=by have:=h.out;omega
theorem Ct.mono {m n:Nat}(h:Ct n)(hm:m≤n):Ct m:=Nat.le_trans hm h
def I64(n:Int):Prop:= -9223372036854775808≤n∧n≤9223372036854775807
def Ex.nil:Ex:=.mk 0 0 0 [] []
abbrev Bx(l:List Ex)(i:Nat):Ex:=l.getD i Ex.nil
def St.nil:St:=.mk 0 [] [] [] []
abbrev Ht(l:List St)(i:Nat):St:=l.getD i St.nil
inductive Ag (D:Nat→Prop)(w:World):List Ex→Value→Prop
 |mk (l:List Ex) (a:Option Addr) (cap b off:Nat) (sv:Nat→Value) (hcap:l.length≤cap) (hfit:Ct l.length)
  (ha:l.length=0∨(a=some ⟨b,off,none⟩∧D b))
  (h0:∀i,i<l.length→w.cell? ⟨b,off+i*5,none⟩=some (.int .i64 (Bx l i).kind))
  (h1:∀i,i<l.length→w.cell? ⟨b,off+i*5+1,none⟩=some (.int .i64 (Bx l i).op))
  (h2:∀i,i<l.length→w.cell? ⟨b,off+i*5+2,none⟩=some (.int .i64 (Bx l i).n))
  (h3:∀i,i<l.length→w.cell? ⟨b,off+i*5+3,none⟩=some (.string (Aa (Bx l i).name)))
  (h4:∀i,i<l.length→w.cell? ⟨b,off+i*5+4,none⟩=some (sv i))
  (hs:∀i,i<l.length→Ag D w (Bx l i).args (sv i))
  (hn:∀i,i<l.length→I64 (Bx l i).n):Ag D w l (.slice a l.length cap)
def Ed(D:Nat→Prop)(w w':World):Prop:= ∀b off x,D b→w.cell? ⟨b,off,none⟩=some x→w'.cell? ⟨b,off,none⟩=some x
theorem Ed.trans {D:Nat→Prop}{a b c:World}(h:Ed D a b)(k:Ed D b c):Ed D a c:=fun _ _ _ d x=>k _ _ _ d (h _ _ _ d x)
theorem Bh {D:Nat→Prop}{w w':World}(h:Below w.heap.size w w'):Ed D w w':=fun _ _ _ _ hx=>Ad h hx
theorem Ag.keep {D:Nat→Prop}{w w':World}(hk:Ed D w w'){l:List Ex}{v:Value}(h:Ag D w l v):Ag D w' l v:=by
 induction h with
 |mk l a cap b off sv hcap hfit ha h0 h1 h2 h3 h4 _ hn ih=>
  rcases ha with ha|⟨ha,hD⟩
  ·refine .mk l a cap b off sv hcap hfit (.inl ha) ?_ ?_ ?_ ?_ ?_ ih hn<;>(intro i hi;omega)
  ·exact .mk l a cap b off sv hcap hfit (.inr ⟨ha,hD⟩) (fun i hi=>hk _ _ _ hD (h0 i hi)) (fun i hi=>hk _ _ _ hD (h1 i hi)) (fun i hi=>hk _ _ _ hD (h2 i hi))
    (fun i hi=>hk _ _ _ hD (h3 i hi)) (fun i hi=>hk _ _ _ hD (h4 i hi)) ih hn
theorem Ag.mono {D D':Nat→Prop}{w:World}(hD:∀b,D b→D' b){l:List Ex}{v:Value}(h:Ag D w l v):Ag D' w l v:=by
 induction h with
 |mk l a cap b off sv hcap hfit ha h0 h1 h2 h3 h4 _ hn ih=>exact .mk l a cap b off sv hcap hfit (ha.imp id fun h=>⟨h.1,hD _ h.2⟩) h0 h1 h2 h3 h4 ih hn
theorem Ag.old {D:Nat→Prop}{w w':World}(hb:Below w.heap.size w w'){l:List Ex}{v:Value}(h:Ag D w l v):Ag D w' l v:=h.keep (Bh hb)
inductive Ax (D:Nat→Prop)(w:World):List St→Value→Prop
 |mk (l:List St) (a:Option Addr) (cap b off:Nat) (sa st se:Nat→Value) (hcap:l.length≤cap) (hfit:Ct l.length)
  (ha:l.length=0∨(a=some ⟨b,off,none⟩∧D b))
  (h0:∀i,i<l.length→w.cell? ⟨b,off+i*5,none⟩=some (.int .i64 (Ht l i).kind))
  (h1:∀i,i<l.length→w.cell? ⟨b,off+i*5+1,none⟩=some (.string (Aa (Ht l i).name)))
  (h2:∀i,i<l.length→w.cell? ⟨b,off+i*5+2,none⟩=some (sa i))
  (h3:∀i,i<l.length→w.cell? ⟨b,off+i*5+3,none⟩=some (st i))
  (h4:∀i,i<l.length→w.cell? ⟨b,off+i*5+4,none⟩=some (se i))
  (ea:∀i,i<l.length→Ag D w (Ht l i).args (sa i))
  (et:∀i,i<l.length→Ax D w (Ht l i).thn (st i))
  (ee:∀i,i<l.length→Ax D w (Ht l i).els (se i)):Ax D w l (.slice a l.length cap)
theorem Ax.keep {D:Nat→Prop}{w w':World}(hk:Ed D w w'){l:List St}{v:Value}(h:Ax D w l v):Ax D w' l v:=by
 induction h with
 |mk l a cap b off sa st se hcap hfit ha h0 h1 h2 h3 h4 ea _ _ ih1 ih2=>
  rcases ha with ha|⟨ha,hD⟩
  ·refine .mk l a cap b off sa st se hcap hfit (.inl ha) ?_ ?_ ?_ ?_ ?_ ?_ ih1 ih2<;>(intro i hi;omega)
  ·exact .mk l a cap b off sa st se hcap hfit (.inr ⟨ha,hD⟩) (fun i hi=>hk _ _ _ hD (h0 i hi)) (fun i hi=>hk _ _ _ hD (h1 i hi)) (fun i hi=>hk _ _ _ hD (h2 i hi))
    (fun i hi=>hk _ _ _ hD (h3 i hi)) (fun i hi=>hk _ _ _ hD (h4 i hi)) (fun i hi=>(ea i hi).keep hk) ih1 ih2
theorem Ax.mono {D D':Nat→Prop}{w:World}(hD:∀b,D b→D' b){l:List St}{v:Value}(h:Ax D w l v):Ax D' w l v:=by
 induction h with
 |mk l a cap b off sa st se hcap hfit ha h0 h1 h2 h3 h4 ea _ _ ih1 ih2=>exact .mk l a cap b off sa st se hcap hfit (ha.imp id fun h=>⟨h.1,hD _ h.2⟩) h0 h1 h2 h3 h4 (fun i hi=>(ea i hi).mono hD) ih1 ih2
theorem Ax.old {D:Nat→Prop}{w w':World}(hb:Below w.heap.size w w'){l:List St}{v:Value}(h:Ax D w l v):Ax D w' l v:=h.keep (Bh hb)
theorem Ag.shape {D:Nat→Prop}{w:World}{l:List Ex}{v:Value}(h:Ag D w l v):∃a cap,v=.slice a l.length cap:=by cases h;exact⟨_,_,rfl⟩
theorem Ag.cell0 {D:Nat→Prop}{w:World}{l:List Ex}{a:Option Addr}{n cap:Nat}(h:Ag D w l (.slice a n cap))(hl:0<l.length):∃b off,a=some ⟨b,off,none⟩∧w.cell? ⟨b,off,none⟩=some (.int .i64 (Bx l 0).kind):=by
 cases h with
 |mk _ _ _ b off sv hcap hfit ha h0=>
  rcases ha with ha|⟨ha,_⟩
  ·omega
  ·exact⟨b,off,ha,by simpa using h0 0 hl⟩
theorem Ag.cellAt {D:Nat→Prop}{w:World}{l:List Ex}{a:Option Addr}{n cap:Nat}(h:Ag D w l (.slice a n cap))(i:Nat)(hl:i<l.length):∃b off s,a=some ⟨b,off,none⟩∧D b∧
  w.cell? ⟨b,off+i*5,none⟩=some (.int .i64 (Bx l i).kind)∧w.cell? ⟨b,off+i*5+1,none⟩=some (.int .i64 (Bx l i).op)∧w.cell? ⟨b,off+i*5+2,none⟩=some (.int .i64 (Bx l i).n)∧
  w.cell? ⟨b,off+i*5+3,none⟩=some (.string (Aa (Bx l i).name))∧w.cell? ⟨b,off+i*5+4,none⟩=some s∧Ag D w (Bx l i).args s∧I64 (Bx l i).n:=by
 cases h with
 |mk _ _ _ b off sv hcap hfit ha h0 h1 h2 h3 h4 hs hn=>
  rcases ha with ha|⟨ha,hD⟩
  ·omega
  ·exact⟨b,off,sv i,ha,hD,h0 i hl,h1 i hl,h2 i hl,h3 i hl,h4 i hl,hs i hl,hn i hl⟩
theorem Ag.fits {D:Nat→Prop}{w:World}{l:List Ex}{v:Value}(h:Ag D w l v):Ct l.length:=by
 cases h with
 |mk _ _ _ b off sv hcap hfit=>exact hfit
theorem Ax.shape {D:Nat→Prop}{w:World}{l:List St}{v:Value}(h:Ax D w l v):∃a cap,v=.slice a l.length cap:=by cases h;exact⟨_,_,rfl⟩
def Ba(D:Nat→Prop)(w:World)(l:List Bs)(v:Value):Prop:=
 ∃a cap b off,v=.slice a l.length cap∧l.length≤cap∧Ct l.length∧(l.length=0∨(a=some ⟨b,off,none⟩∧D b))∧
  ∀i,i<l.length→w.cell? ⟨b,off+i,none⟩=some (.string (Aa (l.getD i [])))
theorem Ba.keep {D:Nat→Prop}{w w':World}(hk:Ed D w w'){l:List Bs}{v:Value}(h:Ba D w l v):Ba D w' l v:=by
 obtain⟨a,cap,b,off,hv,h1,h2,h3,h4⟩:=h;refine⟨a,cap,b,off,hv,h1,h2,h3,fun i hi=>?_⟩;rcases h3 with h3|⟨_,hD⟩
 ·omega
 ·exact hk _ _ _ hD (h4 i hi)
theorem Ba.old {D:Nat→Prop}{w w':World}(hb:Below w.heap.size w w'){l:List Bs}{v:Value}(h:Ba D w l v):Ba D w' l v:=h.keep (Bh hb)
theorem Ba.mono {D D':Nat→Prop}{w:World}(hD:∀b,D b→D' b){l:List Bs}{v:Value}(h:Ba D w l v):Ba D' w l v:=by
 obtain⟨a,cap,b,off,hv,h1,h2,h3,h4⟩:=h;exact⟨a,cap,b,off,hv,h1,h2,h3.imp id fun h=>⟨h.1,hD _ h.2⟩,h4⟩
def Ar.nil:Ar:=⟨[],0⟩
def Fu.nil:Fu:=⟨[],[],[],[]⟩
abbrev Kz(l:List Ar)(i:Nat):Ar:=l.getD i Ar.nil
abbrev Dn(l:List Fu)(i:Nat):Fu:=l.getD i Fu.nil
def Bt(D:Nat→Prop)(w:World)(l:List Ar)(v:Value):Prop:=
 ∃a cap b off,v=.slice a l.length cap∧l.length≤cap∧Ct l.length∧(l.length=0∨(a=some ⟨b,off,none⟩∧D b))∧
  ∀i,i<l.length→w.cell? ⟨b,off+i*2,none⟩=some (.string (Aa (Kz l i).name))∧w.cell? ⟨b,off+i*2+1,none⟩=some (.int .i64 (Kz l i).size)
theorem Bt.keep {D:Nat→Prop}{w w':World}(hk:Ed D w w'){l:List Ar}{v:Value}(h:Bt D w l v):Bt D w' l v:=by
 obtain⟨a,cap,b,off,hv,h1,h2,h3,h4⟩:=h;refine⟨a,cap,b,off,hv,h1,h2,h3,fun i hi=>?_⟩;rcases h3 with h3|⟨_,hD⟩
 ·omega
 ·exact⟨hk _ _ _ hD (h4 i hi).1,hk _ _ _ hD (h4 i hi).2⟩
theorem Bt.old {D:Nat→Prop}{w w':World}(hb:Below w.heap.size w w'){l:List Ar}{v:Value}(h:Bt D w l v):Bt D w' l v:=h.keep (Bh hb)
def Bw(D:Nat→Prop)(w:World)(l:List Fu)(v:Value):Prop:=
 ∃a cap b off,∃pv lv bv:Nat→Value,v=.slice a l.length cap∧l.length≤cap∧Ct l.length∧(l.length=0∨(a=some ⟨b,off,none⟩∧D b))∧
  ∀i,i<l.length→(w.cell? ⟨b,off+i*4,none⟩=some (.string (Aa (Dn l i).name))∧w.cell? ⟨b,off+i*4+1,none⟩=some (pv i)∧w.cell? ⟨b,off+i*4+2,none⟩=some (lv i)∧w.cell? ⟨b,off+i*4+3,none⟩=some (bv i))∧
   Ba D w (Dn l i).params (pv i)∧Ba D w (Dn l i).locals (lv i)∧Ax D w (Dn l i).body (bv i)
theorem Bw.keep {D:Nat→Prop}{w w':World}(hk:Ed D w w'){l:List Fu}{v:Value}(h:Bw D w l v):Bw D w' l v:=by
 obtain⟨a,cap,b,off,pv,lv,bv,hv,h1,h2,h3,h4⟩:=h;refine⟨a,cap,b,off,pv,lv,bv,hv,h1,h2,h3,fun i hi=>?_⟩;rcases h3 with h3|⟨_,hD⟩
 ·omega
 ·obtain⟨⟨c0,c1,c2,c3⟩,e1,e2,e3⟩:=h4 i hi
  exact⟨⟨hk _ _ _ hD c0,hk _ _ _ hD c1,hk _ _ _ hD c2,hk _ _ _ hD c3⟩,e1.keep hk,e2.keep hk,e3.keep hk⟩
theorem Bw.old {D:Nat→Prop}{w w':World}(hb:Below w.heap.size w w'){l:List Fu}{v:Value}(h:Bw D w l v):Bw D w' l v:=h.keep (Bh hb)
theorem rX {l:List Ar}{i:Nat}(h:i<l.length):Kz l i∈l:=by
 simp only[Kz,Zc,Zd h,Option.getD_some];exact List.getElem_mem h
theorem Sm {l:List Fu}{i:Nat}(h:i<l.length):Dn l i∈l:=by
 simp only[Dn,Zc,Zd h,Option.getD_some];exact List.getElem_mem h
theorem aY {α:Type}(l:List α)(d:α)(f:α→Bool)(h:∀i,i<l.length→f (l.getD i d)=true):l.all f=true:=by
 rw[List.all_eq_true];intro x hx;obtain⟨i,hi,rfl⟩:=List.getElem_of_mem hx;have:=h i hi
 rwa[Zc,Zd hi,Option.getD_some]at this
theorem Sa {α:Type}(l:List α)(d:α)(f:α→Bool)(i:Nat)(hi:i<l.length)(h:f (l.getD i d)=false):l.all f=false:=by
 rw[List.all_eq_false];refine⟨l[i],List.getElem_mem hi,?_⟩;rw[Zc,Zd hi,Option.getD_some]at h;simp [h]
abbrev exV(e:Ex)(s:Value):Value:=.agg #[.int .i64 e.kind,.int .i64 e.op,.int .i64 e.n,.string (Aa e.name),s]
theorem Jf {n:Int}(h: -1000000≤n∧n≤1000000):I64 n:=⟨by omega,by omega⟩
theorem Qy:(Tryz.prog.info? 27).map (fun i=>(i.zero,i.size,i.bytes))=some (some (.agg #[.int .i64 0,.int .i64 0,.int .i64 0,.string ⟨#[]⟩,.slice none 0 0]),5,64):=by kernel_rfl
theorem Ag.zero {D:Nat→Prop}{w:World}:Ag D w [] (.slice none 0 0):=
 .mk [] none 0 0 0 (fun _=>undef) (Zb _) (by show _≤_;simp) (.inl rfl) (fun i hi=>absurd hi (Za _)) (fun i hi=>absurd hi (Za _)) (fun i hi=>absurd hi (Za _)) (fun i hi=>absurd hi (Za _)) (fun i hi=>absurd hi (Za _)) (fun i hi=>absurd hi (Za _)) (fun i hi=>absurd hi (Za _))
theorem Ax.zero {D:Nat→Prop}{w:World}:Ax D w [] (.slice none 0 0):=
 .mk [] none 0 0 0 (fun _=>undef) (fun _=>undef) (fun _=>undef) (Zb _) (by show _≤_;simp) (.inl rfl) (fun i hi=>absurd hi (Za _)) (fun i hi=>absurd hi (Za _)) (fun i hi=>absurd hi (Za _)) (fun i hi=>absurd hi (Za _)) (fun i hi=>absurd hi (Za _)) (fun i hi=>absurd hi (Za _)) (fun i hi=>absurd hi (Za _)) (fun i hi=>absurd hi (Za _))
theorem Ba.zero {D:Nat→Prop}{w:World}:Ba D w [] (.slice none 0 0):=
 ⟨_,0,0,0,rfl,Zb _,by show _≤_;simp,.inl rfl,fun i hi=>absurd hi (Za _)⟩
theorem Bt.zero {D:Nat→Prop}{w:World}:Bt D w [] (.slice none 0 0):=
 ⟨_,0,0,0,rfl,Zb _,by show _≤_;simp,.inl rfl,fun i hi=>absurd hi (Za _)⟩
theorem Bw.zero {D:Nat→Prop}{w:World}:Bw D w [] (.slice none 0 0):=
 ⟨_,0,0,0,fun _=>undef,fun _=>undef,fun _=>undef,rfl,Zb _,by show _≤_;simp,.inl rfl,fun i hi=>absurd hi (Za _)⟩
def Bg(e:Ex)(s:Value):List Value:=[.int .i64 e.kind,.int .i64 e.op,.int .i64 e.n,.string (Aa e.name),s]
theorem Fc.new(w:World)(cs:List Value)(T:TypeId):Fc (w.alloc (.cells cs.toArray T)) w.heap.size 0 cs:=fun i hi=>by simp
theorem Fc.at {w:World}{b:Nat}{cs:List Value}(h:Fc w b 0 cs)(i:Nat)(v:Value)(hi:cs[i]? =some v):w.cell? ⟨b,i,none⟩=some v:=by
 obtain⟨hl,e⟩:=List.getElem?_eq_some_iff.1 hi;have:=h i hl;rw[e]at this;simpa using this
theorem Ag.one {D:Nat→Prop}{w:World}{b:Nat}(e:Ex)(s:Value)(hD:D b)(h:Fc w b 0 (Bg e s))(hs:Ag D w e.args s)(hn:I64 e.n):Ag D w [e] (.slice (some ⟨b,0,none⟩) 1 1):=by
 refine .mk [e] _ 1 b 0 (fun _=>s) (Zb _) (by show _≤_;simp) (.inr ⟨rfl,hD⟩) ?_ ?_ ?_ ?_ ?_ ?_ ?_
 all_goals
  intro i hi;have hi0:i=0:=by simp at hi;omega
  subst hi0
 ·exact h.at 0 _ rfl
 ·exact h.at 1 _ rfl
 ·exact h.at 2 _ rfl
 ·exact h.at 3 _ rfl
 ·exact h.at 4 _ rfl
 ·exact hs
 ·exact hn
theorem Ag.two {D:Nat→Prop}{w:World}{b:Nat}(e f:Ex)(s t:Value)(hD:D b)(h:Fc w b 0 (Bg e s++Bg f t))(hs:Ag D w e.args s)(hn:I64 e.n)(ht:Ag D w f.args t)(hm:I64 f.n):Ag D w [e,f] (.slice (some ⟨b,0,none⟩) 2 2):=by
 refine .mk [e,f] _ 2 b 0 (fun i=>if i=0 then s else t) (Zb _) (by show _≤_;simp) (.inr ⟨rfl,hD⟩) ?_ ?_ ?_ ?_ ?_ ?_ ?_
 all_goals
  intro i hi;have hi0:i=0∨i=1:=by simp at hi;omega
  rcases hi0 with rfl|rfl
 ·exact h.at 0 _ rfl
 ·exact h.at 5 _ rfl
 ·exact h.at 1 _ rfl
 ·exact h.at 6 _ rfl
 ·exact h.at 2 _ rfl
 ·exact h.at 7 _ rfl
 ·exact h.at 3 _ rfl
 ·exact h.at 8 _ rfl
 ·exact h.at 4 _ rfl
 ·exact h.at 9 _ rfl
 ·exact hs
 ·exact ht
 ·exact hn
 ·exact hm
def Hc(x:St)(a t e:Value):List Value:=[.int .i64 x.kind,.string (Aa x.name),a,t,e]
def fuCells(f:Fu)(p l s:Value):List Value:=[.string (Aa f.name),p,l,s]
end Go.Proofs.YtcfpfnoldgnloaaGreatDoor
