/-
  Small trees in memory, put together. No condition.
-/
import Derived.Test.YtcfpfnoldgnloaaGreatDoorProg
import Derived.WalkKit
import Derived.WalkSpells
import Derived.WalkLawsBesides
import Derived.Laws.EntriesVeiled
import Derived.Deep.QuietTactic
import Derived.BigQuiet
import Derived.Deep.RegionHeld3
import Derived.Deep.RegionWith
import Derived.StillTailTactics
import Derived.Deep.RegionLaw
import Derived.Deep.Cut
import Derived.Deep.DeepCutAuto
import Derived.Deep.DeepFit
import Derived.Deep.DeepMust
import Derived.Deep.LoopGhost
import Derived.Lib.Hide
import Derived.KernelRfl
import Derived.Below
set_option linter.unusedVariables false
set_option linter.unusedSimpArgs false
namespace Go.RowKit
theorem Hid.o{p:Prop}(h:Hid p):p:=h
end Go.RowKit
namespace Go.Proofs.YtcfpfnoldgnloaaGreatDoor
open Go.RowKit
set_option maxHeartbeats 20000000
set_option maxRecDepth 100000
theorem cSm{α:Type _}{a b:α}(h:a=b):some a=some b:=congrArg some h
theorem bA {w : World} {o : Obj} : Below w.heap.size w (w.alloc o) := (Below.refl _ _).alloc (Nat.le_refl _) _
theorem Jp {k:IntKind}{a b:Int}(h:a=b):Ending.returned (.int k a)=.returned (.int k b):=by rw[h]
theorem Au {a b:Bool}(h:a=b):Ending.returned (.bool a)=.returned (.bool b):=by rw[h]
theorem Tm {W w1:World}(hb:Below W.heap.size W w1):(∀b o,b<W.heap.size→w1.cell? ⟨b,o,none⟩=W.cell? ⟨b,o,none⟩)∧(∀b o,b<W.heap.size→w1.frozen? ⟨b,o,none⟩=W.frozen? ⟨b,o,none⟩):=
 ⟨fun b o h=>hb.cell (p:=⟨b,o,none⟩) h,fun b o h=>hb.frozen (p:=⟨b,o,none⟩) h⟩
def Dq(w:World)(b off:Nat)(cs:List Value):Prop:= ∀i (h:i<cs.length),w.cell? ⟨b,off+i,none⟩=some cs[i]
theorem Ac {w w':World}(h:Below w.heap.size w w'){a:Addr}{x:Value}(hx:w.cell? a=some x):w'.cell? a=some x:=by
 rw[h.cell (p:=a) (World.block_lt_of_cell? w a hx)];exact hx
theorem Dq.below {w w':World}(h:Below w.heap.size w w'){b off:Nat}{cs:List Value}(hr:Dq w b off cs):Dq w' b off cs:=
 fun i hi=>Ac h (hr i hi)
theorem Bm {w:World}{a:Addr}{v:Value}(h:w.cell? a=some v):w.setCell a v=w:=by
 have hb:=World.block_lt_of_cell? w a h;unfold World.cell? at h;rw[Array.getElem?_eq_getElem hb]at h
 cases ho:w.heap[a.block]with
 |cells c e fz=>
  simp only[ho]at h
  cases hs:a.spot.isSome with
  |true=>simp [hs]at h
  |false=>
   simp only[hs,Bool.false_eq_true,if_false]at h;have hc:c.setIfInBounds a.off v=c:=by
    apply Array.ext_getElem?
    intro i;rw[Array.getElem?_setIfInBounds]
    by_cases hi:a.off=i
    ·subst hi
     have hlt:a.off<c.size:=by
      rcases Nat.lt_or_ge a.off c.size with h'|h'
      ·exact h'
      ·rw[Array.getElem?_eq_none h']at h;cases h
     rw[Array.getElem?_eq_getElem hlt]at h;simp [hlt,Option.some.inj h]
    ·simp [hi]
   have hh:(w.setCell a v).heap=w.heap:=by
    apply Array.ext_getElem?
    intro i;simp only[World.setCell,Array.getElem?_modify]
    by_cases hi:a.block=i
    ·subst hi
     simp [Array.getElem?_eq_getElem hb,ho,hs,hc]
    ·simp [hi]
   have he:w.setCell a v= {w with heap:=(w.setCell a v).heap}:=rfl;rw[he,hh]
 |_=>simp [ho]at h
def Es(p:Nat→Bool):Nat→Int
 |0=> -1
 |n+1=>let r:=Es p n;if 0≤r then r else if p n then n else -1
def Ow(p:Nat→Bool)(n:Nat):Bool:=(List.range n).any p
theorem Kj(p:Nat→Bool):∀n,(∀i,i<n→p i=false)→Es p n= -1
 |0,_=>rfl
 |n+1,h=>by
  have ih:=Kj p n (fun i hi=>h i (by omega));simp [Es,ih,h n (by omega)]
theorem Ph(p:Nat→Bool)(j:Nat)(hp:p j=true)(h:∀i,i<j→p i=false):∀n,j<n→Es p n=j
 |0,hn=>by omega
 |n+1,hn=>by
  by_cases hj:j=n
  ·subst hj
   have:=Kj p j h;simp [Es,this,hp]
  ·have ih:=Ph p j hp h n (by omega)
   simp [Es,ih]
theorem iJ {p:Nat→Bool}{n:Nat}(h:∀i,i<n→p i=false):Ow p n=false:=by
 simp only[Ow,List.any_eq_false,List.mem_range];intro x hx;simp [h x hx]
theorem oF {p:Nat→Bool}{n j:Nat}(hj:j<n)(h:p j=true):Ow p n=true:=by
 simp only[Ow,List.any_eq_true,List.mem_range];exact⟨j,hj,h⟩
theorem cY(p:Nat→Bool)(n:Nat):(Es p n= -1∧∀i,i<n→p i=false)∨∃j,j<n∧p j=true∧Es p n=j:=by
 induction n with
 |zero=>exact .inl ⟨rfl,fun i hi=>by omega⟩
 |succ n ih=>
  rcases ih with⟨e,h⟩|⟨j,hj,hp,e⟩
  ·cases hp:p n
   ·refine .inl ⟨by simp [Es,e,hp],fun i hi=>?_⟩
    rcases Nat.lt_succ_iff_lt_or_eq.1 hi with h'|rfl
    ·exact h i h'
    ·exact hp
   ·exact .inr ⟨n,by omega,hp,by simp [Es,e,hp]⟩
  ·exact .inr ⟨j,by omega,hp,by simp [Es,e]⟩
theorem Mb(p:Nat→Bool)(n:Nat):decide (0≤Es p n)=Ow p n:=by
 rcases cY p n with⟨e,h⟩|⟨j,hj,hp,e⟩
 ·rw[e,iJ h];rfl
 ·rw[e,oF hj hp];simp
theorem Th {α:Type}(f:α→Bool)(p:Nat→Bool)(l:List α)(h:∀i (hi:i<l.length),p i=f l[i]):Ow p l.length=l.any f:=by
 rw[Bool.eq_iff_iff];simp only[Ow,List.any_eq_true,List.mem_range];constructor
 ·rintro⟨i,hi,hp⟩;exact⟨l[i],List.getElem_mem hi,by rw[←h i hi];exact hp⟩
 ·rintro⟨x,hx,hf⟩;obtain⟨i,hi,rfl⟩:=List.getElem_of_mem hx;exact⟨i,hi,by rw[h i hi];exact hf⟩
end Go.Proofs.YtcfpfnoldgnloaaGreatDoor
namespace Go.Proofs.YtcfpfnoldgnloaaGreatDoor
abbrev Bs:=List UInt8
abbrev Aa(l:Bs):ByteArray:=⟨l.toArray⟩
inductive Ex where
 |mk (kind op n:Int) (name:Bs) (args:List Ex)
namespace Ex
def kind:Ex→Int|mk k _ _ _ _=>k
def op:Ex→Int|mk _ o _ _ _=>o
def n:Ex→Int|mk _ _ n _ _=>n
def name:Ex→Bs|mk _ _ _ s _=>s
def args:Ex→List Ex|mk _ _ _ _ l=>l
end Ex
inductive St where
 |mk (kind:Int) (name:Bs) (args:List Ex) (thn els:List St)
namespace St
def kind:St→Int|mk k _ _ _ _=>k
def name:St→Bs|mk _ s _ _ _=>s
def args:St→List Ex|mk _ _ l _ _=>l
def thn:St→List St|mk _ _ _ l _=>l
def els:St→List St|mk _ _ _ _ l=>l
end St
structure Fu where
 name:Bs
 params:List Bs
 locals:List Bs
 body:List St
structure Ar where
 name:Bs
 size:Int
structure Pr where
 arrays:List Ar
 funcs:List Fu
def Aw(op:Int):Bs:=
 if op=1 then [43]else if op=2 then [45]else if op=3 then [42]else if op=4 then [47]else if op=5 then [37]
 else if op=6 then [38]else if op=7 then [124]else if op=8 then [94]else if op=9 then [60,60]else if op=10 then [62,62]
 else if op=11 then [60]else if op=12 then [60,61]else if op=13 then [62]else if op=14 then [62,61]else if op=15 then [61,61]
 else if op=16 then [33,61]else if op=17 then [45]else if op=18 then [33]else if op=19 then [126]else []
def Al(op:Int):Int:=
 if op=1 then 7 else if op=2 then 7 else if op=3 then 8 else if op=4 then 8 else if op=5 then 8
 else if op=6 then 3 else if op=7 then 1 else if op=8 then 2 else if op=9 then 6 else if op=10 then 6
 else if op=11 then 5 else if op=12 then 5 else if op=13 then 5 else if op=14 then 5 else if op=15 then 4
 else if op=16 then 4 else 0
def Cc(c:UInt8):Bool:=c==95||(97≤c && c≤122)||(65≤c && c≤90)
def Br(c:UInt8):Bool:=48≤c && c≤57
def eK:List Bs:=[[105,110,116],[105,102],[101,108,115,101],[119,104,105,108,101],[98,114,101,97,107],[99,111,110,116,105,110,117,101],[114,101,116,117,114,110],[112,114,105,110,116],[114,101,97,100],[116,114,97,112]]
def Hj(l:Bs):Bool:=eK.contains l
def Gr:Bool→Bs→Bool
 |_,[]=>true
 |first,c::l=>(Cc c||(!first && Br c)) && Gr false l
def Ao(l:Bs):Bool:= !l.isEmpty && decide (l.length≤20) && !Hj l && Gr true l
def Jf:Nat→Ex→Bool
 |0,_=>false
 |m+1,e=>e.args.all (Jf m)
def Ie(e:Ex):Int:=if e.kind=3∨e.kind=4 then e.op else 0
def Ku(e:Ex):Int:=if e.kind=1 then e.n else 0
def Ek(e:Ex):Bs:=if e.kind=2∨e.kind=5∨e.kind=6 then e.name else []
def Dl(e:Ex):Int:=if e.kind=3∨e.kind=6 then 1 else if e.kind=4 then 2 else if e.kind=5 then e.args.length else 0
def Gv(e:Ex):Bool:=
 if e.kind=1 then decide (0≤e.n)else if e.kind=2 then Ao e.name else if e.kind=3 then decide (e.op=17∨e.op=18∨e.op=19)
 else if e.kind=4 then decide (0<Al e.op)else if e.kind=5 then Ao e.name && decide ((e.args.length:Int)≤6)
 else if e.kind=6 then Ao e.name else decide (e.kind=7)
def Cz(e:Ex):Bool:=Gv e && ((e.args.length:Int)==Dl e) && (Ie e==e.op) && (Ku e==e.n) && (Ek e==e.name)
mutual
def Ck:Ex→Bool
 |.mk k o n nm args=>Cz (.mk k o n nm args) && Uu args
def Uu:List Ex→Bool
 |[]=>true
 |x::l=>Ck x && Uu l
end
theorem Vj:∀l,Uu l=l.all Ck
 |[]=>rfl
 |x::l=>by simp [Uu,Vj l]
theorem Lc(e:Ex):Ck e=(Cz e && e.args.all Ck):=by
 cases e;rw[Ck,Vj];rfl
def En(e:Ex):Bool:=Jf 40 e && Ck e
def Ef(k:Int):Bool:=decide (k=1∨k=2)
def Dz(k:Int):Int:=if k=2 then 2 else if k=1∨k=3∨k=4∨k=7∨k=8∨k=9∨k=10 then 1 else 0
def Iw(k:Int):Bool:=decide (k=3∨k=4)
def Iv(k:Int):Bool:=decide (k=3)
def fOk(k:Int):Bool:=decide (1≤k∧k≤10)
def Je(most:Int)(x:St):Bool:= !fOk x.kind||most==0|| !((x.args.length:Int)==Dz x.kind)||(!Iw x.kind && !x.thn.isEmpty)||(!Iv x.kind && !x.els.isEmpty)
def Qj(x:St):Bool:= !(Ef x.kind==Ao x.name)||(!Ef x.kind && !(x.name==[]))||(x.kind==10 && !((x.args.headD (.mk 0 0 0 [] [])).kind==5))
def Ed:Nat→St→Bool
 |0,_=>false
 |m+1,x=> !Je (m+1) x && !Qj x && x.args.all En && x.thn.all (Ed m) && x.els.all (Ed m)
def Gb(f:Fu):Bool:=Ao f.name && f.params.all Ao && f.locals.all Ao && decide (f.params.length≤6) && f.body.all (Ed 40)
def Du(a:Ar):Bool:=Ao a.name && decide (1≤a.size∧a.size≤1048576)
def Cx(p:Pr):Bool:=p.arrays.all Du && p.funcs.all Gb
theorem Ex.size_lt {e x:Ex}(h:x∈e.args):SizeOf.sizeOf x<SizeOf.sizeOf e:=by
 cases e with
 |mk k o n nm args=>
  have:=List.sizeOf_lt_of_mem (show x∈args from h);simp only[Ex.mk.sizeOf_spec];omega
end Go.Proofs.YtcfpfnoldgnloaaGreatDoor
namespace Go.Proofs.YtcfpfnoldgnloaaGreatDoor
open Go.RowKit
set_option maxHeartbeats 20000000
set_option maxRecDepth 100000
open Nat renaming not_lt_zero→Za,le_refl→Zb
open List renaming getD_eq_getElem?_getD→Zc,getElem?_eq_getElem→Zd
def Cr(n:Nat):Prop:=n≤140737488355328
theorem Cr.out {n:Nat}(h:Cr n):n≤140737488355328:=h
theorem Cr.lt {n:Nat}(h:Cr n):n<9223372036854775807:=by have:=h.out;omega
theorem Cr.mono {m n:Nat}(h:Cr n)(hm:m≤n):Cr m:=Nat.le_trans hm h
def I64(n:Int):Prop:= -9223372036854775808≤n∧n≤9223372036854775807
def Ex.nil:Ex:=.mk 0 0 0 [] []
abbrev Ca(l:List Ex)(i:Nat):Ex:=l.getD i Ex.nil
def St.nil:St:=.mk 0 [] [] [] []
abbrev Ho(l:List St)(i:Nat):St:=l.getD i St.nil
inductive Ag (D:Nat→Prop)(w:World):List Ex→Value→Prop
 |mk (l:List Ex) (a:Option Addr) (cap b off:Nat) (sv:Nat→Value) (hcap:l.length≤cap) (hfit:Cr l.length)
  (ha:l.length=0∨(a=some ⟨b,off,none⟩∧D b))
  (h0:∀i,i<l.length→w.cell? ⟨b,off+i*5,none⟩=some (.int .i64 (Ca l i).kind))
  (h1:∀i,i<l.length→w.cell? ⟨b,off+i*5+1,none⟩=some (.int .i64 (Ca l i).op))
  (h2:∀i,i<l.length→w.cell? ⟨b,off+i*5+2,none⟩=some (.int .i64 (Ca l i).n))
  (h3:∀i,i<l.length→w.cell? ⟨b,off+i*5+3,none⟩=some (.string (Aa (Ca l i).name)))
  (h4:∀i,i<l.length→w.cell? ⟨b,off+i*5+4,none⟩=some (sv i))
  (hs:∀i,i<l.length→Ag D w (Ca l i).args (sv i))
  (hn:∀i,i<l.length→I64 (Ca l i).n):Ag D w l (.slice a l.length cap)
def Dw(D:Nat→Prop)(w w':World):Prop:= ∀b off x,D b→w.cell? ⟨b,off,none⟩=some x→w'.cell? ⟨b,off,none⟩=some x
theorem Dw.refl(D:Nat→Prop)(w:World):Dw D w w:=fun _ _ _ _ h=>h
theorem Dw.trans {D:Nat→Prop}{a b c:World}(h:Dw D a b)(k:Dw D b c):Dw D a c:=fun _ _ _ d x=>k _ _ _ d (h _ _ _ d x)
theorem Bk {D:Nat→Prop}{w w':World}(h:Below w.heap.size w w'):Dw D w w':=fun _ _ _ _ hx=>Ac h hx
theorem Ag.keep {D:Nat→Prop}{w w':World}(hk:Dw D w w'){l:List Ex}{v:Value}(h:Ag D w l v):Ag D w' l v:=by
 induction h with
 |mk l a cap b off sv hcap hfit ha h0 h1 h2 h3 h4 _ hn ih=>
  rcases ha with ha|⟨ha,hD⟩
  ·refine .mk l a cap b off sv hcap hfit (.inl ha) ?_ ?_ ?_ ?_ ?_ ih hn<;>(intro i hi;omega)
  ·exact .mk l a cap b off sv hcap hfit (.inr ⟨ha,hD⟩) (fun i hi=>hk _ _ _ hD (h0 i hi)) (fun i hi=>hk _ _ _ hD (h1 i hi)) (fun i hi=>hk _ _ _ hD (h2 i hi))
    (fun i hi=>hk _ _ _ hD (h3 i hi)) (fun i hi=>hk _ _ _ hD (h4 i hi)) ih hn
theorem Ag.mono {D D':Nat→Prop}{w:World}(hD:∀b,D b→D' b){l:List Ex}{v:Value}(h:Ag D w l v):Ag D' w l v:=by
 induction h with
 |mk l a cap b off sv hcap hfit ha h0 h1 h2 h3 h4 _ hn ih=>exact .mk l a cap b off sv hcap hfit (ha.imp id fun h=>⟨h.1,hD _ h.2⟩) h0 h1 h2 h3 h4 ih hn
theorem Ag.old {D:Nat→Prop}{w w':World}(hb:Below w.heap.size w w'){l:List Ex}{v:Value}(h:Ag D w l v):Ag D w' l v:=h.keep (Bk hb)
inductive As (D:Nat→Prop)(w:World):List St→Value→Prop
 |mk (l:List St) (a:Option Addr) (cap b off:Nat) (sa st se:Nat→Value) (hcap:l.length≤cap) (hfit:Cr l.length)
  (ha:l.length=0∨(a=some ⟨b,off,none⟩∧D b))
  (h0:∀i,i<l.length→w.cell? ⟨b,off+i*5,none⟩=some (.int .i64 (Ho l i).kind))
  (h1:∀i,i<l.length→w.cell? ⟨b,off+i*5+1,none⟩=some (.string (Aa (Ho l i).name)))
  (h2:∀i,i<l.length→w.cell? ⟨b,off+i*5+2,none⟩=some (sa i))
  (h3:∀i,i<l.length→w.cell? ⟨b,off+i*5+3,none⟩=some (st i))
  (h4:∀i,i<l.length→w.cell? ⟨b,off+i*5+4,none⟩=some (se i))
  (ea:∀i,i<l.length→Ag D w (Ho l i).args (sa i))
  (et:∀i,i<l.length→As D w (Ho l i).thn (st i))
  (ee:∀i,i<l.length→As D w (Ho l i).els (se i)):As D w l (.slice a l.length cap)
theorem As.keep {D:Nat→Prop}{w w':World}(hk:Dw D w w'){l:List St}{v:Value}(h:As D w l v):As D w' l v:=by
 induction h with
 |mk l a cap b off sa st se hcap hfit ha h0 h1 h2 h3 h4 ea _ _ ih1 ih2=>
  rcases ha with ha|⟨ha,hD⟩
  ·refine .mk l a cap b off sa st se hcap hfit (.inl ha) ?_ ?_ ?_ ?_ ?_ ?_ ih1 ih2<;>(intro i hi;omega)
  ·exact .mk l a cap b off sa st se hcap hfit (.inr ⟨ha,hD⟩) (fun i hi=>hk _ _ _ hD (h0 i hi)) (fun i hi=>hk _ _ _ hD (h1 i hi)) (fun i hi=>hk _ _ _ hD (h2 i hi))
    (fun i hi=>hk _ _ _ hD (h3 i hi)) (fun i hi=>hk _ _ _ hD (h4 i hi)) (fun i hi=>(ea i hi).keep hk) ih1 ih2
theorem As.mono {D D':Nat→Prop}{w:World}(hD:∀b,D b→D' b){l:List St}{v:Value}(h:As D w l v):As D' w l v:=by
 induction h with
 |mk l a cap b off sa st se hcap hfit ha h0 h1 h2 h3 h4 ea _ _ ih1 ih2=>exact .mk l a cap b off sa st se hcap hfit (ha.imp id fun h=>⟨h.1,hD _ h.2⟩) h0 h1 h2 h3 h4 (fun i hi=>(ea i hi).mono hD) ih1 ih2
theorem As.old {D:Nat→Prop}{w w':World}(hb:Below w.heap.size w w'){l:List St}{v:Value}(h:As D w l v):As D w' l v:=h.keep (Bk hb)
theorem Ag.shape {D:Nat→Prop}{w:World}{l:List Ex}{v:Value}(h:Ag D w l v):∃a cap,v=.slice a l.length cap:=by cases h;exact⟨_,_,rfl⟩
theorem Ag.cell0 {D:Nat→Prop}{w:World}{l:List Ex}{a:Option Addr}{n cap:Nat}(h:Ag D w l (.slice a n cap))(hl:0<l.length):∃b off,a=some ⟨b,off,none⟩∧w.cell? ⟨b,off,none⟩=some (.int .i64 (Ca l 0).kind):=by
 cases h with
 |mk _ _ _ b off sv hcap hfit ha h0=>
  rcases ha with ha|⟨ha,_⟩
  ·omega
  ·exact⟨b,off,ha,by simpa using h0 0 hl⟩
theorem Ag.cellAt {D:Nat→Prop}{w:World}{l:List Ex}{a:Option Addr}{n cap:Nat}(h:Ag D w l (.slice a n cap))(i:Nat)(hl:i<l.length):∃b off s,a=some ⟨b,off,none⟩∧D b∧
  w.cell? ⟨b,off+i*5,none⟩=some (.int .i64 (Ca l i).kind)∧w.cell? ⟨b,off+i*5+1,none⟩=some (.int .i64 (Ca l i).op)∧w.cell? ⟨b,off+i*5+2,none⟩=some (.int .i64 (Ca l i).n)∧
  w.cell? ⟨b,off+i*5+3,none⟩=some (.string (Aa (Ca l i).name))∧w.cell? ⟨b,off+i*5+4,none⟩=some s∧Ag D w (Ca l i).args s∧I64 (Ca l i).n:=by
 cases h with
 |mk _ _ _ b off sv hcap hfit ha h0 h1 h2 h3 h4 hs hn=>
  rcases ha with ha|⟨ha,hD⟩
  ·omega
  ·exact⟨b,off,sv i,ha,hD,h0 i hl,h1 i hl,h2 i hl,h3 i hl,h4 i hl,hs i hl,hn i hl⟩
theorem Ag.fits {D:Nat→Prop}{w:World}{l:List Ex}{v:Value}(h:Ag D w l v):Cr l.length:=by
 cases h with
 |mk _ _ _ b off sv hcap hfit=>exact hfit
theorem As.shape {D:Nat→Prop}{w:World}{l:List St}{v:Value}(h:As D w l v):∃a cap,v=.slice a l.length cap:=by cases h;exact⟨_,_,rfl⟩
def Bc(D:Nat→Prop)(w:World)(l:List Bs)(v:Value):Prop:=
 ∃a cap b off,v=.slice a l.length cap∧l.length≤cap∧Cr l.length∧(l.length=0∨(a=some ⟨b,off,none⟩∧D b))∧
  ∀i,i<l.length→w.cell? ⟨b,off+i,none⟩=some (.string (Aa (l.getD i [])))
theorem Bc.keep {D:Nat→Prop}{w w':World}(hk:Dw D w w'){l:List Bs}{v:Value}(h:Bc D w l v):Bc D w' l v:=by
 obtain⟨a,cap,b,off,hv,h1,h2,h3,h4⟩:=h;refine⟨a,cap,b,off,hv,h1,h2,h3,fun i hi=>?_⟩;rcases h3 with h3|⟨_,hD⟩
 ·omega
 ·exact hk _ _ _ hD (h4 i hi)
theorem Bc.old {D:Nat→Prop}{w w':World}(hb:Below w.heap.size w w'){l:List Bs}{v:Value}(h:Bc D w l v):Bc D w' l v:=h.keep (Bk hb)
theorem Bc.mono {D D':Nat→Prop}{w:World}(hD:∀b,D b→D' b){l:List Bs}{v:Value}(h:Bc D w l v):Bc D' w l v:=by
 obtain⟨a,cap,b,off,hv,h1,h2,h3,h4⟩:=h;exact⟨a,cap,b,off,hv,h1,h2,h3.imp id fun h=>⟨h.1,hD _ h.2⟩,h4⟩
def Ar.nil:Ar:=⟨[],0⟩
def Fu.nil:Fu:=⟨[],[],[],[]⟩
abbrev Kt(l:List Ar)(i:Nat):Ar:=l.getD i Ar.nil
abbrev Dx(l:List Fu)(i:Nat):Fu:=l.getD i Fu.nil
def Bv(D:Nat→Prop)(w:World)(l:List Ar)(v:Value):Prop:=
 ∃a cap b off,v=.slice a l.length cap∧l.length≤cap∧Cr l.length∧(l.length=0∨(a=some ⟨b,off,none⟩∧D b))∧
  ∀i,i<l.length→w.cell? ⟨b,off+i*2,none⟩=some (.string (Aa (Kt l i).name))∧w.cell? ⟨b,off+i*2+1,none⟩=some (.int .i64 (Kt l i).size)
theorem Bv.keep {D:Nat→Prop}{w w':World}(hk:Dw D w w'){l:List Ar}{v:Value}(h:Bv D w l v):Bv D w' l v:=by
 obtain⟨a,cap,b,off,hv,h1,h2,h3,h4⟩:=h;refine⟨a,cap,b,off,hv,h1,h2,h3,fun i hi=>?_⟩;rcases h3 with h3|⟨_,hD⟩
 ·omega
 ·exact⟨hk _ _ _ hD (h4 i hi).1,hk _ _ _ hD (h4 i hi).2⟩
theorem Bv.old {D:Nat→Prop}{w w':World}(hb:Below w.heap.size w w'){l:List Ar}{v:Value}(h:Bv D w l v):Bv D w' l v:=h.keep (Bk hb)
def Bp(D:Nat→Prop)(w:World)(l:List Fu)(v:Value):Prop:=
 ∃a cap b off,∃pv lv bv:Nat→Value,v=.slice a l.length cap∧l.length≤cap∧Cr l.length∧(l.length=0∨(a=some ⟨b,off,none⟩∧D b))∧
  ∀i,i<l.length→(w.cell? ⟨b,off+i*4,none⟩=some (.string (Aa (Dx l i).name))∧w.cell? ⟨b,off+i*4+1,none⟩=some (pv i)∧w.cell? ⟨b,off+i*4+2,none⟩=some (lv i)∧w.cell? ⟨b,off+i*4+3,none⟩=some (bv i))∧
   Bc D w (Dx l i).params (pv i)∧Bc D w (Dx l i).locals (lv i)∧As D w (Dx l i).body (bv i)
theorem Bp.keep {D:Nat→Prop}{w w':World}(hk:Dw D w w'){l:List Fu}{v:Value}(h:Bp D w l v):Bp D w' l v:=by
 obtain⟨a,cap,b,off,pv,lv,bv,hv,h1,h2,h3,h4⟩:=h;refine⟨a,cap,b,off,pv,lv,bv,hv,h1,h2,h3,fun i hi=>?_⟩;rcases h3 with h3|⟨_,hD⟩
 ·omega
 ·obtain⟨⟨c0,c1,c2,c3⟩,e1,e2,e3⟩:=h4 i hi
  exact⟨⟨hk _ _ _ hD c0,hk _ _ _ hD c1,hk _ _ _ hD c2,hk _ _ _ hD c3⟩,e1.keep hk,e2.keep hk,e3.keep hk⟩
theorem Bp.old {D:Nat→Prop}{w w':World}(hb:Below w.heap.size w w'){l:List Fu}{v:Value}(h:Bp D w l v):Bp D w' l v:=h.keep (Bk hb)
theorem tP {l:List Ar}{i:Nat}(h:i<l.length):Kt l i∈l:=by
 simp only[Kt,Zc,Zd h,Option.getD_some];exact List.getElem_mem h
theorem Rn {l:List Fu}{i:Nat}(h:i<l.length):Dx l i∈l:=by
 simp only[Dx,Zc,Zd h,Option.getD_some];exact List.getElem_mem h
theorem aC {α:Type}(l:List α)(d:α)(f:α→Bool)(h:∀i,i<l.length→f (l.getD i d)=true):l.all f=true:=by
 rw[List.all_eq_true];intro x hx;obtain⟨i,hi,rfl⟩:=List.getElem_of_mem hx;have:=h i hi
 rwa[Zc,Zd hi,Option.getD_some]at this
theorem Ra {α:Type}(l:List α)(d:α)(f:α→Bool)(i:Nat)(hi:i<l.length)(h:f (l.getD i d)=false):l.all f=false:=by
 rw[List.all_eq_false];refine⟨l[i],List.getElem_mem hi,?_⟩;rw[Zc,Zd hi,Option.getD_some]at h;simp [h]
abbrev exV(e:Ex)(s:Value):Value:=.agg #[.int .i64 e.kind,.int .i64 e.op,.int .i64 e.n,.string (Aa e.name),s]
theorem Iy {n:Int}(h: -1000000≤n∧n≤1000000):I64 n:=⟨by omega,by omega⟩
theorem Qe:(Tryz.prog.info? 27).map (fun i=>(i.zero,i.size,i.bytes))=some (some (.agg #[.int .i64 0,.int .i64 0,.int .i64 0,.string ⟨#[]⟩,.slice none 0 0]),5,64):=by kernel_rfl
theorem Ag.zero {D:Nat→Prop}{w:World}:Ag D w [] (.slice none 0 0):=
 .mk [] none 0 0 0 (fun _=>undef) (Zb _) (by show _≤_;simp) (.inl rfl) (fun i hi=>absurd hi (Za _)) (fun i hi=>absurd hi (Za _)) (fun i hi=>absurd hi (Za _)) (fun i hi=>absurd hi (Za _)) (fun i hi=>absurd hi (Za _)) (fun i hi=>absurd hi (Za _)) (fun i hi=>absurd hi (Za _))
theorem As.zero {D:Nat→Prop}{w:World}:As D w [] (.slice none 0 0):=
 .mk [] none 0 0 0 (fun _=>undef) (fun _=>undef) (fun _=>undef) (Zb _) (by show _≤_;simp) (.inl rfl) (fun i hi=>absurd hi (Za _)) (fun i hi=>absurd hi (Za _)) (fun i hi=>absurd hi (Za _)) (fun i hi=>absurd hi (Za _)) (fun i hi=>absurd hi (Za _)) (fun i hi=>absurd hi (Za _)) (fun i hi=>absurd hi (Za _)) (fun i hi=>absurd hi (Za _))
theorem Bc.zero {D:Nat→Prop}{w:World}:Bc D w [] (.slice none 0 0):=
 ⟨_,0,0,0,rfl,Zb _,by show _≤_;simp,.inl rfl,fun i hi=>absurd hi (Za _)⟩
theorem Bv.zero {D:Nat→Prop}{w:World}:Bv D w [] (.slice none 0 0):=
 ⟨_,0,0,0,rfl,Zb _,by show _≤_;simp,.inl rfl,fun i hi=>absurd hi (Za _)⟩
theorem Bp.zero {D:Nat→Prop}{w:World}:Bp D w [] (.slice none 0 0):=
 ⟨_,0,0,0,fun _=>undef,fun _=>undef,fun _=>undef,rfl,Zb _,by show _≤_;simp,.inl rfl,fun i hi=>absurd hi (Za _)⟩
def Bh(e:Ex)(s:Value):List Value:=[.int .i64 e.kind,.int .i64 e.op,.int .i64 e.n,.string (Aa e.name),s]
theorem Dq.new(w:World)(cs:List Value)(T:TypeId):Dq (w.alloc (.cells cs.toArray T)) w.heap.size 0 cs:=fun i hi=>by simp
theorem Dq.at {w:World}{b:Nat}{cs:List Value}(h:Dq w b 0 cs)(i:Nat)(v:Value)(hi:cs[i]? =some v):w.cell? ⟨b,i,none⟩=some v:=by
 obtain⟨hl,e⟩:=List.getElem?_eq_some_iff.1 hi;have:=h i hl;rw[e]at this;simpa using this
theorem Ag.one {D:Nat→Prop}{w:World}{b:Nat}(e:Ex)(s:Value)(hD:D b)(h:Dq w b 0 (Bh e s))(hs:Ag D w e.args s)(hn:I64 e.n):Ag D w [e] (.slice (some ⟨b,0,none⟩) 1 1):=by
 refine .mk [e] _ 1 b 0 (fun _=>s) (Zb _) (by show _≤_;simp) (.inr ⟨rfl,hD⟩) ?_ ?_ ?_ ?_ ?_ ?_ ?_
 all_goals
  intro i hi;have hi0:i=0:=by simp at hi;omega
  subst hi0
 ·exact h.at 0 _ rfl
 ·exact h.at 1 _ rfl
 ·exact h.at 2 _ rfl
 ·exact h.at 3 _ rfl
 ·exact h.at 4 _ rfl
 ·exact hs
 ·exact hn
theorem Ag.two {D:Nat→Prop}{w:World}{b:Nat}(e f:Ex)(s t:Value)(hD:D b)(h:Dq w b 0 (Bh e s++Bh f t))(hs:Ag D w e.args s)(hn:I64 e.n)(ht:Ag D w f.args t)(hm:I64 f.n):Ag D w [e,f] (.slice (some ⟨b,0,none⟩) 2 2):=by
 refine .mk [e,f] _ 2 b 0 (fun i=>if i=0 then s else t) (Zb _) (by show _≤_;simp) (.inr ⟨rfl,hD⟩) ?_ ?_ ?_ ?_ ?_ ?_ ?_
 all_goals
  intro i hi;have hi0:i=0∨i=1:=by simp at hi;omega
  rcases hi0 with rfl|rfl
 ·exact h.at 0 _ rfl
 ·exact h.at 5 _ rfl
 ·exact h.at 1 _ rfl
 ·exact h.at 6 _ rfl
 ·exact h.at 2 _ rfl
 ·exact h.at 7 _ rfl
 ·exact h.at 3 _ rfl
 ·exact h.at 8 _ rfl
 ·exact h.at 4 _ rfl
 ·exact h.at 9 _ rfl
 ·exact hs
 ·exact ht
 ·exact hn
 ·exact hm
def Fw(x:St)(a t e:Value):List Value:=[.int .i64 x.kind,.string (Aa x.name),a,t,e]
theorem As.one {D:Nat→Prop}{w:World}{b:Nat}(x:St)(a t e:Value)(hD:D b)(h:Dq w b 0 (Fw x a t e))(ha:Ag D w x.args a)(ht:As D w x.thn t)(he:As D w x.els e):As D w [x] (.slice (some ⟨b,0,none⟩) 1 1):=by
 refine .mk [x] _ 1 b 0 (fun _=>a) (fun _=>t) (fun _=>e) (Zb _) (by show _≤_;simp) (.inr ⟨rfl,hD⟩) ?_ ?_ ?_ ?_ ?_ ?_ ?_ ?_
 all_goals
  intro i hi;have hi0:i=0:=by simp at hi;omega
  subst hi0
 ·exact h.at 0 _ rfl
 ·exact h.at 1 _ rfl
 ·exact h.at 2 _ rfl
 ·exact h.at 3 _ rfl
 ·exact h.at 4 _ rfl
 ·exact ha
 ·exact ht
 ·exact he
def fuCells(f:Fu)(p l s:Value):List Value:=[.string (Aa f.name),p,l,s]
theorem Bp.one {D:Nat→Prop}{w:World}{b:Nat}(f:Fu)(p l s:Value)(hD:D b)(h:Dq w b 0 (fuCells f p l s))(hp:Bc D w f.params p)(hl:Bc D w f.locals l)(hs:As D w f.body s):Bp D w [f] (.slice (some ⟨b,0,none⟩) 1 1):=by
 refine⟨_,1,b,0,fun _=>p,fun _=>l,fun _=>s,rfl,Zb _,by show _≤_;simp,.inr ⟨rfl,hD⟩,?_⟩;intro i hi;have hi0:i=0:=by simp at hi;omega
 subst hi0;exact⟨⟨h.at 0 _ rfl,h.at 1 _ rfl,h.at 2 _ rfl,h.at 3 _ rfl⟩,hp,hl,hs⟩
theorem Dq.alloc {w:World}{b:Nat}{cs:List Value}(h:Dq w b 0 cs)(o:Obj):Dq (w.alloc o) b 0 cs:=h.below (bA)
end Go.Proofs.YtcfpfnoldgnloaaGreatDoor
