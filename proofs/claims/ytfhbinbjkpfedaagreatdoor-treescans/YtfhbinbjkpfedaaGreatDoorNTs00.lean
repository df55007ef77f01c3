/-
  Small trees in memory, put together. No condition.
-/
import Derived.Test.YtfhbinbjkpfedaaGreatDoorProg
import Derived.WalkKit
import Derived.WalkSpells
import Derived.WalkLawsBesides
import Derived.Laws.EntriesVeiled
import Derived.Deep.QuietTactic
import Derived.BigQuiet
import Derived.Deep.RegionHeld3
import Derived.Deep.RegionWith
import Derived.StillTailTactics
import Derived.Deep.RegionLaw
import Derived.Deep.Cut
import Derived.Deep.DeepCutAuto
import Derived.Deep.DeepFit
import Derived.Deep.DeepMust
import Derived.Deep.LoopGhost
import Derived.Lib.Hide
import Derived.KernelRfl
import Derived.Below
set_option linter.unusedVariables false
set_option linter.unusedSimpArgs false
namespace Go.RowKit
theorem Hid.o{p:Prop}(h:Hid p):p:=h
end Go.RowKit
namespace Go.Proofs.YtfhbinbjkpfedaaGreatDoor
open Go.RowKit
set_option maxHeartbeats 20000000
set_option maxRecDepth 100000
theorem cSm{α:Type _}{a b:α}(h:a=b):some a=some b:=congrArg some h
theorem bA {w : World} {o : Obj} : Below w.heap.size w (w.alloc o) := (Below.refl _ _).alloc (Nat.le_refl _) _
theorem Ii {k:IntKind}{a b:Int}(h:a=b):Ending.returned (.int k a)=.returned (.int k b):=by rw[h]
theorem Ak {a b:Bool}(h:a=b):Ending.returned (.bool a)=.returned (.bool b):=by rw[h]
theorem Po {W w1:World}(hb:Below W.heap.size W w1):(∀b o,b<W.heap.size→w1.cell? ⟨b,o,none⟩=W.cell? ⟨b,o,none⟩)∧(∀b o,b<W.heap.size→w1.frozen? ⟨b,o,none⟩=W.frozen? ⟨b,o,none⟩):=
 ⟨fun b o h=>hb.cell (p:=⟨b,o,none⟩) h,fun b o h=>hb.frozen (p:=⟨b,o,none⟩) h⟩
def Ca(w:World)(b off:Nat)(cs:List Value):Prop:= ∀i (h:i<cs.length),w.cell? ⟨b,off+i,none⟩=some cs[i]
theorem Ac {w w':World}(h:Below w.heap.size w w'){a:Addr}{x:Value}(hx:w.cell? a=some x):w'.cell? a=some x:=by
 rw[h.cell (p:=a) (World.block_lt_of_cell? w a hx)];exact hx
theorem Ca.below {w w':World}(h:Below w.heap.size w w'){b off:Nat}{cs:List Value}(hr:Ca w b off cs):Ca w' b off cs:=
 fun i hi=>Ac h (hr i hi)
theorem Ds {w:World}{a:Addr}{v:Value}(h:w.cell? a=some v):w.setCell a v=w:=by
 have hb:=World.block_lt_of_cell? w a h;unfold World.cell? at h;rw[Array.getElem?_eq_getElem hb]at h
 cases ho:w.heap[a.block]with
 |cells c e fz=>
  simp only[ho]at h
  cases hs:a.spot.isSome with
  |true=>simp [hs]at h
  |false=>
   simp only[hs,Bool.false_eq_true,if_false]at h;have hc:c.setIfInBounds a.off v=c:=by
    apply Array.ext_getElem?
    intro i;rw[Array.getElem?_setIfInBounds]
    by_cases hi:a.off=i
    ·subst hi
     have hlt:a.off<c.size:=by
      rcases Nat.lt_or_ge a.off c.size with h'|h'
      ·exact h'
      ·rw[Array.getElem?_eq_none h']at h;cases h
     rw[Array.getElem?_eq_getElem hlt]at h;simp [hlt,Option.some.inj h]
    ·simp [hi]
   have hh:(w.setCell a v).heap=w.heap:=by
    apply Array.ext_getElem?
    intro i;simp only[World.setCell,Array.getElem?_modify]
    by_cases hi:a.block=i
    ·subst hi
     simp [Array.getElem?_eq_getElem hb,ho,hs,hc]
    ·simp [hi]
   have he:w.setCell a v= {w with heap:=(w.setCell a v).heap}:=rfl;rw[he,hh]
 |_=>simp [ho]at h
def Dn(p:Nat→Bool):Nat→Int
 |0=> -1
 |n+1=>let r:=Dn p n;if 0≤r then r else if p n then n else -1
def Kq(p:Nat→Bool)(n:Nat):Bool:=(List.range n).any p
theorem Hw(p:Nat→Bool):∀n,(∀i,i<n→p i=false)→Dn p n= -1
 |0,_=>rfl
 |n+1,h=>by
  have ih:=Hw p n (fun i hi=>h i (by omega));simp [Dn,ih,h n (by omega)]
theorem Ln(p:Nat→Bool)(j:Nat)(hp:p j=true)(h:∀i,i<j→p i=false):∀n,j<n→Dn p n=j
 |0,hn=>by omega
 |n+1,hn=>by
  by_cases hj:j=n
  ·subst hj
   have:=Hw p j h;simp [Dn,this,hp]
  ·have ih:=Ln p j hp h n (by omega)
   simp [Dn,ih]
theorem Xw {p:Nat→Bool}{n:Nat}(h:∀i,i<n→p i=false):Kq p n=false:=by
 simp only[Kq,List.any_eq_false,List.mem_range];intro x hx;simp [h x hx]
theorem cP {p:Nat→Bool}{n j:Nat}(hj:j<n)(h:p j=true):Kq p n=true:=by
 simp only[Kq,List.any_eq_true,List.mem_range];exact⟨j,hj,h⟩
theorem Vf(p:Nat→Bool)(n:Nat):(Dn p n= -1∧∀i,i<n→p i=false)∨∃j,j<n∧p j=true∧Dn p n=j:=by
 induction n with
 |zero=>exact .inl ⟨rfl,fun i hi=>by omega⟩
 |succ n ih=>
  rcases ih with⟨e,h⟩|⟨j,hj,hp,e⟩
  ·cases hp:p n
   ·refine .inl ⟨by simp [Dn,e,hp],fun i hi=>?_⟩
    rcases Nat.lt_succ_iff_lt_or_eq.1 hi with h'|rfl
    ·exact h i h'
    ·exact hp
   ·exact .inr ⟨n,by omega,hp,by simp [Dn,e,hp]⟩
  ·exact .inr ⟨j,by omega,hp,by simp [Dn,e]⟩
theorem Jl(p:Nat→Bool)(n:Nat):decide (0≤Dn p n)=Kq p n:=by
 rcases Vf p n with⟨e,h⟩|⟨j,hj,hp,e⟩
 ·rw[e,Xw h];rfl
 ·rw[e,cP hj hp];simp
theorem Oi {α:Type}(f:α→Bool)(p:Nat→Bool)(l:List α)(h:∀i (hi:i<l.length),p i=f l[i]):Kq p l.length=l.any f:=by
 rw[Bool.eq_iff_iff];simp only[Kq,List.any_eq_true,List.mem_range];constructor
 ·rintro⟨i,hi,hp⟩;exact⟨l[i],List.getElem_mem hi,by rw[←h i hi];exact hp⟩
 ·rintro⟨x,hx,hf⟩;obtain⟨i,hi,rfl⟩:=List.getElem_of_mem hx;exact⟨i,hi,by rw[h i hi];exact hf⟩
end Go.Proofs.YtfhbinbjkpfedaaGreatDoor
namespace Go.Proofs.YtfhbinbjkpfedaaGreatDoor
abbrev Bs:=List UInt8
abbrev Aa(l:Bs):ByteArray:=⟨l.toArray⟩
inductive Ex where
 |mk (kind op n:Int) (name:Bs) (args:List Ex)
namespace Ex
def kind:Ex→Int|mk k _ _ _ _=>k
def op:Ex→Int|mk _ o _ _ _=>o
def n:Ex→Int|mk _ _ n _ _=>n
def name:Ex→Bs|mk _ _ _ s _=>s
def args:Ex→List Ex|mk _ _ _ _ l=>l
end Ex
inductive St where
 |mk (kind:Int) (name:Bs) (args:List Ex) (thn els:List St)
namespace St
def kind:St→Int|mk k _ _ _ _=>k
def name:St→Bs|mk _ s _ _ _=>s
def args:St→List Ex|mk _ _ l _ _=>l
def thn:St→List St|mk _ _ _ l _=>l
def els:St→List St|mk _ _ _ _ l=>l
end St
structure Fu where
 name:Bs
 params:List Bs
 locals:List Bs
 body:List St
structure Ar where
 name:Bs
 size:Int
structure Pr where
 arrays:List Ar
 funcs:List Fu
def Cj(op:Int):Bs:=
 if op=1 then [43]else if op=2 then [45]else if op=3 then [42]else if op=4 then [47]else if op=5 then [37]
 else if op=6 then [38]else if op=7 then [124]else if op=8 then [94]else if op=9 then [60,60]else if op=10 then [62,62]
 else if op=11 then [60]else if op=12 then [60,61]else if op=13 then [62]else if op=14 then [62,61]else if op=15 then [61,61]
 else if op=16 then [33,61]else if op=17 then [45]else if op=18 then [33]else if op=19 then [126]else []
def Bi(op:Int):Int:=
 if op=1 then 7 else if op=2 then 7 else if op=3 then 8 else if op=4 then 8 else if op=5 then 8
 else if op=6 then 3 else if op=7 then 1 else if op=8 then 2 else if op=9 then 6 else if op=10 then 6
 else if op=11 then 5 else if op=12 then 5 else if op=13 then 5 else if op=14 then 5 else if op=15 then 4
 else if op=16 then 4 else 0
def Bg(c:UInt8):Bool:=c==95||(97≤c && c≤122)||(65≤c && c≤90)
def Bc(c:UInt8):Bool:=48≤c && c≤57
def Nw:List Bs:=[[105,110,116],[105,102],[101,108,115,101],[119,104,105,108,101],[98,114,101,97,107],[99,111,110,116,105,110,117,101],[114,101,116,117,114,110],[112,114,105,110,116],[114,101,97,100],[116,114,97,112]]
def Ge(l:Bs):Bool:=Nw.contains l
def Dj:Bool→Bs→Bool
 |_,[]=>true
 |first,c::l=>(Bg c||(!first && Bc c)) && Dj false l
def Ah(l:Bs):Bool:= !l.isEmpty && decide (l.length≤20) && !Ge l && Dj true l
def Gf:Nat→Ex→Bool
 |0,_=>false
 |m+1,e=>e.args.all (Gf m)
def Fo(e:Ex):Int:=if e.kind=3∨e.kind=4 then e.op else 0
def Hv(e:Ex):Int:=if e.kind=1 then e.n else 0
def Db(e:Ex):Bs:=if e.kind=2∨e.kind=5∨e.kind=6 then e.name else []
def Bv(e:Ex):Int:=if e.kind=3∨e.kind=6 then 1 else if e.kind=4 then 2 else if e.kind=5 then e.args.length else 0
def Ec(e:Ex):Bool:=
 if e.kind=1 then decide (0≤e.n)else if e.kind=2 then Ah e.name else if e.kind=3 then decide (e.op=17∨e.op=18∨e.op=19)
 else if e.kind=4 then decide (0<Bi e.op)else if e.kind=5 then Ah e.name && decide ((e.args.length:Int)≤6)
 else if e.kind=6 then Ah e.name else decide (e.kind=7)
def Bn(e:Ex):Bool:=Ec e && ((e.args.length:Int)==Bv e) && (Fo e==e.op) && (Hv e==e.n) && (Db e==e.name)
mutual
def Bm:Ex→Bool
 |.mk k o n nm args=>Bn (.mk k o n nm args) && Lo args
def Lo:List Ex→Bool
 |[]=>true
 |x::l=>Bm x && Lo l
end
theorem Ry:∀l,Lo l=l.all Bm
 |[]=>rfl
 |x::l=>by simp [Lo,Ry l]
theorem Il(e:Ex):Bm e=(Bn e && e.args.all Bm):=by
 cases e;rw[Bm,Ry];rfl
def Ce(e:Ex):Bool:=Gf 40 e && Bm e
def Cp(k:Int):Bool:=decide (k=1∨k=2)
def Cv(k:Int):Int:=if k=2 then 2 else if k=1∨k=3∨k=4∨k=7∨k=8∨k=9∨k=10 then 1 else 0
def Fz(k:Int):Bool:=decide (k=3∨k=4)
def Fy(k:Int):Bool:=decide (k=3)
def fOk(k:Int):Bool:=decide (1≤k∧k≤10)
def Gd(most:Int)(x:St):Bool:= !fOk x.kind||most==0|| !((x.args.length:Int)==Cv x.kind)||(!Fz x.kind && !x.thn.isEmpty)||(!Fy x.kind && !x.els.isEmpty)
def Ki(x:St):Bool:= !(Cp x.kind==Ah x.name)||(!Cp x.kind && !(x.name==[]))||(x.kind==10 && !((x.args.headD (.mk 0 0 0 [] [])).kind==5))
def Cu:Nat→St→Bool
 |0,_=>false
 |m+1,x=> !Gd (m+1) x && !Ki x && x.args.all Ce && x.thn.all (Cu m) && x.els.all (Cu m)
def Dd(f:Fu):Bool:=Ah f.name && f.params.all Ah && f.locals.all Ah && decide (f.params.length≤6) && f.body.all (Cu 40)
def Ck(a:Ar):Bool:=Ah a.name && decide (1≤a.size∧a.size≤1048576)
def Dp(p:Pr):Bool:=p.arrays.all Ck && p.funcs.all Dd
theorem Ex.size_lt {e x:Ex}(h:x∈e.args):SizeOf.sizeOf x<SizeOf.sizeOf e:=by
 cases e with
 |mk k o n nm args=>
  have:=List.sizeOf_lt_of_mem (show x∈args from h);simp only[Ex.mk.sizeOf_spec];omega
end Go.Proofs.YtfhbinbjkpfedaaGreatDoor
namespace Go.Proofs.YtfhbinbjkpfedaaGreatDoor
open Go.RowKit
set_option maxHeartbeats 20000000
set_option maxRecDepth 100000
open Nat renaming not_lt_zero→Za,le_refl→Zb
open List renaming getD_eq_getElem?_getD→Zc,getElem?_eq_getElem→Zd
open World renaming block_lt_of_cell?→Ze
def Bw(n:Nat):Prop:=n≤140737488355328
theorem Bw.out {n:Nat}(h:Bw n):n≤140737488355328:=h
theorem Bw.lt {n:Nat}(h:Bw n):n<9223372036854775807:=by have:=h.out;omega
theorem Bw.mono {m n:Nat}(h:Bw n)(hm:m≤n):Bw m:=Nat.le_trans hm h
def I64(n:Int):Prop:= -9223372036854775808≤n∧n≤9223372036854775807
def Ex.nil:Ex:=.mk 0 0 0 [] []
abbrev Bh(l:List Ex)(i:Nat):Ex:=l.getD i Ex.nil
def St.nil:St:=.mk 0 [] [] [] []
abbrev Ff(l:List St)(i:Nat):St:=l.getD i St.nil
inductive Ai (D:Nat→Prop)(w:World):List Ex→Value→Prop
 |mk (l:List Ex) (a:Option Addr) (cap b off:Nat) (sv:Nat→Value) (hcap:l.length≤cap) (hfit:Bw l.length)
  (ha:l.length=0∨(a=some ⟨b,off,none⟩∧D b))
  (h0:∀i,i<l.length→w.cell? ⟨b,off+i*5,none⟩=some (.int .i64 (Bh l i).kind))
  (h1:∀i,i<l.length→w.cell? ⟨b,off+i*5+1,none⟩=some (.int .i64 (Bh l i).op))
  (h2:∀i,i<l.length→w.cell? ⟨b,off+i*5+2,none⟩=some (.int .i64 (Bh l i).n))
  (h3:∀i,i<l.length→w.cell? ⟨b,off+i*5+3,none⟩=some (.string (Aa (Bh l i).name)))
  (h4:∀i,i<l.length→w.cell? ⟨b,off+i*5+4,none⟩=some (sv i))
  (hs:∀i,i<l.length→Ai D w (Bh l i).args (sv i))
  (hn:∀i,i<l.length→I64 (Bh l i).n):Ai D w l (.slice a l.length cap)
def Gw(D:Nat→Prop)(w w':World):Prop:= ∀b off x,D b→w.cell? ⟨b,off,none⟩=some x→w'.cell? ⟨b,off,none⟩=some x
theorem Da {D:Nat→Prop}{w w':World}(h:Below w.heap.size w w'):Gw D w w':=fun _ _ _ _ hx=>Ac h hx
theorem Ai.keep {D:Nat→Prop}{w w':World}(hk:Gw D w w'){l:List Ex}{v:Value}(h:Ai D w l v):Ai D w' l v:=by
 induction h with
 |mk l a cap b off sv hcap hfit ha h0 h1 h2 h3 h4 _ hn ih=>
  rcases ha with ha|⟨ha,hD⟩
  ·refine .mk l a cap b off sv hcap hfit (.inl ha) ?_ ?_ ?_ ?_ ?_ ih hn<;>(intro i hi;omega)
  ·exact .mk l a cap b off sv hcap hfit (.inr ⟨ha,hD⟩) (fun i hi=>hk _ _ _ hD (h0 i hi)) (fun i hi=>hk _ _ _ hD (h1 i hi)) (fun i hi=>hk _ _ _ hD (h2 i hi))
    (fun i hi=>hk _ _ _ hD (h3 i hi)) (fun i hi=>hk _ _ _ hD (h4 i hi)) ih hn
theorem Ai.mono {D D':Nat→Prop}{w:World}(hD:∀b,D b→D' b){l:List Ex}{v:Value}(h:Ai D w l v):Ai D' w l v:=by
 induction h with
 |mk l a cap b off sv hcap hfit ha h0 h1 h2 h3 h4 _ hn ih=>exact .mk l a cap b off sv hcap hfit (ha.imp id fun h=>⟨h.1,hD _ h.2⟩) h0 h1 h2 h3 h4 ih hn
theorem Ai.old {D:Nat→Prop}{w w':World}(hb:Below w.heap.size w w'){l:List Ex}{v:Value}(h:Ai D w l v):Ai D w' l v:=h.keep (Da hb)
inductive Al (D:Nat→Prop)(w:World):List St→Value→Prop
 |mk (l:List St) (a:Option Addr) (cap b off:Nat) (sa st se:Nat→Value) (hcap:l.length≤cap) (hfit:Bw l.length)
  (ha:l.length=0∨(a=some ⟨b,off,none⟩∧D b))
  (h0:∀i,i<l.length→w.cell? ⟨b,off+i*5,none⟩=some (.int .i64 (Ff l i).kind))
  (h1:∀i,i<l.length→w.cell? ⟨b,off+i*5+1,none⟩=some (.string (Aa (Ff l i).name)))
  (h2:∀i,i<l.length→w.cell? ⟨b,off+i*5+2,none⟩=some (sa i))
  (h3:∀i,i<l.length→w.cell? ⟨b,off+i*5+3,none⟩=some (st i))
  (h4:∀i,i<l.length→w.cell? ⟨b,off+i*5+4,none⟩=some (se i))
  (ea:∀i,i<l.length→Ai D w (Ff l i).args (sa i))
  (et:∀i,i<l.length→Al D w (Ff l i).thn (st i))
  (ee:∀i,i<l.length→Al D w (Ff l i).els (se i)):Al D w l (.slice a l.length cap)
theorem Al.keep {D:Nat→Prop}{w w':World}(hk:Gw D w w'){l:List St}{v:Value}(h:Al D w l v):Al D w' l v:=by
 induction h with
 |mk l a cap b off sa st se hcap hfit ha h0 h1 h2 h3 h4 ea _ _ ih1 ih2=>
  rcases ha with ha|⟨ha,hD⟩
  ·refine .mk l a cap b off sa st se hcap hfit (.inl ha) ?_ ?_ ?_ ?_ ?_ ?_ ih1 ih2<;>(intro i hi;omega)
  ·exact .mk l a cap b off sa st se hcap hfit (.inr ⟨ha,hD⟩) (fun i hi=>hk _ _ _ hD (h0 i hi)) (fun i hi=>hk _ _ _ hD (h1 i hi)) (fun i hi=>hk _ _ _ hD (h2 i hi))
    (fun i hi=>hk _ _ _ hD (h3 i hi)) (fun i hi=>hk _ _ _ hD (h4 i hi)) (fun i hi=>(ea i hi).keep hk) ih1 ih2
theorem Al.mono {D D':Nat→Prop}{w:World}(hD:∀b,D b→D' b){l:List St}{v:Value}(h:Al D w l v):Al D' w l v:=by
 induction h with
 |mk l a cap b off sa st se hcap hfit ha h0 h1 h2 h3 h4 ea _ _ ih1 ih2=>exact .mk l a cap b off sa st se hcap hfit (ha.imp id fun h=>⟨h.1,hD _ h.2⟩) h0 h1 h2 h3 h4 (fun i hi=>(ea i hi).mono hD) ih1 ih2
theorem Al.old {D:Nat→Prop}{w w':World}(hb:Below w.heap.size w w'){l:List St}{v:Value}(h:Al D w l v):Al D w' l v:=h.keep (Da hb)
theorem Ai.shape {D:Nat→Prop}{w:World}{l:List Ex}{v:Value}(h:Ai D w l v):∃a cap,v=.slice a l.length cap:=by cases h;exact⟨_,_,rfl⟩
theorem Ai.cell0 {D:Nat→Prop}{w:World}{l:List Ex}{a:Option Addr}{n cap:Nat}(h:Ai D w l (.slice a n cap))(hl:0<l.length):∃b off,a=some ⟨b,off,none⟩∧w.cell? ⟨b,off,none⟩=some (.int .i64 (Bh l 0).kind):=by
 cases h with
 |mk _ _ _ b off sv hcap hfit ha h0=>
  rcases ha with ha|⟨ha,_⟩
  ·omega
  ·exact⟨b,off,ha,by simpa using h0 0 hl⟩
theorem Ai.cellAt {D:Nat→Prop}{w:World}{l:List Ex}{a:Option Addr}{n cap:Nat}(h:Ai D w l (.slice a n cap))(i:Nat)(hl:i<l.length):∃b off s,a=some ⟨b,off,none⟩∧D b∧
  w.cell? ⟨b,off+i*5,none⟩=some (.int .i64 (Bh l i).kind)∧w.cell? ⟨b,off+i*5+1,none⟩=some (.int .i64 (Bh l i).op)∧w.cell? ⟨b,off+i*5+2,none⟩=some (.int .i64 (Bh l i).n)∧
  w.cell? ⟨b,off+i*5+3,none⟩=some (.string (Aa (Bh l i).name))∧w.cell? ⟨b,off+i*5+4,none⟩=some s∧Ai D w (Bh l i).args s∧I64 (Bh l i).n:=by
 cases h with
 |mk _ _ _ b off sv hcap hfit ha h0 h1 h2 h3 h4 hs hn=>
  rcases ha with ha|⟨ha,hD⟩
  ·omega
  ·exact⟨b,off,sv i,ha,hD,h0 i hl,h1 i hl,h2 i hl,h3 i hl,h4 i hl,hs i hl,hn i hl⟩
theorem Ai.fits {D:Nat→Prop}{w:World}{l:List Ex}{v:Value}(h:Ai D w l v):Bw l.length:=by
 cases h with
 |mk _ _ _ b off sv hcap hfit=>exact hfit
theorem Al.shape {D:Nat→Prop}{w:World}{l:List St}{v:Value}(h:Al D w l v):∃a cap,v=.slice a l.length cap:=by cases h;exact⟨_,_,rfl⟩
def Aq(D:Nat→Prop)(w:World)(l:List Bs)(v:Value):Prop:=
 ∃a cap b off,v=.slice a l.length cap∧l.length≤cap∧Bw l.length∧(l.length=0∨(a=some ⟨b,off,none⟩∧D b))∧
  ∀i,i<l.length→w.cell? ⟨b,off+i,none⟩=some (.string (Aa (l.getD i [])))
theorem Aq.keep {D:Nat→Prop}{w w':World}(hk:Gw D w w'){l:List Bs}{v:Value}(h:Aq D w l v):Aq D w' l v:=by
 obtain⟨a,cap,b,off,hv,h1,h2,h3,h4⟩:=h;refine⟨a,cap,b,off,hv,h1,h2,h3,fun i hi=>?_⟩;rcases h3 with h3|⟨_,hD⟩
 ·omega
 ·exact hk _ _ _ hD (h4 i hi)
theorem Aq.old {D:Nat→Prop}{w w':World}(hb:Below w.heap.size w w'){l:List Bs}{v:Value}(h:Aq D w l v):Aq D w' l v:=h.keep (Da hb)
theorem Aq.mono {D D':Nat→Prop}{w:World}(hD:∀b,D b→D' b){l:List Bs}{v:Value}(h:Aq D w l v):Aq D' w l v:=by
 obtain⟨a,cap,b,off,hv,h1,h2,h3,h4⟩:=h;exact⟨a,cap,b,off,hv,h1,h2,h3.imp id fun h=>⟨h.1,hD _ h.2⟩,h4⟩
def Ar.nil:Ar:=⟨[],0⟩
def Fu.nil:Fu:=⟨[],[],[],[]⟩
abbrev Iu(l:List Ar)(i:Nat):Ar:=l.getD i Ar.nil
abbrev Cm(l:List Fu)(i:Nat):Fu:=l.getD i Fu.nil
def Br(D:Nat→Prop)(w:World)(l:List Ar)(v:Value):Prop:=
 ∃a cap b off,v=.slice a l.length cap∧l.length≤cap∧Bw l.length∧(l.length=0∨(a=some ⟨b,off,none⟩∧D b))∧
  ∀i,i<l.length→w.cell? ⟨b,off+i*2,none⟩=some (.string (Aa (Iu l i).name))∧w.cell? ⟨b,off+i*2+1,none⟩=some (.int .i64 (Iu l i).size)
theorem Br.keep {D:Nat→Prop}{w w':World}(hk:Gw D w w'){l:List Ar}{v:Value}(h:Br D w l v):Br D w' l v:=by
 obtain⟨a,cap,b,off,hv,h1,h2,h3,h4⟩:=h;refine⟨a,cap,b,off,hv,h1,h2,h3,fun i hi=>?_⟩;rcases h3 with h3|⟨_,hD⟩
 ·omega
 ·exact⟨hk _ _ _ hD (h4 i hi).1,hk _ _ _ hD (h4 i hi).2⟩
theorem Br.old {D:Nat→Prop}{w w':World}(hb:Below w.heap.size w w'){l:List Ar}{v:Value}(h:Br D w l v):Br D w' l v:=h.keep (Da hb)
def Bj(D:Nat→Prop)(w:World)(l:List Fu)(v:Value):Prop:=
 ∃a cap b off,∃pv lv bv:Nat→Value,v=.slice a l.length cap∧l.length≤cap∧Bw l.length∧(l.length=0∨(a=some ⟨b,off,none⟩∧D b))∧
  ∀i,i<l.length→(w.cell? ⟨b,off+i*4,none⟩=some (.string (Aa (Cm l i).name))∧w.cell? ⟨b,off+i*4+1,none⟩=some (pv i)∧w.cell? ⟨b,off+i*4+2,none⟩=some (lv i)∧w.cell? ⟨b,off+i*4+3,none⟩=some (bv i))∧
   Aq D w (Cm l i).params (pv i)∧Aq D w (Cm l i).locals (lv i)∧Al D w (Cm l i).body (bv i)
theorem Bj.keep {D:Nat→Prop}{w w':World}(hk:Gw D w w'){l:List Fu}{v:Value}(h:Bj D w l v):Bj D w' l v:=by
 obtain⟨a,cap,b,off,pv,lv,bv,hv,h1,h2,h3,h4⟩:=h;refine⟨a,cap,b,off,pv,lv,bv,hv,h1,h2,h3,fun i hi=>?_⟩;rcases h3 with h3|⟨_,hD⟩
 ·omega
 ·obtain⟨⟨c0,c1,c2,c3⟩,e1,e2,e3⟩:=h4 i hi
  exact⟨⟨hk _ _ _ hD c0,hk _ _ _ hD c1,hk _ _ _ hD c2,hk _ _ _ hD c3⟩,e1.keep hk,e2.keep hk,e3.keep hk⟩
theorem Bj.old {D:Nat→Prop}{w w':World}(hb:Below w.heap.size w w'){l:List Fu}{v:Value}(h:Bj D w l v):Bj D w' l v:=h.keep (Da hb)
theorem gF {l:List Ar}{i:Nat}(h:i<l.length):Iu l i∈l:=by
 simp only[Iu,Zc,Zd h,Option.getD_some];exact List.getElem_mem h
theorem Mv {l:List Fu}{i:Nat}(h:i<l.length):Cm l i∈l:=by
 simp only[Cm,Zc,Zd h,Option.getD_some];exact List.getElem_mem h
theorem Tn {α:Type}(l:List α)(d:α)(f:α→Bool)(h:∀i,i<l.length→f (l.getD i d)=true):l.all f=true:=by
 rw[List.all_eq_true];intro x hx;obtain⟨i,hi,rfl⟩:=List.getElem_of_mem hx;have:=h i hi
 rwa[Zc,Zd hi,Option.getD_some]at this
theorem Ne {α:Type}(l:List α)(d:α)(f:α→Bool)(i:Nat)(hi:i<l.length)(h:f (l.getD i d)=false):l.all f=false:=by
 rw[List.all_eq_false];refine⟨l[i],List.getElem_mem hi,?_⟩;rw[Zc,Zd hi,Option.getD_some]at h;simp [h]
theorem Jq {D:Nat→Prop}{w:World}{l:List Bs}{a:Option Addr}{n cap:Nat}(h:Aq D w l (.slice a n cap))(i:Nat)(hl:i<l.length):∃b off,a=some ⟨b,off,none⟩∧D b∧b<w.heap.size∧w.cell? ⟨b,off+i,none⟩=some (.string (Aa (l.getD i []))):=by
 obtain⟨a',cap',b,off,hv,h1,h2,h3,h4⟩:=h
 cases hv
 rcases h3 with h3|⟨h3,hD⟩
 ·omega
 ·exact⟨b,off,h3,hD,Ze _ _ (h4 i hl),h4 i hl⟩
theorem Aq.shape {D:Nat→Prop}{w:World}{l:List Bs}{v:Value}(h:Aq D w l v):∃a cap,v=.slice a l.length cap:=by
 obtain⟨a',cap',b,off,hv,_⟩:=h;exact⟨_,_,hv⟩
theorem Aq.fits {D:Nat→Prop}{w:World}{l:List Bs}{v:Value}(h:Aq D w l v):Bw l.length:=by
 obtain⟨a',cap',b,off,hv,h1,h2,_⟩:=h;exact h2
theorem Br.mono {D D':Nat→Prop}{w:World}(hD:∀b,D b→D' b){l:List Ar}{v:Value}(h:Br D w l v):Br D' w l v:=by
 obtain⟨a,cap,b,off,hv,h1,h2,h3,h4⟩:=h;exact⟨a,cap,b,off,hv,h1,h2,h3.imp id fun h=>⟨h.1,hD _ h.2⟩,h4⟩
theorem Bj.mono {D D':Nat→Prop}{w:World}(hD:∀b,D b→D' b){l:List Fu}{v:Value}(h:Bj D w l v):Bj D' w l v:=by
 obtain⟨a,cap,b,off,pv,lv,bv,hv,h1,h2,h3,h4⟩:=h;exact⟨a,cap,b,off,pv,lv,bv,hv,h1,h2,h3.imp id fun h=>⟨h.1,hD _ h.2⟩,fun i hi=>⟨(h4 i hi).1,(h4 i hi).2.1.mono hD,(h4 i hi).2.2.1.mono hD,(h4 i hi).2.2.2.mono hD⟩⟩
theorem Br.shape {D:Nat→Prop}{w:World}{l:List Ar}{v:Value}(h:Br D w l v):∃a cap,v=.slice a l.length cap:=by
 obtain⟨a,cap,b,off,hv,_⟩:=h;exact⟨a,cap,hv⟩
theorem Bj.shape {D:Nat→Prop}{w:World}{l:List Fu}{v:Value}(h:Bj D w l v):∃a cap,v=.slice a l.length cap:=by
 obtain⟨a,cap,b,off,pv,lv,bv,hv,_⟩:=h;exact⟨a,cap,hv⟩
theorem Br.fits {D:Nat→Prop}{w:World}{l:List Ar}{v:Value}(h:Br D w l v):Bw l.length:=by
 obtain⟨a,cap,b,off,hv,h1,h2,_⟩:=h;exact h2
theorem Bj.fits {D:Nat→Prop}{w:World}{l:List Fu}{v:Value}(h:Bj D w l v):Bw l.length:=by
 obtain⟨a,cap,b,off,pv,lv,bv,hv,h1,h2,_⟩:=h;exact h2
theorem Br.cellAt {D:Nat→Prop}{w:World}{l:List Ar}{a:Option Addr}{n cap:Nat}(h:Br D w l (.slice a n cap))(i:Nat)(hl:i<l.length):∃b off,a=some ⟨b,off,none⟩∧D b∧b<w.heap.size∧
  w.cell? ⟨b,off+i*2,none⟩=some (.string (Aa (Iu l i).name))∧w.cell? ⟨b,off+i*2+1,none⟩=some (.int .i64 (Iu l i).size):=by
 obtain⟨a',cap',b,off,hv,h1,h2,h3,h4⟩:=h
 cases hv
 rcases h3 with h3|⟨h3,hD⟩
 ·omega
 ·exact⟨b,off,h3,hD,Ze _ _ (h4 i hl).1,(h4 i hl).1,(h4 i hl).2⟩
theorem Bj.cellAt {D:Nat→Prop}{w:World}{l:List Fu}{a:Option Addr}{n cap:Nat}(h:Bj D w l (.slice a n cap))(i:Nat)(hl:i<l.length):∃b off p v s,a=some ⟨b,off,none⟩∧D b∧b<w.heap.size∧
  w.cell? ⟨b,off+i*4,none⟩=some (.string (Aa (Cm l i).name))∧w.cell? ⟨b,off+i*4+1,none⟩=some p∧w.cell? ⟨b,off+i*4+2,none⟩=some v∧w.cell? ⟨b,off+i*4+3,none⟩=some s∧
  Aq D w (Cm l i).params p∧Aq D w (Cm l i).locals v∧Al D w (Cm l i).body s:=by
 obtain⟨a',cap',b,off,pv,lv,bv,hv,h1,h2,h3,h4⟩:=h
 cases hv
 rcases h3 with h3|⟨h3,hD⟩
 ·omega
 ·obtain⟨⟨c0,c1,c2,c3⟩,e1,e2,e3⟩:=h4 i hl
  exact⟨b,off,pv i,lv i,bv i,h3,hD,Ze _ _ c0,c0,c1,c2,c3,e1,e2,e3⟩
abbrev exV(e:Ex)(s:Value):Value:=.agg #[.int .i64 e.kind,.int .i64 e.op,.int .i64 e.n,.string (Aa e.name),s]
theorem Cx {n:Int}(h: -1000000≤n∧n≤1000000):I64 n:=⟨by omega,by omega⟩
theorem Oo:(Tryz.prog.info? 31).map (fun i=>(i.zero,i.size,i.bytes))=some (some (.agg #[.int .i64 0,.int .i64 0,.int .i64 0,.string ⟨#[]⟩,.slice none 0 0]),5,64):=by kernel_rfl
theorem Ai.zero {D:Nat→Prop}{w:World}:Ai D w [] (.slice none 0 0):=
 .mk [] none 0 0 0 (fun _=>undef) (Zb _) (by show _≤_;simp) (.inl rfl) (fun i hi=>absurd hi (Za _)) (fun i hi=>absurd hi (Za _)) (fun i hi=>absurd hi (Za _)) (fun i hi=>absurd hi (Za _)) (fun i hi=>absurd hi (Za _)) (fun i hi=>absurd hi (Za _)) (fun i hi=>absurd hi (Za _))
theorem Al.zero {D:Nat→Prop}{w:World}:Al D w [] (.slice none 0 0):=
 .mk [] none 0 0 0 (fun _=>undef) (fun _=>undef) (fun _=>undef) (Zb _) (by show _≤_;simp) (.inl rfl) (fun i hi=>absurd hi (Za _)) (fun i hi=>absurd hi (Za _)) (fun i hi=>absurd hi (Za _)) (fun i hi=>absurd hi (Za _)) (fun i hi=>absurd hi (Za _)) (fun i hi=>absurd hi (Za _)) (fun i hi=>absurd hi (Za _)) (fun i hi=>absurd hi (Za _))
theorem Aq.zero {D:Nat→Prop}{w:World}:Aq D w [] (.slice none 0 0):=
 ⟨_,0,0,0,rfl,Zb _,by show _≤_;simp,.inl rfl,fun i hi=>absurd hi (Za _)⟩
theorem Br.zero {D:Nat→Prop}{w:World}:Br D w [] (.slice none 0 0):=
 ⟨_,0,0,0,rfl,Zb _,by show _≤_;simp,.inl rfl,fun i hi=>absurd hi (Za _)⟩
theorem Bj.zero {D:Nat→Prop}{w:World}:Bj D w [] (.slice none 0 0):=
 ⟨_,0,0,0,fun _=>undef,fun _=>undef,fun _=>undef,rfl,Zb _,by show _≤_;simp,.inl rfl,fun i hi=>absurd hi (Za _)⟩
def Au(e:Ex)(s:Value):List Value:=[.int .i64 e.kind,.int .i64 e.op,.int .i64 e.n,.string (Aa e.name),s]
theorem Ca.new(w:World)(cs:List Value)(T:TypeId):Ca (w.alloc (.cells cs.toArray T)) w.heap.size 0 cs:=fun i hi=>by simp
theorem Ca.at {w:World}{b:Nat}{cs:List Value}(h:Ca w b 0 cs)(i:Nat)(v:Value)(hi:cs[i]? =some v):w.cell? ⟨b,i,none⟩=some v:=by
 obtain⟨hl,e⟩:=List.getElem?_eq_some_iff.1 hi;have:=h i hl;rw[e]at this;simpa using this
theorem Ai.one {D:Nat→Prop}{w:World}{b:Nat}(e:Ex)(s:Value)(hD:D b)(h:Ca w b 0 (Au e s))(hs:Ai D w e.args s)(hn:I64 e.n):Ai D w [e] (.slice (some ⟨b,0,none⟩) 1 1):=by
 refine .mk [e] _ 1 b 0 (fun _=>s) (Zb _) (by show _≤_;simp) (.inr ⟨rfl,hD⟩) ?_ ?_ ?_ ?_ ?_ ?_ ?_
 all_goals
  intro i hi;have hi0:i=0:=by simp at hi;omega
  subst hi0
 ·exact h.at 0 _ rfl
 ·exact h.at 1 _ rfl
 ·exact h.at 2 _ rfl
 ·exact h.at 3 _ rfl
 ·exact h.at 4 _ rfl
 ·exact hs
 ·exact hn
theorem Ai.two {D:Nat→Prop}{w:World}{b:Nat}(e f:Ex)(s t:Value)(hD:D b)(h:Ca w b 0 (Au e s++Au f t))(hs:Ai D w e.args s)(hn:I64 e.n)(ht:Ai D w f.args t)(hm:I64 f.n):Ai D w [e,f] (.slice (some ⟨b,0,none⟩) 2 2):=by
 refine .mk [e,f] _ 2 b 0 (fun i=>if i=0 then s else t) (Zb _) (by show _≤_;simp) (.inr ⟨rfl,hD⟩) ?_ ?_ ?_ ?_ ?_ ?_ ?_
 all_goals
  intro i hi;have hi0:i=0∨i=1:=by simp at hi;omega
  rcases hi0 with rfl|rfl
 ·exact h.at 0 _ rfl
 ·exact h.at 5 _ rfl
 ·exact h.at 1 _ rfl
 ·exact h.at 6 _ rfl
 ·exact h.at 2 _ rfl
 ·exact h.at 7 _ rfl
 ·exact h.at 3 _ rfl
 ·exact h.at 8 _ rfl
 ·exact h.at 4 _ rfl
 ·exact h.at 9 _ rfl
 ·exact hs
 ·exact ht
 ·exact hn
 ·exact hm
def En(x:St)(a t e:Value):List Value:=[.int .i64 x.kind,.string (Aa x.name),a,t,e]
theorem Al.one {D:Nat→Prop}{w:World}{b:Nat}(x:St)(a t e:Value)(hD:D b)(h:Ca w b 0 (En x a t e))(ha:Ai D w x.args a)(ht:Al D w x.thn t)(he:Al D w x.els e):Al D w [x] (.slice (some ⟨b,0,none⟩) 1 1):=by
 refine .mk [x] _ 1 b 0 (fun _=>a) (fun _=>t) (fun _=>e) (Zb _) (by show _≤_;simp) (.inr ⟨rfl,hD⟩) ?_ ?_ ?_ ?_ ?_ ?_ ?_ ?_
 all_goals
  intro i hi;have hi0:i=0:=by simp at hi;omega
  subst hi0
 ·exact h.at 0 _ rfl
 ·exact h.at 1 _ rfl
 ·exact h.at 2 _ rfl
 ·exact h.at 3 _ rfl
 ·exact h.at 4 _ rfl
 ·exact ha
 ·exact ht
 ·exact he
def Vl(f:Fu)(p l s:Value):List Value:=[.string (Aa f.name),p,l,s]
theorem Bj.one {D:Nat→Prop}{w:World}{b:Nat}(f:Fu)(p l s:Value)(hD:D b)(h:Ca w b 0 (Vl f p l s))(hp:Aq D w f.params p)(hl:Aq D w f.locals l)(hs:Al D w f.body s):Bj D w [f] (.slice (some ⟨b,0,none⟩) 1 1):=by
 refine⟨_,1,b,0,fun _=>p,fun _=>l,fun _=>s,rfl,Zb _,by show _≤_;simp,.inr ⟨rfl,hD⟩,?_⟩;intro i hi;have hi0:i=0:=by simp at hi;omega
 subst hi0;exact⟨⟨h.at 0 _ rfl,h.at 1 _ rfl,h.at 2 _ rfl,h.at 3 _ rfl⟩,hp,hl,hs⟩
theorem Ca.alloc {w:World}{b:Nat}{cs:List Value}(h:Ca w b 0 cs)(o:Obj):Ca (w.alloc o) b 0 cs:=h.below (bA)
end Go.Proofs.YtfhbinbjkpfedaaGreatDoor
