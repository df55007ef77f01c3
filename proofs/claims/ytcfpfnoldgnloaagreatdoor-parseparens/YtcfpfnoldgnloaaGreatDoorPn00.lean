/-
  A list of expressions that is being appended to: its own block. No condition.
-/
import Derived.Test.YtcfpfnoldgnloaaGreatDoorProg
import Derived.WalkKit
import Derived.WalkSpells
import Derived.WalkLawsBesides
import Derived.Laws.EntriesVeiled
import Derived.Deep.QuietTactic
import Derived.BigQuiet
import Derived.Deep.RegionHeld3
import Derived.Deep.RegionWith
import Derived.StillTailTactics
import Derived.Deep.RegionLaw
import Derived.Deep.Cut
import Derived.Deep.DeepCutAuto
import Derived.Deep.DeepFit
import Derived.Deep.DeepMust
import Derived.Deep.LoopGhost
import Derived.Lib.Hide
import Derived.KernelRfl
import Derived.Below
import Derived.Deep.AppendLies
set_option linter.unusedVariables false
set_option linter.unusedSimpArgs false
namespace Go.Proofs.YtcfpfnoldgnloaaGreatDoor
open Go.RowKit
set_option maxHeartbeats 20000000
set_option maxRecDepth 100000
theorem bA {w : World} {o : Obj} : Below w.heap.size w (w.alloc o) := (Below.refl _ _).alloc (Nat.le_refl _) _
theorem Ek {k:IntKind}{a b:Int}(h:a=b):Ending.returned (.int k a)= .returned (.int k b):=by rw[h]
theorem Be {a b:Bool}(h:a=b):Ending.returned (.bool a)= .returned (.bool b):=by rw[h]
theorem Ni {W w1:World}(hb:Below W.heap.size W w1):(∀b o,b<W.heap.size→w1.cell? ⟨b,o,none⟩=W.cell? ⟨b,o,none⟩)∧(∀b o,b<W.heap.size→w1.frozen? ⟨b,o,none⟩=W.frozen? ⟨b,o,none⟩):=
 ⟨fun b o h=>hb.cell (p:=⟨b,o,none⟩) h,fun b o h=>hb.frozen (p:=⟨b,o,none⟩) h⟩
def Df(w:World)(b off:Nat)(cs:List Value):Prop:= ∀i (h:i<cs.length),w.cell? ⟨b,off+i,none⟩=some cs[i]
theorem Ab {w w':World}(h:Below w.heap.size w w'){a:Addr}{x:Value}(hx:w.cell? a=some x):w'.cell? a=some x:=by
 rw[h.cell (p:=a) (World.block_lt_of_cell? w a hx)];exact hx
theorem Df.below {w w':World}(h:Below w.heap.size w w'){b off:Nat}{cs:List Value}(hr:Df w b off cs):Df w' b off cs:=
 fun i hi=>Ab h (hr i hi)
theorem Av {w:World}{a:Addr}{v:Value}(h:w.cell? a=some v):w.setCell a v=w:=by
 have hb:=World.block_lt_of_cell? w a h;unfold World.cell? at h;rw[Array.getElem?_eq_getElem hb]at h
 cases ho:w.heap[a.block]with
 |cells c e fz=>
  simp only[ho]at h
  cases hs:a.spot.isSome with
  |true=>simp [hs]at h
  |false=>
   simp only[hs,Bool.false_eq_true,if_false]at h;have hc:c.setIfInBounds a.off v=c:=by
    apply Array.ext_getElem?
    intro i;rw[Array.getElem?_setIfInBounds]
    by_cases hi:a.off=i
    ·subst hi
     have hlt:a.off<c.size:=by
      rcases Nat.lt_or_ge a.off c.size with h'|h'
      ·exact h'
      ·rw[Array.getElem?_eq_none h']at h;cases h
     rw[Array.getElem?_eq_getElem hlt]at h;simp [hlt,Option.some.inj h]
    ·simp [hi]
   have hh:(w.setCell a v).heap=w.heap:=by
    apply Array.ext_getElem?
    intro i;simp only[World.setCell,Array.getElem?_modify]
    by_cases hi:a.block=i
    ·subst hi
     simp [Array.getElem?_eq_getElem hb,ho,hs,hc]
    ·simp [hi]
   have he:w.setCell a v= {w with heap:=(w.setCell a v).heap}:=rfl;rw[he,hh]
 |_=>simp [ho]at h
def Cy(p:Nat→Bool):Nat→Int
 |0=> -1
 |n+1=>let r:=Cy p n;if 0≤r then r else if p n then n else -1
def Jv(p:Nat→Bool)(n:Nat):Bool:=(List.range n).any p
theorem Gt(p:Nat→Bool):∀n,(∀i,i<n→p i=false)→Cy p n= -1
 |0,_=>rfl
 |n+1,h=>by
  have ih:=Gt p n (fun i hi=>h i (by omega));simp [Cy,ih,h n (by omega)]
theorem Ke(p:Nat→Bool)(j:Nat)(hp:p j=true)(h:∀i,i<j→p i=false):∀n,j<n→Cy p n=j
 |0,hn=>by omega
 |n+1,hn=>by
  by_cases hj:j=n
  ·subst hj
   have:=Gt p j h;simp [Cy,this,hp]
  ·have ih:=Ke p j hp h n (by omega)
   simp [Cy,ih]
theorem Xm {p:Nat→Bool}{n:Nat}(h:∀i,i<n→p i=false):Jv p n=false:=by
 simp only[Jv,List.any_eq_false,List.mem_range];intro x hx;simp [h x hx]
theorem aX {p:Nat→Bool}{n j:Nat}(hj:j<n)(h:p j=true):Jv p n=true:=by
 simp only[Jv,List.any_eq_true,List.mem_range];exact⟨j,hj,h⟩
theorem Ti(p:Nat→Bool)(n:Nat):(Cy p n= -1∧∀i,i<n→p i=false)∨∃j,j<n∧p j=true∧Cy p n=j:=by
 induction n with
 |zero=>exact .inl ⟨rfl,fun i hi=>by omega⟩
 |succ n ih=>
  rcases ih with⟨e,h⟩|⟨j,hj,hp,e⟩
  ·cases hp:p n
   ·refine .inl ⟨by simp [Cy,e,hp],fun i hi=> ?_⟩
    rcases Nat.lt_succ_iff_lt_or_eq.1 hi with h'|rfl
    ·exact h i h'
    ·exact hp
   ·exact .inr ⟨n,by omega,hp,by simp [Cy,e,hp]⟩
  ·exact .inr ⟨j,by omega,hp,by simp [Cy,e]⟩
theorem Hv(p:Nat→Bool)(n:Nat):decide (0≤Cy p n)=Jv p n:=by
 rcases Ti p n with⟨e,h⟩|⟨j,hj,hp,e⟩
 ·rw[e,Xm h];rfl
 ·rw[e,aX hj hp];simp
theorem Mm {α:Type}(f:α→Bool)(p:Nat→Bool)(l:List α)(h:∀i (hi:i<l.length),p i=f l[i]):Jv p l.length=l.any f:=by
 rw[Bool.eq_iff_iff];simp only[Jv,List.any_eq_true,List.mem_range];constructor
 ·rintro⟨i,hi,hp⟩;exact⟨l[i],List.getElem_mem hi,by rw[←h i hi];exact hp⟩
 ·rintro⟨x,hx,hf⟩;obtain⟨i,hi,rfl⟩:=List.getElem_of_mem hx;exact⟨i,hi,by rw[h i hi];exact hf⟩
end Go.Proofs.YtcfpfnoldgnloaaGreatDoor
namespace Go.Proofs.YtcfpfnoldgnloaaGreatDoor
abbrev Bs:=List UInt8
abbrev Aa(l:Bs):ByteArray:=⟨l.toArray⟩
inductive Ex where
 |mk (kind op n:Int) (name:Bs) (args:List Ex)
namespace Ex
def kind:Ex→Int|mk k _ _ _ _=>k
def op:Ex→Int|mk _ o _ _ _=>o
def n:Ex→Int|mk _ _ n _ _=>n
def name:Ex→Bs|mk _ _ _ s _=>s
def args:Ex→List Ex|mk _ _ _ _ l=>l
end Ex
inductive St where
 |mk (kind:Int) (name:Bs) (args:List Ex) (thn els:List St)
namespace St
def kind:St→Int|mk k _ _ _ _=>k
def name:St→Bs|mk _ s _ _ _=>s
def args:St→List Ex|mk _ _ l _ _=>l
def thn:St→List St|mk _ _ _ l _=>l
def els:St→List St|mk _ _ _ _ l=>l
end St
structure Fu where
 name:Bs
 params:List Bs
 locals:List Bs
 body:List St
structure Ar where
 name:Bs
 size:Int
structure Pr where
 arrays:List Ar
 funcs:List Fu
def Al(op:Int):Bs:=
 if op=1 then [43]else if op=2 then [45]else if op=3 then [42]else if op=4 then [47]else if op=5 then [37]
 else if op=6 then [38]else if op=7 then [124]else if op=8 then [94]else if op=9 then [60,60]else if op=10 then [62,62]
 else if op=11 then [60]else if op=12 then [60,61]else if op=13 then [62]else if op=14 then [62,61]else if op=15 then [61,61]
 else if op=16 then [33,61]else if op=17 then [45]else if op=18 then [33]else if op=19 then [126]else []
def Aj(op:Int):Int:=
 if op=1 then 7 else if op=2 then 7 else if op=3 then 8 else if op=4 then 8 else if op=5 then 8
 else if op=6 then 3 else if op=7 then 1 else if op=8 then 2 else if op=9 then 6 else if op=10 then 6
 else if op=11 then 5 else if op=12 then 5 else if op=13 then 5 else if op=14 then 5 else if op=15 then 4
 else if op=16 then 4 else 0
def Bw(c:UInt8):Bool:=c==95||(97≤c && c≤122)||(65≤c && c≤90)
def Ca(c:UInt8):Bool:=48≤c && c≤57
def Ua:List Bs:=[[105,110,116],[105,102],[101,108,115,101],[119,104,105,108,101],[98,114,101,97,107],[99,111,110,116,105,110,117,101],[114,101,116,117,114,110],[112,114,105,110,116],[114,101,97,100],[116,114,97,112]]
def Gp(l:Bs):Bool:=Ua.contains l
def Ec:Bool→Bs→Bool
 |_,[]=>true
 |first,c::l=>(Bw c||(!first && Ca c)) && Ec false l
def Ap(l:Bs):Bool:= !l.isEmpty && decide (l.length≤20) && !Gp l && Ec true l
def Fq:Nat→Ex→Bool
 |0,_=>false
 |m+1,e=>e.args.all (Fq m)
def Fs(e:Ex):Int:=if e.kind=3∨e.kind=4 then e.op else 0
def Hn(e:Ex):Int:=if e.kind=1 then e.n else 0
def Dk(e:Ex):Bs:=if e.kind=2∨e.kind=5∨e.kind=6 then e.name else []
def Ce(e:Ex):Int:=if e.kind=3∨e.kind=6 then 1 else if e.kind=4 then 2 else if e.kind=5 then e.args.length else 0
def Ee(e:Ex):Bool:=
 if e.kind=1 then decide (0≤e.n)else if e.kind=2 then Ap e.name else if e.kind=3 then decide (e.op=17∨e.op=18∨e.op=19)
 else if e.kind=4 then decide (0<Aj e.op)else if e.kind=5 then Ap e.name && decide ((e.args.length:Int)≤6)
 else if e.kind=6 then Ap e.name else decide (e.kind=7)
def Bx(e:Ex):Bool:=Ee e && ((e.args.length:Int)==Ce e) && (Fs e==e.op) && (Hn e==e.n) && (Dk e==e.name)
mutual
def Bv:Ex→Bool
 | .mk k o n nm args=>Bx (.mk k o n nm args) && Oe args
def Oe:List Ex→Bool
 |[]=>true
 |x::l=>Bv x && Oe l
end
theorem Qi:∀l,Oe l=l.all Bv
 |[]=>rfl
 |x::l=>by simp [Oe,Qi l]
theorem Hc(e:Ex):Bv e=(Bx e && e.args.all Bv):=by
 cases e;rw[Bv,Qi];rfl
def Cm(e:Ex):Bool:=Fq 40 e && Bv e
def Dh(k:Int):Bool:=decide (k=1∨k=2)
def Fz(k:Int):Int:=if k=2 then 2 else if k=1∨k=3∨k=4∨k=7∨k=8∨k=9∨k=10 then 1 else 0
def Gd(k:Int):Bool:=decide (k=3∨k=4)
def Ge(k:Int):Bool:=decide (k=3)
def fOk(k:Int):Bool:=decide (1≤k∧k≤10)
def Hl(most:Int)(x:St):Bool:= !fOk x.kind||most==0|| !((x.args.length:Int)==Fz x.kind)||(!Gd x.kind && !x.thn.isEmpty)||(!Ge x.kind && !x.els.isEmpty)
def Qh(x:St):Bool:= !(Dh x.kind==Ap x.name)||(!Dh x.kind && !(x.name==[]))||(x.kind==10 && !((x.args.headD (.mk 0 0 0 [] [])).kind==5))
def Jl:Nat→St→Bool
 |0,_=>false
 |m+1,x=> !Hl (m+1) x && !Qh x && x.args.all Cm && x.thn.all (Jl m) && x.els.all (Jl m)
def Hq(f:Fu):Bool:=Ap f.name && f.params.all Ap && f.locals.all Ap && decide (f.params.length≤6) && f.body.all (Jl 40)
def Ho(a:Ar):Bool:=Ap a.name && decide (1≤a.size∧a.size≤1048576)
def Jy(p:Pr):Bool:=p.arrays.all Ho && p.funcs.all Hq
theorem Ex.size_lt {e x:Ex}(h:x∈e.args):SizeOf.sizeOf x<SizeOf.sizeOf e:=by
 cases e with
 |mk k o n nm args=>
  have:=List.sizeOf_lt_of_mem (show x∈args from h);simp only[Ex.mk.sizeOf_spec];omega
end Go.Proofs.YtcfpfnoldgnloaaGreatDoor
namespace Go.Proofs.YtcfpfnoldgnloaaGreatDoor
open Go.RowKit
set_option maxHeartbeats 20000000
set_option maxRecDepth 100000
open Nat renaming not_lt_zero→Za,le_refl→Zb
open List renaming getElem?_eq_getElem→Zc,getD_eq_getElem?_getD→Zd
open World renaming cell?_of_block→Ze,block_lt_of_cell?→Zg
open Below renaming heap_setCell→Zf
def Fa(n:Nat):Prop:=n≤140737488355328
theorem Fa.out {n:Nat}(h:Fa n):n≤140737488355328:=h
theorem Fa.lt {n:Nat}(h:Fa n):n<9223372036854775807:=by have:=h.out;omega
theorem Fa.mono {m n:Nat}(h:Fa n)(hm:m≤n):Fa m:=Nat.le_trans hm h
def I64(n:Int):Prop:= -9223372036854775808≤n∧n≤9223372036854775807
def Ex.nil:Ex:= .mk 0 0 0 [] []
abbrev Ci(l:List Ex)(i:Nat):Ex:=l.getD i Ex.nil
def St.nil:St:= .mk 0 [] [] [] []
abbrev Jq(l:List St)(i:Nat):St:=l.getD i St.nil
inductive Ag (D:Nat→Prop)(w:World):List Ex→Value→Prop
 |mk (l:List Ex) (a:Option Addr) (cap b off:Nat) (sv:Nat→Value) (hcap:l.length≤cap) (hfit:Fa l.length)
  (ha:l.length=0∨(a=some ⟨b,off,none⟩∧D b))
  (h0:∀i,i<l.length→w.cell? ⟨b,off+i*5,none⟩=some (.int .i64 (Ci l i).kind))
  (h1:∀i,i<l.length→w.cell? ⟨b,off+i*5+1,none⟩=some (.int .i64 (Ci l i).op))
  (h2:∀i,i<l.length→w.cell? ⟨b,off+i*5+2,none⟩=some (.int .i64 (Ci l i).n))
  (h3:∀i,i<l.length→w.cell? ⟨b,off+i*5+3,none⟩=some (.string (Aa (Ci l i).name)))
  (h4:∀i,i<l.length→w.cell? ⟨b,off+i*5+4,none⟩=some (sv i))
  (hs:∀i,i<l.length→Ag D w (Ci l i).args (sv i))
  (hn:∀i,i<l.length→I64 (Ci l i).n):Ag D w l (.slice a l.length cap)
def Cp(D:Nat→Prop)(w w':World):Prop:= ∀b off x,D b→w.cell? ⟨b,off,none⟩=some x→w'.cell? ⟨b,off,none⟩=some x
theorem Cp.refl(D:Nat→Prop)(w:World):Cp D w w:=fun _ _ _ _ h=>h
theorem Cp.trans {D:Nat→Prop}{a b c:World}(h:Cp D a b)(k:Cp D b c):Cp D a c:=fun _ _ _ d x=>k _ _ _ d (h _ _ _ d x)
theorem Ba {D:Nat→Prop}{w w':World}(h:Below w.heap.size w w'):Cp D w w':=fun _ _ _ _ hx=>Ab h hx
theorem Ag.keep {D:Nat→Prop}{w w':World}(hk:Cp D w w'){l:List Ex}{v:Value}(h:Ag D w l v):Ag D w' l v:=by
 induction h with
 |mk l a cap b off sv hcap hfit ha h0 h1 h2 h3 h4 _ hn ih=>
  rcases ha with ha|⟨ha,hD⟩
  ·refine .mk l a cap b off sv hcap hfit (.inl ha) ?_ ?_ ?_ ?_ ?_ ih hn<;>(intro i hi;omega)
  ·exact .mk l a cap b off sv hcap hfit (.inr ⟨ha,hD⟩) (fun i hi=>hk _ _ _ hD (h0 i hi)) (fun i hi=>hk _ _ _ hD (h1 i hi)) (fun i hi=>hk _ _ _ hD (h2 i hi))
    (fun i hi=>hk _ _ _ hD (h3 i hi)) (fun i hi=>hk _ _ _ hD (h4 i hi)) ih hn
theorem Ag.mono {D D':Nat→Prop}{w:World}(hD:∀b,D b→D' b){l:List Ex}{v:Value}(h:Ag D w l v):Ag D' w l v:=by
 induction h with
 |mk l a cap b off sv hcap hfit ha h0 h1 h2 h3 h4 _ hn ih=>exact .mk l a cap b off sv hcap hfit (ha.imp id fun h=>⟨h.1,hD _ h.2⟩) h0 h1 h2 h3 h4 ih hn
theorem Ag.old {D:Nat→Prop}{w w':World}(hb:Below w.heap.size w w'){l:List Ex}{v:Value}(h:Ag D w l v):Ag D w' l v:=h.keep (Ba hb)
inductive Bn (D:Nat→Prop)(w:World):List St→Value→Prop
 |mk (l:List St) (a:Option Addr) (cap b off:Nat) (sa st se:Nat→Value) (hcap:l.length≤cap) (hfit:Fa l.length)
  (ha:l.length=0∨(a=some ⟨b,off,none⟩∧D b))
  (h0:∀i,i<l.length→w.cell? ⟨b,off+i*5,none⟩=some (.int .i64 (Jq l i).kind))
  (h1:∀i,i<l.length→w.cell? ⟨b,off+i*5+1,none⟩=some (.string (Aa (Jq l i).name)))
  (h2:∀i,i<l.length→w.cell? ⟨b,off+i*5+2,none⟩=some (sa i))
  (h3:∀i,i<l.length→w.cell? ⟨b,off+i*5+3,none⟩=some (st i))
  (h4:∀i,i<l.length→w.cell? ⟨b,off+i*5+4,none⟩=some (se i))
  (ea:∀i,i<l.length→Ag D w (Jq l i).args (sa i))
  (et:∀i,i<l.length→Bn D w (Jq l i).thn (st i))
  (ee:∀i,i<l.length→Bn D w (Jq l i).els (se i)):Bn D w l (.slice a l.length cap)
theorem Bn.keep {D:Nat→Prop}{w w':World}(hk:Cp D w w'){l:List St}{v:Value}(h:Bn D w l v):Bn D w' l v:=by
 induction h with
 |mk l a cap b off sa st se hcap hfit ha h0 h1 h2 h3 h4 ea _ _ ih1 ih2=>
  rcases ha with ha|⟨ha,hD⟩
  ·refine .mk l a cap b off sa st se hcap hfit (.inl ha) ?_ ?_ ?_ ?_ ?_ ?_ ih1 ih2<;>(intro i hi;omega)
  ·exact .mk l a cap b off sa st se hcap hfit (.inr ⟨ha,hD⟩) (fun i hi=>hk _ _ _ hD (h0 i hi)) (fun i hi=>hk _ _ _ hD (h1 i hi)) (fun i hi=>hk _ _ _ hD (h2 i hi))
    (fun i hi=>hk _ _ _ hD (h3 i hi)) (fun i hi=>hk _ _ _ hD (h4 i hi)) (fun i hi=>(ea i hi).keep hk) ih1 ih2
theorem Bn.mono {D D':Nat→Prop}{w:World}(hD:∀b,D b→D' b){l:List St}{v:Value}(h:Bn D w l v):Bn D' w l v:=by
 induction h with
 |mk l a cap b off sa st se hcap hfit ha h0 h1 h2 h3 h4 ea _ _ ih1 ih2=>exact .mk l a cap b off sa st se hcap hfit (ha.imp id fun h=>⟨h.1,hD _ h.2⟩) h0 h1 h2 h3 h4 (fun i hi=>(ea i hi).mono hD) ih1 ih2
theorem Bn.old {D:Nat→Prop}{w w':World}(hb:Below w.heap.size w w'){l:List St}{v:Value}(h:Bn D w l v):Bn D w' l v:=h.keep (Ba hb)
theorem Ag.shape {D:Nat→Prop}{w:World}{l:List Ex}{v:Value}(h:Ag D w l v):∃a cap,v= .slice a l.length cap:=by cases h;exact⟨_,_,rfl⟩
theorem Ag.cell0 {D:Nat→Prop}{w:World}{l:List Ex}{a:Option Addr}{n cap:Nat}(h:Ag D w l (.slice a n cap))(hl:0<l.length):∃b off,a=some ⟨b,off,none⟩∧w.cell? ⟨b,off,none⟩=some (.int .i64 (Ci l 0).kind):=by
 cases h with
 |mk _ _ _ b off sv hcap hfit ha h0=>
  rcases ha with ha|⟨ha,_⟩
  ·omega
  ·exact⟨b,off,ha,by simpa using h0 0 hl⟩
theorem Ag.cellAt {D:Nat→Prop}{w:World}{l:List Ex}{a:Option Addr}{n cap:Nat}(h:Ag D w l (.slice a n cap))(i:Nat)(hl:i<l.length):∃b off s,a=some ⟨b,off,none⟩∧D b∧
  w.cell? ⟨b,off+i*5,none⟩=some (.int .i64 (Ci l i).kind)∧w.cell? ⟨b,off+i*5+1,none⟩=some (.int .i64 (Ci l i).op)∧w.cell? ⟨b,off+i*5+2,none⟩=some (.int .i64 (Ci l i).n)∧
  w.cell? ⟨b,off+i*5+3,none⟩=some (.string (Aa (Ci l i).name))∧w.cell? ⟨b,off+i*5+4,none⟩=some s∧Ag D w (Ci l i).args s∧I64 (Ci l i).n:=by
 cases h with
 |mk _ _ _ b off sv hcap hfit ha h0 h1 h2 h3 h4 hs hn=>
  rcases ha with ha|⟨ha,hD⟩
  ·omega
  ·exact⟨b,off,sv i,ha,hD,h0 i hl,h1 i hl,h2 i hl,h3 i hl,h4 i hl,hs i hl,hn i hl⟩
theorem Ag.fits {D:Nat→Prop}{w:World}{l:List Ex}{v:Value}(h:Ag D w l v):Fa l.length:=by
 cases h with
 |mk _ _ _ b off sv hcap hfit=>exact hfit
theorem Bn.shape {D:Nat→Prop}{w:World}{l:List St}{v:Value}(h:Bn D w l v):∃a cap,v= .slice a l.length cap:=by cases h;exact⟨_,_,rfl⟩
def Bu(D:Nat→Prop)(w:World)(l:List Bs)(v:Value):Prop:=
 ∃a cap b off,v= .slice a l.length cap∧l.length≤cap∧Fa l.length∧(l.length=0∨(a=some ⟨b,off,none⟩∧D b))∧
  ∀i,i<l.length→w.cell? ⟨b,off+i,none⟩=some (.string (Aa (l.getD i [])))
theorem Bu.keep {D:Nat→Prop}{w w':World}(hk:Cp D w w'){l:List Bs}{v:Value}(h:Bu D w l v):Bu D w' l v:=by
 obtain⟨a,cap,b,off,hv,h1,h2,h3,h4⟩:=h;refine⟨a,cap,b,off,hv,h1,h2,h3,fun i hi=> ?_⟩;rcases h3 with h3|⟨_,hD⟩
 ·omega
 ·exact hk _ _ _ hD (h4 i hi)
theorem Bu.old {D:Nat→Prop}{w w':World}(hb:Below w.heap.size w w'){l:List Bs}{v:Value}(h:Bu D w l v):Bu D w' l v:=h.keep (Ba hb)
theorem Bu.mono {D D':Nat→Prop}{w:World}(hD:∀b,D b→D' b){l:List Bs}{v:Value}(h:Bu D w l v):Bu D' w l v:=by
 obtain⟨a,cap,b,off,hv,h1,h2,h3,h4⟩:=h;exact⟨a,cap,b,off,hv,h1,h2,h3.imp id fun h=>⟨h.1,hD _ h.2⟩,h4⟩
def Ar.nil:Ar:=⟨[],0⟩
def Fu.nil:Fu:=⟨[],[],[],[]⟩
abbrev Pb(l:List Ar)(i:Nat):Ar:=l.getD i Ar.nil
abbrev Gc(l:List Fu)(i:Nat):Fu:=l.getD i Fu.nil
def Cj(D:Nat→Prop)(w:World)(l:List Ar)(v:Value):Prop:=
 ∃a cap b off,v= .slice a l.length cap∧l.length≤cap∧Fa l.length∧(l.length=0∨(a=some ⟨b,off,none⟩∧D b))∧
  ∀i,i<l.length→w.cell? ⟨b,off+i*2,none⟩=some (.string (Aa (Pb l i).name))∧w.cell? ⟨b,off+i*2+1,none⟩=some (.int .i64 (Pb l i).size)
theorem Cj.keep {D:Nat→Prop}{w w':World}(hk:Cp D w w'){l:List Ar}{v:Value}(h:Cj D w l v):Cj D w' l v:=by
 obtain⟨a,cap,b,off,hv,h1,h2,h3,h4⟩:=h;refine⟨a,cap,b,off,hv,h1,h2,h3,fun i hi=> ?_⟩;rcases h3 with h3|⟨_,hD⟩
 ·omega
 ·exact⟨hk _ _ _ hD (h4 i hi).1,hk _ _ _ hD (h4 i hi).2⟩
theorem Cj.old {D:Nat→Prop}{w w':World}(hb:Below w.heap.size w w'){l:List Ar}{v:Value}(h:Cj D w l v):Cj D w' l v:=h.keep (Ba hb)
def Ck(D:Nat→Prop)(w:World)(l:List Fu)(v:Value):Prop:=
 ∃a cap b off,∃pv lv bv:Nat→Value,v= .slice a l.length cap∧l.length≤cap∧Fa l.length∧(l.length=0∨(a=some ⟨b,off,none⟩∧D b))∧
  ∀i,i<l.length→(w.cell? ⟨b,off+i*4,none⟩=some (.string (Aa (Gc l i).name))∧w.cell? ⟨b,off+i*4+1,none⟩=some (pv i)∧w.cell? ⟨b,off+i*4+2,none⟩=some (lv i)∧w.cell? ⟨b,off+i*4+3,none⟩=some (bv i))∧
   Bu D w (Gc l i).params (pv i)∧Bu D w (Gc l i).locals (lv i)∧Bn D w (Gc l i).body (bv i)
theorem Ck.keep {D:Nat→Prop}{w w':World}(hk:Cp D w w'){l:List Fu}{v:Value}(h:Ck D w l v):Ck D w' l v:=by
 obtain⟨a,cap,b,off,pv,lv,bv,hv,h1,h2,h3,h4⟩:=h;refine⟨a,cap,b,off,pv,lv,bv,hv,h1,h2,h3,fun i hi=> ?_⟩;rcases h3 with h3|⟨_,hD⟩
 ·omega
 ·obtain⟨⟨c0,c1,c2,c3⟩,e1,e2,e3⟩:=h4 i hi
  exact⟨⟨hk _ _ _ hD c0,hk _ _ _ hD c1,hk _ _ _ hD c2,hk _ _ _ hD c3⟩,e1.keep hk,e2.keep hk,e3.keep hk⟩
theorem Ck.old {D:Nat→Prop}{w w':World}(hb:Below w.heap.size w w'){l:List Fu}{v:Value}(h:Ck D w l v):Ck D w' l v:=h.keep (Ba hb)
theorem cF {l:List Fu}{i:Nat}(h:i<l.length):Gc l i∈l:=by
 simp only[Gc,Zd,Zc h,Option.getD_some];exact List.getElem_mem h
theorem Rg {α:Type}(l:List α)(d:α)(f:α→Bool)(h:∀i,i<l.length→f (l.getD i d)=true):l.all f=true:=by
 rw[List.all_eq_true];intro x hx;obtain⟨i,hi,rfl⟩:=List.getElem_of_mem hx;have:=h i hi
 rwa[Zd,Zc hi,Option.getD_some]at this
theorem Lo {α:Type}(l:List α)(d:α)(f:α→Bool)(i:Nat)(hi:i<l.length)(h:f (l.getD i d)=false):l.all f=false:=by
 rw[List.all_eq_false];refine⟨l[i],List.getElem_mem hi,?_⟩;rw[Zd,Zc hi,Option.getD_some]at h;simp [h]
structure SFr (s:Nat)(w w':World):Prop where
 os:w'.os=w.os
 tape:w'.tape=w.tape
 output:w'.output=w.output
 size:w.heap.size≤w'.heap.size
 block:∀k,k<w.heap.size→k≠s→w'.heap[k]? =w.heap[k]?
theorem SFr.refl(s:Nat)(w:World):SFr s w w:=⟨rfl,rfl,rfl,Zb _,fun _ _ _=>rfl⟩
theorem SFr.trans {s:Nat}{u v w:World}(h:SFr s u v)(k:SFr s v w):SFr s u w:=
 ⟨k.os.trans h.os,k.tape.trans h.tape,k.output.trans h.output,Nat.le_trans h.size k.size,fun i hi hb=>(k.block i (Nat.lt_of_lt_of_le hi h.size) hb).trans (h.block i hi hb)⟩
theorem SFr.of_below {s:Nat}{w w':World}(h:Below w.heap.size w w'):SFr s w w':=⟨h.os,h.tape,h.output,h.size,fun k hk _=>h.block k hk⟩
theorem SFr.below {s:Nat}{w w':World}(h:SFr s w w')(hs:s≤w.heap.size):Below s w w':=
 ⟨h.os,h.tape,h.output,h.size,fun k hk=>h.block k (by omega) (by omega)⟩
theorem SFr.cell {s:Nat}{w w':World}(h:SFr s w w'){b off:Nat}{x:Value}(hb:b≠s)(hx:w.cell? ⟨b,off,none⟩=some x):w'.cell? ⟨b,off,none⟩=some x:=by
 rw[Ze (w:=w) (h.block b (Zg _ _ hx) hb)];exact hx
theorem SFr.keeps {s:Nat}{w w':World}(h:SFr s w w'):Cp (· ≠s) w w':=fun _ _ _ hD hx=>h.cell hD hx
theorem SFr.keepsD {s:Nat}{w w':World}(h:SFr s w w'){D:Nat→Prop}(hD:∀b,D b→b≠s):Cp D w w':=fun _ _ _ hd hx=>h.cell (hD _ hd) hx
theorem SFr.drewN {s n:Nat}{w w1:World}(h:SFr s w w1):SFr s w (w1.drewN n):=⟨h.os,h.tape,h.output,h.size,h.block⟩
def Ac(w:World)(b:Nat)(cs:List Value)(T:TypeId):Prop:=w.heap[b]? =some (.cells cs.toArray T (0,0))
theorem Ac.new(w:World)(cs:List Value)(T:TypeId):Ac (w.alloc (.cells cs.toArray T)) w.heap.size cs T:=Array.getElem?_push_size
theorem Ac.lt {w:World}{b:Nat}{cs:List Value}{T:TypeId}(h:Ac w b cs T):b<w.heap.size:=by
 rcases Nat.lt_or_ge b w.heap.size with h'|h'
 ·exact h'
 ·unfold Ac at h;simp [Array.getElem?_eq_none h']at h
theorem Ac.at {w:World}{b:Nat}{cs:List Value}{T:TypeId}(h:Ac w b cs T)(i:Nat)(v:Value)(hi:cs[i]? =some v):w.cell? ⟨b,i,none⟩=some v:=by
 rw[Lib.cell_of_heap h];simpa using hi
theorem Ac.fz {w:World}{b:Nat}{cs:List Value}{T:TypeId}(h:Ac w b cs T)(i:Nat):w.frozen? ⟨b,i,none⟩=false:=Lib.frozen_of_heap h i
theorem Ac.old {w w':World}{b:Nat}{cs:List Value}{T:TypeId}(h:Ac w b cs T)(hb:Below w.heap.size w w'):Ac w' b cs T:=(hb.block b h.lt).trans h
theorem Ac.alloc {w:World}{b:Nat}{cs:List Value}{T:TypeId}(h:Ac w b cs T)(o:Obj):Ac (w.alloc o) b cs T:=h.old (bA)
theorem Ac.sfr {s:Nat}{w w':World}{b:Nat}{cs:List Value}{T:TypeId}(h:Ac w b cs T)(hf:SFr s w w')(hb:b≠s):Ac w' b cs T:=(hf.block b h.lt hb).trans h
theorem Ac.set {w:World}{b:Nat}{cs:List Value}{T:TypeId}(h:Ac w b cs T)(i:Nat)(v:Value):Ac (w.setCell ⟨b,i,none⟩ v) b (cs.set i v) T:=by
 unfold Ac at*;simp [World.setCell,Array.getElem?_modify,h]
theorem Ac.other {w:World}{b:Nat}{cs:List Value}{T:TypeId}(h:Ac w b cs T){k:Nat}(hk:b≠k)(i:Nat)(v:Value):Ac (w.setCell ⟨k,i,none⟩ v) b cs T:=by
 unfold Ac at*;rw[Zf _ _ _ _ hk];exact h
theorem Am {D:Nat→Prop}(w:World){k:Nat}(hD:¬D k)(i:Nat)(v:Value):Cp D w (w.setCell ⟨k,i,none⟩ v):=fun b off x hb hx=>by
 rw[Ze (w:=w) (Zf _ _ _ _ (by rintro rfl;exact hD hb))];exact hx
theorem Np(w:World){b c i j:Nat}{v:Value}(h:c≠b):(w.setCell ⟨b,i,none⟩ v).cell? ⟨c,j,none⟩=w.cell? ⟨c,j,none⟩:=
 Ze (w:=w) (Zf _ _ _ _ h)
theorem SFr.setNew {s:Nat}{w w1:World}(h:SFr s w w1){b:Nat}(hb:w.heap.size≤b)(i:Nat)(v:Value):SFr s w (w1.setCell ⟨b,i,none⟩ v):=
 ⟨h.os,h.tape,h.output,by simpa [World.setCell]using h.size,fun k hk hs=>(Zf _ _ _ _ (by show k≠b;omega)).trans (h.block k hk hs)⟩
theorem Kv {D D':Nat→Prop}{w w':World}(h:Cp D' w w')(hD:∀b,D b→D' b):Cp D w w':=fun b off x hb hx=>h b off x (hD b hb) hx
theorem SFr.fresh {s:Nat}{w w':World}(h:SFr s w w'){B:Nat}(hB:s<B):Cp (B≤ ·) w w':=h.keepsD (fun b hb=>by show b≠s;have:B≤b:=hb;omega)
theorem Au(w:World){B k:Nat}(hk:k<B)(i:Nat)(v:Value):Cp (B≤ ·) w (w.setCell ⟨k,i,none⟩ v):=Am w (by omega) i v
abbrev exV(e:Ex)(s:Value):Value:= .agg #[.int .i64 e.kind,.int .i64 e.op,.int .i64 e.n,.string (Aa e.name),s]
theorem Fm {n:Int}(h: -1000000≤n∧n≤1000000):I64 n:=⟨by omega,by omega⟩
theorem dA:(Tryz.prog.info? 27).map (fun i=>(i.zero,i.size,i.bytes))=some (some (.agg #[.int .i64 0,.int .i64 0,.int .i64 0,.string ⟨#[]⟩,.slice none 0 0]),5,64):=by kernel_rfl
theorem Ag.zero {D:Nat→Prop}{w:World}:Ag D w [] (.slice none 0 0):=
 .mk [] none 0 0 0 (fun _=>undef) (Zb _) (by show _≤_;simp) (.inl rfl) (fun i hi=>absurd hi (Za _)) (fun i hi=>absurd hi (Za _)) (fun i hi=>absurd hi (Za _)) (fun i hi=>absurd hi (Za _)) (fun i hi=>absurd hi (Za _)) (fun i hi=>absurd hi (Za _)) (fun i hi=>absurd hi (Za _))
theorem Bn.zero {D:Nat→Prop}{w:World}:Bn D w [] (.slice none 0 0):=
 .mk [] none 0 0 0 (fun _=>undef) (fun _=>undef) (fun _=>undef) (Zb _) (by show _≤_;simp) (.inl rfl) (fun i hi=>absurd hi (Za _)) (fun i hi=>absurd hi (Za _)) (fun i hi=>absurd hi (Za _)) (fun i hi=>absurd hi (Za _)) (fun i hi=>absurd hi (Za _)) (fun i hi=>absurd hi (Za _)) (fun i hi=>absurd hi (Za _)) (fun i hi=>absurd hi (Za _))
theorem Bu.zero {D:Nat→Prop}{w:World}:Bu D w [] (.slice none 0 0):=
 ⟨_,0,0,0,rfl,Zb _,by show _≤_;simp,.inl rfl,fun i hi=>absurd hi (Za _)⟩
theorem Cj.zero {D:Nat→Prop}{w:World}:Cj D w [] (.slice none 0 0):=
 ⟨_,0,0,0,rfl,Zb _,by show _≤_;simp,.inl rfl,fun i hi=>absurd hi (Za _)⟩
theorem Ck.zero {D:Nat→Prop}{w:World}:Ck D w [] (.slice none 0 0):=
 ⟨_,0,0,0,fun _=>undef,fun _=>undef,fun _=>undef,rfl,Zb _,by show _≤_;simp,.inl rfl,fun i hi=>absurd hi (Za _)⟩
def As(e:Ex)(s:Value):List Value:=[.int .i64 e.kind,.int .i64 e.op,.int .i64 e.n,.string (Aa e.name),s]
theorem Df.new(w:World)(cs:List Value)(T:TypeId):Df (w.alloc (.cells cs.toArray T)) w.heap.size 0 cs:=fun i hi=>by simp
theorem Df.at {w:World}{b:Nat}{cs:List Value}(h:Df w b 0 cs)(i:Nat)(v:Value)(hi:cs[i]? =some v):w.cell? ⟨b,i,none⟩=some v:=by
 obtain⟨hl,e⟩:=List.getElem?_eq_some_iff.1 hi;have:=h i hl;rw[e]at this;simpa using this
theorem Ag.one {D:Nat→Prop}{w:World}{b:Nat}(e:Ex)(s:Value)(hD:D b)(h:Df w b 0 (As e s))(hs:Ag D w e.args s)(hn:I64 e.n):Ag D w [e] (.slice (some ⟨b,0,none⟩) 1 1):=by
 refine .mk [e] _ 1 b 0 (fun _=>s) (Zb _) (by show _≤_;simp) (.inr ⟨rfl,hD⟩) ?_ ?_ ?_ ?_ ?_ ?_ ?_
 all_goals
  intro i hi;have hi0:i=0:=by simp at hi;omega
  subst hi0
 ·exact h.at 0 _ rfl
 ·exact h.at 1 _ rfl
 ·exact h.at 2 _ rfl
 ·exact h.at 3 _ rfl
 ·exact h.at 4 _ rfl
 ·exact hs
 ·exact hn
theorem Ag.two {D:Nat→Prop}{w:World}{b:Nat}(e f:Ex)(s t:Value)(hD:D b)(h:Df w b 0 (As e s++As f t))(hs:Ag D w e.args s)(hn:I64 e.n)(ht:Ag D w f.args t)(hm:I64 f.n):Ag D w [e,f] (.slice (some ⟨b,0,none⟩) 2 2):=by
 refine .mk [e,f] _ 2 b 0 (fun i=>if i=0 then s else t) (Zb _) (by show _≤_;simp) (.inr ⟨rfl,hD⟩) ?_ ?_ ?_ ?_ ?_ ?_ ?_
 all_goals
  intro i hi;have hi0:i=0∨i=1:=by simp at hi;omega
  rcases hi0 with rfl|rfl
 ·exact h.at 0 _ rfl
 ·exact h.at 5 _ rfl
 ·exact h.at 1 _ rfl
 ·exact h.at 6 _ rfl
 ·exact h.at 2 _ rfl
 ·exact h.at 7 _ rfl
 ·exact h.at 3 _ rfl
 ·exact h.at 8 _ rfl
 ·exact h.at 4 _ rfl
 ·exact h.at 9 _ rfl
 ·exact hs
 ·exact ht
 ·exact hn
 ·exact hm
def Ez(x:St)(a t e:Value):List Value:=[.int .i64 x.kind,.string (Aa x.name),a,t,e]
theorem Bn.one {D:Nat→Prop}{w:World}{b:Nat}(x:St)(a t e:Value)(hD:D b)(h:Df w b 0 (Ez x a t e))(ha:Ag D w x.args a)(ht:Bn D w x.thn t)(he:Bn D w x.els e):Bn D w [x] (.slice (some ⟨b,0,none⟩) 1 1):=by
 refine .mk [x] _ 1 b 0 (fun _=>a) (fun _=>t) (fun _=>e) (Zb _) (by show _≤_;simp) (.inr ⟨rfl,hD⟩) ?_ ?_ ?_ ?_ ?_ ?_ ?_ ?_
 all_goals
  intro i hi;have hi0:i=0:=by simp at hi;omega
  subst hi0
 ·exact h.at 0 _ rfl
 ·exact h.at 1 _ rfl
 ·exact h.at 2 _ rfl
 ·exact h.at 3 _ rfl
 ·exact h.at 4 _ rfl
 ·exact ha
 ·exact ht
 ·exact he
def fuCells(f:Fu)(p l s:Value):List Value:=[.string (Aa f.name),p,l,s]
theorem Ck.one {D:Nat→Prop}{w:World}{b:Nat}(f:Fu)(p l s:Value)(hD:D b)(h:Df w b 0 (fuCells f p l s))(hp:Bu D w f.params p)(hl:Bu D w f.locals l)(hs:Bn D w f.body s):Ck D w [f] (.slice (some ⟨b,0,none⟩) 1 1):=by
 refine⟨_,1,b,0,fun _=>p,fun _=>l,fun _=>s,rfl,Zb _,by show _≤_;simp,.inr ⟨rfl,hD⟩,?_⟩;intro i hi;have hi0:i=0:=by simp at hi;omega
 subst hi0;exact⟨⟨h.at 0 _ rfl,h.at 1 _ rfl,h.at 2 _ rfl,h.at 3 _ rfl⟩,hp,hl,hs⟩
theorem Df.alloc {w:World}{b:Nat}{cs:List Value}(h:Df w b 0 cs)(o:Obj):Df (w.alloc o) b 0 cs:=h.below (bA)
theorem Ag.strong {D:Nat→Prop}{w:World}{l:List Ex}{v:Value}(h:Ag D w l v):Ag (fun b=>D b∧b<w.heap.size) w l v:=by
 induction h with
 |mk l a cap b off sv hcap hfit ha h0 h1 h2 h3 h4 _ hn ih=>
  refine .mk l a cap b off sv hcap hfit ?_ h0 h1 h2 h3 h4 ih hn;rcases ha with ha|⟨ha,hD⟩
  ·exact .inl ha
  ·rcases Nat.eq_zero_or_pos l.length with hz|hz
   ·exact .inl hz
   ·exact .inr ⟨ha,hD,Zg _ _ (h0 0 hz)⟩
def Dv(ps:List (Ex ×Value)):List Value:=ps.flatMap fun p=>As p.1 p.2
theorem Kp:∀ps,(Dv ps).length=ps.length*5
 |[]=>rfl
 |p::ps=>by
  have:=Kp ps;unfold Dv at*;simp only[List.flatMap_cons,List.length_append,List.length_cons];rw[this];simp [As];omega
theorem Rd:∀(ps:List (Ex ×Value)) (i q:Nat) (p:Ex ×Value),ps[i]? =some p→q<5→(Dv ps)[i*5+q]? =(As p.1 p.2)[q]?
 |[],i,q,p,h,_=>by simp at h
 |x::ps,0,q,p,h,hq=>by
  simp at h;subst h;unfold Dv;rw[List.flatMap_cons,List.getElem?_append_left (by simp [As];omega)];simp
 |x::ps,i+1,q,p,h,hq=>by
  simp at h;have:=Rd ps i q p h hq;unfold Dv at*;rw[List.flatMap_cons,List.getElem?_append_right (by simp [As];omega)];rw[←this];congr 1;simp [As];omega
theorem Kr(a c:List (Ex ×Value)):Dv (a++c)=Dv a++Dv c:=by unfold Dv;rw[List.flatMap_append]
def Bi(w:World)(base:Nat)(ps:List (Ex ×Value))(v:Value):Prop:=
 w.ownsRow base 27 5 v ps.length (Dv ps)∧∀p,p∈ps→Ag (fun b=>base≤b∧v.ownBlock≠some b) w p.1.args p.2∧I64 p.1.n
theorem Bi.zero(w:World)(base:Nat):Bi w base [] (.slice none 0 0):=⟨⟨rfl,.inl ⟨rfl,rfl⟩⟩,fun p hp=>by cases hp⟩
theorem Bi.keep {w w':World}{base:Nat}{ps:List (Ex ×Value)}{v:Value}(h:Bi w base ps v)(hk:∀k,k<w.heap.size→base≤k→w'.heap[k]? =w.heap[k]?):Bi w' base ps v:=by
 refine⟨⟨h.1.1,?_⟩,fun p hp=>⟨(h.2 p hp).1.keep (fun b off x hb hx=>by rw[Ze (w:=w) (hk b (Zg _ _ hx) hb.1)];exact hx),(h.2 p hp).2⟩⟩;rcases h.1.2 with hn|⟨g,cap,cur,rfl,hb,hg,r⟩
 ·exact .inl hn
 ·refine .inr ⟨g,cap,cur,rfl,hb,?_,r⟩
  rw[hk g (by
   rcases Nat.lt_or_ge g w.heap.size with h'|h'
   ·exact h'
   ·simp [Array.getElem?_eq_none h']at hg) hb]
  exact hg
theorem Bi.exs {w:World}{base:Nat}{ps:List (Ex ×Value)}{v:Value}(h:Bi w base ps v)(hf:Fa ps.length):Ag (base≤ ·) w (ps.map (·.1)) v:=by
 have hl:(ps.map (·.1)).length=ps.length:=List.length_map _;rcases h.1.2 with⟨rfl,h0⟩|⟨g,cap,cur,rfl,hb,hg,hc,hm,hs,ht⟩
 ·have:ps=[]:=List.length_eq_zero_iff.1 h0
  subst this;exact Ag.zero
 ·have cell:∀i q p u,ps[i]? =some p→q<5→(As p.1 p.2)[q]? =some u→w.cell? ⟨g,0+i*5+q,none⟩=some u:=by
   intro i q p u hp hq hu;have h1:=h.1.cells (g:=g) rfl (i*5+q) u (by rw[Rd ps i q p hp hq];exact hu);have h2:(⟨g,0,none⟩:Addr).add (i*5+q)=⟨g,0+i*5+q,none⟩:=by unfold Addr.add;split<;>simp_all<;>omega
   rwa[h2]at h1
  have get:∀i,i<(ps.map (·.1)).length→∃p,ps[i]? =some p∧Ci (ps.map (·.1)) i=p.1∧p∈ps:=by
   intro i hi;rw[hl]at hi;refine⟨ps[i],Zc hi,?_,List.getElem_mem hi⟩;simp [Ci,Zc hi]
  have e:=Ag.mk (D:=(base≤ ·)) (w:=w) (ps.map (·.1)) (some ⟨g,0,none⟩) cap g 0 (fun i=>(ps.getD i (Ex.nil,undef)).2) (by rw[hl];exact hc) (by rw[hl];exact hf) (.inr ⟨rfl,hb⟩);rw[hl]at e;have sv:∀i p,ps[i]? =some p→(ps.getD i (Ex.nil,undef)).2=p.2:=fun i p hp=>by rw[Zd,hp];rfl
  have gp:∀i,i<ps.length→∃p,ps[i]? =some p∧Ci (ps.map (·.1)) i=p.1∧p∈ps:=fun i hi=>get i (by rw[hl];exact hi)
  refine e (fun i hi=> ?_) (fun i hi=> ?_) (fun i hi=> ?_) (fun i hi=> ?_) (fun i hi=> ?_) (fun i hi=> ?_) (fun i hi=> ?_)
  all_goals
   obtain⟨p,hp,hx,hm⟩:=gp i hi
   try rw[hx]
   try rw[sv i p hp]
  ·exact cell i 0 p _ hp (by omega) rfl
  ·exact cell i 1 p _ hp (by omega) rfl
  ·exact cell i 2 p _ hp (by omega) rfl
  ·exact cell i 3 p _ hp (by omega) rfl
  ·exact cell i 4 p _ hp (by omega) rfl
  ·exact(h.2 p hm).1.mono (fun b hb=>hb.1)
  ·exact(h.2 p hm).2
theorem Bi.snoc {w w':World}{base:Nat}{ps:List (Ex ×Value)}{v:Value}(h:Bi w base ps v)(x:Ex)(xv:Value)(hx:Ag (fun b=>base≤b∧v.ownBlock≠some b) w x.args xv)(hn:I64 x.n){g cap:Nat}
  (hown:w'.ownsRow base 27 5 (.slice (some ⟨g,0,none⟩) (ps.length+1) cap) (ps.length+1) (Dv ps++As x xv)) (hgrow:w.grownBy w' v.ownBlock) (hg:v.ownBlock=some g∨g=w.heap.size):
  Bi w' base (ps++[(x,xv)]) (.slice (some ⟨g,0,none⟩) (ps.length+1) cap):=by
 have hl:(ps++[(x,xv)]).length=ps.length+1:=by simp
 have hfl:Dv (ps++[(x,xv)])=Dv ps++As x xv:=by rw[Kr];simp [Dv]
 have keep:∀(l:List Ex) (u:Value),Ag (fun b=>base≤b∧v.ownBlock≠some b) w l u→Ag (fun b=>base≤b∧(Value.slice (some ⟨g,0,none⟩) (ps.length+1) cap).ownBlock≠some b) w' l u:=by
  intro l u hu;have h1:Ag (fun b=>(base≤b∧v.ownBlock≠some b)∧b<w.heap.size) w l u:=hu.strong;have h2:Ag (fun b=>(base≤b∧v.ownBlock≠some b)∧b<w.heap.size) w' l u:=h1.keep (fun b off y hb hy=>hgrow.cell hy (fun e=>hb.1.2 e.symm));refine h2.mono (fun b hb=>⟨hb.1.1,?_⟩);show some g≠some b
  intro e
  cases e
  rcases hg with hg|hg
  ·exact hb.1.2 hg
  ·omega
 refine⟨by rw[hl,hfl];exact hown,fun p hp=> ?_⟩;rcases List.mem_append.1 hp with hp|hp
 ·exact⟨keep _ _ (h.2 p hp).1,(h.2 p hp).2⟩
 ·rw[List.mem_singleton.1 hp];exact⟨keep _ _ hx,hn⟩
end Go.Proofs.YtcfpfnoldgnloaaGreatDoor
