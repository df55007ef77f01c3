/-
  Small words for the walks of this seat: what a call may change, lists in memory, and closing lemmas.
-/
import Derived.Test.YtcfpfnoldgnloaaGreatDoorProg
import Derived.WalkKit
import Derived.WalkSpells
import Derived.WalkLawsBesides
import Derived.Laws.EntriesVeiled
import Derived.Deep.QuietTactic
import Derived.BigQuiet
import Derived.Deep.RegionHeld3
import Derived.Deep.RegionWith
import Derived.StillTailTactics
import Derived.Deep.RegionLaw
import Derived.Deep.Cut
import Derived.Deep.DeepCutAuto
import Derived.Deep.DeepFit
import Derived.Deep.DeepMust
import Derived.Deep.LoopGhost
import Derived.Lib.Hide
import Derived.KernelRfl
import Derived.Test.YtcfpfnoldgnloaaGreatDoorRows
import Derived.ProofKit
import Derived.OpenShut
import Derived.Deep.DeepHandedRow
import Derived.Lib.LaidTab
import Derived.ChangeSame
import Derived.Below
import Derived.Laws.RangeAny
set_option linter.unusedVariables false
set_option linter.unusedSimpArgs false
namespace Go.Proofs.YtcfpfnoldgnloaaGreatDoor
open Go.RowKit
set_option maxHeartbeats 20000000
set_option maxRecDepth 100000
theorem bA {w : World} {o : Obj} : Below w.heap.size w (w.alloc o) := (Below.refl _ _).alloc (Nat.le_refl _) _
theorem e9 {k:IntKind}{a b:Int}(h:a=b):Ending.returned (.int k a)= .returned (.int k b):=by rw[h]
theorem aT {a b:Bool}(h:a=b):Ending.returned (.bool a)= .returned (.bool b):=by rw[h]
theorem mV {W w1:World}(hb:Below W.heap.size W w1):(∀b o,b<W.heap.size→w1.cell? ⟨b,o,none⟩=W.cell? ⟨b,o,none⟩)∧(∀b o,b<W.heap.size→w1.frozen? ⟨b,o,none⟩=W.frozen? ⟨b,o,none⟩):=
 ⟨fun b o h=>hb.cell (p:=⟨b,o,none⟩) h,fun b o h=>hb.frozen (p:=⟨b,o,none⟩) h⟩
def cN(w:World)(b off:Nat)(cs:List Value):Prop:= ∀i (h:i<cs.length),w.cell? ⟨b,off+i,none⟩=some cs[i]
theorem aE {w w':World}(h:Below w.heap.size w w'){a:Addr}{x:Value}(hx:w.cell? a=some x):w'.cell? a=some x:=by
 rw[h.cell (p:=a) (World.block_lt_of_cell? w a hx)];exact hx
theorem cN.below {w w':World}(h:Below w.heap.size w w'){b off:Nat}{cs:List Value}(hr:cN w b off cs):cN w' b off cs:=
 fun i hi=>aE h (hr i hi)
theorem ay {w:World}{a:Addr}{v:Value}(h:w.cell? a=some v):w.setCell a v=w:=by
 have hb:=World.block_lt_of_cell? w a h;unfold World.cell? at h;rw[Array.getElem?_eq_getElem hb]at h
 cases ho:w.heap[a.block]with
 |cells c e fz=>
  simp only[ho]at h
  cases hs:a.spot.isSome with
  |true=>simp [hs]at h
  |false=>
   simp only[hs,Bool.false_eq_true,if_false]at h;have hc:c.setIfInBounds a.off v=c:=by
    apply Array.ext_getElem?
    intro i;rw[Array.getElem?_setIfInBounds]
    by_cases hi:a.off=i
    ·subst hi
     have hlt:a.off<c.size:=by
      rcases Nat.lt_or_ge a.off c.size with h'|h'
      ·exact h'
      ·rw[Array.getElem?_eq_none h']at h;cases h
     rw[Array.getElem?_eq_getElem hlt]at h;simp [hlt,Option.some.inj h]
    ·simp [hi]
   have hh:(w.setCell a v).heap=w.heap:=by
    apply Array.ext_getElem?
    intro i;simp only[World.setCell,Array.getElem?_modify]
    by_cases hi:a.block=i
    ·subst hi
     simp [Array.getElem?_eq_getElem hb,ho,hs,hc]
    ·simp [hi]
   have he:w.setCell a v= {w with heap:=(w.setCell a v).heap}:=rfl;rw[he,hh]
 |_=>simp [ho]at h
def dG(p:Nat→Bool):Nat→Int
 |0=> -1
 |n+1=>let r:=dG p n;if 0≤r then r else if p n then n else -1
def jw(p:Nat→Bool)(n:Nat):Bool:=(List.range n).any p
theorem gT(p:Nat→Bool):∀n,(∀i,i<n→p i=false)→dG p n= -1
 |0,_=>rfl
 |n+1,h=>by
  have ih:=gT p n (fun i hi=>h i (by omega));simp [dG,ih,h n (by omega)]
theorem js(p:Nat→Bool)(j:Nat)(hp:p j=true)(h:∀i,i<j→p i=false):∀n,j<n→dG p n=j
 |0,hn=>by omega
 |n+1,hn=>by
  by_cases hj:j=n
  ·subst hj
   have:=gT p j h;simp [dG,this,hp]
  ·have ih:=js p j hp h n (by omega)
   simp [dG,ih]
theorem uL {p:Nat→Bool}{n:Nat}(h:∀i,i<n→p i=false):jw p n=false:=by
 simp only[jw,List.any_eq_false,List.mem_range];intro x hx;simp [h x hx]
theorem wj {p:Nat→Bool}{n j:Nat}(hj:j<n)(h:p j=true):jw p n=true:=by
 simp only[jw,List.any_eq_true,List.mem_range];exact⟨j,hj,h⟩
theorem qE(p:Nat→Bool)(n:Nat):(dG p n= -1∧∀i,i<n→p i=false)∨∃j,j<n∧p j=true∧dG p n=j:=by
 induction n with
 |zero=>exact .inl ⟨rfl,fun i hi=>by omega⟩
 |succ n ih=>
  rcases ih with⟨e,h⟩|⟨j,hj,hp,e⟩
  ·cases hp:p n
   ·refine .inl ⟨by simp [dG,e,hp],fun i hi=> ?_⟩
    rcases Nat.lt_succ_iff_lt_or_eq.1 hi with h'|rfl
    ·exact h i h'
    ·exact hp
   ·exact .inr ⟨n,by omega,hp,by simp [dG,e,hp]⟩
  ·exact .inr ⟨j,by omega,hp,by simp [dG,e]⟩
theorem iO(p:Nat→Bool)(n:Nat):decide (0≤dG p n)=jw p n:=by
 rcases qE p n with⟨e,h⟩|⟨j,hj,hp,e⟩
 ·rw[e,uL h];rfl
 ·rw[e,wj hj hp];simp
theorem mI {α:Type}(f:α→Bool)(p:Nat→Bool)(l:List α)(h:∀i (hi:i<l.length),p i=f l[i]):jw p l.length=l.any f:=by
 rw[Bool.eq_iff_iff];simp only[jw,List.any_eq_true,List.mem_range];constructor
 ·rintro⟨i,hi,hp⟩;exact⟨l[i],List.getElem_mem hi,by rw[←h i hi];exact hp⟩
 ·rintro⟨x,hx,hf⟩;obtain⟨i,hi,rfl⟩:=List.getElem_of_mem hx;exact⟨i,hi,by rw[h i hi];exact hf⟩
end Go.Proofs.YtcfpfnoldgnloaaGreatDoor
namespace Go.Proofs.YtcfpfnoldgnloaaGreatDoor
open Go.ChangeShapes Go.WideShapes Go.ChangeAt Go.RowKit
theorem lQ {P:Program}{x:String ×DataW Unit}{l:List (String ×DataW Unit)}{W:World}(h:laidMet P (x::l) W):laidMet P l W:=by
 obtain⟨n,d⟩:=x;obtain⟨ps,⟨g,t,cs,fuel,p,q,hg,ht,hv,hd,hr,rfl⟩,hn,hc⟩:=h;refine⟨q,hr,(List.nodup_append.1 hn).2.1,fun b off hm=>hc b off (List.mem_append_right _ hm)⟩
theorem uN {H:Type}{enc:TypeId ×Value→H}{P:Program}{f:Func}{s:ChangeSpec}{apart fresh handsOn again:Bool}{W W':World}{args:Array Value}{v:Value}{ds gs:List (DataW H)}{before pa pv:List MemPlace}
  (hW:DataW.Whole enc P f.params.toList s.vars apart W args.toList ds gs before)
  (hres:∀(b:Nat) (sp:Nat→Bool) (hd:Bool),DataW.TrodAll enc P W' b sp hd f.resultTypes.toList (v.resultList f.resultTypes.size) (s.fn H (ds++gs)).results [])
  (hargs:∀sp:Nat→Bool,(∀p∈before,sp p.block=true)→DataW.TrodAll enc P W' 0 sp true f.params.toList args.toList (s.fn H (ds++gs)).args pa)
  (hvars:∀sp:Nat→Bool,(∀p∈before,sp p.block=true)→DataW.TrodVars enc P W' sp s.vars (s.fn H (ds++gs)).vars pv)
  (hps:before=pa++pv) (hb:Below W.heap.size W W')
  (hok:∀(j:Nat) (t:TypeId) (r:Value),f.resultTypes[j]? =some t→(v.resultList f.resultTypes.size)[j]? =some r→Value.okWide P W' .any 0 t r):
  s.post enc P f apart fresh handsOn again W args v W':=by
 have lt:∀p∈before,p.block<W.heap.size:=hW.lt;have old:∀p∈before,(fun k=>decide (k<W.heap.size)) p.block=true:=fun p hp=>decide_eq_true (lt p hp)
 refine⟨ds,gs,before,[],pa,pv,hW,hres _ _ _,hargs _ old,hvars _ old,World.keptBut_mono (fun p hp=>⟨hp,.inr (by rw[hps]at hp;exact List.mem_append.1 hp)⟩) (hb.frame (· ∈before)),fun _=> ?_⟩;obtain⟨_,_,_,_,_,fz,nd⟩:=hW;refine⟨hok,_,_,([]++pa)++pv,⟨[]++pa,pv,trodAll_append (hargs _ (fun _ _=>rfl)) (hres _ _ _),hvars _ (fun _ _=>rfl),rfl,fun b off hp=> ?_,fun ha=> ?_⟩,fun p hp _=> ?_⟩
 ·have hin:MemPlace.cell b off∈before:=by rw[hps];exact hp
  have e:=fz b off hin;rw[←hb.frozen (lt _ hin)]at e;exact e
 ·have e:=nd ha
  rw[hps]at e;exact e
 ·rw[hps];exact hp
end Go.Proofs.YtcfpfnoldgnloaaGreatDoor
namespace Go.Proofs.YtcfpfnoldgnloaaGreatDoor
abbrev Bs:=List UInt8
abbrev aB(l:Bs):ByteArray:=⟨l.toArray⟩
inductive Ex where
 |mk (kind op n:Int) (name:Bs) (args:List Ex)
namespace Ex
def kind:Ex→Int|mk k _ _ _ _=>k
def op:Ex→Int|mk _ o _ _ _=>o
def n:Ex→Int|mk _ _ n _ _=>n
def name:Ex→Bs|mk _ _ _ s _=>s
def args:Ex→List Ex|mk _ _ _ _ l=>l
end Ex
inductive St where
 |mk (kind:Int) (name:Bs) (args:List Ex) (thn els:List St)
namespace St
def kind:St→Int|mk k _ _ _ _=>k
def name:St→Bs|mk _ s _ _ _=>s
def args:St→List Ex|mk _ _ l _ _=>l
def thn:St→List St|mk _ _ _ l _=>l
def els:St→List St|mk _ _ _ _ l=>l
end St
structure Fu where
 name:Bs
 params:List Bs
 locals:List Bs
 body:List St
structure Ar where
 name:Bs
 size:Int
structure Pr where
 arrays:List Ar
 funcs:List Fu
def aU(op:Int):Bs:=
 if op=1 then [43]else if op=2 then [45]else if op=3 then [42]else if op=4 then [47]else if op=5 then [37]
 else if op=6 then [38]else if op=7 then [124]else if op=8 then [94]else if op=9 then [60,60]else if op=10 then [62,62]
 else if op=11 then [60]else if op=12 then [60,61]else if op=13 then [62]else if op=14 then [62,61]else if op=15 then [61,61]
 else if op=16 then [33,61]else if op=17 then [45]else if op=18 then [33]else if op=19 then [126]else []
def aP(op:Int):Int:=
 if op=1 then 7 else if op=2 then 7 else if op=3 then 8 else if op=4 then 8 else if op=5 then 8
 else if op=6 then 3 else if op=7 then 1 else if op=8 then 2 else if op=9 then 6 else if op=10 then 6
 else if op=11 then 5 else if op=12 then 5 else if op=13 then 5 else if op=14 then 5 else if op=15 then 4
 else if op=16 then 4 else 0
def bi(c:UInt8):Bool:=c==95||(97≤c && c≤122)||(65≤c && c≤90)
def cF(c:UInt8):Bool:=48≤c && c≤57
def rx:List Bs:=[[105,110,116],[105,102],[101,108,115,101],[119,104,105,108,101],[98,114,101,97,107],[99,111,110,116,105,110,117,101],[114,101,116,117,114,110],[112,114,105,110,116],[114,101,97,100],[116,114,97,112]]
def fm(l:Bs):Bool:=rx.contains l
def eO:Bool→Bs→Bool
 |_,[]=>true
 |first,c::l=>(bi c||(!first && cF c)) && eO false l
def aY(l:Bs):Bool:= !l.isEmpty && decide (l.length≤20) && !isWord l && eO true l
def gU:Nat→Ex→Bool
 |0,_=>false
 |m+1,e=>e.args.all (gU m)
def fG(e:Ex):Int:=if e.kind=3∨e.kind=4 then e.op else 0
def gd(e:Ex):Int:=if e.kind=1 then e.n else 0
def dE(e:Ex):Bs:=if e.kind=2∨e.kind=5∨e.kind=6 then e.name else []
def cB(e:Ex):Int:=if e.kind=3∨e.kind=6 then 1 else if e.kind=4 then 2 else if e.kind=5 then e.args.length else 0
def eG(e:Ex):Bool:=
 if e.kind=1 then decide (0≤e.n)else if e.kind=2 then aY e.name else if e.kind=3 then decide (e.op=17∨e.op=18∨e.op=19)
 else if e.kind=4 then decide (0<aP e.op)else if e.kind=5 then aY e.name && decide ((e.args.length:Int)≤6)
 else if e.kind=6 then aY e.name else decide (e.kind=7)
def bY(e:Ex):Bool:=eG e && ((e.args.length:Int)==cB e) && (fG e==e.op) && (gd e==e.n) && (dE e==e.name)
mutual
def bZ:Ex→Bool
 | .mk k o n nm args=>bY (.mk k o n nm args) && my args
def my:List Ex→Bool
 |[]=>true
 |x::l=>bZ x && my l
end
theorem nc:∀l,my l=l.all bZ
 |[]=>rfl
 |x::l=>by simp [my,nc l]
theorem gu(e:Ex):bZ e=(bY e && e.args.all bZ):=by
 cases e;rw[bZ,nc];rfl
def cR(e:Ex):Bool:=gU 40 e && bZ e
def dN(k:Int):Bool:=decide (k=1∨k=2)
def cq(k:Int):Int:=if k=2 then 2 else if k=1∨k=3∨k=4∨k=7∨k=8∨k=9∨k=10 then 1 else 0
def ft(k:Int):Bool:=decide (k=3∨k=4)
def fw(k:Int):Bool:=decide (k=3)
def fOk(k:Int):Bool:=decide (1≤k∧k≤10)
def gY(most:Int)(x:St):Bool:= !fOk x.kind||most==0|| !((x.args.length:Int)==cq x.kind)||(!fThen x.kind && !x.thn.isEmpty)||(!fMore x.kind && !x.els.isEmpty)
def nS(x:St):Bool:= !(dN x.kind==aY x.name)||(!fNamed x.kind && !(x.name==[]))||(x.kind==10 && !((x.args.headD (.mk 0 0 0 [] [])).kind==5))
def dD:Nat→St→Bool
 |0,_=>false
 |m+1,x=> !stBad1 (m+1) x && !stBad2 x && x.args.all cR && x.thn.all (dD m) && x.els.all (dD m)
def du(f:Fu):Bool:=aY f.name && f.params.all aY && f.locals.all aY && decide (f.params.length≤6) && f.body.all (dD 40)
def cg(a:Ar):Bool:=aY a.name && decide (1≤a.size∧a.size≤1048576)
def dS(p:Pr):Bool:=p.arrays.all cg && p.funcs.all du
theorem Ex.size_lt {e x:Ex}(h:x∈e.args):SizeOf.sizeOf x<SizeOf.sizeOf e:=by
 cases e with
 |mk k o n nm args=>
  have:=List.sizeOf_lt_of_mem (show x∈args from h);simp only[Ex.mk.sizeOf_spec];omega
end Go.Proofs.YtcfpfnoldgnloaaGreatDoor
namespace Go.Proofs.YtcfpfnoldgnloaaGreatDoor
open Go.RowKit
set_option maxHeartbeats 20000000
set_option maxRecDepth 100000
open Go.Lib renaming hid→Za
open Go.Proofs.Tryz renaming prog→Zb
open List renaming length_append→Zc,getElem_mem→Ze,getD_eq_getElem?_getD→Zg,getElem?_eq_getElem→Zh,getElem_append_left→Zj
open Below renaming refl→Zd,heap_setCell→Zi
open Bool renaming eq_iff_iff→Zf
def de(r:Int):Bool:=decide (r=95∨(97≤r∧r≤122)∨(65≤r∧r≤90))
def da(r:Int):Bool:=decide (48≤r∧r≤57)
theorem dk(r:Int)(w:World):
  Calls Zb 89 #[.int .i32 r] w fun e w'=>e= .returned (.bool (de r))∧w=w':=by
 go_enter Tryz.func89,Tryz.ntmps89
 go_wp2
 all_goals go_ret
 all_goals(refine⟨aT ?_,rfl⟩;rw[Zf];simp [de];omega)
theorem fW(r:Int)(w:World):
  Calls Zb 91 #[.int .i32 r] w fun e w'=>e= .returned (.bool (da r))∧w=w':=by
 go_enter Tryz.func91,Tryz.ntmps91
 go_wp2
 all_goals go_ret
 all_goals(refine⟨aT ?_,rfl⟩;rw[Zf];simp [da];omega)
theorem kU(l:Bs)(w:World):
  Calls Zb 144 #[.string (aB l)] w fun e w'=>e= .returned (.bool (fm l))∧w=w':=by
 go_enter Tryz.func144,Tryz.ntmps144
 go_wp2
 all_goals go_ret
 all_goals(refine⟨aT ?_,rfl⟩;simp_all [fm,rx])
theorem gG(c:UInt8):de (c.toNat:Nat)=bi c:=by
 rw[Zf];simp [de,bi,UInt8.le_iff_toNat_le,←UInt8.toNat_inj];omega
theorem gj(c:UInt8):da (c.toNat:Nat)=cF c:=by
 rw[Zf];simp [da,cF,UInt8.le_iff_toNat_le];omega
theorem lB {r:Nat}(h:128≤r):de r=false:=by simp [de];omega
theorem mR {r:Nat}(h:128≤r):da r=false:=by simp [da];omega
theorem om {c:UInt8}(h:128≤c.toNat):bi c=false:=by rw[←gG];exact lB h
theorem qU {c:UInt8}(h:128≤c.toNat):cF c=false:=by rw[←gj];exact mR h
theorem wI(l:Bs)(k:Nat)(h:k<l.length):∃r d,Utf8.decode (aB l) k=(r,d)∧1≤d∧de r=bi l[k]∧da r=cF l[k]∧(r<128→r=l[k].toNat∧d=1)∧r≤2147483647:=by
 have hs:k<(aB l).size:=h;have he:(aB l)[k]'hs=l[k]:=rfl;have hle:=decode_le (aB l) k
 by_cases ha:((aB l)[k]'hs).toNat<128
 ·rw[decode_ascii _ _ hs ha]at hle
  exact⟨_,_,decode_ascii _ _ hs ha,Nat.le_refl _,by rw[he];exact gG _,by rw[he];exact gj _,fun _=>⟨by rw[he],rfl⟩,hle⟩
 ·have hh:=decode_high (aB l) k hs (by omega)
  have h2:128≤l[k].toNat:=by rw[←he];omega
  generalize Utf8.decode (aB l) k=q at hh hle ⊢;exact⟨q.1,q.2,rfl,hh.2,by rw[lB hh.1,om h2],by rw[mR hh.1,qU h2],fun h=>by omega,hle⟩
theorem rN {r:Nat}(h:de r=true):r<128:=by simp [de]at h;omega
theorem tS {r:Nat}(h:da r=true):r<128:=by simp [da]at h;omega
theorem v6(l:Bs)(h20:l.length≤20)(h0:l.isEmpty=false)(hw:fm l=false)(w:World):
  Calls Zb 112 #[.string (aB l)] w fun e w'=>e= .returned (.bool (eO true l))∧Below w.heap.size w w':=by
 go_enter Tryz.func112,Tryz.ntmps112
 go_wp2_with (go_at_call 144;refine(kU _ _).mono ?_;rintro e w1 ⟨rfl,rfl⟩)
 go_loopw [3,4] (fun _ _ wr=> ∃k:Nat,k≤l.length∧wr=w.iter (aB l) k∧Hid (eO true l=eO (decide (k=0)) (l.drop k))) (fun _ _ wr=>l.length - wr.iterPos w.heap.size)
 case atStart=>exact⟨0,Nat.zero_le _,rfl,rfl⟩
 case round=>
  obtain⟨k,hk,rfl,HI⟩:=hrel
  by_cases hlt:k<l.length
  ·have hnx:=fun ty=>run_next_any (P:=Zb) w (aB l) k ty hlt
   obtain⟨r,d,hd,h1,hl,hdg,hlow,hr⟩:=wI l k hlt;rw[hd]at hnx;have HL:=Za hl;have HD:=Za hdg;have HLOW:=Za hlow;have HE:Hid (eO (decide (k=0)) (l.drop k)=((bi l[k]||(!decide (k=0) && cF l[k])) && eO false (l.drop (k+1)))):=by
    show _=_
    rw[List.drop_eq_getElem_cons hlt];rfl
   clear hl hdg hlow hd
   by_cases q:de r=true
   ·go_wp2_with (go_at_call 89;refine(dk _ _).mono ?_;rintro e w1 ⟨rfl,rfl⟩)
    have h3:=HLOW.out (rN q);obtain rfl:=h3.2;go_roundw
    case rel=>exact⟨k+1,by omega,rfl,by show _=_;rw[HI.out,HE.out,←HL.out,q];simp⟩
    case measure=>simp;omega
   ·have q':de r=false:=by simpa using q
    clear q
    by_cases z:k=0
    ·subst z
     go_wp2_with (go_at_call 89;refine(dk _ _).mono ?_;rintro e w1 ⟨rfl,rfl⟩)
     go_ret
     exact⟨aT (by rw[HI.out,HE.out,←HL.out,q'];simp),bA⟩
    ·have z':((k:Int)==0)=false:=by simpa using z
     by_cases g:da r=true
     ·go_wp2_with (first|(go_at_call 89;refine(dk _ _).mono ?_;rintro e w1 ⟨rfl,rfl⟩)|(go_at_call 91;refine(fW _ _).mono ?_;rintro e w1 ⟨rfl,rfl⟩))
      have h3:=HLOW.out (tS g);obtain rfl:=h3.2;go_roundw
      case rel=>exact⟨k+1,by omega,rfl,by show _=_;rw[HI.out,HE.out,←HL.out,←HD.out,q',g];simp [z]⟩
      case measure=>simp;omega
     ·have g':da r=false:=by simpa using g
      clear g;go_wp2_with (first|(go_at_call 89;refine(dk _ _).mono ?_;rintro e w1 ⟨rfl,rfl⟩)|(go_at_call 91;refine(fW _ _).mono ?_;rintro e w1 ⟨rfl,rfl⟩))
      go_ret
      exact⟨aT (by rw[HI.out,HE.out,←HL.out,←HD.out,q',g'];simp),bA⟩
  ·have hnx:=fun ty=>run_next_end (P:=Zb) w (aB l) k ty hlt
   go_wp2_with fail
   go_ret
   exact⟨aT (by rw[HI.out,List.drop_eq_nil_of_le (by omega)];rfl),bA⟩
theorem gz(l:Bs)(w:World):
  Calls Zb 112 #[.string (aB l)] w fun e w'=>e= .returned (.bool (aY l))∧Below w.heap.size w w':=by
 by_cases h0:l=[]
 ·subst h0
  go_enter Tryz.func112,Tryz.ntmps112
  go_wp2_with fail
  go_ret
  exact⟨rfl,Zd _ _⟩
 ·have h0':l.isEmpty=false:=by simpa using h0
  by_cases h20:l.length≤20
  ·cases hw:fm l
   ·have h:=v6 l h20 h0' hw w
    have e:aY l=eO true l:=by simp [aY,h0,h20,hw]
    rw[e];exact h
   ·go_enter Tryz.func112,Tryz.ntmps112
    go_wp2_with (go_at_call 144;refine(kU _ _).mono ?_;rintro e w1 ⟨rfl,rfl⟩)
    go_ret
    exact⟨aT (by simp [aY,hw]),Zd _ _⟩
  ·have h20':20<l.length:=by omega
   go_enter Tryz.func112,Tryz.ntmps112
   go_wp2_with fail
   go_ret
   exact⟨aT (by simp [aY,h20]),Zd _ _⟩
def fe(r:Int):Bool:=decide (r=32∨r=9∨r=10∨r=13)
def gO(r:Int):Bool:=de r||da r
theorem pB(r:Int)(w:World):Calls Zb 85 #[.int .i32 r] w fun e w'=>e= .returned (.bool (fe r))∧w=w':=by
 go_enter Tryz.func85,Tryz.ntmps85
 go_wp2
 all_goals go_ret
 all_goals(refine⟨aT ?_,rfl⟩;rw[Zf];simp [fe];try omega)
theorem pH(r:Int)(w:World):Calls Zb 143 #[.int .i32 r] w fun e w'=>e= .returned (.bool (gO r))∧w=w':=by
 unfold gO
 cases hl:de r
 ·go_enter Tryz.func143,Tryz.ntmps143
  go_wp2_with fail
  refine(dk _ _).mono ?_;rw[hl];rintro e w1 ⟨rfl,rfl⟩;go_wp2_with fail
  refine(fW _ _).mono ?_;rintro e w1 ⟨rfl,rfl⟩;go_wp2_with fail
  go_ret
  exact⟨rfl,rfl⟩
 ·go_enter Tryz.func143,Tryz.ntmps143
  go_wp2_with fail
  refine(dk _ _).mono ?_;rw[hl];rintro e w1 ⟨rfl,rfl⟩;go_wp2_with fail
  go_ret
  exact⟨rfl,rfl⟩
def eu(p:Int→Bool)(b:Bs):Prop:=b=[]∨∃c r,b=c::r∧c.toNat<128∧p (c.toNat:Nat)=false
theorem o7(a b:Bs)(ha:∀c,c∈a→c.toNat<128∧fe (c.toNat:Nat)=true)(hb:eu fe b)(w:World):
  Calls Zb 84 #[.string (aB (a++b)),.func (.func 85) #[] #[]] w fun e w'=>e= .returned (.int .i64 a.length)∧Below w.heap.size w w':=by
 have HAA:=Za ha;have HBB:=Za hb;obtain⟨l,hl⟩:∃l,l=a++b:=⟨_,rfl⟩;rw[←hl];have HL:=Za hl;have hlen:l.length=a.length+b.length:=by rw[hl,Zc]
 have hle:a.length≤l.length:=by omega
 have HLEN:=Za hlen;clear ha hb hl hlen;go_enter Tryz.func84,Tryz.ntmps84
 go_wp2_with fail
 go_loopw [5,6] (fun _ _ wr=> ∃k:Nat,k≤a.length∧wr=w.iter (aB l) k) (fun _ _ wr=>a.length+1 - wr.iterPos w.heap.size)
 case atStart=>exact⟨0,Nat.zero_le _,rfl⟩
 case round=>
  obtain⟨k,hk,rfl⟩:=hrel
  by_cases hlt:k<l.length
  ·have hnx:=fun ty=>run_next_any (P:=Zb) w (aB l) k ty hlt
   have hs:k<(aB l).size:=hlt
   by_cases hka:k<a.length
   ·have hc:l[k]=a[k]:=by have:=HL.out;subst this;exact Zj hka
    have hq:=HAA.out a[k] (Ze hka);rw[decode_ascii (aB l) k hs (by show l[k].toNat<128;rw[hc];exact hq.1)]at hnx;have he:(aB l)[k]'hs=l[k]:=rfl;rw[he,hc]at hnx;have HQ:=Za hq.2;clear hc hq he;go_wp2_with fail
    refine(pB _ _).mono ?_;rw[HQ.out];rintro e w1 ⟨rfl,rfl⟩;go_wp2_with fail
    go_roundw
    case rel=>exact⟨k+1,hka,rfl⟩
    case measure=>simp;omega
   ·have hke:k=a.length:=by omega
    subst hke;have hbn:b≠[]:=by intro e;have:=HLEN.out;rw[e]at this;simp at this;omega
    obtain⟨c,r,hb,hc1,hc2⟩:=HBB.out.resolve_left hbn;have hc:l[a.length]=c:=by have:=HL.out;subst this;subst hb;simp
    rw[decode_ascii (aB l) _ hs (by show l[a.length].toNat<128;rw[hc];exact hc1)]at hnx;have he:(aB l)[a.length]'hs=l[a.length]:=rfl;rw[he,hc]at hnx;have HQ:=Za hc2;clear hc hc1 hc2 hb he;go_wp2_with fail
    refine(pB _ _).mono ?_;rw[HQ.out];rintro e w1 ⟨rfl,rfl⟩;go_wp2_with fail
    go_ret
    exact⟨rfl,bA⟩
  ·have hnx:=fun ty=>run_next_end (P:=Zb) w (aB l) k ty hlt
   have hz:l.length=a.length:=by omega
   go_wp2_with fail
   go_ret
   exact⟨e9 (by omega),bA⟩
theorem rP(a b:Bs)(ha:∀c,c∈a→c.toNat<128∧gO (c.toNat:Nat)=true)(hb:eu gO b)(w:World):
  Calls Zb 84 #[.string (aB (a++b)),.func (.func 143) #[] #[]] w fun e w'=>e= .returned (.int .i64 a.length)∧Below w.heap.size w w':=by
 have HAA:=Za ha;have HBB:=Za hb;obtain⟨l,hl⟩:∃l,l=a++b:=⟨_,rfl⟩;rw[←hl];have HL:=Za hl;have hlen:l.length=a.length+b.length:=by rw[hl,Zc]
 have hle:a.length≤l.length:=by omega
 have HLEN:=Za hlen;clear ha hb hl hlen;go_enter Tryz.func84,Tryz.ntmps84
 go_wp2_with fail
 go_loopw [5,6] (fun _ _ wr=> ∃k:Nat,k≤a.length∧wr=w.iter (aB l) k) (fun _ _ wr=>a.length+1 - wr.iterPos w.heap.size)
 case atStart=>exact⟨0,Nat.zero_le _,rfl⟩
 case round=>
  obtain⟨k,hk,rfl⟩:=hrel
  by_cases hlt:k<l.length
  ·have hnx:=fun ty=>run_next_any (P:=Zb) w (aB l) k ty hlt
   have hs:k<(aB l).size:=hlt
   by_cases hka:k<a.length
   ·have hc:l[k]=a[k]:=by have:=HL.out;subst this;exact Zj hka
    have hq:=HAA.out a[k] (Ze hka);rw[decode_ascii (aB l) k hs (by show l[k].toNat<128;rw[hc];exact hq.1)]at hnx;have he:(aB l)[k]'hs=l[k]:=rfl;rw[he,hc]at hnx;have HQ:=Za hq.2;clear hc hq he;go_wp2_with fail
    refine(pH _ _).mono ?_;rw[HQ.out];rintro e w1 ⟨rfl,rfl⟩;go_wp2_with fail
    go_roundw
    case rel=>exact⟨k+1,hka,rfl⟩
    case measure=>simp;omega
   ·have hke:k=a.length:=by omega
    subst hke;have hbn:b≠[]:=by intro e;have:=HLEN.out;rw[e]at this;simp at this;omega
    obtain⟨c,r,hb,hc1,hc2⟩:=HBB.out.resolve_left hbn;have hc:l[a.length]=c:=by have:=HL.out;subst this;subst hb;simp
    rw[decode_ascii (aB l) _ hs (by show l[a.length].toNat<128;rw[hc];exact hc1)]at hnx;have he:(aB l)[a.length]'hs=l[a.length]:=rfl;rw[he,hc]at hnx;have HQ:=Za hc2;clear hc hc1 hc2 hb he;go_wp2_with fail
    refine(pH _ _).mono ?_;rw[HQ.out];rintro e w1 ⟨rfl,rfl⟩;go_wp2_with fail
    go_ret
    exact⟨rfl,bA⟩
  ·have hnx:=fun ty=>run_next_end (P:=Zb) w (aB l) k ty hlt
   have hz:l.length=a.length:=by omega
   go_wp2_with fail
   go_ret
   exact⟨e9 (by omega),bA⟩
theorem vO(a b:Bs)(ha:∀c,c∈a→c.toNat<128∧da (c.toNat:Nat)=true)(hb:eu da b)(w:World):
  Calls Zb 84 #[.string (aB (a++b)),.func (.func 91) #[] #[]] w fun e w'=>e= .returned (.int .i64 a.length)∧Below w.heap.size w w':=by
 have HAA:=Za ha;have HBB:=Za hb;obtain⟨l,hl⟩:∃l,l=a++b:=⟨_,rfl⟩;rw[←hl];have HL:=Za hl;have hlen:l.length=a.length+b.length:=by rw[hl,Zc]
 have hle:a.length≤l.length:=by omega
 have HLEN:=Za hlen;clear ha hb hl hlen;go_enter Tryz.func84,Tryz.ntmps84
 go_wp2_with fail
 go_loopw [5,6] (fun _ _ wr=> ∃k:Nat,k≤a.length∧wr=w.iter (aB l) k) (fun _ _ wr=>a.length+1 - wr.iterPos w.heap.size)
 case atStart=>exact⟨0,Nat.zero_le _,rfl⟩
 case round=>
  obtain⟨k,hk,rfl⟩:=hrel
  by_cases hlt:k<l.length
  ·have hnx:=fun ty=>run_next_any (P:=Zb) w (aB l) k ty hlt
   have hs:k<(aB l).size:=hlt
   by_cases hka:k<a.length
   ·have hc:l[k]=a[k]:=by have:=HL.out;subst this;exact Zj hka
    have hq:=HAA.out a[k] (Ze hka);rw[decode_ascii (aB l) k hs (by show l[k].toNat<128;rw[hc];exact hq.1)]at hnx;have he:(aB l)[k]'hs=l[k]:=rfl;rw[he,hc]at hnx;have HQ:=Za hq.2;clear hc hq he;go_wp2_with fail
    refine(fW _ _).mono ?_;rw[HQ.out];rintro e w1 ⟨rfl,rfl⟩;go_wp2_with fail
    go_roundw
    case rel=>exact⟨k+1,hka,rfl⟩
    case measure=>simp;omega
   ·have hke:k=a.length:=by omega
    subst hke;have hbn:b≠[]:=by intro e;have:=HLEN.out;rw[e]at this;simp at this;omega
    obtain⟨c,r,hb,hc1,hc2⟩:=HBB.out.resolve_left hbn;have hc:l[a.length]=c:=by have:=HL.out;subst this;subst hb;simp
    rw[decode_ascii (aB l) _ hs (by show l[a.length].toNat<128;rw[hc];exact hc1)]at hnx;have he:(aB l)[a.length]'hs=l[a.length]:=rfl;rw[he,hc]at hnx;have HQ:=Za hc2;clear hc hc1 hc2 hb he;go_wp2_with fail
    refine(fW _ _).mono ?_;rw[HQ.out];rintro e w1 ⟨rfl,rfl⟩;go_wp2_with fail
    go_ret
    exact⟨rfl,bA⟩
  ·have hnx:=fun ty=>run_next_end (P:=Zb) w (aB l) k ty hlt
   have hz:l.length=a.length:=by omega
   go_wp2_with fail
   go_ret
   exact⟨e9 (by omega),bA⟩
def br(n:Nat):Prop:=n≤140737488355328
theorem br.out {n:Nat}(h:br n):n≤140737488355328:=h
theorem br.lt {n:Nat}(h:br n):n<9223372036854775807:=by have:=h.out;omega
theorem br.mono {m n:Nat}(h:br n)(hm:m≤n):br m:=Nat.le_trans hm h
def I64(n:Int):Prop:= -9223372036854775808≤n∧n≤9223372036854775807
def Ex.nil:Ex:= .mk 0 0 0 [] []
abbrev bI(l:List Ex)(i:Nat):Ex:=l.getD i Ex.nil
def St.nil:St:= .mk 0 [] [] [] []
abbrev ez(l:List St)(i:Nat):St:=l.getD i St.nil
inductive aJ (D:Nat→Prop)(w:World):List Ex→Value→Prop
 |mk (l:List Ex) (a:Option Addr) (cap b off:Nat) (sv:Nat→Value) (hcap:l.length≤cap) (hfit:br l.length)
  (ha:l.length=0∨(a=some ⟨b,off,none⟩∧D b))
  (h0:∀i,i<l.length→w.cell? ⟨b,off+i*5,none⟩=some (.int .i64 (bI l i).kind))
  (h1:∀i,i<l.length→w.cell? ⟨b,off+i*5+1,none⟩=some (.int .i64 (bI l i).op))
  (h2:∀i,i<l.length→w.cell? ⟨b,off+i*5+2,none⟩=some (.int .i64 (bI l i).n))
  (h3:∀i,i<l.length→w.cell? ⟨b,off+i*5+3,none⟩=some (.string (aB (bI l i).name)))
  (h4:∀i,i<l.length→w.cell? ⟨b,off+i*5+4,none⟩=some (sv i))
  (hs:∀i,i<l.length→aJ D w (bI l i).args (sv i))
  (hn:∀i,i<l.length→I64 (bI l i).n):aJ D w l (.slice a l.length cap)
def cd(D:Nat→Prop)(w w':World):Prop:= ∀b off x,D b→w.cell? ⟨b,off,none⟩=some x→w'.cell? ⟨b,off,none⟩=some x
theorem cd.refl(D:Nat→Prop)(w:World):cd D w w:=fun _ _ _ _ h=>h
theorem cd.trans {D:Nat→Prop}{a b c:World}(h:cd D a b)(k:cd D b c):cd D a c:=fun _ _ _ d x=>k _ _ _ d (h _ _ _ d x)
theorem aw {D:Nat→Prop}{w w':World}(h:Below w.heap.size w w'):cd D w w':=fun _ _ _ _ hx=>aE h hx
theorem aJ.keep {D:Nat→Prop}{w w':World}(hk:cd D w w'){l:List Ex}{v:Value}(h:aJ D w l v):aJ D w' l v:=by
 induction h with
 |mk l a cap b off sv hcap hfit ha h0 h1 h2 h3 h4 _ hn ih=>
  rcases ha with ha|⟨ha,hD⟩
  ·refine .mk l a cap b off sv hcap hfit (.inl ha) ?_ ?_ ?_ ?_ ?_ ih hn<;>(intro i hi;omega)
  ·exact .mk l a cap b off sv hcap hfit (.inr ⟨ha,hD⟩) (fun i hi=>hk _ _ _ hD (h0 i hi)) (fun i hi=>hk _ _ _ hD (h1 i hi)) (fun i hi=>hk _ _ _ hD (h2 i hi))
    (fun i hi=>hk _ _ _ hD (h3 i hi)) (fun i hi=>hk _ _ _ hD (h4 i hi)) ih hn
theorem aJ.mono {D D':Nat→Prop}{w:World}(hD:∀b,D b→D' b){l:List Ex}{v:Value}(h:aJ D w l v):aJ D' w l v:=by
 induction h with
 |mk l a cap b off sv hcap hfit ha h0 h1 h2 h3 h4 _ hn ih=>exact .mk l a cap b off sv hcap hfit (ha.imp id fun h=>⟨h.1,hD _ h.2⟩) h0 h1 h2 h3 h4 ih hn
theorem aJ.old {D:Nat→Prop}{w w':World}(hb:Below w.heap.size w w'){l:List Ex}{v:Value}(h:aJ D w l v):aJ D w' l v:=h.keep (aw hb)
inductive aR (D:Nat→Prop)(w:World):List St→Value→Prop
 |mk (l:List St) (a:Option Addr) (cap b off:Nat) (sa st se:Nat→Value) (hcap:l.length≤cap) (hfit:br l.length)
  (ha:l.length=0∨(a=some ⟨b,off,none⟩∧D b))
  (h0:∀i,i<l.length→w.cell? ⟨b,off+i*5,none⟩=some (.int .i64 (ez l i).kind))
  (h1:∀i,i<l.length→w.cell? ⟨b,off+i*5+1,none⟩=some (.string (aB (ez l i).name)))
  (h2:∀i,i<l.length→w.cell? ⟨b,off+i*5+2,none⟩=some (sa i))
  (h3:∀i,i<l.length→w.cell? ⟨b,off+i*5+3,none⟩=some (st i))
  (h4:∀i,i<l.length→w.cell? ⟨b,off+i*5+4,none⟩=some (se i))
  (ea:∀i,i<l.length→aJ D w (ez l i).args (sa i))
  (et:∀i,i<l.length→aR D w (ez l i).thn (st i))
  (ee:∀i,i<l.length→aR D w (ez l i).els (se i)):aR D w l (.slice a l.length cap)
theorem aR.keep {D:Nat→Prop}{w w':World}(hk:cd D w w'){l:List St}{v:Value}(h:aR D w l v):aR D w' l v:=by
 induction h with
 |mk l a cap b off sa st se hcap hfit ha h0 h1 h2 h3 h4 ea _ _ ih1 ih2=>
  rcases ha with ha|⟨ha,hD⟩
  ·refine .mk l a cap b off sa st se hcap hfit (.inl ha) ?_ ?_ ?_ ?_ ?_ ?_ ih1 ih2<;>(intro i hi;omega)
  ·exact .mk l a cap b off sa st se hcap hfit (.inr ⟨ha,hD⟩) (fun i hi=>hk _ _ _ hD (h0 i hi)) (fun i hi=>hk _ _ _ hD (h1 i hi)) (fun i hi=>hk _ _ _ hD (h2 i hi))
    (fun i hi=>hk _ _ _ hD (h3 i hi)) (fun i hi=>hk _ _ _ hD (h4 i hi)) (fun i hi=>(ea i hi).keep hk) ih1 ih2
theorem aR.mono {D D':Nat→Prop}{w:World}(hD:∀b,D b→D' b){l:List St}{v:Value}(h:aR D w l v):aR D' w l v:=by
 induction h with
 |mk l a cap b off sa st se hcap hfit ha h0 h1 h2 h3 h4 ea _ _ ih1 ih2=>exact .mk l a cap b off sa st se hcap hfit (ha.imp id fun h=>⟨h.1,hD _ h.2⟩) h0 h1 h2 h3 h4 (fun i hi=>(ea i hi).mono hD) ih1 ih2
theorem aR.old {D:Nat→Prop}{w w':World}(hb:Below w.heap.size w w'){l:List St}{v:Value}(h:aR D w l v):aR D w' l v:=h.keep (aw hb)
theorem aJ.shape {D:Nat→Prop}{w:World}{l:List Ex}{v:Value}(h:aJ D w l v):∃a cap,v= .slice a l.length cap:=by cases h;exact⟨_,_,rfl⟩
theorem aJ.cell0 {D:Nat→Prop}{w:World}{l:List Ex}{a:Option Addr}{n cap:Nat}(h:aJ D w l (.slice a n cap))(hl:0<l.length):∃b off,a=some ⟨b,off,none⟩∧w.cell? ⟨b,off,none⟩=some (.int .i64 (bI l 0).kind):=by
 cases h with
 |mk _ _ _ b off sv hcap hfit ha h0=>
  rcases ha with ha|⟨ha,_⟩
  ·omega
  ·exact⟨b,off,ha,by simpa using h0 0 hl⟩
theorem aJ.cellAt {D:Nat→Prop}{w:World}{l:List Ex}{a:Option Addr}{n cap:Nat}(h:aJ D w l (.slice a n cap))(i:Nat)(hl:i<l.length):∃b off s,a=some ⟨b,off,none⟩∧D b∧
  w.cell? ⟨b,off+i*5,none⟩=some (.int .i64 (bI l i).kind)∧w.cell? ⟨b,off+i*5+1,none⟩=some (.int .i64 (bI l i).op)∧w.cell? ⟨b,off+i*5+2,none⟩=some (.int .i64 (bI l i).n)∧
  w.cell? ⟨b,off+i*5+3,none⟩=some (.string (aB (bI l i).name))∧w.cell? ⟨b,off+i*5+4,none⟩=some s∧aJ D w (bI l i).args s∧I64 (bI l i).n:=by
 cases h with
 |mk _ _ _ b off sv hcap hfit ha h0 h1 h2 h3 h4 hs hn=>
  rcases ha with ha|⟨ha,hD⟩
  ·omega
  ·exact⟨b,off,sv i,ha,hD,h0 i hl,h1 i hl,h2 i hl,h3 i hl,h4 i hl,hs i hl,hn i hl⟩
theorem aJ.fits {D:Nat→Prop}{w:World}{l:List Ex}{v:Value}(h:aJ D w l v):br l.length:=by
 cases h with
 |mk _ _ _ b off sv hcap hfit=>exact hfit
theorem aR.shape {D:Nat→Prop}{w:World}{l:List St}{v:Value}(h:aR D w l v):∃a cap,v= .slice a l.length cap:=by cases h;exact⟨_,_,rfl⟩
def ag(D:Nat→Prop)(w:World)(l:List Bs)(v:Value):Prop:=
 ∃a cap b off,v= .slice a l.length cap∧l.length≤cap∧br l.length∧(l.length=0∨(a=some ⟨b,off,none⟩∧D b))∧
  ∀i,i<l.length→w.cell? ⟨b,off+i,none⟩=some (.string (aB (l.getD i [])))
theorem ag.keep {D:Nat→Prop}{w w':World}(hk:cd D w w'){l:List Bs}{v:Value}(h:ag D w l v):ag D w' l v:=by
 obtain⟨a,cap,b,off,hv,h1,h2,h3,h4⟩:=h;refine⟨a,cap,b,off,hv,h1,h2,h3,fun i hi=> ?_⟩;rcases h3 with h3|⟨_,hD⟩
 ·omega
 ·exact hk _ _ _ hD (h4 i hi)
theorem ag.old {D:Nat→Prop}{w w':World}(hb:Below w.heap.size w w'){l:List Bs}{v:Value}(h:ag D w l v):ag D w' l v:=h.keep (aw hb)
theorem ag.mono {D D':Nat→Prop}{w:World}(hD:∀b,D b→D' b){l:List Bs}{v:Value}(h:ag D w l v):ag D' w l v:=by
 obtain⟨a,cap,b,off,hv,h1,h2,h3,h4⟩:=h;exact⟨a,cap,b,off,hv,h1,h2,h3.imp id fun h=>⟨h.1,hD _ h.2⟩,h4⟩
def Ar.nil:Ar:=⟨[],0⟩
def Fu.nil:Fu:=⟨[],[],[],[]⟩
abbrev gV(l:List Ar)(i:Nat):Ar:=l.getD i Ar.nil
abbrev cZ(l:List Fu)(i:Nat):Fu:=l.getD i Fu.nil
def bK(D:Nat→Prop)(w:World)(l:List Ar)(v:Value):Prop:=
 ∃a cap b off,v= .slice a l.length cap∧l.length≤cap∧br l.length∧(l.length=0∨(a=some ⟨b,off,none⟩∧D b))∧
  ∀i,i<l.length→w.cell? ⟨b,off+i*2,none⟩=some (.string (aB (gV l i).name))∧w.cell? ⟨b,off+i*2+1,none⟩=some (.int .i64 (gV l i).size)
theorem bK.keep {D:Nat→Prop}{w w':World}(hk:cd D w w'){l:List Ar}{v:Value}(h:bK D w l v):bK D w' l v:=by
 obtain⟨a,cap,b,off,hv,h1,h2,h3,h4⟩:=h;refine⟨a,cap,b,off,hv,h1,h2,h3,fun i hi=> ?_⟩;rcases h3 with h3|⟨_,hD⟩
 ·omega
 ·exact⟨hk _ _ _ hD (h4 i hi).1,hk _ _ _ hD (h4 i hi).2⟩
theorem bK.old {D:Nat→Prop}{w w':World}(hb:Below w.heap.size w w'){l:List Ar}{v:Value}(h:bK D w l v):bK D w' l v:=h.keep (aw hb)
def bM(D:Nat→Prop)(w:World)(l:List Fu)(v:Value):Prop:=
 ∃a cap b off,∃pv lv bv:Nat→Value,v= .slice a l.length cap∧l.length≤cap∧br l.length∧(l.length=0∨(a=some ⟨b,off,none⟩∧D b))∧
  ∀i,i<l.length→(w.cell? ⟨b,off+i*4,none⟩=some (.string (aB (cZ l i).name))∧w.cell? ⟨b,off+i*4+1,none⟩=some (pv i)∧w.cell? ⟨b,off+i*4+2,none⟩=some (lv i)∧w.cell? ⟨b,off+i*4+3,none⟩=some (bv i))∧
   ag D w (cZ l i).params (pv i)∧ag D w (cZ l i).locals (lv i)∧aR D w (cZ l i).body (bv i)
theorem bM.keep {D:Nat→Prop}{w w':World}(hk:cd D w w'){l:List Fu}{v:Value}(h:bM D w l v):bM D w' l v:=by
 obtain⟨a,cap,b,off,pv,lv,bv,hv,h1,h2,h3,h4⟩:=h;refine⟨a,cap,b,off,pv,lv,bv,hv,h1,h2,h3,fun i hi=> ?_⟩;rcases h3 with h3|⟨_,hD⟩
 ·omega
 ·obtain⟨⟨c0,c1,c2,c3⟩,e1,e2,e3⟩:=h4 i hi
  exact⟨⟨hk _ _ _ hD c0,hk _ _ _ hD c1,hk _ _ _ hD c2,hk _ _ _ hD c3⟩,e1.keep hk,e2.keep hk,e3.keep hk⟩
theorem bM.old {D:Nat→Prop}{w w':World}(hb:Below w.heap.size w w'){l:List Fu}{v:Value}(h:bM D w l v):bM D w' l v:=h.keep (aw hb)
theorem x5 {l:List Ar}{i:Nat}(h:i<l.length):gV l i∈l:=by
 simp only[gV,Zg,Zh h,Option.getD_some];exact Ze h
theorem lH {l:List Fu}{i:Nat}(h:i<l.length):cZ l i∈l:=by
 simp only[cZ,Zg,Zh h,Option.getD_some];exact Ze h
theorem pV {α:Type}(l:List α)(d:α)(f:α→Bool)(h:∀i,i<l.length→f (l.getD i d)=true):l.all f=true:=by
 rw[List.all_eq_true];intro x hx;obtain⟨i,hi,rfl⟩:=List.getElem_of_mem hx;have:=h i hi
 rwa[Zg,Zh hi,Option.getD_some]at this
theorem ky {α:Type}(l:List α)(d:α)(f:α→Bool)(i:Nat)(hi:i<l.length)(h:f (l.getD i d)=false):l.all f=false:=by
 rw[List.all_eq_false];refine⟨l[i],Ze hi,?_⟩;rw[Zg,Zh hi,Option.getD_some]at h;simp [h]
structure SFr (s:Nat)(w w':World):Prop where
 os:w'.os=w.os
 tape:w'.tape=w.tape
 output:w'.output=w.output
 size:w.heap.size≤w'.heap.size
 block:∀k,k<w.heap.size→k≠s→w'.heap[k]? =w.heap[k]?
theorem SFr.refl(s:Nat)(w:World):SFr s w w:=⟨rfl,rfl,rfl,Nat.le_refl _,fun _ _ _=>rfl⟩
theorem SFr.trans {s:Nat}{u v w:World}(h:SFr s u v)(k:SFr s v w):SFr s u w:=
 ⟨k.os.trans h.os,k.tape.trans h.tape,k.output.trans h.output,Nat.le_trans h.size k.size,fun i hi hb=>(k.block i (Nat.lt_of_lt_of_le hi h.size) hb).trans (h.block i hi hb)⟩
theorem SFr.of_below {s:Nat}{w w':World}(h:Below w.heap.size w w'):SFr s w w':=⟨h.os,h.tape,h.output,h.size,fun k hk _=>h.block k hk⟩
theorem SFr.below {s:Nat}{w w':World}(h:SFr s w w')(hs:s≤w.heap.size):Below s w w':=
 ⟨h.os,h.tape,h.output,h.size,fun k hk=>h.block k (by omega) (by omega)⟩
theorem SFr.cell {s:Nat}{w w':World}(h:SFr s w w'){b off:Nat}{x:Value}(hb:b≠s)(hx:w.cell? ⟨b,off,none⟩=some x):w'.cell? ⟨b,off,none⟩=some x:=by
 rw[World.cell?_of_block (w:=w) (h.block b (World.block_lt_of_cell? _ _ hx) hb)];exact hx
theorem SFr.keeps {s:Nat}{w w':World}(h:SFr s w w'):cd (· ≠s) w w':=fun _ _ _ hD hx=>h.cell hD hx
theorem SFr.keepsD {s:Nat}{w w':World}(h:SFr s w w'){D:Nat→Prop}(hD:∀b,D b→b≠s):cd D w w':=fun _ _ _ hd hx=>h.cell (hD _ hd) hx
theorem SFr.drewN {s n:Nat}{w w1:World}(h:SFr s w w1):SFr s w (w1.drewN n):=⟨h.os,h.tape,h.output,h.size,h.block⟩
def aG(w:World)(b:Nat)(cs:List Value)(T:TypeId):Prop:=w.heap[b]? =some (.cells cs.toArray T (0,0))
theorem aG.new(w:World)(cs:List Value)(T:TypeId):aG (w.alloc (.cells cs.toArray T)) w.heap.size cs T:=Array.getElem?_push_size
theorem aG.lt {w:World}{b:Nat}{cs:List Value}{T:TypeId}(h:aG w b cs T):b<w.heap.size:=by
 rcases Nat.lt_or_ge b w.heap.size with h'|h'
 ·exact h'
 ·unfold aG at h;simp [Array.getElem?_eq_none h']at h
theorem aG.at {w:World}{b:Nat}{cs:List Value}{T:TypeId}(h:aG w b cs T)(i:Nat)(v:Value)(hi:cs[i]? =some v):w.cell? ⟨b,i,none⟩=some v:=by
 rw[Lib.cell_of_heap h];simpa using hi
theorem aG.fz {w:World}{b:Nat}{cs:List Value}{T:TypeId}(h:aG w b cs T)(i:Nat):w.frozen? ⟨b,i,none⟩=false:=Lib.frozen_of_heap h i
theorem aG.old {w w':World}{b:Nat}{cs:List Value}{T:TypeId}(h:aG w b cs T)(hb:Below w.heap.size w w'):aG w' b cs T:=(hb.block b h.lt).trans h
theorem aG.alloc {w:World}{b:Nat}{cs:List Value}{T:TypeId}(h:aG w b cs T)(o:Obj):aG (w.alloc o) b cs T:=h.old (bA)
theorem aG.sfr {s:Nat}{w w':World}{b:Nat}{cs:List Value}{T:TypeId}(h:aG w b cs T)(hf:SFr s w w')(hb:b≠s):aG w' b cs T:=(hf.block b h.lt hb).trans h
theorem aG.set {w:World}{b:Nat}{cs:List Value}{T:TypeId}(h:aG w b cs T)(i:Nat)(v:Value):aG (w.setCell ⟨b,i,none⟩ v) b (cs.set i v) T:=by
 unfold aG at*;simp [World.setCell,Array.getElem?_modify,h]
theorem aG.other {w:World}{b:Nat}{cs:List Value}{T:TypeId}(h:aG w b cs T){k:Nat}(hk:b≠k)(i:Nat)(v:Value):aG (w.setCell ⟨k,i,none⟩ v) b cs T:=by
 unfold aG at*;rw[Zi _ _ _ _ hk];exact h
theorem aN {D:Nat→Prop}(w:World){k:Nat}(hD:¬D k)(i:Nat)(v:Value):cd D w (w.setCell ⟨k,i,none⟩ v):=fun b off x hb hx=>by
 rw[World.cell?_of_block (w:=w) (Zi _ _ _ _ (by rintro rfl;exact hD hb))];exact hx
theorem mb(w:World){b c i j:Nat}{v:Value}(h:c≠b):(w.setCell ⟨b,i,none⟩ v).cell? ⟨c,j,none⟩=w.cell? ⟨c,j,none⟩:=
 World.cell?_of_block (w:=w) (Zi _ _ _ _ h)
theorem SFr.setNew {s:Nat}{w w1:World}(h:SFr s w w1){b:Nat}(hb:w.heap.size≤b)(i:Nat)(v:Value):SFr s w (w1.setCell ⟨b,i,none⟩ v):=
 ⟨h.os,h.tape,h.output,by simpa [World.setCell]using h.size,fun k hk hs=>(Zi _ _ _ _ (by show k≠b;omega)).trans (h.block k hk hs)⟩
theorem kC {D D':Nat→Prop}{w w':World}(h:cd D' w w')(hD:∀b,D b→D' b):cd D w w':=fun b off x hb hx=>h b off x (hD b hb) hx
theorem SFr.fresh {s:Nat}{w w':World}(h:SFr s w w'){B:Nat}(hB:s<B):cd (B≤ ·) w w':=h.keepsD (fun b hb=>by show b≠s;have:B≤b:=hb;omega)
theorem ax(w:World){B k:Nat}(hk:k<B)(i:Nat)(v:Value):cd (B≤ ·) w (w.setCell ⟨k,i,none⟩ v):=aN w (by omega) i v
def eQ(kind:Int)(text:Bs)(n line:Int):Value:= .agg #[.int .i64 kind,.string (aB text),.int .i64 n,.int .i64 line]
theorem fL(a b:Bs):(aB (a++b)).extract 0 a.length=aB a:=by
 apply ByteArray.ext
 rw[ByteArray.data_extract];simp [aB]
theorem r7(w0 w:World)(h:Below w0.heap.size w0 w)(v0 v1 v2 v3:Value):Below w0.heap.size w0 ((((w.setCell ⟨w0.heap.size,0,none⟩ v0).setCell ⟨w0.heap.size,1,none⟩ v1).setCell ⟨w0.heap.size,2,none⟩ v2).setCell ⟨w0.heap.size,3,none⟩ v3):=
 have st:∀(v:World) (i:Nat) (x:Value),Below w0.heap.size v (v.setCell ⟨w0.heap.size,i,none⟩ x):=fun v i x=>(Zd _ _).setCell (p:=⟨w0.heap.size,i,none⟩) (Nat.le_refl _) x
 (((h.trans (st _ _ _)).trans (st _ _ _)).trans (st _ _ _)).trans (st _ _ _)
theorem pT(a b:Bs)(ha:∀c,c∈a→c.toNat<128∧gO (c.toNat:Nat)=true)(hb:eu gO b)(hk:fm a=false)(hn:aY a=true)(w:World):
  Calls Zb 90 #[.string (aB (a++b))] w fun e w'=>e= .returned (.tuple #[eQ 1 a 0 0,.bool true])∧Below w.heap.size w w':=by
 have HR:=Za (fun w1=>rP a b ha hb w1);have HW:=Za hk;have HN:=Za hn;have hl1:(a.length:Int)≤((a++b).length:Int):=by rw[Zc];omega
 have hl2:a.length≤(a++b).length:=by rw[Zc];omega
 have HO:=Za (aG.new w [.int .i64 0,.string ⟨#[]⟩,.int .i64 0,.int .i64 0] 50);have HB0:=Za ((Zd w.heap.size w).alloc (Nat.le_refl _) (.cells #[.int .i64 0,.string ⟨#[]⟩,.int .i64 0,.int .i64 0] 50));clear ha hb hk hn;go_enter Tryz.func90,Tryz.ntmps90
 go_wp2_with fail
 refine(HR.out _).mono ?_;rintro e w1 ⟨rfl,hb1⟩;have HO1:=Za (HO.out.old hb1);have HB1:=Za (HB0.out.trans (hb1.mono HB0.out.size));clear hb1;go_wp2_with fail
 rw[fL];refine(kU a _).mono ?_;rw[HW.out];rintro e w2 ⟨rfl,hw2⟩;obtain rfl:w1=w2:=hw2;go_wp2_with fail
 refine(gz a _).mono ?_;rw[HN.out];rintro e w2 ⟨rfl,hb2⟩;have HO2:=Za (HO1.out.old hb2);have HB2:=Za (HB1.out.trans (hb2.mono HB1.out.size));clear hb2;have q0:=HO2.out.at 0 _ rfl;have q1:=HO2.out.at 1 _ rfl;have q2:=HO2.out.at 2 _ rfl;have q3:=HO2.out.at 3 _ rfl;have f0:=HO2.out.fz 0;have f1:=HO2.out.fz 1;have f2:=HO2.out.fz 2;have f3:=HO2.out.fz 3;have ql:=HO2.out.lt;go_wp2_with fail
 have HS:=Za ((((HO2.out.set 0 (.int .i64 1)).set 1 (.string (aB a))).set 2 (.int .i64 0)).set 3 (.int .i64 0));have e0:=HS.out.at 0 _ rfl;have e1:=HS.out.at 1 _ rfl;have e2:=HS.out.at 2 _ rfl;have e3:=HS.out.at 3 _ rfl;exact bodyPost_ret (v:= .tuple #[eQ 1 a 0 0,.bool true]) (by simp [results,Tryz.results90,go_sem,eQ,e0,e1,e2,e3]) rfl ⟨rfl,r7 w _ HB2.out _ _ _ _⟩
theorem ox(a b:Bs)(ha:∀c,c∈a→c.toNat<128∧gO (c.toNat:Nat)=true)(hb:eu gO b)(hk:fm a=true)(w:World):
  Calls Zb 90 #[.string (aB (a++b))] w fun e w'=>e= .returned (.tuple #[eQ 2 a 0 0,.bool true])∧Below w.heap.size w w':=by
 have HR:=Za (fun w1=>rP a b ha hb w1);have HW:=Za hk;have hl1:(a.length:Int)≤((a++b).length:Int):=by rw[Zc];omega
 have hl2:a.length≤(a++b).length:=by rw[Zc];omega
 have HO:=Za (aG.new w [.int .i64 0,.string ⟨#[]⟩,.int .i64 0,.int .i64 0] 50);have HB0:=Za ((Zd w.heap.size w).alloc (Nat.le_refl _) (.cells #[.int .i64 0,.string ⟨#[]⟩,.int .i64 0,.int .i64 0] 50));clear ha hb hk;go_enter Tryz.func90,Tryz.ntmps90
 go_wp2_with fail
 refine(HR.out _).mono ?_;rintro e w1 ⟨rfl,hb1⟩;have HO1:=Za (HO.out.old hb1);have HB1:=Za (HB0.out.trans (hb1.mono HB0.out.size));clear hb1;go_wp2_with fail
 rw[fL];refine(kU a _).mono ?_;rw[HW.out];rintro e w2 ⟨rfl,hw2⟩;obtain rfl:w1=w2:=hw2;have q0:=HO1.out.at 0 _ rfl;have q1:=HO1.out.at 1 _ rfl;have q2:=HO1.out.at 2 _ rfl;have q3:=HO1.out.at 3 _ rfl;have f0:=HO1.out.fz 0;have f1:=HO1.out.fz 1;have f2:=HO1.out.fz 2;have f3:=HO1.out.fz 3;have ql:=HO1.out.lt;go_wp2_with fail
 have HS:=Za ((((HO1.out.set 0 (.int .i64 2)).set 1 (.string (aB a))).set 2 (.int .i64 0)).set 3 (.int .i64 0));have e0:=HS.out.at 0 _ rfl;have e1:=HS.out.at 1 _ rfl;have e2:=HS.out.at 2 _ rfl;have e3:=HS.out.at 3 _ rfl;exact bodyPost_ret (v:= .tuple #[eQ 2 a 0 0,.bool true]) (by simp [results,Tryz.results90,go_sem,eQ,e0,e1,e2,e3]) rfl ⟨rfl,r7 w _ HB1.out _ _ _ _⟩
end Go.Proofs.YtcfpfnoldgnloaaGreatDoor
