/-
  Right trees have the shapes that texts are made of. Plain functions alone.
-/
import Derived.Test.YthcpopmmlneneaaGreatDoorPt17
set_option linter.unusedVariables false
set_option linter.unusedSimpArgs false
namespace Go.Proofs.YthcpopmmlneneaaGreatDoor
open Go.RowKit Go.Proofs.Tryz
set_option maxHeartbeats 20000000
set_option maxRecDepth 100000
open Go.RowKit renaming Hid→Zi,Below→Zj,intOf→Zk
open Go renaming World→Zl,Calls→Zm,bodyPost_ret→Zn
open Go.Lib renaming hid→Za
open Go.Proofs.Tryz renaming prog→Zb,results13→Zg
open Ad renaming new→Zc
open Nat renaming le_refl→Zd,lt_succ_iff_lt_or_eq→Zh
open List renaming all_eq_true→Ze
open Go.RowKit.Below renaming refl→Zf
abbrev stC(x:St)(a t e:Value):List Value:=[.int .i64 x.kind,.string (Aa x.name),a,t,e]
def sX(l:List St):Prop:= ∀(D:Nat→Prop) (v:Value) (w:Zl),Au D w l v→
 Zm Zb 76 #[v] w fun e w'=>e=.returned (.bool (Fl l))∧Zj w.heap.size w w'
theorem Ow {x:St}(a:x.args.all Cf=false∨Fl x.thn=false∨Fl x.els=false∨Ou x=false):Ly x=false:=by
 rw[Vz];rcases a with a|a|a|a<;>simp [a]
theorem cR {l:List St}{k:Nat}(b:k<l.length)(a:Ly (Fk l k)=false):Fl l=false:=by
 rw[Pp]
 cases q:l.all Ly
 ·rfl
 ·have:=Ze.1 q _ (Jy b)
  rw[a]at this;cases this
theorem oF {l:List Ex}{k:Nat}(b:k<l.length)(a:Cf (Bx l k)=false):l.all Cf=false:=by
 cases q:l.all Cf
 ·rfl
 ·have:=Ze.1 q _ (Cs b)
  rw[a]at this;cases this
theorem rW(l:List Ex):l.headD (.mk 0 0 0 [] [])=Bx l 0:=by cases l<;>rfl
def Dh(kd:Int)(e b c:Bool)(u a:Nat)(d:Bool):Bool:=
 if kd=1∨kd=2 then e && c else if kd=3 then b else if kd=4 then b && (u==0)else if kd=5∨kd=6 then b && c
 else if kd=7∨kd=8∨kd=9 then b && c else if kd=10 then b && c && (a==1) && d else false
def Di(kd:Int):Nat:=if kd=2 then 2 else if kd=5∨kd=6 then 0 else 1
theorem nQ(x:St):Ou x=(Dh x.kind (Ak x.name) (x.name==[]) (x.thn.length==0 && x.els.length==0) x.els.length x.args.length ((Bx x.args 0).kind==5) && (x.args.length==Di x.kind)):=by
 unfold Ou Dh Di;rw[rW]
theorem sj_step(l:List St)(aS:∀x,x∈l→sX x.thn)(aR:∀x,x∈l→sX x.els):sX l:=by
 intro D v w s;obtain⟨a,c,rfl⟩:=s.shape;have bS:=s.fits.lt;obtain⟨aW,bc,bb⟩:=Y3 s aS aR;clear s aS aR;go_enter func76,ntmps76;go_wp2
 go_loopw [3] (fun ay wr=> ∃k:Nat,k≤l.length∧ay= ι k∧Zi (∀i,i<k→Ly (Fk l i)=true)∧Zi (Zj w.heap.size w wr)) (fun ay _=>l.length-(Zk ay).toNat)
 case atStart=>exact⟨0,Nat.zero_le _,rfl,fun i r=>absurd r (by omega),Zf _ _⟩
 case round=>
  obtain⟨k,bM,rfl,Y,V⟩:=hrel;have ae:=Za (aW.out.old V.out)
  by_cases hlt:k<l.length
  ·have bN:(k:Int)<(l.length:Int):=by omega
   have aZ:=Za hlt;obtain⟨bg,M,an,bL,bK,rfl,aq,bq,u,I,J,K,P,E,S,R⟩:=Au.cellAt ae.out k hlt;obtain⟨aa,ax,rfl⟩:=E.shape;obtain⟨aA,aB,rfl⟩:=S.shape;obtain⟨u1,u2,rfl⟩:=R.shape;have bd:=E.fits.lt;have bw:=S.fits.lt;have u63:=R.fits.lt;obtain⟨am,al⟩:=Y2 (bc.out _ (Jy hlt) D) (bb.out _ (Jy hlt) D);have aK:Zi (∃x,Fk l k=x):=⟨_,rfl⟩;obtain⟨x,hx⟩:=aK.o;have ak:=Za hx;rw[hx]at u I J K P E S R bd bw u63 am al;clear hx aK;have g:Zi (Ly x=false→Fl l=false):=fun s=>cR aZ.o (by rw[ak.o];exact s)
   have h:Zi (Ly x=true→∀i,i<k+1→Ly (Fk l i)=true):=fun s i r=>by
    rcases Zh.1 r with G|G
    ·exact Y.o i G
    ·subst G;rw[ak.o];exact s
   clear Y ak;have Q:Zj wr.heap.size wr (wr.alloc (.cells #[ι x.kind,σ x.name,.slice aa x.args.length ax,.slice aA x.thn.length aB,.slice u1 x.els.length u2] 50)):=bA;obtain⟨aF,W,ag,aH,aG⟩:=Y5 (V.out.trans (Q.mono V.out.size)) (Zc wr (stC x (.slice aa x.args.length ax) (.slice aA x.thn.length aB) (.slice u1 x.els.length u2)) 50) (E.old Q) (S.old Q) (R.old Q);clear Q E S R aq bq ae;go_upto_region 5 with(fail);clear u I J K P;generalize wr.alloc (.cells #[ι x.kind,σ x.name,.slice aa x.args.length ax,.slice aA x.thn.length aB,.slice u1 x.els.length u2] 50)=aN at*;generalize wr.heap.size=bU at*;go_wp2
   go_loopw [5] (fun az aU=> ∃q:Nat,q≤x.args.length∧az= ι q∧Zi (∀i,i<q→Cf (Bx x.args i)=true)∧Zi (Zj w.heap.size w aU)∧Zi (Zj aN.heap.size aN aU)) (fun az _=>x.args.length-(Zk az).toNat)
   case atStart=>exact⟨0,Nat.zero_le _,rfl,fun i r=>absurd r (by omega),aF,Zf _ _⟩
   case round=>
    obtain⟨q,bO,rfl,aj,F,C⟩:=hrel;obtain⟨ad,aE⟩:=Y2 (W.out.old C.out) (ag.out.old C.out);have q2:=ad.out.at 2 _ rfl
    by_cases hqt:q<x.args.length
    ·have bP:(q:Int)<(x.args.length:Int):=by omega
     have ba:=Za hqt;obtain⟨bg,M,an,rfl,aq,u,I,J,K,P,E,bs⟩:=aE.out.cellAt q hqt;have p:=Za (Pc _ D an wr E);obtain⟨y,T⟩:∃y,Bx x.args q=y:=⟨_,rfl⟩;have aM:=Za T;rw[T]at u I J K p;clear T E bs aq
     cases hr:Cf y
     ·rw[hr]at p
      have O:Zi (Fl l=false):=g.o (Ow (.inl (oF ba.o (by rw[aM.o];exact hr))));clear hr h;go_wp2_with fail;refine p.o.mono ?_;rintro Z w2 ⟨rfl,t⟩;have af:=Za (F.out.trans (t.mono F.out.size));clear t q2 u I J K P p;go_wp2;go_ret
      exact⟨Ae O.o.symm,af.out⟩
     ·rw[hr]at p
      have aY:Zi (∀i,i<q+1→Cf (Bx x.args i)=true):=fun i r=>by
       rcases Zh.1 r with G|G
       ·exact aj.o i G
       ·subst G;rw[aM.o];exact hr
      clear hr;go_wp2_with fail;refine p.o.mono ?_;rintro Z w2 ⟨rfl,t⟩;obtain⟨af,aV⟩:=Y2 (F.out.trans (t.mono F.out.size)) (C.out.trans (t.mono C.out.size));clear t q2 u I J K P p;go_wp2;go_roundw
      case rel=>exact⟨q+1,by omega,by go_num,aY,af,aV⟩
      case measure=>simp [Zk];omega
    ·have aI:Zi (x.args.all Cf=true):=Ze.2 (fun y T=>by
      obtain⟨i,r,rfl⟩:=List.getElem_of_mem T;have:=aj.o i (by omega)
      rwa[Ro r]at this)
     clear aj;have q3:=ad.out.at 3 _ rfl;have p:=Za (am.out _ wr (aH.out.old C.out));clear am;obtain⟨bf,av⟩:∃b,Fl x.thn=b:=⟨_,rfl⟩;have ai:=Za av;rw[av]at p;clear av;go_wp2_with fail;refine p.o.mono ?_;rintro Z w2 ⟨rfl,t⟩;obtain⟨ac,N⟩:=Y2 (F.out.trans (t.mono F.out.size)) (C.out.trans (t.mono C.out.size));clear t q2 q3 p F ad aE C;have aD:=Za (W.out.old N.out);have q4:=aD.out.at 4 _ rfl;have p:=Za (al.out _ w2 (aG.out.old N.out));clear al;obtain⟨be,au⟩:∃b,Fl x.els=b:=⟨_,rfl⟩;have ah:=Za au;rw[au]at p;clear au;go_wp2_with fail;refine p.o.mono ?_;rintro Z aT ⟨rfl,ar⟩;obtain⟨d,ab⟩:=Y2 (ac.out.trans (ar.mono ac.out.size)) (N.out.trans (ar.mono N.out.size));clear ar q4 p ac N aD;obtain⟨H,aC⟩:=Y2 (W.out.old ab.out) (ag.out.old ab.out);clear W ag aH aG aF
     cases bf
     ·have O:Zi (Fl l=false):=g.o (Ow (.inr (.inl ai.o)))
      clear h;go_wp2;go_ret
      exact⟨Ae O.o.symm,d.out⟩
     cases be
     ·have O:Zi (Fl l=false):=g.o (Ow (.inr (.inr (.inl ah.o))))
      clear h;go_wp2;go_ret
      exact⟨Ae O.o.symm,d.out⟩
     have aL:Zi (Ly x=Ou x):=by show _=_;rw[Vz,aI.o,ai.o,ah.o];simp
     clear aI ai ah;have q1:=H.out.at 1 _ rfl;have q3:=H.out.at 3 _ rfl;have q4:=H.out.at 4 _ rfl;obtain⟨aJ,X⟩:=Y2 (Ie x.name aT) (nQ x);have j:Zi (0<x.args.length→∃b M,aa=some ⟨b,M,none⟩∧aT.cell? ⟨b,M,none⟩=some (ι (Bx x.args 0).kind)):=fun s=>by
      obtain⟨b,M,an,aO,_,u,_⟩:=aC.out.cellAt 0 s;exact⟨b,M,aO,by simpa using u⟩
     clear aC ab;go_wp2_with fail;refine aJ.o.mono ?_;rintro Z bx ⟨rfl,bu⟩;subst bu;clear aJ q1;go_upto_region 17 with(fail);go_cut [11] (fun bv bz=>bv=.bool (x.thn.length==0 && x.els.length==0)∧bx=bz)
     case first=>
      by_cases ht:x.thn.length=0<;>by_cases hu:x.els.length=0
      all_goals
       have bQ:(x.thn.length:Int)=(x.thn.length:Int):=rfl
       first
       |(have ao:((x.thn.length:Int)==0)=true:=by rw[beq_iff_eq];omega)
       |(have ao:((x.thn.length:Int)==0)=false:=by rw[beq_eq_false_iff_ne];omega)
       first
       |(have ap:((x.els.length:Int)==0)=true:=by rw[beq_iff_eq];omega)
       |(have ap:((x.els.length:Int)==0)=false:=by rw[beq_eq_false_iff_ne];omega)
       go_wp2;go_meet;exact⟨by simp [ht,hu],rfl⟩
     case rest=>
     obtain⟨rfl,rfl⟩:=hcut;clear q3;obtain ⟨q0, q1, q2⟩ := τ3 H.out;have q4:=H.out.at 4 _ rfl;clear H;generalize (x.thn.length==0 && x.els.length==0)=m at*;generalize Ak x.name=U at*;obtain⟨n,bt⟩:∃b,(x.name==[])=b:=⟨_,rfl⟩;rw[bt]at X;obtain⟨aQ,br⟩:∃b,((Bx x.args 0).kind==5)=b:=⟨_,rfl⟩;rw[br]at X;have e:Zi (Ly x=(Dh x.kind U n m x.els.length x.args.length aQ && (x.args.length==Di x.kind))):=aL.o.trans X.o;clear X aL;generalize (Bx x.args 0).kind=bR at*;generalize x.name=nm at*;generalize x.args.length=f at*;generalize x.els.length=L at*;generalize x.thn.length=bT at*;generalize x.kind=kd at*;generalize Ly x=bV at*;have bp:(kd=1∨kd=2∨kd=3∨kd=4∨kd=5∨kd=6∨kd=7∨kd=8∨kd=9∨kd=10)∨(kd≠1∧kd≠2∧kd≠3∧kd≠4∧kd≠5∧kd≠6∧kd≠7∧kd≠8∧kd≠9∧kd≠10):=by omega
     rcases bp with(rfl|rfl|rfl|rfl|rfl|rfl|rfl|rfl|rfl|rfl)|⟨ao,ap,bi,bj,bk,bl,bm,bn,bo,bh⟩
     ·by_cases ha:f=1
      ·subst ha
       clear j
       cases U<;>cases m
       all_goals
        go_wp2_with fail
        first
        |(go_ret;exact⟨Ae (g.o (by rw[e.o];simp [Dh,Di, *])).symm,d.out⟩)
        |(go_roundw
          case rel=>exact⟨k+1,by omega,by go_num,h.o (by rw[e.o];simp [Dh,Di, *]),d⟩
          case measure=>simp [Zk];omega)
      ·have z:((f:Int) !=1)=true:=by rw[bne_iff_ne];omega
       have A:((f:Int)==1)=false:=by rw[beq_eq_false_iff_ne];omega
       have B:(f==1)=false:=by rw[beq_eq_false_iff_ne];exact ha
       clear j
       cases U<;>cases m
       all_goals
        go_wp2_with fail
        first
        |(go_ret;exact⟨Ae (g.o (by rw[e.o];simp [Dh,Di, *])).symm,d.out⟩)
        |(go_roundw
          case rel=>exact⟨k+1,by omega,by go_num,h.o (by rw[e.o];simp [Dh,Di, *]),d⟩
          case measure=>simp [Zk];omega)
     ·by_cases ha:f=2
      ·subst ha
       clear j
       cases U<;>cases m
       all_goals
        go_wp2_with fail
        first
        |(go_ret;exact⟨Ae (g.o (by rw[e.o];simp [Dh,Di, *])).symm,d.out⟩)
        |(go_roundw
          case rel=>exact⟨k+1,by omega,by go_num,h.o (by rw[e.o];simp [Dh,Di, *]),d⟩
          case measure=>simp [Zk];omega)
      ·have z:((f:Int) !=2)=true:=by rw[bne_iff_ne];omega
       have A:((f:Int)==2)=false:=by rw[beq_eq_false_iff_ne];omega
       have B:(f==2)=false:=by rw[beq_eq_false_iff_ne];exact ha
       clear j
       cases U<;>cases m
       all_goals
        go_wp2_with fail
        first
        |(go_ret;exact⟨Ae (g.o (by rw[e.o];simp [Dh,Di, *])).symm,d.out⟩)
        |(go_roundw
          case rel=>exact⟨k+1,by omega,by go_num,h.o (by rw[e.o];simp [Dh,Di, *]),d⟩
          case measure=>simp [Zk];omega)
     ·by_cases ha:f=1
      ·subst ha
       clear j
       cases n
       all_goals
        go_wp2_with fail
        first
        |(go_ret;exact⟨Ae (g.o (by rw[e.o];simp [Dh,Di, *])).symm,d.out⟩)
        |(go_roundw
          case rel=>exact⟨k+1,by omega,by go_num,h.o (by rw[e.o];simp [Dh,Di, *]),d⟩
          case measure=>simp [Zk];omega)
      ·have z:((f:Int) !=1)=true:=by rw[bne_iff_ne];omega
       have A:((f:Int)==1)=false:=by rw[beq_eq_false_iff_ne];omega
       have B:(f==1)=false:=by rw[beq_eq_false_iff_ne];exact ha
       clear j
       cases n
       all_goals
        go_wp2_with fail
        first
        |(go_ret;exact⟨Ae (g.o (by rw[e.o];simp [Dh,Di, *])).symm,d.out⟩)
        |(go_roundw
          case rel=>exact⟨k+1,by omega,by go_num,h.o (by rw[e.o];simp [Dh,Di, *]),d⟩
          case measure=>simp [Zk];omega)
     ·by_cases ha:f=1
      ·subst ha
       clear j
       cases n<;>by_cases hu:L=0
       all_goals
        first
        |(have aw:((L:Int)==0)=true:=by rw[beq_iff_eq];omega)
        |(have aw:((L:Int)==0)=false:=by rw[beq_eq_false_iff_ne];omega)
        go_wp2_with fail
        first
        |(go_ret;exact⟨Ae (g.o (by rw[e.o];simp [Dh,Di, *])).symm,d.out⟩)
        |(go_roundw
          case rel=>exact⟨k+1,by omega,by go_num,h.o (by rw[e.o];simp [Dh,Di, *]),d⟩
          case measure=>simp [Zk];omega)
      ·have z:((f:Int) !=1)=true:=by rw[bne_iff_ne];omega
       have A:((f:Int)==1)=false:=by rw[beq_eq_false_iff_ne];omega
       have B:(f==1)=false:=by rw[beq_eq_false_iff_ne];exact ha
       clear j
       cases n<;>by_cases hu:L=0
       all_goals
        first
        |(have aw:((L:Int)==0)=true:=by rw[beq_iff_eq];omega)
        |(have aw:((L:Int)==0)=false:=by rw[beq_eq_false_iff_ne];omega)
        go_wp2_with fail
        first
        |(go_ret;exact⟨Ae (g.o (by rw[e.o];simp [Dh,Di, *])).symm,d.out⟩)
        |(go_roundw
          case rel=>exact⟨k+1,by omega,by go_num,h.o (by rw[e.o];simp [Dh,Di, *]),d⟩
          case measure=>simp [Zk];omega)
     ·by_cases ha:f=0
      ·subst ha
       clear j
       cases n<;>cases m
       all_goals
        go_wp2_with fail
        first
        |(go_ret;exact⟨Ae (g.o (by rw[e.o];simp [Dh,Di, *])).symm,d.out⟩)
        |(go_roundw
          case rel=>exact⟨k+1,by omega,by go_num,h.o (by rw[e.o];simp [Dh,Di, *]),d⟩
          case measure=>simp [Zk];omega)
      ·have z:((f:Int) !=0)=true:=by rw[bne_iff_ne];omega
       have A:((f:Int)==0)=false:=by rw[beq_eq_false_iff_ne];omega
       have B:(f==0)=false:=by rw[beq_eq_false_iff_ne];exact ha
       clear j
       cases n<;>cases m
       all_goals
        go_wp2_with fail
        first
        |(go_ret;exact⟨Ae (g.o (by rw[e.o];simp [Dh,Di, *])).symm,d.out⟩)
        |(go_roundw
          case rel=>exact⟨k+1,by omega,by go_num,h.o (by rw[e.o];simp [Dh,Di, *]),d⟩
          case measure=>simp [Zk];omega)
     ·by_cases ha:f=0
      ·subst ha
       clear j
       cases n<;>cases m
       all_goals
        go_wp2_with fail
        first
        |(go_ret;exact⟨Ae (g.o (by rw[e.o];simp [Dh,Di, *])).symm,d.out⟩)
        |(go_roundw
          case rel=>exact⟨k+1,by omega,by go_num,h.o (by rw[e.o];simp [Dh,Di, *]),d⟩
          case measure=>simp [Zk];omega)
      ·have z:((f:Int) !=0)=true:=by rw[bne_iff_ne];omega
       have A:((f:Int)==0)=false:=by rw[beq_eq_false_iff_ne];omega
       have B:(f==0)=false:=by rw[beq_eq_false_iff_ne];exact ha
       clear j
       cases n<;>cases m
       all_goals
        go_wp2_with fail
        first
        |(go_ret;exact⟨Ae (g.o (by rw[e.o];simp [Dh,Di, *])).symm,d.out⟩)
        |(go_roundw
          case rel=>exact⟨k+1,by omega,by go_num,h.o (by rw[e.o];simp [Dh,Di, *]),d⟩
          case measure=>simp [Zk];omega)
     ·by_cases ha:f=1
      ·subst ha
       clear j
       cases n<;>cases m
       all_goals
        go_wp2_with fail
        first
        |(go_ret;exact⟨Ae (g.o (by rw[e.o];simp [Dh,Di, *])).symm,d.out⟩)
        |(go_roundw
          case rel=>exact⟨k+1,by omega,by go_num,h.o (by rw[e.o];simp [Dh,Di, *]),d⟩
          case measure=>simp [Zk];omega)
      ·have z:((f:Int) !=1)=true:=by rw[bne_iff_ne];omega
       have A:((f:Int)==1)=false:=by rw[beq_eq_false_iff_ne];omega
       have B:(f==1)=false:=by rw[beq_eq_false_iff_ne];exact ha
       clear j
       cases n<;>cases m
       all_goals
        go_wp2_with fail
        first
        |(go_ret;exact⟨Ae (g.o (by rw[e.o];simp [Dh,Di, *])).symm,d.out⟩)
        |(go_roundw
          case rel=>exact⟨k+1,by omega,by go_num,h.o (by rw[e.o];simp [Dh,Di, *]),d⟩
          case measure=>simp [Zk];omega)
     ·by_cases ha:f=1
      ·subst ha
       clear j
       cases n<;>cases m
       all_goals
        go_wp2_with fail
        first
        |(go_ret;exact⟨Ae (g.o (by rw[e.o];simp [Dh,Di, *])).symm,d.out⟩)
        |(go_roundw
          case rel=>exact⟨k+1,by omega,by go_num,h.o (by rw[e.o];simp [Dh,Di, *]),d⟩
          case measure=>simp [Zk];omega)
      ·have z:((f:Int) !=1)=true:=by rw[bne_iff_ne];omega
       have A:((f:Int)==1)=false:=by rw[beq_eq_false_iff_ne];omega
       have B:(f==1)=false:=by rw[beq_eq_false_iff_ne];exact ha
       clear j
       cases n<;>cases m
       all_goals
        go_wp2_with fail
        first
        |(go_ret;exact⟨Ae (g.o (by rw[e.o];simp [Dh,Di, *])).symm,d.out⟩)
        |(go_roundw
          case rel=>exact⟨k+1,by omega,by go_num,h.o (by rw[e.o];simp [Dh,Di, *]),d⟩
          case measure=>simp [Zk];omega)
     ·by_cases ha:f=1
      ·subst ha
       clear j
       cases n<;>cases m
       all_goals
        go_wp2_with fail
        first
        |(go_ret;exact⟨Ae (g.o (by rw[e.o];simp [Dh,Di, *])).symm,d.out⟩)
        |(go_roundw
          case rel=>exact⟨k+1,by omega,by go_num,h.o (by rw[e.o];simp [Dh,Di, *]),d⟩
          case measure=>simp [Zk];omega)
      ·have z:((f:Int) !=1)=true:=by rw[bne_iff_ne];omega
       have A:((f:Int)==1)=false:=by rw[beq_eq_false_iff_ne];omega
       have B:(f==1)=false:=by rw[beq_eq_false_iff_ne];exact ha
       clear j
       cases n<;>cases m
       all_goals
        go_wp2_with fail
        first
        |(go_ret;exact⟨Ae (g.o (by rw[e.o];simp [Dh,Di, *])).symm,d.out⟩)
        |(go_roundw
          case rel=>exact⟨k+1,by omega,by go_num,h.o (by rw[e.o];simp [Dh,Di, *]),d⟩
          case measure=>simp [Zk];omega)
     ·by_cases ha:f=1
      ·subst ha
       obtain⟨bW,bX,rfl,u⟩:=j.o (by decide);clear j
       cases n<;>cases m<;>cases aQ
       all_goals
        go_wp2_with fail
        first
        |(go_ret;exact⟨Ae (g.o (by rw[e.o];simp [Dh,Di, *])).symm,d.out⟩)
        |(go_roundw
          case rel=>exact⟨k+1,by omega,by go_num,h.o (by rw[e.o];simp [Dh,Di, *]),d⟩
          case measure=>simp [Zk];omega)
      ·have z:((f:Int) !=1)=true:=by rw[bne_iff_ne];omega
       have A:((f:Int)==1)=false:=by rw[beq_eq_false_iff_ne];omega
       have B:(f==1)=false:=by rw[beq_eq_false_iff_ne];exact ha
       clear j
       cases n<;>cases m
       all_goals
        go_wp2_with fail
        first
        |(go_ret;exact⟨Ae (g.o (by rw[e.o];simp [Dh,Di, *])).symm,d.out⟩)
        |(go_roundw
          case rel=>exact⟨k+1,by omega,by go_num,h.o (by rw[e.o];simp [Dh,Di, *]),d⟩
          case measure=>simp [Zk];omega)
     ·have aO:(kd==1)=false:=by rw[beq_eq_false_iff_ne];exact ao
      have bC:(kd==2)=false:=by rw[beq_eq_false_iff_ne];exact ap
      have bD:(kd==3)=false:=by rw[beq_eq_false_iff_ne];exact bi
      have bE:(kd==4)=false:=by rw[beq_eq_false_iff_ne];exact bj
      have bF:(kd==5)=false:=by rw[beq_eq_false_iff_ne];exact bk
      have bG:(kd==6)=false:=by rw[beq_eq_false_iff_ne];exact bl
      have bH:(kd==7)=false:=by rw[beq_eq_false_iff_ne];exact bm
      have bI:(kd==8)=false:=by rw[beq_eq_false_iff_ne];exact bn
      have bJ:(kd==9)=false:=by rw[beq_eq_false_iff_ne];exact bo
      have bB:(kd==10)=false:=by rw[beq_eq_false_iff_ne];exact bh
      go_wp2;go_ret
      exact⟨Ae (g.o (by rw[e.o];simp [Dh, *])).symm,d.out⟩
  ·have aP:Fl l=true:=by
    rw[Pp,Ze];intro x hx;obtain⟨i,r,rfl⟩:=List.getElem_of_mem hx;have:=Y.o i (by omega)
    rwa[iE r]at this
   have aX:=Za aP;clear aP Y ae;go_wp2;go_ret
   exact⟨Ae aX.o.symm,V.out⟩
theorem jU:∀(n:Nat) (l:List St),SizeOf.sizeOf l≤n→sX l
 |0,l,h=>by cases l<;>simp at h
 |n+1,l,h=>sj_step l
  (fun x hx=>jU n x.thn (by
   have a:=List.sizeOf_lt_of_mem hx
   cases x with
   |mk k nm us t e=>show SizeOf.sizeOf t≤n;simp at a;omega))
  (fun x hx=>jU n x.els (by
   have a:=List.sizeOf_lt_of_mem hx
   cases x with
   |mk k nm us t e=>show SizeOf.sizeOf e≤n;simp at a;omega))
theorem sj_any(l:List St):sX l:=jU _ l (Zd _)
theorem Wg {B:Nat}{a w:Zl}(b:Zj B a w)(n:Nat):Zj B a (w.drewN n):=⟨b.os,b.tape,b.output,b.size,b.block⟩
theorem sP {α:Type}(f:α→Bool)(d:α){l:List α}(k:Nat)(b:k<l.length)(a:f (l.getD k d)=false):l.all f=false:=by
 cases q:l.all f
 ·rfl
 ·have:=Ze.1 q (l[k]) (List.getElem_mem b)
  rw[show l.getD k d=l[k]by simp [List.getElem?_eq_getElem b]]at a;rw[a]at this;cases this
theorem xP {α:Type}(f:α→Bool)(d:α){l:List α}(b:∀i,i<l.length→f (l.getD i d)=true):l.all f=true:=by
 rw[Ze];intro x hx;obtain⟨i,a,rfl⟩:=List.getElem_of_mem hx;have:=b i a
 rwa[show l.getD i d=l[i]by simp [List.getElem?_eq_getElem a]]at this
theorem rS(p:Pr)(D:Nat→Prop)(az aA:Value)(w:Zl)(L:Cd D w p.arrays az)(M:Bw D w p.funcs aA):
  Zm Zb 31 #[.agg #[az,aA]] w fun e w'=>e=.returned (.bool (Eh p))∧Zj w.heap.size w w':=by
 obtain⟨J,K,rfl⟩:=L.shape;obtain⟨y,z,rfl⟩:=M.shape;have bk:=L.fits.lt;have bl:=M.fits.lt;have S:Zi (Eh p=(p.arrays.all Cz && p.funcs.all Dr)):=rfl;have f:Zj w.heap.size w (w.alloc (.cells #[ρ J p.arrays K,ρ y p.funcs z] 30)):=bA;obtain⟨u,X,al,am⟩:=Y4 f (Zc w [ρ J p.arrays K,ρ y p.funcs z] 30) (L.old f) (Bw.old f M);clear f L M;go_enter func31,ntmps31;go_upto_region 1 with(fail);generalize w.alloc (.cells #[ρ J p.arrays K,ρ y p.funcs z] 30)=aJ at*;have bg:Zi (∃bb,w.heap.size=bb):=⟨_,rfl⟩;go_wp2
 go_loopw [3] (fun ae wr=> ∃k:Nat,k≤p.arrays.length∧ae= ι k∧Zi (∀i,i<k→Cz (Em p.arrays i)=true)∧wr=aJ) (fun ae _=>p.arrays.length-(Zk ae).toNat)
 case atStart=>exact⟨0,Nat.zero_le _,rfl,fun i h=>absurd h (by omega),rfl⟩
 case round=>
  obtain⟨k,aU,rfl,g,aZ⟩:=hrel;subst aZ;have q0:=X.out.at 0 _ rfl
  by_cases hlt:k<p.arrays.length
  ·have aV:(k:Int)<(p.arrays.length:Int):=by omega
   obtain⟨b,ba,rfl,aa,aS,aw,ax⟩:=al.out.cellAt k hlt;have r:Zi (Cz (Em p.arrays k)=true→∀i,i<k+1→Cz (Em p.arrays i)=true):=fun d i h=>by
    rcases Zh.1 h with m|m
    ·exact g.o i m
    ·subst m;exact d
   have c:Zi (Cz (Em p.arrays k)=false→Eh p=false):=fun d=>by rw[S.out,sP Cz Ar.nil k hlt d];rfl
   have a:Zi (Cz (Em p.arrays k)=(Ak (Em p.arrays k).name && decide (1≤(Em p.arrays k).size∧(Em p.arrays k).size≤1048576))):=rfl;clear aa aS g;generalize Em p.arrays k=x at*;generalize Cz x=ay at*;generalize x.size=R at*;have q:=Za (Ie x.name wr)
   cases hn:Ak x.name
   ·rw[hn]at q a
    clear hn r;go_wp2_with fail;refine q.o.mono ?_;rintro e w2 ⟨rfl,j⟩;subst j;go_wp2;go_ret
    exact⟨Ae (c.o (by rw[a.o];rfl)).symm,u.out⟩
   ·rw[hn]at q a
    clear hn
    by_cases B:R<1
    ·clear r
     go_wp2_with fail;refine q.o.mono ?_;rintro e w2 ⟨rfl,j⟩;subst j;go_wp2;go_ret
     exact⟨Ae (c.o (by rw[a.o];simp;omega)).symm,u.out⟩
    ·by_cases s:R>1048576
     ·have aP:(1048576:Int)<R:=s
      clear r;go_wp2_with fail;refine q.o.mono ?_;rintro e w2 ⟨rfl,j⟩;subst j;go_wp2;go_ret
      exact⟨Ae (c.o (by rw[a.o];simp;omega)).symm,u.out⟩
     ·have aP:¬(1048576:Int)<R:=s
      clear c;go_wp2_with fail;refine q.o.mono ?_;rintro e w2 ⟨rfl,j⟩;subst j;go_wp2;go_roundw
      case rel=>exact⟨k+1,by omega,by go_num,r.o (by rw[a.o];simp;omega),by first|trivial|rfl⟩
      case measure=>simp [Zk];omega
  ·have aH:Zi (p.arrays.all Cz=true):=xP Cz Ar.nil (fun i h=>g.o i (by omega))
   have aF:Zi (∀w',Zj wr.heap.size wr w'→Ad w' w.heap.size [ρ J p.arrays K,ρ y p.funcs z] 30):=fun w' d=>X.out.old d
   have aD:Zi (∀w',Zj wr.heap.size wr w'→Bw D w' p.funcs (ρ y p.funcs z)):=fun w' d=>Bw.old d am.out
   clear g al am X;go_wp2
   go_loopw [5] (fun af aC=> ∃k:Nat,k≤p.funcs.length∧af= ι k∧Zi (∀i,i<k→Dr (Bc p.funcs i)=true)∧Zi (Zj w.heap.size w aC)∧Zi (Zj wr.heap.size wr aC)) (fun af _=>p.funcs.length-(Zk af).toNat)
   case atStart=>exact⟨0,Nat.zero_le _,rfl,fun i h=>absurd h (by omega),u,Zf _ _⟩
   case round=>
    obtain⟨k,aU,rfl,g,F,v⟩:=hrel;obtain⟨ak,aj⟩:=Y2 (aF.out _ v.out) (aD.out _ v.out);clear u;have q1:=ak.out.at 1 _ rfl
    by_cases hlt:k<p.funcs.length
    ·have aV:(k:Int)<(p.funcs.length:Int):=by omega
     obtain⟨bh,ba,pv,lv,bn,rfl,aa,aT,aw,ax,aN,aO,B,s,Z⟩:=aj.out.cellAt k hlt;obtain⟨ac,ad,rfl⟩:=B.shape;obtain⟨ab,l2,rfl⟩:=s.shape;obtain⟨P,Q,rfl⟩:=Z.shape;have bm:=B.fits.lt;have r:Zi (Dr (Bc p.funcs k)=true→∀i,i<k+1→Dr (Bc p.funcs i)=true):=fun d i h=>by
      rcases Zh.1 h with m|m
      ·exact g.o i m
      ·subst m;exact d
     have c:Zi (Dr (Bc p.funcs k)=false→Eh p=false):=fun d=>by rw[S.out,sP Dr Fu.nil k hlt d];simp
     have a:Zi (Dr (Bc p.funcs k)=(Ak (Bc p.funcs k).name && (Bc p.funcs k).params.all Ak && (Bc p.funcs k).locals.all Ak && decide ((Bc p.funcs k).params.length≤6) && (decide ((Kx 42 (Bc p.funcs k).body:Int)≤40) && Fl (Bc p.funcs k).body))):=by show _=_;rw[qI];rfl
     have f:Zj wr.heap.size wr (wr.alloc (.cells #[.string (Aa (Bc p.funcs k).name),.slice ac (Bc p.funcs k).params.length ad,.slice ab (Bc p.funcs k).locals.length l2,.slice P (Bc p.funcs k).body.length Q] 48)):=bA;obtain⟨U,l,V,ah,ai,T⟩:=Y6 (Zc wr [.string (Aa (Bc p.funcs k).name),.slice ac (Bc p.funcs k).params.length ad,.slice ab (Bc p.funcs k).locals.length l2,.slice P (Bc p.funcs k).body.length Q] 48) (F.out.trans (f.mono F.out.size)) (v.out.trans (f.mono v.out.size)) (B.old f) (s.old f) (Z.old f);clear f B s Z aa aT g F v ak aj;have bj:=Qy 42 (Bc p.funcs k).body;generalize Bc p.funcs k=x at*;go_upto_region 11 with(fail);clear q1 aw ax aN aO;generalize wr.alloc (.cells #[σ x.name,ρ ac x.params ad,ρ ab x.locals l2,ρ P x.body Q] 48)=I at*;generalize wr.heap.size=bi at*;obtain ⟨bc, bd, be, O⟩ := τ4 U.out;obtain⟨ap,aq,ar,Y,au⟩:=Y5 (Ie x.name I) (Sf x.params I ah.out) (Sf x.locals I ai.out) (far_any x.body 42 (by omega) D _ I T.out) (fun w' aW=>sj_any x.body D (ρ P x.body Q) w' (T.out.old (w':=w') aW));clear ah ai T;generalize Dr x=ay at*;generalize Ak x.name=aK at*;generalize x.params.all Ak=aL at*
     generalize x.locals.all Ak=aM at*;generalize x.params.length=E at*;generalize Kx 42 x.body=A at*;generalize Fl x.body=av at*;go_wp2_with fail;refine ap.out.mono ?_;rintro e w2 ⟨rfl,j⟩;subst j;go_wp2_with fail;refine aq.out.mono ?_;rintro e bo ⟨rfl,aX⟩;subst aX;go_wp2_with fail;refine ar.out.mono ?_;rintro e aB ⟨rfl,aY⟩;subst aY;clear ap aq ar
     cases aK
     ·go_wp2
      go_ret
      exact⟨Ae (c.o (by rw[a.o];rfl)).symm,l.out⟩
     cases aL
     ·go_wp2
      go_ret
      exact⟨Ae (c.o (by rw[a.o];rfl)).symm,l.out⟩
     cases aM
     ·go_wp2
      go_ret
      exact⟨Ae (c.o (by rw[a.o];rfl)).symm,l.out⟩
     by_cases h6:(E:Int)>6
     ·have aR:(6:Int)<(E:Int):=h6
      go_wp2;go_ret
      exact⟨Ae (c.o (by rw[a.o,decide_eq_false (show ¬E≤6 by omega)];rfl)).symm,l.out⟩
     have aR:¬(6:Int)<(E:Int):=h6
     by_cases h40:(A:Int)>40
     ·have aQ:(40:Int)<(A:Int):=h40
      go_wp2_with fail;refine Y.out.mono ?_;rintro e ag ⟨rfl,n,N⟩;subst N;go_wp2;go_ret
      exact⟨Ae (c.o (by rw[a.o,decide_eq_false (show ¬(A:Int)≤40 by omega)];simp)).symm,Wg l.out n⟩
     have aQ:¬(40:Int)<(A:Int):=h40;go_wp2_with fail;refine Y.out.mono ?_;rintro e ag ⟨rfl,n,N⟩;have C:Zj aB.heap.size aB ag:=by rw[N];exact Wg (Zf _ _) n
     obtain⟨G,an,H,aE⟩:=Y4 (l.out.trans (C.mono l.out.size)) (V.out.trans (C.mono V.out.size)) (au.out ag C) (U.out.old C);clear C N Y au bc bd be O l V U;have O:=aE.out.at 3 _ rfl;have ao:Zi (ay=av):=by show _=_;rw[a.o,decide_eq_true (show E≤6 by omega),decide_eq_true (show(A:Int)≤40 by omega)];simp
     clear a
     cases av
     ·go_wp2_with fail
      refine H.out.mono ?_;rintro e bf ⟨rfl,t⟩;have W:=Za (G.out.trans (t.mono G.out.size));clear t H O;go_wp2;go_ret
      exact⟨Ae (c.o ao.o).symm,W.out⟩
     ·go_wp2_with fail
      refine H.out.mono ?_;rintro e bf ⟨rfl,t⟩;obtain⟨W,aG⟩:=Y2 (G.out.trans (t.mono G.out.size)) (an.out.trans (t.mono an.out.size));clear t H O;go_wp2;go_roundw
      case rel=>exact⟨k+1,by omega,by go_num,r.o ao.o,W,aG⟩
      case measure=>simp [Zk];omega
    ·have aI:Zi (p.funcs.all Dr=true):=xP Dr Fu.nil (fun i h=>g.o i (by omega))
     clear g;go_wp2;go_ret
     exact⟨Ae (by rw[S.out,aH.o,aI.o];rfl),F.out⟩
theorem Lr:∀(f:Nat) (s:Bs) (e:Nat) (d:List Tk),Hr f s e=.ok d→Iy d∧(∀t,t∈d→I64 t.num)∧d.length≤s.length+1
 |0,s,e,d,h=>by cases h
 |f+1,s,e,d,h=>by
  have j:=Ql (s.length+1) s;rw[Hr]at h;generalize (Dc (s.length+1) s).1=c at j h;generalize (Dc (s.length+1) s).2.1=i at j h;generalize (Dc (s.length+1) s).2.2=b at h
  cases b with
  |false=>cases h
  |true=>
   rw[if_pos rfl]at h
   by_cases hr:c=[]
   ·rw[if_pos hr]at h
    cases h
    exact⟨rfl,fun t a=>by rw[List.mem_singleton.1 a];exact Eo,by simp⟩
   ·rw[if_neg hr]at h
    cases a:Ln c with
    |none=>rw[a]at h;cases h
    |some q=>
     obtain⟨k,x,n⟩:=q;rw[a]at h;obtain⟨p,z,r,A⟩:=Ux a;have hx:0<x.length:=List.length_pos_iff.2 p;have w:(c.drop x.length).length=c.length-x.length:=List.length_drop;have y:0<c.length:=List.length_pos_iff.2 hr;dsimp only at h
     cases hc:Hr f (c.drop x.length) (e+i)with
     |error m=>rw[hc]at h;cases h
     |ok l=>
      rw[hc]at h
      cases h
      obtain⟨g,o,gl⟩:=Lr f (c.drop x.length) (e+i) l hc;obtain⟨u,v,rfl⟩:=g.ne;refine⟨g,fun t a=>?_,?_⟩
      ·rcases List.mem_cons.1 a with rfl|a
       ·exact r
       ·exact o t a
      ·rw[List.length_cons];omega
theorem tK {w:Zl}{b:Nat}{a:List Tk}{v:Value}(d:Fs w b a v)(c:Iy a)(f:∀t,t∈a→I64 t.num)(k:a.length≤1000000):∃g cap,v=.slice (some ⟨g,0,none⟩) a.length cap∧b≤g∧
  Rs (w.alloc (.cells #[.slice (some ⟨g,0,none⟩) a.length cap,.int .i64 0,.bool false] 85)) w.heap.size g cap a (false,a):=by
 have e:0<a.length:=by obtain⟨t,n,rfl⟩:=c.ne;simp
 obtain⟨g,cap,m,l,i,j,h⟩:=Vo d e;refine⟨g,cap,m,h,0,⟨Zc w [κ g a.length cap,ι 0,.bool false] _,l.keep (Be (bA)),i,k,j,by rw[List.drop_zero];exact c,f⟩,by rw[List.drop_zero]⟩
theorem iZ:∀(f:Nat) (p:Pr) (st:PS) (x:Pr) (l:List Tk),prT f p st=(x,(false,l))→∃t c,l=t::c∧t.kind=5
 |0,p,st,x,l,a=>by
  rw[prT]at a;injection a with _ a;injection a with a;cases a
 |f+1,p,st,x,l,a=>by
  rw[prT]at a;split at a
  ·rename_i b
   injection a with e d
   subst d;rcases b with b|b
   ·cases b
   ·cases l with
    |nil=>exact absurd b (by decide)
    |cons t c=>exact⟨t,c,rfl,b⟩
  ·split at a
   ·exact iZ f _ _ x l a
   ·exact iZ f _ _ x l a
theorem Rs.spot {w:Zl}{p c cap:Nat}{L:List Tk}{b:Bool}{l:List Tk}(k:Rs w p c cap L (b,l)):∃(i:Nat) (t:Tk) (d:List Tk),l=t::d∧i<L.length∧L.length≤1000000∧w.cell? ⟨p,0,none⟩=some (.slice (some ⟨c,0,none⟩) L.length cap)∧w.cell? ⟨p,1,none⟩=some (.int .i64 (i:Int))∧w.cell? ⟨p,2,none⟩=some (.bool b)∧w.cell? ⟨c,i*4,none⟩=some (.int .i64 t.kind)∧w.cell? ⟨c,i*4+3,none⟩=some (.int .i64 t.line)∧p<w.heap.size∧c<w.heap.size:=by
 obtain⟨i,a,e⟩:=k;have e:l=L.drop i:=e;obtain⟨t,d,h,n,j,m⟩:=a.next;obtain⟨f,o,q,g⟩:=a.row.nth j;rw[Nat.zero_add]at f g;exact⟨i,t,d,e.trans h,m,a.fit,a.own.at 0 _ rfl,a.own.at 1 _ rfl,a.own.at 2 _ rfl,f,g,a.own.lt,Nat.lt_trans a.lt a.own.lt⟩
def Ta(a:Bs):Pr ×Int ×Int:=match Hr (a.length+1) a 1 with
 |.error n=>((⟨[],[]⟩:Pr),20,(n:Int))
 |.ok T=>Sn (oH (Kg (14*T.length+16) ⟨[],[]⟩ T))
theorem pT {b:Pr ×Int ×Int}(a:b.2.1=40):Sn b=b:=by
 obtain⟨x,e,n⟩:=b;have a:e=40:=a;subst a;show(if(40:Int)=0∧Eh x=false then((⟨[],[]⟩:Pr),(41:Int),(1:Int))else(x,40,n))=_
 rw[if_neg (by rintro⟨a,_⟩;exact absurd a (by decide))]
theorem eU(y:Bs)(bn:y.length≤20000)(w:Zl):
  Zm Zb 11 #[.string (Aa y)] w (WhP w (Ta y)):=by
 have aJ:Zj w.heap.size w (w.alloc (.cells #[ν,ν] 30)):=bA;obtain⟨A,K⟩:=Y2 aJ (Zc w [ν,ν] 30);have z:=yF y bn (w.alloc (.cells #[ν,ν] 30));have R:=Lr (y.length+1) y 1;unfold Ta;obtain⟨S,aI⟩:∃S,Hr (y.length+1) y 1=S:=⟨_,rfl⟩;rw[aI]at z R ⊢;have z:=Za z;clear aI aJ
 cases S with
 |error n=>
  clear R;go_enter func11,ntmps11;go_wp2_with fail;refine z.o.mono ?_;rintro e aO ⟨c,af⟩;have af:e=.returned (.tuple #[ν,ι 20,ι (n:Int)]):=af;subst af;obtain⟨aQ,au⟩:=Y2 (A.o.trans (c.mono A.o.size)) (K.o.old c);obtain⟨⟨s,u⟩,aj,ak⟩:=Je au.o;have al:=au.o.lt;clear c z A K;go_wp2_with fail;(rw[Af s];rw[Af u]);exact Zn (v:=.tuple #[.agg #[ν,ν],ι 20,ι (n:Int)]) (by simp [results,results11,go_sem,s,u]) rfl ⟨aQ.o,_,rfl,⟨_,_,rfl,Cd.zero,Bw.zero⟩⟩
 |ok T=>
  obtain⟨aF,aG,bg⟩:=R T rfl;dsimp only;have bv:T.length≤20001:=by omega
  have hrel:=kM (14*T.length+16) ⟨[],[]⟩ T (Zd _);have ag:=iZ (14*T.length+16) ⟨[],[]⟩ (false,T);obtain⟨⟨P,ba,l⟩,ae⟩:∃Q,prT (14*T.length+16) ⟨[],[]⟩ (false,T)=Q:=⟨_,rfl⟩;rw[ae]at hrel ag;obtain⟨aA,aH⟩:∃Q,Kg (14*T.length+16) ⟨[],[]⟩ T=Q:=⟨_,rfl⟩;rw[aH]at hrel ⊢;obtain⟨M,Z,aS,aT,X⟩:=Y5 (Ck hrel) ae aF aG ag;clear hrel ae aH R aF aG bg ag;go_enter func11,ntmps11;go_wp2_with fail;refine z.o.mono ?_;rintro e w2 ⟨c,v,rfl,k⟩;obtain⟨g,cap,rfl,aK,aM⟩:=tK k aS.o aT.o (by omega);have aU:Zi (g≠w.heap.size):=by
   rw[show(w.alloc (.cells #[ν,ν] 30)).heap.size=w.heap.size+1 by simp]at aK;show _≠_;omega
  clear aK;obtain⟨H,aa⟩:=Y2 (A.o.trans (c.mono A.o.size)) (K.o.old c);have f:Zj w2.heap.size w2 (w2.alloc (.cells #[κ g T.length cap,ι 0,.bool false] 85)):=bA;obtain⟨ao,ab,aw⟩:=Y3 (H.o.trans (f.mono H.o.size)) (aa.o.old f) aM;have Y:Zi (w.heap.size≠w2.heap.size):=by show _≠_;have:=aa.o.lt;omega
  have aX:Zi (w.heap.size≤w2.heap.size):=H.o.size;have aY:Zi (w2.heap.size≤(w2.alloc (.cells #[κ g T.length cap,ι 0,.bool false] 85)).heap.size):=f.size;clear c k f aM z A K H aa;go_upto_region 5 with(fail);generalize w2.alloc (.cells #[κ g T.length cap,ι 0,.bool false] 85)=C at*;have E:=rpProg (14*T.length+16) (false,T) C w2.heap.size g cap T (Zd _) aw.o;rw[Z.o]at E;have E:=Za E;have N:Zi (w.heap.size<C.heap.size):=ab.o.lt;generalize w2.heap.size=p at*;go_wp2_with fail;refine Calls.mono E.o ?_;rintro e D ⟨G,ah,v,rfl,bs,bu,rfl,B,U⟩;dsimp only at ah B U;obtain⟨j,h,rfl⟩:=B.yshape;obtain⟨q,m,rfl⟩:=U.yshape;obtain⟨W,av,ar,am,ay⟩:=Y5 (ao.o.trans ((G.below aY.o).mono aX.o)) (ab.o.sfr G Y.o) ah B U;clear G ah B U E ao ab aw;have f:Zj D.heap.size D (D.alloc (.cells #[ρ j P.arrays h,ρ q P.funcs m] 30)):=bA;obtain⟨I,L,aV,an,az,J⟩:=Y6 (W.o.trans (f.mono W.o.size)) (av.o.old f) (ar.o.old f) (am.o.old f) (Bw.old f ay.o) (Zc D [ρ j P.arrays h,ρ q P.funcs m] 30);clear f W av ar am ay;go_upto_region 6 with(fail);generalize D.alloc (.cells #[ρ j P.arrays h,ρ q P.funcs m] 30)=ai at*
  generalize D.heap.size=bD at*;obtain⟨i,t,bE,bk,bx,bw,bb,bc,bd,bo,bp,bl,bm⟩:=aV.o.spot;subst bk;have bh:(i:Int)<(T.length:Int):=by omega
  have bi:(0:Int)≤(i:Int):=by omega
  obtain⟨⟨s,u⟩,aj,ak⟩:=Je L.o;have al:=L.o.lt
  cases ba with
  |true=>
   have F:Zi (Sn (oH aA)=((⟨[],[]⟩:Pr),40,t.line)):=by
    rcases M.o with⟨x,l,O,r⟩|⟨aN,O,_,d⟩
    ·injection r with _ r;injection r with r;cases r
    ·have d:t.line=aN:=d
     rw[O,pT rfl,←d];rfl
   clear M X Z;have bz:p≠w.heap.size:=Y.o.symm;have bB:g≠w.heap.size:=aU.o;have bC:w.heap.size≠p:=Y.o;go_wp2_with fail
   go_region;(rw[Af s];rw[Af u]);have aR:Zi (Zj w.heap.size w ai.drew):=I.o.drew;have aB:∀a,ai.drew.cell? a=ai.cell? a:=fun _=>rfl
   have bq:=(aB ⟨w.heap.size,0,none⟩).trans s;have br:=(aB ⟨w.heap.size,1,none⟩).trans u;go_wp2_with fail;rw[F.o];exact Zn (v:=.tuple #[.agg #[ν,ν],ι 40,ι t.line]) (by simp [results,results11,go_sem,bq,br]) rfl ⟨aR.o,_,rfl,⟨_,_,rfl,Cd.zero,Bw.zero⟩⟩
  |false=>
   have ax:Zi (Sn (oH aA)=if(0:Int)=0∧Eh P=false then((⟨[],[]⟩:Pr),41,1)else(P,0,0)):=by
    rcases M.o with⟨x,l,O,r⟩|⟨aN,_,d,_⟩
    ·injection r with r d
     injection d with _ d
     subst r d;obtain⟨bG,bF,ad,bj⟩:=X.o _ _ rfl;injection ad with ad bt
     subst ad;rw[O];show Sn (if t.kind=5 then(P,0,0)else _)=_
     rw[if_pos bj];rfl
    ·have d:false=true:=d
     cases d
   clear M X Z;obtain⟨⟨aC,aD⟩,_⟩:=Je J.o;have aE:=J.o.lt;have aW:=Za (fun aO B G=>rS P (C.heap.size≤ ·) (ρ j P.arrays h) (ρ q P.funcs m) aO B G);go_wp2_with fail;refine(aW.o _ an.o az.o).mono ?_;rintro e V ⟨rfl,c⟩;obtain⟨ap,ac,aq,aP,aZ⟩:=Y5 (I.o.trans (c.mono I.o.size)) (L.o.old c) (J.o.old c) (an.o.old c) (Bw.old c az.o);clear c I L J s u aj ak al aC aD aE bb bc bd bo bp bl bm bh bi;obtain⟨⟨s,u⟩,aj,ak⟩:=Je ac.o;have al:=ac.o.lt;obtain⟨⟨aC,aD⟩,_⟩:=Je aq.o;have aE:=aq.o.lt
   cases hrt:Eh P with
   |false=>
    have k:=ax.o;rw[if_pos (by simp [hrt])]at k;have F:=Za k;clear hrt k;go_wp2_with fail;(rw[Af s];rw[Af u]);rw[F.o];exact Zn (v:=.tuple #[.agg #[ν,ν],ι 41,ι 1]) (by simp [results,results11,go_sem,s,u]) rfl ⟨ap.o,_,rfl,⟨_,_,rfl,Cd.zero,Bw.zero⟩⟩
   |true=>
    have k:=ax.o;rw[if_neg (by simp [hrt])]at k;have F:=Za k;clear hrt k;go_wp2_with fail;rw[F.o];have aL:Db (C.heap.size≤ ·) V ((V.setCell ⟨w.heap.size,0,none⟩ (ρ j P.arrays h)).setCell ⟨w.heap.size,1,none⟩ (ρ q P.funcs m)):=((Av V N.o 0 (ρ j P.arrays h)).trans (Av (V.setCell ⟨w.heap.size,0,none⟩ (ρ j P.arrays h)) N.o 1 (ρ q P.funcs m)));obtain⟨⟨be,bf⟩,_⟩:=Je ((ac.o.set 0 (ρ j P.arrays h)).set 1 (ρ q P.funcs m));exact Zn (v:=.tuple #[.agg #[ρ j P.arrays h,ρ q P.funcs m],ι 0,ι 0]) (by simp [results,results11,go_sem,be,bf]) rfl ⟨((ap.o.setCell (p:=⟨w.heap.size,0,none⟩) (Zd _) (ρ j P.arrays h)).setCell (p:=⟨w.heap.size,1,none⟩) (Zd _) (ρ q P.funcs m)),_,rfl,⟨_,_,rfl,(aP.o.keep aL).mono (fun b c=>by have c:C.heap.size≤b:=c;have:=N.o;show _≤_;omega),(Bw.keep aL aZ.o).mono (fun b c=>by have c:C.heap.size≤b:=c;have:=N.o;show _≤_;omega)⟩⟩
def Xx(a:Bs):Ex ×Int ×Int:=match Hr (a.length+1) a 1 with
 |.error n=>(exZ,20,(n:Int))
 |.ok T=>Qo (kB (Bk (14*T.length+16) 1 T))
theorem Wh {b:Ex ×Int ×Int}(a:b.2.1=40):Qo b=b:=by
 obtain⟨x,e,n⟩:=b;have a:e=40:=a;subst a;show(if(40:Int)=0∧Cf x=false then(exZ,(41:Int),(1:Int))else(x,40,n))=_
 rw[if_neg (by rintro⟨a,_⟩;exact absurd a (by decide))]
theorem iS(z:Bs)(bE:z.length≤20000)(w:Zl):
  Zm Zb 13 #[.string (Aa z)] w (WhE w (Xx z)):=by
 have aU:Zj w.heap.size w (w.alloc (ζ)):=bA;obtain⟨D,U⟩:=Y2 aU (Zc w η 35);have A:=yF z bE (w.alloc (ζ));have Y:=Lr (z.length+1) z 1;unfold Xx;obtain⟨S,aT⟩:∃S,Hr (z.length+1) z 1=S:=⟨_,rfl⟩;rw[aT]at A Y ⊢;have A:=Za A;clear aT aU
 cases S with
 |error n=>
  clear Y;go_enter func13,ntmps13;go_wp2_with fail;refine A.o.mono ?_;rintro e aZ ⟨c,ag⟩;have ag:e=.returned (.tuple #[ν,ι 20,ι (n:Int)]):=ag;subst ag;obtain⟨bb,aF⟩:=Y2 (D.o.trans (c.mono D.o.size)) (U.o.old c);obtain⟨⟨h,j,k,m,q⟩,al,am,an,ao,ap⟩:=Ai aF.o;have aq:=aF.o.lt;clear c A D U;go_wp2_with fail;(rw[Af h];rw[Af j];rw[Af k];rw[Af m];rw[Af q]);exact Zn (v:=.tuple #[.agg #[ι 0,ι 0,ι 0,ε,ν],ι 20,ι (n:Int)]) (by simp [results,Zg,go_sem,h,j,k,m,q]) rfl ⟨bb.o,_,rfl,⟨_,rfl,Ag.zero,Eo⟩⟩
 |ok T=>
  obtain⟨aR,aS,bs⟩:=Y T rfl;dsimp only;have bH:T.length≤20001:=by omega
  have hrel:=aG (14*T.length+16) T (by omega);have aV:=True.intro;obtain⟨⟨P,bj,l⟩,af⟩:∃Q,xT (14*T.length+16) 1 (false,T)=Q:=⟨_,rfl⟩;rw[af]at hrel;obtain⟨aK,X⟩:∃Q,Bk (14*T.length+16) 1 T=Q:=⟨_,rfl⟩;rw[X]at hrel ⊢;obtain⟨L,R,bc,bd,ab⟩:=Y5 (Ck hrel) af aR aS aV;clear hrel af X Y aR aS bs aV;go_enter func13,ntmps13;go_wp2_with fail;refine A.o.mono ?_;rintro e w2 ⟨c,v,rfl,s⟩;obtain⟨g,cap,rfl,aW,aX⟩:=tK s bc.o bd.o (by omega);have aC:Zi (g≠w.heap.size):=by
   rw[show(w.alloc (ζ)).heap.size=w.heap.size+1 by simp]at aW;show _≠_;omega
  clear aW;obtain⟨N,ac⟩:=Y2 (D.o.trans (c.mono D.o.size)) (U.o.old c);have r:Zj w2.heap.size w2 (w2.alloc (.cells #[κ g T.length cap,ι 0,.bool false] 85)):=bA;obtain⟨aA,ad,aI⟩:=Y3 (N.o.trans (r.mono N.o.size)) (ac.o.old r) aX;have K:Zi (w.heap.size≠w2.heap.size):=by show _≠_;have:=ac.o.lt;omega
  have bh:Zi (w.heap.size≤w2.heap.size):=N.o.size;have bi:Zi (w2.heap.size≤(w2.alloc (.cells #[κ g T.length cap,ι 0,.bool false] 85)).heap.size):=r.size;clear c s r aX A D U N ac;go_upto_region 5 with(fail);generalize w2.alloc (.cells #[κ g T.length cap,ι 0,.bool false] 85)=M at*;have J:=bY (14*T.length+16) (false,T) M w2.heap.size g cap T (by show 14*T.length+10≤_;omega) aI.o;rw[R.o]at J;have J:=Za J;have E:Zi (w.heap.size<M.heap.size):=ad.o.lt;generalize w2.heap.size=p at*;go_wp2_with fail;refine Calls.mono J.o ?_;rintro e G ⟨ah,aj,bL,rfl,F,ai⟩;dsimp only at aj F ai;obtain⟨y,sc,rfl⟩:=F.shape;obtain⟨Z,aH,aE,ay,be⟩:=Y5 (aA.o.trans ((ah.below bi.o).mono bh.o)) (ad.o.sfr ah K.o) aj F ai;clear ah aj F ai J aA ad aI;have r:Zj G.heap.size G (G.alloc (ξ P (ρ y P.args sc))):=bA;obtain⟨I,V,bf,az,O⟩:=Y5 (Z.o.trans (r.mono Z.o.size)) (aH.o.old r) (aE.o.old r) (ay.o.old r) (Zc G (χ P (ρ y P.args sc)) 35);clear r Z aH aE ay;go_upto_region 6 with(fail);generalize G.alloc (ξ P (ρ y P.args sc))=H at*
  generalize G.heap.size=bK at*;obtain⟨i,t,ak,bw,bJ,bI,bk,bl,bm,bF,bG,bC,bD⟩:=bf.o.spot;subst bw;have bt:(i:Int)<(T.length:Int):=by omega
  have bu:(0:Int)≤(i:Int):=by omega
  obtain⟨⟨h,j,k,m,q⟩,al,am,an,ao,ap⟩:=Ai V.o;have aq:=V.o.lt
  cases bj with
  |true=>
   have B:Zi (Qo (kB aK)=(exZ,40,t.line)):=by
    rcases L.o with⟨x,l,W,u⟩|⟨aY,W,_,f⟩
    ·injection u with _ u;injection u with u;cases u
    ·have f:t.line=aY:=f
     rw[W,Wh rfl,←f];rfl
   clear L ab R;have bx:p≠w.heap.size:=K.o.symm;have bz:g≠w.heap.size:=aC.o;have bB:w.heap.size≠p:=K.o;go_wp2_with fail
   go_region;(rw[Af h];rw[Af j];rw[Af k];rw[Af m];rw[Af q]);have aa:Zi (Zj w.heap.size w H.drew):=I.o.drew;have d:∀a,H.drew.cell? a=H.cell? a:=fun _=>rfl
   have ar:=(d ⟨w.heap.size,0,none⟩).trans h;have au:=(d ⟨w.heap.size,1,none⟩).trans j;have av:=(d ⟨w.heap.size,2,none⟩).trans k;have aw:=(d ⟨w.heap.size,3,none⟩).trans m;have ax:=(d ⟨w.heap.size,4,none⟩).trans q;go_wp2_with fail;rw[B.o];exact Zn (v:=.tuple #[.agg #[ι 0,ι 0,ι 0,ε,ν],ι 40,ι t.line]) (by simp [results,Zg,go_sem,ar,au,av,aw,ax]) rfl ⟨aa.o,_,rfl,⟨_,rfl,Ag.zero,Eo⟩⟩
  |false=>
   have X:aK=.ok (P,t::ak):=by
    rcases L.o with⟨x,l,W,u⟩|⟨aY,_,f,_⟩
    ·injection u with u f
     injection f with _ f
     subst u f;exact W
    ·have f:false=true:=f
     cases f
   subst X
   by_cases hk:t.kind=5
   ·have aJ:Zi (Qo (kB (.ok (P,t::ak)))=if(0:Int)=0∧Cf P=false then(exZ,41,1)else(P,0,0)):=by
     show Qo (if t.kind=5 then(P,0,0)else _)=_
     rw[if_pos hk];rfl
    clear L ab R;obtain⟨⟨aL,aM,aN,aO,aP⟩,_⟩:=Ai O.o;have aQ:=O.o.lt;have bg:=Za (fun aZ F=>Pc P (M.heap.size≤ ·) (ρ y P.args sc) aZ F);go_wp2_with fail;refine(bg.o _ az.o).mono ?_;rintro e C ⟨rfl,c⟩;obtain⟨aB,ae,aD,ba⟩:=Y4 (I.o.trans (c.mono I.o.size)) (V.o.old c) (O.o.old c) (az.o.old c);clear c I V O h j k m q al am an ao ap aq aL aM aN aO aP aQ bk bl bm bF bG bC bD bt bu;obtain⟨⟨h,j,k,m,q⟩,al,am,an,ao,ap⟩:=Ai ae.o;have aq:=ae.o.lt;obtain⟨⟨aL,aM,aN,aO,aP⟩,_⟩:=Ai aD.o;have aQ:=aD.o.lt
    cases hrt:Cf P with
    |false=>
     have s:=aJ.o;rw[if_pos (by simp [hrt])]at s;have B:=Za s;clear hrt s;go_wp2_with fail;(rw[Af h];rw[Af j];rw[Af k];rw[Af m];rw[Af q]);rw[B.o];exact Zn (v:=.tuple #[.agg #[ι 0,ι 0,ι 0,ε,ν],ι 41,ι 1]) (by simp [results,Zg,go_sem,h,j,k,m,q]) rfl ⟨aB.o,_,rfl,⟨_,rfl,Ag.zero,Eo⟩⟩
    |true=>
     have s:=aJ.o;rw[if_neg (by simp [hrt])]at s;have B:=Za s;clear hrt s;go_wp2_with fail;rw[B.o];have bv:Db (M.heap.size≤ ·) C (((((C.setCell ⟨w.heap.size,0,none⟩ (ι P.kind)).setCell ⟨w.heap.size,1,none⟩ (ι P.op)).setCell ⟨w.heap.size,2,none⟩ (ι P.n)).setCell ⟨w.heap.size,3,none⟩ (σ P.name)).setCell ⟨w.heap.size,4,none⟩ (ρ y P.args sc)):=(((((Av C E.o 0 (ι P.kind)).trans (Av (C.setCell ⟨w.heap.size,0,none⟩ (ι P.kind)) E.o 1 (ι P.op))).trans (Av ((C.setCell ⟨w.heap.size,0,none⟩ (ι P.kind)).setCell ⟨w.heap.size,1,none⟩ (ι P.op)) E.o 2 (ι P.n))).trans (Av (((C.setCell ⟨w.heap.size,0,none⟩ (ι P.kind)).setCell ⟨w.heap.size,1,none⟩ (ι P.op)).setCell ⟨w.heap.size,2,none⟩ (ι P.n)) E.o 3 (σ P.name))).trans (Av ((((C.setCell ⟨w.heap.size,0,none⟩ (ι P.kind)).setCell ⟨w.heap.size,1,none⟩ (ι P.op)).setCell ⟨w.heap.size,2,none⟩ (ι P.n)).setCell ⟨w.heap.size,3,none⟩ (σ P.name)) E.o 4 (ρ y P.args sc)));obtain⟨⟨bn,bo,bp,bq,br⟩,_⟩:=Ai (((((ae.o.set 0 (ι P.kind)).set 1 (ι P.op)).set 2 (ι P.n)).set 3 (σ P.name)).set 4 (ρ y P.args sc));exact Zn (v:=.tuple #[.agg #[ι P.kind,ι P.op,ι P.n,σ P.name,ρ y P.args sc],ι 0,ι 0]) (by simp [results,Zg,go_sem,bn,bo,bp,bq,br]) rfl ⟨(((((aB.o.setCell (p:=⟨w.heap.size,0,none⟩) (Zd _) (ι P.kind)).setCell (p:=⟨w.heap.size,1,none⟩) (Zd _) (ι P.op)).setCell (p:=⟨w.heap.size,2,none⟩) (Zd _) (ι P.n)).setCell (p:=⟨w.heap.size,3,none⟩) (Zd _) (σ P.name)).setCell (p:=⟨w.heap.size,4,none⟩) (Zd _) (ρ y P.args sc)),_,rfl,⟨_,rfl,(ba.o.keep bv).mono (fun b c=>by have c:M.heap.size≤b:=c;have:=E.o;show _≤_;omega),be.o⟩⟩
   ·have B:Zi (Qo (kB (.ok (P,t::ak)))=(exZ,40,t.line)):=by
     show Qo (if t.kind=5 then(P,0,0)else _)=_
     rw[if_neg hk,Wh rfl]
    clear L ab R;have bx:p≠w.heap.size:=K.o.symm;have bz:g≠w.heap.size:=aC.o;have bB:w.heap.size≠p:=K.o;go_wp2_with fail
    go_region;(rw[Af h];rw[Af j];rw[Af k];rw[Af m];rw[Af q]);have aa:Zi (Zj w.heap.size w H.drew):=I.o.drew;have d:∀a,H.drew.cell? a=H.cell? a:=fun _=>rfl
    have ar:=(d ⟨w.heap.size,0,none⟩).trans h;have au:=(d ⟨w.heap.size,1,none⟩).trans j;have av:=(d ⟨w.heap.size,2,none⟩).trans k;have aw:=(d ⟨w.heap.size,3,none⟩).trans m;have ax:=(d ⟨w.heap.size,4,none⟩).trans q;go_wp2_with fail;rw[B.o];exact Zn (v:=.tuple #[.agg #[ι 0,ι 0,ι 0,ε,ν],ι 40,ι t.line]) (by simp [results,Zg,go_sem,ar,au,av,aw,ax]) rfl ⟨aa.o,_,rfl,⟨_,rfl,Ag.zero,Eo⟩⟩
theorem Qa(a:Bs)(l:a.length≤20000)(w:Zl)(i:Lu w):Zm Zb 10 #[.string (Aa a)] w (WhP w (Ta a)):=by
 have k:=Lr (a.length+1) a 1;have c:∀w2,Lu w2→Zm Zb 57 #[σ a] w2 (Jx (Hr (a.length+1) a 1) w2):=fun w2 b=>gM a l w2 b
 unfold Ta
 cases hS:Hr (a.length+1) a 1 with
 |error n=>
  rw[hS]at c;have b:=mD a w ((⟨[],[]⟩:Pr),20,(n:Int)) (Za fun h d=>nW a n h (Za fun w2 f=>c w2 ((i.old d).old f)));have e:Sn ((⟨[],[]⟩:Pr),20,(n:Int))=((⟨[],[]⟩:Pr),20,(n:Int)):=by
   show(if(20:Int)=0∧Eh ⟨[],[]⟩=false then((⟨[],[]⟩:Pr),(41:Int),(1:Int))else((⟨[],[]⟩:Pr),20,(n:Int)))=_
   rw[if_neg (by rintro⟨b,_⟩;exact absurd b (by decide))]
  rw[e]at b;exact b
 |ok T=>
  rw[hS]at c;obtain⟨g,j,gl⟩:=k T hS;exact mD a w _ (Za fun h d=>pL a T g j (by omega) (14*T.length+16) (by omega) h (Za fun w2 f=>c w2 ((i.old d).old f)))
theorem bL(a:Bs)(l:a.length≤20000)(w:Zl)(i:Lu w):Zm Zb 12 #[.string (Aa a)] w (WhE w (Xx a)):=by
 have k:=Lr (a.length+1) a 1;have c:∀w2,Lu w2→Zm Zb 57 #[σ a] w2 (Jx (Hr (a.length+1) a 1) w2):=fun w2 b=>gM a l w2 b
 unfold Xx
 cases hS:Hr (a.length+1) a 1 with
 |error n=>
  rw[hS]at c;have b:=nN a w (exZ,20,(n:Int)) (Za fun h d=>pU a n h (Za fun w2 f=>c w2 ((i.old d).old f)));have e:Qo (exZ,20,(n:Int))=(exZ,20,(n:Int)):=by
   show(if(20:Int)=0∧Cf exZ=false then(exZ,(41:Int),(1:Int))else(exZ,20,(n:Int)))=_
   rw[if_neg (by rintro⟨b,_⟩;exact absurd b (by decide))]
  rw[e]at b;exact b
 |ok T=>
  rw[hS]at c;obtain⟨g,j,gl⟩:=k T hS;exact nN a w _ (Za fun h d=>qM a T g j (by omega) (14*T.length+16) (by omega) h (Za fun w2 f=>c w2 ((i.old d).old f)))
theorem kG(b:Nat)(t:Int)(w:Zl)(s:Ca w b [] t):
  Zm Zb 20 #[.pointer (some ⟨b,0,none⟩)] w fun e w'=>e=.returned (.string (Aa []))∧Zj b w w':=by
 obtain⟨p,v,a,k,d⟩:=s;have x:∀(q:Option Addr) (c:Zl),(Builtin.unsafeString_ #[102,3] 9 #[.pointer q,ι 0]).run Zb c=.ok (.string (Aa [])) c:=fun q c=>Lib.run_unsafeString_none c _ _ _ q
 have C:Tryz.prog.follows .mixedOrders=true:=by kernel_rfl
 have i:w.drew.heap[b]? =some (.cells #[p,v,ι t] 58 (0,0)):=a;have r:b<w.heap.size:=by
  rcases Nat.lt_or_ge b w.heap.size with h|h
  ·exact h
  ·rw[Array.getElem?_eq_none h]at a;simp at a
 rcases d.2 with⟨rfl,_⟩|⟨g,cap,l,rfl,y,j,B,z,A,o⟩
 ·have f:w.drew.cell? ⟨b,1,none⟩=some (ν):=by rw[Lib.cell_of_heap i];rfl
  have m:(Builtin.unsafeSliceData_ #[54] 102 #[ν]).run Zb w.drew=.ok (.pointer none) w.drew:=Lib.run_unsafeSliceData_nil _ _ _ _ _;clear a d k;go_enter func20,ntmps20
  go_wp2
  go_region_o
  all_goals(go_wp2;go_ret;exact⟨rfl,Below.drew (Zf b w)⟩)
 ·by_cases hz:cap=0
  ·subst hz
   have f:w.drew.cell? ⟨b,1,none⟩=some (κ g 0 0):=by rw[Lib.cell_of_heap i];rfl
   have n:w.drew.heap[g]? =some (.cells l 5 (0,0)):=j;have m:(Builtin.unsafeSliceData_ #[54] 102 #[κ g 0 0]).run Zb w.drew=.ok (π w.drew.heap.size) (w.drew.alloc (.view ⟨g,0,none⟩ 5)):=
    Lib.run_unsafeSliceData_zero _ _ _ _ underlying102 _ _ (5,l.size) (by simp [World.shape?,n])
   have u:w.cell? ⟨b,1,none⟩=some (κ g 0 0):=f;clear a d k j n o;go_enter func20,ntmps20
   go_wp2
   go_region_o
   all_goals(go_wp2;go_ret;exact⟨rfl,(Below.drew (Zf b w)).alloc (Nat.le_of_lt r) _⟩)
  ·have f:w.drew.cell? ⟨b,1,none⟩=some (κ g 0 cap):=by rw[Lib.cell_of_heap i];rfl
   have m:(Builtin.unsafeSliceData_ #[54] 102 #[κ g 0 cap]).run Zb w.drew=.ok (π g) w.drew:=
    Lib.run_unsafeSliceData_row _ _ _ _ _ _ hz
   clear a d k j o;go_enter func20,ntmps20
   go_wp2
   go_region_o
   all_goals(go_wp2;go_ret;exact⟨rfl,Below.drew (Zf b w)⟩)
theorem oN(p:Pr)(c d:Value)(w:Zl)(g:0<w.heap.size)(k:Ev w)(f:Cd (· <w.heap.size) w p.arrays c)(h:Bw (· <w.heap.size) w p.funcs d)(j:Eh p=true)(i:Cv (Jw p).length):
  Zm Zb 5 #[.agg #[c,d]] w fun l w'=>l=.returned (.tuple #[.string (Aa (Jw p)),.int .i64 0])∧Zj w.heap.size w w':=
 kL p c d w g k f h j (fun b e a=>by
  by_cases hn:Jw p=[]
  ·rw[hn]at a ⊢;exact kG b 0 e a
  ·exact Vt b a hn) i
def awP:Bs:=[105,110,116,32,109,97,105,110,40,41,32,123,32,112,114,105,110,116,40,49,32,43,32,50,32,42,32,51,41,59,32,125]
def awQ:Bs:=[105,110,116,32,109,97,105,110,40,41,32,123,10]
def awX:Bs:=[97,32,45,32,98,32,45,32,99]
theorem aw_p(w:Zl)(G:Lu w):
  Zm Zb 10 #[.string ⟨#[105,110,116,32,109,97,105,110,40,41,32,123,32,112,114,105,110,116,40,49,32,43,32,50,32,42,32,51,41,59,32,125]⟩] w fun e w'=>
   Zj w.heap.size w w'∧∃j l k b i cap d f g,e=.returned (.tuple #[.agg #[.slice j l k,.slice (some ⟨b,i,none⟩) 1 cap],.int .i64 0,.int .i64 0])∧w'.cell? ⟨b,i+3,none⟩=some (.slice (some ⟨d,f,none⟩) 1 g)∧w'.cell? ⟨d,f,none⟩=some (.int .i64 8)∧1≤cap∧1≤g:=by
 refine(Qa awP (by decide) w G).mono ?_;intro e w' H;obtain⟨C,v,E,u,P,K,L,M⟩:=H;have x:(Ta awP).2.1=0:=by kernel_rfl
 have y:(Ta awP).2.2=0:=by kernel_rfl
 have q:(Ta awP).1.funcs.length=1:=by kernel_rfl
 have z:(Bc (Ta awP).1.funcs 0).body.length=1:=by kernel_rfl
 have A:(Fk (Bc (Ta awP).1.funcs 0).body 0).kind=8:=by kernel_rfl
 generalize Ta awP=N at*;obtain⟨a,cap,b,i,pv,lv,O,rfl,s,_,p,r⟩:=M;rw[q]at s p r;obtain⟨⟨_,_,_,m⟩,_,_,o⟩:=r 0 (by decide);obtain⟨t,g,J⟩:=o.shape;rw[J]at o m;rcases p with p|⟨rfl,_⟩
 ·omega
 have I:∃d f,t=some ⟨d,f,none⟩∧w'.cell? ⟨d,f,none⟩=some (ι 8)∧1≤g:=by
  rw[←A]
  cases o with
  |mk _ _ _ d f sa st se hcap hfit h h0=>
   rcases h with h|⟨h,_⟩
   ·omega
   ·exact⟨d,f,h,by simpa using h0 0 (by omega),by omega⟩
 obtain⟨d,f,rfl,F,D⟩:=I;rw[z]at m;obtain⟨j,l,k,rfl⟩:∃a n c,u=Value.slice a n c:=by obtain⟨a,c,B⟩:=L.yshape;exact⟨a,_,c,B⟩
 refine⟨C,j,l,k,b,i,cap,d,f,g,?_,by simpa using m,F,s,D⟩;rw[E,K,x,y,q]
theorem aw_q(w:Zl)(r:Lu w):
  Zm Zb 10 #[.string ⟨#[105,110,116,32,109,97,105,110,40,41,32,123,10]⟩] w fun e w'=>
   Zj w.heap.size w w'∧∃b f d g i h,e=.returned (.tuple #[.agg #[.slice b f d,.slice g i h],.int .i64 40,.int .i64 2]):=by
 refine(Qa awQ (by decide) w r).mono ?_;intro e w' s;obtain⟨p,v,q,k,o,t,u,x⟩:=s;obtain⟨b,f,d,rfl⟩:∃a n c,k=Value.slice a n c:=by obtain⟨a,c,j⟩:=u.yshape;exact⟨a,_,c,j⟩
 obtain⟨g,i,h,rfl⟩:∃a n c,o=Value.slice a n c:=by obtain⟨a,c,j⟩:=x.yshape;exact⟨a,_,c,j⟩
 have l:(Ta awQ).2.1=40:=by kernel_rfl
 have m:(Ta awQ).2.2=2:=by kernel_rfl
 refine⟨p,b,f,d,g,i,h,?_⟩;rw[q,t,l,m]
theorem aw_x(w:Zl)(o:Lu w):
  Zm Zb 12 #[.string ⟨#[97,32,45,32,98,32,45,32,99]⟩] w fun e w'=>
   Zj w.heap.size w w'∧∃k r n s b d cap,e=.returned (.tuple #[.agg #[.int .i64 k,.int .i64 r,.int .i64 n,.string s,.slice (some ⟨b,d,none⟩) 2 cap],.int .i64 0,.int .i64 0])∧w'.cell? ⟨b,d+8,none⟩=some (.string ⟨#[99]⟩):=by
 refine(bL awX (by decide) w o).mono ?_;intro e w' p;obtain⟨l,v,m,s,q,hx,t⟩:=p;have g:(Xx awX).2.1=0:=by kernel_rfl
 have h:(Xx awX).2.2=0:=by kernel_rfl
 have i:(Xx awX).1.args.length=2:=by kernel_rfl
 have j:(Bx (Xx awX).1.args 1).name=[99]:=by kernel_rfl
 generalize Xx awX=c at*;obtain⟨a,cap,rfl⟩:=hx.shape;obtain⟨b,d,u,rfl,_,_,_,_,f,_⟩:=hx.cellAt 1 (by omega);rw[j]at f;refine⟨l,c.1.kind,c.1.op,c.1.n,Aa c.1.name,b,d,cap,?_,f⟩;rw[m,q,g,h,i]
theorem kR(w:Zl)(O:Lu w):
  Zm Zb 4 #[] w fun e w'=>e=.returned (.bool true)∧Zj w.heap.size w w':=by
 have D:=Za O;clear O;go_enter func4,ntmps4;go_wp2_with fail;refine(aw_p w D.o).mono ?_;rintro e f ⟨h,p,r,q,b,x,cap,ab,aj,ac,rfl,L,N,ag,ah⟩;have a:Zj f.heap.size f (f.alloc (.cells #[.slice p r q,.slice (some ⟨b,x,none⟩) 1 cap] 30)):=bA;obtain⟨o,m,j,z,B⟩:=Y5 (Zc f [.slice p r q,.slice (some ⟨b,x,none⟩) 1 cap] 30) ((D.o.old h).old a) (h.trans (a.mono h.size)) (Ac a L) (Ac a N);clear h L N a;go_upto_region 2 with(fail);generalize f.alloc (.cells #[.slice p r q,.slice (some ⟨b,x,none⟩) 1 cap] 30)=w2 at*;obtain⟨T,P⟩:∃T,f.heap.size=T:=⟨_,rfl⟩;rw[P]at o ⊢;clear P;go_wp2_with fail;refine(aw_q w2 m.o).mono ?_;rintro e i ⟨c,H,S,I,K,R,J,rfl⟩;have a:Zj i.heap.size i (i.alloc (.cells #[.slice H S I,.slice K R J] 30)):=bA;obtain⟨F,E,l,A,C⟩:=Y5 ((o.o.old c).old a) ((m.o.old c).old a) (j.o.trans ((c.trans (a.mono c.size)).mono j.o.size)) (Ac a (Ac c z.o)) (Ac a (Ac c B.o));clear c a o m j z B;go_upto_region 3 with(fail);generalize i.alloc (.cells #[.slice H S I,.slice K R J] 30)=aa at*;go_wp2_with fail;refine(aw_x aa E.o).mono ?_;rintro e g ⟨d,k,v,n,s,t,y,u,rfl,M⟩;have a:Zj g.heap.size g (g.alloc (.cells #[ι k,ι v,ι n,.string s,.slice (some ⟨t,y,none⟩) 2 u] 35)):=bA
 obtain⟨Z,G,X,V,Y,W⟩:=Y6 ((F.o.old d).old a) (Zc g [ι k,ι v,ι n,.string s,.slice (some ⟨t,y,none⟩) 2 u] 35) (l.o.trans ((d.trans (a.mono d.size)).mono l.o.size)) (Ac a (Ac d A.o)) (Ac a (Ac d C.o)) (Ac a M);clear d a F E l A C M;go_upto_region 4 with(fail);generalize g.alloc (.cells #[ι k,ι v,ι n,.string s,.slice (some ⟨t,y,none⟩) 2 u] 35)=al at*;obtain⟨U,Q⟩:∃U,g.heap.size=U:=⟨_,rfl⟩;rw[Q]at G ⊢;clear Q;have ak:=Z.o.at 1 _ rfl;have q4:=G.o.at 4 _ rfl;have ad:=V.o;have af:=Y.o;have ae:=W.o;have ai:(1:Int)≤(cap:Int):=by omega
 go_wp2;go_ret
 exact⟨rfl,X.o⟩
def Uw(c n:Int):Int:=if c<0 then(-(c+1)) % n else c % n
theorem aK(c n:Int)(a:I64 c)(b:0<n)(d:n≤9223372036854775807)(w:Zl):
  Zm Zb 9 #[.int .i64 c,.int .i64 n] w fun e w'=>e=.returned (.int .i64 (Uw c n))∧w'=w:=by
 obtain⟨l,u⟩:=a;unfold Uw
 by_cases hneg:c<0
 ·rw[if_pos hneg]
  have f:(n==0)=false:=by simp;omega
  go_enter func9,ntmps9;go_wp2;go_ret
  exact⟨Iv (by show -((c+1).tmod n)=_;rw[←Int.neg_tmod,Int.tmod_eq_emod_of_nonneg (by omega)]),rfl⟩
 ·rw[if_neg hneg]
  have g:0≤c:=by omega
  go_enter func9,ntmps9;go_wp2;go_ret
  exact⟨rfl,rfl⟩
theorem Ua(c n:Int)(a:0<n):∃k:Nat,Uw c n=k∧(k:Int)<n:=by
 unfold Uw;split
 ·exact⟨((-(c+1)) % n).toNat,by have:=Int.emod_nonneg (-(c+1)) (show n≠0 by omega);omega,by have:=Int.emod_nonneg (-(c+1)) (show n≠0 by omega);have:=Int.emod_lt_of_pos (-(c+1)) a;omega⟩
 ·exact⟨(c % n).toNat,by have:=Int.emod_nonneg c (show n≠0 by omega);omega,by have:=Int.emod_nonneg c (show n≠0 by omega);have:=Int.emod_lt_of_pos c a;omega⟩
inductive Xf:Ex→Prop
 |num (n:Int) (h:0≤n):Xf (.mk 1 0 n [] [])
 |var (nm:Bs) (h:Ak nm=true):Xf (.mk 2 0 0 nm [])
 |one (o:Int) (x:Ex) (h:o=17∨o=18∨o=19) (hx:Cc x=true):Xf (.mk 3 o 0 [] [x])
 |two (o:Int) (x y:Ex) (h:0<Ao o) (hx:Cc x=true) (hy:Cc y=true):Xf (.mk 4 o 0 [] [x,y])
 |call (nm:Bs) (l:List Ex) (h:Ak nm=true) (hn:l.length≤6) (hl:∀x,x∈l→Cc x=true):Xf (.mk 5 0 0 nm l)
 |index (nm:Bs) (x:Ex) (h:Ak nm=true) (hx:Cc x=true):Xf (.mk 6 0 0 nm [x])
 |read:Xf (.mk 7 0 0 [] [])
def SOk(x:St):Prop:= ∃a,Dy a x=true
inductive Ml:St→Prop
 |set (nm:Bs) (x:Ex) (h:Ak nm=true) (hx:Cc x=true):Ml (.mk 1 nm [x] [] [])
 |store (nm:Bs) (x y:Ex) (h:Ak nm=true) (hx:Cc x=true) (hy:Cc y=true):Ml (.mk 2 nm [x,y] [] [])
 |iff (x:Ex) (t e:List St) (hx:Cc x=true) (ht:∀y,y∈t→SOk y) (he:∀y,y∈e→SOk y):Ml (.mk 3 [] [x] t e)
 |loop (x:Ex) (t:List St) (hx:Cc x=true) (ht:∀y,y∈t→SOk y):Ml (.mk 4 [] [x] t [])
 |brk:Ml (.mk 5 [] [] [] [])
 |cont:Ml (.mk 6 [] [] [] [])
 |ret (x:Ex) (hx:Cc x=true):Ml (.mk 7 [] [x] [] [])
 |prt (x:Ex) (hx:Cc x=true):Ml (.mk 8 [] [x] [] [])
 |trp (x:Ex) (hx:Cc x=true):Ml (.mk 9 [] [x] [] [])
 |call (nm:Bs) (l:List Ex) (h:Ak nm=true) (hn:l.length≤6) (hl:∀x,x∈l→Cc x=true):Ml (.mk 10 [] [.mk 5 0 0 nm l] [] [])
structure FOk (f:Fu):Prop where
 name:Ak f.name=true
 params:∀x,x∈f.params→Ak x=true
 locals:∀x,x∈f.locals→Ak x=true
 body:∀x,x∈f.body→SOk x
theorem qY {f:Fu}(a:Dr f=true):FOk f:=by
 unfold Dr at a;simp only[Bool.and_eq_true,Ze]at a;exact⟨a.1.1.1.1,a.1.1.1.2,a.1.1.2,fun x hx=>⟨40,a.2 x hx⟩⟩
end Go.Proofs.YthcpopmmlneneaaGreatDoor
