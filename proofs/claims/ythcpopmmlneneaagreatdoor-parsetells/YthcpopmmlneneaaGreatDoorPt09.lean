/-
  Prog: a round of the loop that makes arrays. Conditions: as what holds says.
-/
import Derived.Test.YthcpopmmlneneaaGreatDoorPt04
import Derived.ChangeSlices
import Derived.OpenShut
import Derived.ProofKit
import Derived.Test.YthcpopmmlneneaaGreatDoorPt05
import Derived.Deep.CutBlock
import Derived.Deep.CutRange
import Derived.Maps.AppendAt
set_option linter.unusedVariables false
set_option linter.unusedSimpArgs false
namespace Go.Proofs.YthcpopmmlneneaaGreatDoor
open Go.ChangeShapes Go.WideShapes Go.ChangeAt Go.RowKit
set_option maxHeartbeats 4000000
set_option maxRecDepth 100000
def Ia(D:Nat→Prop)(w:World)(l:List Int)(v:Value):Prop:=
 ∃a cap b c,v=.slice a l.length cap∧l.length≤cap∧cap≤9223372036854775807∧(l.length=0∨(a=some ⟨b,c,none⟩∧D b))∧
  (∀i,i<l.length→w.cell? ⟨b,c+i,none⟩=some (.int .i64 (l.getD i 0)))∧∀i,i<l.length→I64 (l.getD i 0)
theorem Ia.keep {D:Nat→Prop}{w w':World}(m:Db D w w'){l:List Int}{v:Value}(d:Ia D w l v):Ia D w' l v:=by
 obtain⟨a,cap,b,o,n,e,f,c,g,h⟩:=d;refine⟨a,cap,b,o,n,e,f,c,fun i k=>?_,h⟩;rcases c with c|⟨_,j⟩
 ·omega
 ·exact m _ _ _ j (g i k)
theorem Ia.mono {D D':Nat→Prop}(i:∀b,D b→D' b){w:World}{l:List Int}{v:Value}(c:Ia D w l v):Ia D' w l v:=by
 obtain⟨a,cap,b,k,j,d,e,f,g,h⟩:=c;exact⟨a,cap,b,k,j,d,e,f.imp id (fun q=>⟨q.1,i _ q.2⟩),g,h⟩
theorem Ia.old {w w':World}{l:List Int}{v:Value}(a:Below w.heap.size w w')(c:Ia (· <w.heap.size) w l v):Ia (· <w'.heap.size) w' l v:=
 (c.keep (Be a)).mono (fun b d=>Nat.lt_of_lt_of_le d a.size)
theorem Ia.shape {D:Nat→Prop}{w:World}{l:List Int}{v:Value}(c:Ia D w l v):∃a cap,v=.slice a l.length cap:=by
 obtain⟨a,cap,b,e,d,_⟩:=c;exact⟨a,cap,d⟩
theorem Ia.len {D:Nat→Prop}{w:World}{l:List Int}{v:Value}(c:Ia D w l v):l.length≤9223372036854775807:=by
 obtain⟨a,cap,b,g,f,d,e,_⟩:=c;omega
theorem Ia.take {D:Nat→Prop}{w:World}{l:List Int}{a:Option Addr}{n cap:Nat}(f:Ia D w l (.slice a n cap))(k:Nat)(t:k≤l.length)(s:k≤1000):Ib D w (l.take k) (.slice a k cap):=by
 obtain⟨o,p,b,m,j,q,r,d,g,h⟩:=f
 cases j
 have e:(l.take k).length=k:=by rw[List.length_take];omega
 refine⟨a,cap,b,m,by rw[e],by rw[e];omega,by rw[e];show k≤_;omega,?_,fun i c=>?_,fun i c=>?_⟩
 ·rcases d with d|d
  ·left;rw[e];omega
  ·exact .inr d
 ·rw[e]at c
  have:=g i (by omega);rw[List.getD_eq_getElem?_getD,List.getElem?_take,if_pos c,←List.getD_eq_getElem?_getD];exact this
 ·rw[e]at c
  have:=h i (by omega);rw[List.getD_eq_getElem?_getD,List.getElem?_take,if_pos c,←List.getD_eq_getElem?_getD];exact this
theorem pM {n:Int}(a:(Lit.int .i64 n).wf=true):I64 n:=by
 simp only[Lit.wf,Bool.and_eq_true,decide_eq_true_eq]at a;exact a
theorem Vp:Tryz.prog.cellsOf 3=1:=by kernel_rfl
theorem tX {v:Type}{enc:TypeId ×Value→v}{f:World}{z:Nat}{x:Value}{d:DataW v}{p:List MemPlace}(I:Value.okWide Tryz.prog f .any z 22 x)(A:DataW.Trod enc Tryz.prog f 0 (fun _=>true) true 22 x d p):
  ∃raw,Ia (· <f.heap.size) f raw x∧∀(h:World) (g:Nat→Bool) (l:Bool),Below f.heap.size f h→(∀q,q∈p→g q.block=true)→DataW.Trod enc Tryz.prog h 0 g l 22 x d p:=by
 obtain⟨K,m,cap,rfl⟩:=okWide_slice Tryz.underlying22 I;obtain⟨M,E⟩:=A;rcases open_ints Tryz.underlying22 Tryz.underlying3 Vp E with⟨o,hx⟩|⟨a,O,L,j,o,N,r,s,y,hx,D,t⟩
 ·cases o;cases hx
  exact⟨[],⟨none,0,0,0,rfl,Nat.le_refl _,Nat.zero_le _,.inl rfl,fun i c=>(by cases c),fun i c=>(by cases c)⟩,fun h g l _ _=>⟨2,rfl⟩⟩
 ·cases o;cases hx
  rw[if_pos rfl]at y;have e:(j.take m).length=m:=by rw[List.length_take];omega
  have w:cap≤9223372036854775807:=by unfold maxLen at s;omega
  have J:∀i,i<j.length→I64 (j.getD i 0):=fun i c=>pM (t _ (by rw[List.getD_eq_getElem?_getD,List.getElem?_eq_getElem c];exact List.getElem_mem c))
  rcases Nat.eq_zero_or_pos j.length with k|k
  ·have F:m=0:=by omega
   subst F;refine⟨[],⟨some a,cap,0,0,rfl,Nat.zero_le _,w,.inl rfl,fun i c=>(by cases c),fun i c=>(by cases c)⟩,fun h g l _ _=>⟨2,?_⟩⟩;exact shut_ints 0 Tryz.underlying22 Tryz.underlying3 Vp (Nat.zero_le _) r s (by split<;>omega) (fun i c=>by omega) t
  ·obtain⟨b,u,rfl,n⟩:=ints_at D k
   have C:b<f.heap.size:=World.block_lt_of_cell? _ _ (n 0 k);refine⟨j.take m,⟨some ⟨b,u,none⟩,cap,b,u,by rw[e],by rw[e];exact r,w,.inr ⟨rfl,C⟩,fun i c=>?_,fun i c=>?_⟩,fun h g l B H=>⟨2,?_⟩⟩
   ·rw[e]at c
    have:=n i (by omega);rw[List.getD_eq_getElem?_getD,List.getElem?_take,if_pos c,←List.getD_eq_getElem?_getD];exact this
   ·rw[e]at c
    have:=J i (by omega);rw[List.getD_eq_getElem?_getD,List.getElem?_take,if_pos c,←List.getD_eq_getElem?_getD];exact this
   ·have G:g b=true:=H (.cell b (u+0)) (MemPlace.mem_row.2 ⟨0,k,rfl⟩)
    exact shut_ints' 0 Tryz.underlying22 Tryz.underlying3 Vp (Nat.zero_le _) r s (by rw[G];simpa using y) (fun i c=>Ac B (n i c)) t
end Go.Proofs.YthcpopmmlneneaaGreatDoor
namespace Go.Proofs.YthcpopmmlneneaaGreatDoor
open Go.RowKit Go.Proofs.Tryz
set_option maxHeartbeats 20000000
set_option maxRecDepth 100000
open Go renaming World→Zp,Addr→Zr,Calls→Zs,wpList_append_lies→Zu
open Go.RowKit renaming Hid→Zq,Below→Zt
open Go.Lib renaming hid→Za
open Go.Proofs.Tryz renaming prog→Zb,underlying33→Zk
open Go.RowKit.Below renaming refl→Zc
open SFr renaming of_below→Zd
open Ad renaming new→Ze
open List renaming length_map→Zf,getElem?_eq_getElem→Zg,length_append→Zi,length_eq_zero_iff→Zl,length_singleton→Zm,getD_eq_getElem?_getD→Zn
open Dv renaming new→Zh
open World renaming cell?_of_block→Zj,block_lt_of_cell?→Zo
theorem call_of(d:Nat)(bd:2≤d)(be:d≤1000)(aM:Kb (d-1))(s:Nat)(raw:List Int)(a:Nat)(sc:Sc)(aN ax ay:Value)(w:Zp)(ae:Az w s raw a)(y:Fy s w sc aN ax ay)(H:(sc.free||sc.funcs.isEmpty)=false):
  Zs Zb 50 #[scV sc aN ax ay,.pointer (some ⟨s,0,none⟩),.int .i64 d] w (Fg w s raw (Hu sc raw (Aw sc raw (d-1)) a)):=by
 have bJ:0<sc.funcs.length:=dY (by rw[H];simp);have aD:sc.free=false:=by revert H;cases sc.free<;>simp
 obtain⟨D,E,rfl⟩:=y.vars.shape;obtain⟨A,B,rfl⟩:=y.arrays.shape;obtain⟨aa,z,rfl⟩:=y.funcs.shape;have bM:=y.f1;have bj:=ae.lt;obtain⟨t,aB,aG,aC⟩:=tG w [.slice D sc.vars.length E,.slice A sc.arrays.length B,.slice aa sc.funcs.length z,.bool sc.free,.bool sc.loop] η [ι 5,ι 0,ι 0,ε,ν] 69 35 35;obtain⟨R,an,T,Y,ak,aV⟩:=Y6 aB aG aC (ae.old t) (Zd (s:=s) t) y;have aT:Zq (((d-1:Nat):Int)=(d:Int)-1):=by show _=_;omega
 have W:Zq (∀p b,Az p s raw b→Fy s p sc (.slice D sc.vars.length E) (.slice A sc.arrays.length B) (.slice aa sc.funcs.length z)→Zs Zb 26 #[scV sc (.slice D sc.vars.length E) (.slice A sc.arrays.length B) (.slice aa sc.funcs.length z),π s,ι ((d:Int)-1)] p (Fg p s raw (Aw sc raw (d-1) b))):=fun p b ac aX=>by have q:=aM s raw b sc _ _ _ p ac aX;rw[aT.o]at q;exact q
 have aw:Zq (w.heap.size+1≠s):=by show _≠_;omega
 have av:Zq (w.heap.size≠s):=by show _≠_;omega
 have au:Zq (w.heap.size+2≠s):=by show _≠_;omega
 have bE:(2:Int)≤(d:Int):=by omega
 have bF:(d:Int)≤1000:=by omega
 clear t aB aG aC ae aM;have af:Hu sc raw (Aw sc raw (d-1)) a=(.mk 5 0 0 (Bc sc.funcs (Ab raw a sc.funcs.length).1.toNat).name (Ej (Aw sc raw (d-1)) (Bc sc.funcs (Ab raw a sc.funcs.length).1.toNat).params.length (Ab raw a sc.funcs.length).2).1,(Ej (Aw sc raw (d-1)) (Bc sc.funcs (Ab raw a sc.funcs.length).1.toNat).params.length (Ab raw a sc.funcs.length).2).2):=by unfold Hu;rw[if_neg (by rw[H];simp)]
 rw[af];clear af;have aU:Zq (∀p,Az p s raw a→Zs Zb 21 #[π s,ι sc.funcs.length] p (Eb p s raw (ι (Ab raw a sc.funcs.length).1) (Ab raw a sc.funcs.length).2)):=fun p ac=>Co s raw a sc.funcs.length p ac (by omega) (by omega)
 have bh:=Am raw a sc.funcs.length (by omega);generalize Ab raw a sc.funcs.length=g at*;obtain⟨i,aW⟩:=g;obtain⟨bk,bK⟩:=bh;dsimp only at*;obtain⟨i,rfl⟩:=Int.eq_ofNat_of_zero_le bk;rw[Int.toNat_natCast];have aF:i<sc.funcs.length:=by omega
 obtain⟨c,h,bX,bW,bV,rfl,az,bD,N,O,P,Q,aL,aK,aJ⟩:=Bw.cellAt y.funcs i aF;obtain⟨k,l,rfl⟩:=aL.shape;obtain⟨j,l2,rfl⟩:=aK.shape;obtain⟨m,n,rfl⟩:=aJ.shape;have bc:(Bc sc.funcs i).params.length≤1000000:=y.p1 _ (Xg aF);have v:c≠s:=az;generalize Bc sc.funcs i=x at*;have t:=(tG w [.slice D sc.vars.length E,.slice A sc.arrays.length B,.slice (some ⟨c,h,none⟩) sc.funcs.length z,.bool sc.free,.bool sc.loop] η [ι 5,ι 0,ι 0,ε,ν] 69 35 35).1;replace N:=Ac t N;replace O:=Ac t O;replace P:=Ac t P;replace Q:=Ac t Q;clear t H aL aK aJ az y;unfold scV at W ⊢;rw[aD]at R an T Y ak W N O P Q ⊢;clear aD;have bI:((sc.funcs.length:Int)==0)=false:=beq_eq_false_iff_ne.2 (by omega);generalize sc.funcs.length=ab at*;obtain ⟨bn, bo, bp, bq, br⟩ := τ5 R.o;go_enter func50,ntmps50
 go_upto_if 19 with(fail)
 generalize (((w.alloc (.cells #[.slice D sc.vars.length E,.slice A sc.arrays.length B,.slice (some ⟨c,h,none⟩) ab z,.bool false,.bool sc.loop] 69)).alloc (ζ)).alloc (.cells #[ι 5,ι 0,ι 0,ε,ν] 35))=f at*;go_cut [8] (fun q G=>q= ι x.params.length∧Az G s raw aW∧SFr s w G∧Ad G w.heap.size [.slice D sc.vars.length E,.slice A sc.arrays.length B,.slice (some ⟨c,h,none⟩) ab z,.bool false,.bool sc.loop] 69∧Ad G (w.heap.size+1) η 35∧Ad G (w.heap.size+2) [ι 5,ι 0,ι 0,σ x.name,ν] 35)
 case first=>
  go_upto_region 6 with(fail);have C:Zt f.heap.size f f.drew:=(Zc _ _).drew;obtain⟨ar,am,ah,ap,aj⟩:=Y5 (Y.o.old C) (ak.o.trans (Zd C)) (R.o.old C) (an.o.old C) (T.o.old C);have aO:f.drew.cell? ⟨c,h+i*4,none⟩=some (σ x.name):=N;have aP:f.drew.cell? ⟨c,h+i*4+1,none⟩=some (.slice k x.params.length l):=O;have aQ:f.drew.cell? ⟨c,h+i*4+2,none⟩=some (.slice j x.locals.length l2):=P;have aR:f.drew.cell? ⟨c,h+i*4+3,none⟩=some (.slice m x.body.length n):=Q;have bz:=T.o.lt;have J:s<f.heap.size:=Y.o.lt;have bb:f.heap.size≠s:=by omega
  have aI:s<w.heap.size+2:=by omega
  have aE:w.heap.size≤w.heap.size+2:=by omega
  have I:w.heap.size≤f.heap.size:=by omega
  have bG:c≠f.heap.size:=by omega
  have K:w.heap.size≠f.heap.size:=by omega
  have L:w.heap.size+1≠f.heap.size:=by omega
  have M:w.heap.size+2≠f.heap.size:=by omega
  clear C
  go_region_held3 (fun w'=>w'.cell? ⟨w.heap.size,2,none⟩=some (.slice (some ⟨c,h,none⟩) ab z)∧w'.cell? ⟨c,h+i*4,none⟩=some (σ x.name)∧w'.cell? ⟨c,h+i*4+1,none⟩=some (.slice k x.params.length l)∧w'.cell? ⟨c,h+i*4+2,none⟩=some (.slice j x.locals.length l2)∧w'.cell? ⟨c,h+i*4+3,none⟩=some (.slice m x.body.length n)) (first|(simp [*,World.cell?_alloc_lt,Ue];done)|go_keep) (first
   |(go_at_call 21;refine(aU.o _ (by first|exact ar.o|exact ar.o.alloc _)).mono ?_;rintro bU r ⟨bf,aH,e⟩;subst bf;have aq:=Za aH;have al:Zq (SFr s w r):=(by first|exact am.o.trans e|exact(am.o.trans (SFr.alloc _)).trans e);have ad:Ad r w.heap.size _ _:=(by first|exact ah.o.sfr e av.o|exact(ah.o.alloc _).sfr e av.o);have aA:Ad r (w.heap.size+1) _ _:=(by first|exact ap.o.sfr e aw.o|exact(ap.o.alloc _).sfr e aw.o);have F:Ad r (w.heap.size+2) _ _:=(by first|exact aj.o.sfr e au.o|exact(aj.o.alloc _).sfr e au.o);obtain⟨ag,ao,ai⟩:=Y3 ad aA F;have bL:=ad.at 2 _ rfl;have bl:r.cell? ⟨c,h+i*4,none⟩=some (σ x.name):=(by first|exact e.cell v aO|exact e.cell v (Ac (bA) aO));have bN:r.cell? ⟨c,h+i*4+1,none⟩=some (.slice k x.params.length l):=(by first|exact e.cell v aP|exact e.cell v (Ac (bA) aP));have bO:r.cell? ⟨c,h+i*4+2,none⟩=some (.slice j x.locals.length l2):=(by first|exact e.cell v aQ|exact e.cell v (Ac (bA) aQ));have bP:r.cell? ⟨c,h+i*4+3,none⟩=some (.slice m x.body.length n):=(by first|exact e.cell v aR|exact e.cell v (Ac (bA) aR));have bw:=F.fz 3;have bx:=F.at 3 _ rfl;have bB:=F.lt;have bC:c<r.heap.size:=Zo _ _ bl;(first|(have u:Ad r f.heap.size _ _:=(Ze f.drew [ε,ν,ν,ν] 48).sfr e bb;obtain ⟨bQ, bR, bS, bT⟩ := τ4 u;have bs:=u.fz 0;have bt:=u.fz 1;have bu:=u.fz 2;have bv:=u.fz 3;have bm:=Za u;have bH:=u.lt;clear u)|skip);clear aH e ad aA F))
  ·obtain⟨Z,V,S,X,U⟩:=Y5 ((aq.o.other aI 3 (σ x.name)).alloc (.cells #[σ x.name,.slice k x.params.length l,.slice j x.locals.length l2,.slice m x.body.length n] 48)) ((al.o.setNew aE 3 (σ x.name)).trans (SFr.alloc (.cells #[σ x.name,.slice k x.params.length l,.slice j x.locals.length l2,.slice m x.body.length n] 48))) ((ag.o.other (show w.heap.size≠w.heap.size+2 by omega) 3 (σ x.name)).alloc (.cells #[σ x.name,.slice k x.params.length l,.slice j x.locals.length l2,.slice m x.body.length n] 48)) ((ao.o.other (show w.heap.size+1≠w.heap.size+2 by omega) 3 (σ x.name)).alloc (.cells #[σ x.name,.slice k x.params.length l,.slice j x.locals.length l2,.slice m x.body.length n] 48)) ((ai.o.set 3 (σ x.name)).alloc (.cells #[σ x.name,.slice k x.params.length l,.slice j x.locals.length l2,.slice m x.body.length n] 48));go_wp2;go_meet;exact⟨rfl,Z.o,V.o,S.o,X.o,U.o⟩
  ·obtain⟨Z,V,S,X,U⟩:=Y5 (((((aq.o.other J 0 (σ x.name)).other J 1 (.slice k x.params.length l)).other J 2 (.slice j x.locals.length l2)).other J 3 (.slice m x.body.length n)).other aI 3 (σ x.name)) (((((al.o.setNew I 0 (σ x.name)).setNew I 1 (.slice k x.params.length l)).setNew I 2 (.slice j x.locals.length l2)).setNew I 3 (.slice m x.body.length n)).setNew aE 3 (σ x.name)) (((((ag.o.other K 0 (σ x.name)).other K 1 (.slice k x.params.length l)).other K 2 (.slice j x.locals.length l2)).other K 3 (.slice m x.body.length n)).other (show w.heap.size≠w.heap.size+2 by omega) 3 (σ x.name)) (((((ao.o.other L 0 (σ x.name)).other L 1 (.slice k x.params.length l)).other L 2 (.slice j x.locals.length l2)).other L 3 (.slice m x.body.length n)).other (show w.heap.size+1≠w.heap.size+2 by omega) 3 (σ x.name)) (((((ai.o.other M 0 (σ x.name)).other M 1 (.slice k x.params.length l)).other M 2 (.slice j x.locals.length l2)).other M 3 (.slice m x.body.length n)).set 3 (σ x.name));go_wp2;go_meet;exact⟨rfl,Z.o,V.o,S.o,X.o,U.o⟩
 case rest=>
  obtain⟨rfl,bi,bg,aY,ba,aZ⟩:=hcut;apply_assumption
  exact aS bd be bj aV.o W.o bc bi bg aY ba aZ _ _ _ _ _ _ _ _ _ _ _ _ _ _ _ _ _ _ _ _ _ _ _ _ _ _ _ _ _ _ _ _ _ _ _ _ _ _ _ _ _ _ _ _ _ _ _ _ _ _
theorem bV(d:Nat)(e:2≤d)(f:d≤1000)(j:Kb (d-1)):Rw d:=by
 intro s raw a sc k b c w g i
 cases h:(sc.free||sc.funcs.isEmpty)
 ·exact call_of d e f j s raw a sc k b c w g i h
 ·exact sH d e f j s raw a sc k b c w g i h
theorem Ku:∀d:Nat,d≤1000→Kb d
 |0,a=>bM 0 a (fun a=>absurd a (by decide)) (fun a=>absurd a (by decide))
 |d+1,a=>bM (d+1) a (fun _=>Ku d (by omega)) (fun b=>bV (d+1) b a (Ku d (by omega)))
theorem xM(d:Nat)(a:2≤d)(b:d≤1000):Rw d:=bV d a b (Ku (d-1) (by omega))
def Ig(w:Zp)(s:Nat)(raw:List Int)(x:List St ×Nat)(a:Ending)(w':Zp):Prop:=
 ∃v,a=.returned v∧Az w' s raw x.2∧SFr s w w'∧Au (w.heap.size≤ ·) w' x.1 v
def Pi(d:Nat):Prop:= ∀(s:Nat) (raw:List Int) (a:Nat) (sc:Sc) (e b c:Value) (w:Zp),Az w s raw a→Fy s w sc e b c→
 Zs Zb 23 #[scV sc e b c,.pointer (some ⟨s,0,none⟩),.int .i64 d] w (Ig w s raw (Gt raw d sc a))
theorem Fy.inLoop {s:Nat}{w:Zp}{sc:Sc}{d b c:Value}(a:Fy s w sc d b c):Fy s w sc.inLoop d b c:=⟨a.vars,a.arrays,a.funcs,a.v1,a.a1,a.f1,a.p1⟩
theorem jQ(raw:List Int)(d:Nat)(sc:Sc):∃gs gl,(∀a,Gt raw d sc a=Ir (gSt sc raw gs gl d) (Ab raw a 5).1.toNat (Ab raw a 5).2)∧(2≤d→gs=Gt raw (d-1) sc∧gl=Gt raw (d-1) sc.inLoop):=by
 cases d with
 |zero=>exact⟨_,_,fun a=>rfl,fun b=>by omega⟩
 |succ d=>exact⟨_,_,fun a=>rfl,fun _=>⟨rfl,rfl⟩⟩
theorem kF(b:Nat→St ×Nat)(c a:Nat):Ir b (c+1) a=((Ir b c a).1++[(b (Ir b c a).2).1],(b (Ir b c a).2).2):=rfl
abbrev nD(k:Int)(nm:Bs)(n:Nat)(va:Option Zr)(vc:Nat)(xt xe:Value):List Value:=[.int .i64 k,.string (Aa nm),.slice va n vc,xt,xe]
def Ns(a:Nat)(v:Value)(b:Nat):Prop:=a+1≤b∧v.ownBlock≠some b
structure Cx (wr:Zp)(X s:Nat)(raw:List Int)(k:Int)(nm:Bs)(ps:List (Ex ×Value))(va:Option Zr)(vc:Nat)(t e:List St)(xt xe:Value)(a:Nat)(wx:Zp):Prop where
 src:Az wx s raw a
 fr:SFr s wr wx
 own:Ad wx X (nD k nm ps.length va vc xt xe) 50
 exs:Br wx (X+1) ps (.slice va ps.length vc)
 thn:Au (Ns X (.slice va ps.length vc)) wx t xt
 els:Au (Ns X (.slice va ps.length vc)) wx e xe
 ge:wr.heap.size≤X
 gt:s<X
theorem Cx.lt {wr c:Zp}{b s:Nat}{raw:List Int}{k:Int}{nm:Bs}{f:List (Ex ×Value)}{g:Option Zr}{h:Nat}{t e:List St}{j i:Value}{a:Nat}(d:Cx wr b s raw k nm f g h t e j i a c):b<c.heap.size:=d.own.lt
theorem Cx.new {wr w:Zp}{s:Nat}{raw:List Int}{a:Nat}(k:Int)(c:Az w s raw a)(b:SFr s wr w):Cx wr w.heap.size s raw k [] [] none 0 [] [] (.slice none 0 0) (.slice none 0 0) a (w.alloc (.cells #[.int .i64 k,.string ⟨#[]⟩,.slice none 0 0,.slice none 0 0,.slice none 0 0] 50)):=
 ⟨c.alloc _,b.trans (SFr.alloc _),Ze _ _ _,Br.zero _ _,Au.zero,Au.zero,b.size,c.lt⟩
theorem Cx.sfr {wr m w':Zp}{g s:Nat}{raw:List Int}{k:Int}{nm:Bs}{i:List (Ex ×Value)}{j:Option Zr}{l:Nat}{t e:List St}{o n:Value}{a h:Nat}(c:Cx wr g s raw k nm i j l t e o n a m)(p:Az w' s raw h)(d:SFr s m w'):Cx wr g s raw k nm i j l t e o n h w':=
 ⟨p,c.fr.trans d,c.own.sfr d (by have:=c.gt;omega),c.exs.sfr d (by have:=c.gt;omega),c.thn.keep (d.keepsD (fun b f=>by have:=f.1;have:=c.gt;omega)),c.els.keep (d.keepsD (fun b f=>by have:=f.1;have:=c.gt;omega)),c.ge,c.gt⟩
theorem Cx.below {wr b w':Zp}{c s:Nat}{raw:List Int}{k:Int}{nm:Bs}{g:List (Ex ×Value)}{h:Option Zr}{i:Nat}{t e:List St}{l j:Value}{a:Nat}(d:Cx wr c s raw k nm g h i t e l j a b)(f:Zt b.heap.size b w'):Cx wr c s raw k nm g h i t e l j a w':=
 d.sfr (d.src.old f) (Zd f)
theorem Cx.kind {wr j:Zp}{c s:Nat}{raw:List Int}{k:Int}{nm:Bs}{g:List (Ex ×Value)}{h:Option Zr}{i:Nat}{t e:List St}{m l:Value}{a:Nat}(b:Cx wr c s raw k nm g h i t e m l a j)(f:Int):Cx wr c s raw f nm g h i t e m l a (j.setCell ⟨c,0,none⟩ (.int .i64 f)):=
 ⟨b.src.other b.gt 0 _,b.fr.setNew b.ge 0 _,b.own.set 0 _,b.exs.other (by omega) 0 _,b.thn.keep (Al _ (fun d=>by have:=d.1;omega) 0 _),b.els.keep (Al _ (fun d=>by have:=d.1;omega) 0 _),b.ge,b.gt⟩
theorem Cx.name {wr j:Zp}{c s:Nat}{raw:List Int}{k:Int}{nm:Bs}{g:List (Ex ×Value)}{h:Option Zr}{i:Nat}{t e:List St}{m l:Value}{a:Nat}(b:Cx wr c s raw k nm g h i t e m l a j)(f:Bs):Cx wr c s raw k f g h i t e m l a (j.setCell ⟨c,1,none⟩ (.string (Aa f))):=
 ⟨b.src.other b.gt 1 _,b.fr.setNew b.ge 1 _,b.own.set 1 _,b.exs.other (by omega) 1 _,b.thn.keep (Al _ (fun d=>by have:=d.1;omega) 1 _),b.els.keep (Al _ (fun d=>by have:=d.1;omega) 1 _),b.ge,b.gt⟩
theorem Cx.setThn {wr i:Zp}{c s:Nat}{raw:List Int}{k:Int}{nm:Bs}{f:List (Ex ×Value)}{g:Option Zr}{h:Nat}{t e:List St}{o m:Value}{a:Nat}(b:Cx wr c s raw k nm f g h t e o m a i)(l:List St)(j:Value)(n:Au (Ns c (.slice g f.length h)) i l j):Cx wr c s raw k nm f g h l e j m a (i.setCell ⟨c,3,none⟩ j):=
 ⟨b.src.other b.gt 3 _,b.fr.setNew b.ge 3 _,b.own.set 3 _,b.exs.other (by omega) 3 _,n.keep (Al _ (fun d=>by have:=d.1;omega) 3 _),b.els.keep (Al _ (fun d=>by have:=d.1;omega) 3 _),b.ge,b.gt⟩
theorem Cx.setEls {wr i:Zp}{c s:Nat}{raw:List Int}{k:Int}{nm:Bs}{f:List (Ex ×Value)}{g:Option Zr}{h:Nat}{t e:List St}{m o:Value}{a:Nat}(b:Cx wr c s raw k nm f g h t e m o a i)(l:List St)(j:Value)(n:Au (Ns c (.slice g f.length h)) i l j):Cx wr c s raw k nm f g h t l m j a (i.setCell ⟨c,4,none⟩ j):=
 ⟨b.src.other b.gt 4 _,b.fr.setNew b.ge 4 _,b.own.set 4 _,b.exs.other (by omega) 4 _,b.thn.keep (Al _ (fun d=>by have:=d.1;omega) 4 _),n.keep (Al _ (fun d=>by have:=d.1;omega) 4 _),b.ge,b.gt⟩
theorem Cx.beside {wr i:Zp}{c s:Nat}{raw:List Int}{k:Int}{nm:Bs}{f:List (Ex ×Value)}{g:Option Zr}{h:Nat}{t e:List St}{l j:Value}{a:Nat}(d:Cx wr c s raw k nm f g h t e l j a i)(b:Nat)(m:i.heap.size≤b):Ns c (.slice g f.length h) b:=
 ⟨by have:=d.lt;omega,fun e=>by have:=(d.exs.ge e).2;omega⟩
theorem Cx.more {wr o h:Zp}{f s:Nat}{raw:List Int}{k:Int}{nm:Bs}{c:List (Ex ×Value)}{j:Option Zr}{m:Nat}{t e:List St}{w v:Value}{a:Nat}(d:Cx wr f s raw k nm c j m t e w v a o)(x:Ex)(p:Value)(hx:Ag (Ns f (.slice j c.length m)) o x.args p)(M:I64 x.n){g cap:Nat}
  (N:h.ownsRow (f+1) 35 5 (.slice (some ⟨g,0,none⟩) (c.length+1) cap) (c.length+1) (Dl c++Ba x p)) (r:o.grownBy h (Value.slice j c.length m).ownBlock) (q:(Value.slice j c.length m).ownBlock=some g∨g=o.heap.size):
  Cx wr f s raw k nm (c++[(x,p)]) (some ⟨g,0,none⟩) cap t e w v a (h.setCell ⟨f,2,none⟩ (.slice (some ⟨g,0,none⟩) (c.length+1) cap)):=by
 have C:∀k,(Value.slice j c.length m).ownBlock=some k→f+1≤k:=fun k e=>(d.exs.ge e).1
 have F:∀k,k≤f→h.heap[k]? =o.heap[k]? :=fun k D=>r.block k (Nat.lt_of_le_of_lt D d.lt) (fun e=>by have:=C k e.symm;omega)
 have L:(c++[(x,p)]).length=c.length+1:=by simp
 have I:Az h s raw a:=d.src.low (fun k D=>F k (by have:=d.gt;omega));have G:SFr s wr h:=d.fr.grow r (fun k e=>by have:=C k e;have:=d.ge;omega);have H:Ad h f (nD k nm c.length j m w v) 50:=d.own.low (F f (Nat.le_refl _));have z:Br h (f+1) (c++[(x,p)]) (.slice (some ⟨g,0,none⟩) (c.length+1) cap):=d.exs.snoc x p hx M N r q;have E:∀(l:List St) (u:Value),Au (Ns f (ρ j c m)) o l u→Au (Ns f (.slice (some ⟨g,0,none⟩) (c.length+1) cap)) h l u:=by
  intro l u O;have J:=O.strong;have K:Au (fun b=>Ns f (ρ j c m) b∧b<o.heap.size) h l u:=J.keep (fun b Q y i P=>r.cell P (fun e=>i.1.2 e.symm));refine K.mono (fun b i=>⟨i.1.1,?_⟩);show some g≠some b
  intro e
  cases e
  rcases q with q|q
  ·exact i.1.2 q
  ·omega
 have B:=E t w d.thn;have A:=E e v d.els;rw[←L]at B A z ⊢;refine⟨I.other d.gt 2 _,G.setNew d.ge 2 _,?_,z.other (by omega) 2 _,B.keep (Al _ (fun i=>by have:=i.1;omega) 2 _),A.keep (Al _ (fun i=>by have:=i.1;omega) 2 _),d.ge,d.gt⟩;exact H.set 2 _
def Qs(wr:Zp)(b s:Nat)(raw:List Int)(x:St ×Nat)(e:Zp):Prop:= ∃a c d g f,a.map (·.1)=x.1.args∧Cx wr b s raw x.1.kind x.1.name a c d x.1.thn x.1.els g f x.2 e
theorem Cx.to {wr g:Zp}{c s:Nat}{raw:List Int}{k:Int}{nm:Bs}{b:List (Ex ×Value)}{d:Option Zr}{f:Nat}{t e:List St}{i h:Value}{a:Nat}(j:Cx wr c s raw k nm b d f t e i h a g){l:List Ex}(m:b.map (·.1)=l):Qs wr c s raw (.mk k nm l t e,a) g:=⟨b,d,f,i,h,m,j⟩
theorem sJ {sc:Sc}{raw:List Int}{gs gl:Nat→List St ×Nat}{k:Int}{a:Nat}(b:k<4)(c:sc.hasVars=true):Cj sc raw gs gl k a=(.mk 1 (Gn sc.free sc.vars raw a).1 [] [] [],(Gn sc.free sc.vars raw a).2):=by
 unfold Cj;rw[if_pos ⟨b,c⟩]
theorem lC {sc:Sc}{raw:List Int}{gs gl:Nat→List St ×Nat}{a:Nat}(c:sc.hasArrays=true):Cj sc raw gs gl 4 a=(.mk 2 (Cq sc.free sc.arrays raw a).1.name [(Aw sc raw 3 (Cq sc.free sc.arrays raw a).2).1] [] [],(Aw sc raw 3 (Cq sc.free sc.arrays raw a).2).2):=by
 unfold Cj;rw[if_neg (fun b=>absurd b.1 (by decide)),if_pos ⟨rfl,c⟩]
theorem qS {sc:Sc}{raw:List Int}{gs gl:Nat→List St ×Nat}{a:Nat}(c:sc.hasFuncs=true):Cj sc raw gs gl 5 a=(.mk 10 [] [(Hu sc raw (Aw sc raw 2) a).1] [] [],(Hu sc raw (Aw sc raw 2) a).2):=by
 unfold Cj;rw[if_neg (fun b=>absurd b.1 (by decide)),if_neg (fun b=>absurd b.1 (by decide)),if_pos ⟨rfl,c⟩]
theorem xQ {sc:Sc}{raw:List Int}{gs gl:Nat→List St ×Nat}{a:Nat}(b:(Ab raw a 3).1=2):Cj sc raw gs gl 6 a=(.mk (if(Ab raw (Ab raw a 3).2 2).1=0 then 7 else 9) [] [] [] [],(Ab raw (Ab raw a 3).2 2).2):=by
 unfold Cj;rw[if_neg (fun b=>absurd b.1 (by decide)),if_neg (fun b=>absurd b.1 (by decide)),if_neg (fun b=>absurd b.1 (by decide)),if_pos ⟨rfl,b⟩]
theorem gO {sc:Sc}{raw:List Int}{gs gl:Nat→List St ×Nat}{a:Nat}(b:¬(Ab raw a 3).1=2):Cj sc raw gs gl 6 a=(.mk 8 [] [] [] [],(Ab raw a 3).2):=by
 unfold Cj;rw[if_neg (fun b=>absurd b.1 (by decide)),if_neg (fun b=>absurd b.1 (by decide)),if_neg (fun b=>absurd b.1 (by decide)),if_neg (fun q=>b q.2),if_neg (by decide),if_neg (by decide),if_neg (fun b=>absurd b.1 (by decide)),if_pos rfl]
theorem head_if {sc:Sc}{raw:List Int}{gs gl:Nat→List St ×Nat}{k:Int}{a:Nat}(b:k=7∨k=8):Cj sc raw gs gl k a=(.mk 3 [] [(Aw sc raw 3 a).1] (gs (Aw sc raw 3 a).2).1 (gs (gs (Aw sc raw 3 a).2).2).1,(gs (gs (Aw sc raw 3 a).2).2).2):=by
 unfold Cj;rw[if_neg (fun b=>by omega),if_neg (fun b=>by omega),if_neg (fun b=>by omega),if_neg (fun b=>by omega),if_pos b]
theorem pO {sc:Sc}{raw:List Int}{gs gl:Nat→List St ×Nat}{k:Int}{a:Nat}(b:k=9∨k=10):Cj sc raw gs gl k a=(.mk 4 [] [(Aw sc raw 3 a).1] (gl (Aw sc raw 3 a).2).1 [],(gl (Aw sc raw 3 a).2).2):=by
 unfold Cj;rw[if_neg (fun b=>by omega),if_neg (fun b=>by omega),if_neg (fun b=>by omega),if_neg (fun b=>by omega),if_neg (by omega),if_pos b]
theorem vK {sc:Sc}{raw:List Int}{gs gl:Nat→List St ×Nat}{a:Nat}(c:(sc.loop||sc.free)=true)(b:(Ab raw a 2).1=1):Cj sc raw gs gl 11 a=(.mk (if(Ab raw (Ab raw a 2).2 2).1=0 then 5 else 6) [] [] [] [],(Ab raw (Ab raw a 2).2 2).2):=by
 unfold Cj;rw[if_neg (fun b=>absurd b.1 (by decide)),if_neg (fun b=>absurd b.1 (by decide)),if_neg (fun b=>absurd b.1 (by decide)),if_neg (fun b=>absurd b.1 (by decide)),if_neg (by decide),if_neg (by decide),if_pos ⟨rfl,c,b⟩]
theorem fB {sc:Sc}{raw:List Int}{gs gl:Nat→List St ×Nat}{a:Nat}(c:(sc.loop||sc.free)=true)(b:¬(Ab raw a 2).1=1):Cj sc raw gs gl 11 a=(.mk 8 [] [] [] [],(Ab raw a 2).2):=by
 unfold Cj;rw[if_neg (fun b=>absurd b.1 (by decide)),if_neg (fun b=>absurd b.1 (by decide)),if_neg (fun b=>absurd b.1 (by decide)),if_neg (fun b=>absurd b.1 (by decide)),if_neg (by decide),if_neg (by decide),if_neg (fun q=>b q.2.2),if_neg (by decide),if_pos ⟨rfl,c⟩]
theorem rR {sc:Sc}{raw:List Int}{gs gl:Nat→List St ×Nat}{k:Int}{a:Nat}(e:k<4→sc.hasVars=false)(f:k=4→sc.hasArrays=false)(g:k=5→sc.hasFuncs=false)(c:k≠6)(h:k<7∨10<k)(d:k=11→(sc.loop||sc.free)=false):Cj sc raw gs gl k a=(.mk 8 [] [] [] [],a):=by
 unfold Cj;rw[if_neg (fun b=>by rw[e b.1]at b;cases b.2),if_neg (fun b=>by rw[f b.1]at b;cases b.2),if_neg (fun b=>by rw[g b.1]at b;cases b.2),if_neg (fun b=>c b.1),if_neg (by omega),if_neg (by omega),if_neg (fun b=>by rw[d b.1]at b;cases b.2.1),if_neg c,if_neg (fun b=>by rw[d b.1]at b;cases b.2)]
theorem oX(k:Int):Df k≤2:=by unfold Df;split<;>(try split)<;>omega
def Kk(p:Code→Bool):Code→Option Code
 |.loop c=>if p (.loop c)then some (.loop c)else Kk p c
 |.seq a b=>match Kk p a with
  |some c=>some c
  |none=>Kk p b
 |.block k c=>if p (.block k c)then some (.block k c)else Kk p c
 |.scope c=>Kk p c
 |.cond o a b=>match Kk p a with
  |some c=>some c
  |none=>Kk p b
 |_=>none
def Pm(n:Nat):Code→Bool
 |.block k _=>k==n
 |_=>false
def isLoop:Code→Bool
 |.loop _=>true
 |_=>false
noncomputable def swCode:Code:=((Tryz.f23.body.bind (Kk (Pm 2))).getD .skip)
noncomputable def xC:Code:=((Tryz.f23.body.bind (Kk (Pm 3))).getD .skip)
def SwR(d s:Nat)(C a:Nat)(f:Int)(b e c:Bool)(wr:Zp)(raw:List Int)(x:St ×Nat)(h am az aK aM aN aO i j k l p D O V W X Y Z aa ab ac ad ae af ag ah ai aj ak al an ao ap aq ar au av aw ax ay aA aB aC aD aE aF aG aH aI aJ aL m n o q r t u v w y z A B E F G H I J K L M N P Q R S T U:Value)(g:Act)(w':Zp):Prop:=
 ∃bO cK cL cM cN cO cP cQ cR cS cT cU cV cW cX cY cZ da db dc dd de df dg dh di dj dk dl dm dn dp dq dr ds dt du dv dw dx aP aQ aR aS aT aU aV aW aX aY aZ ba bb bc bd be bf bg bh bi bj bk bl bm bn bo bp bq br bs bt bu bv bw bx bz bA bB bC bD bE bF bG bH bI bJ bK bL bM bN bP bQ bR bS bT bU bV bW bX bY bZ ca cb cc cd ce cf cg ch ci cj ck cl cm cn co cp cq cr cs ct cu cv cw cx cy cz cA cB cC cD cE cF cG cH cI cJ:Value,Qs wr a s raw x w'∧g=⟨[h,.pointer (some ⟨s,0,none⟩),.int .i64 d,.pointer (some ⟨C,0,none⟩),am,az,aK,aM,aN,aO,.int .i64 f,.pointer (some ⟨a,0,none⟩),.bool b,.bool e,.bool c,bO,i,j,k,l,p,D,O,V,W,X,Y,Z,aa,ab,ac,ad,ae,af,ag,ah,ai,aj,ak,al,an,ao,ap,aq,ar,au,av,aw,ax,ay,aA,aB,aC,aD,aE,aF,aG,aH,aI,aJ,aL,cK,cL,cM,cN,cO,cP,cQ,cR,cS,cT,cU,cV,cW,cX,cY,cZ,da,db,dc,dd,de,df,dg,dh,di,dj,dk,dl,dm,dn,dp,dq,dr,ds,dt,du,dv,dw,dx,aP,aQ,aR,aS,aT,aU,aV,aW,aX,aY,aZ,ba,bb,bc,bd,be,bf,bg,bh,bi,bj,bk,bl,bm,bn,bo,bp,bq,br,bs,bt,bu,bv,bw,bx,bz,bA,bB,bC,bD,bE,bF,bG,bH,bI,bJ,bK,bL,bM,bN,bP,bQ,bR,bS,bT,bU,bV,bW,bX,bY,bZ,ca,cb,cc,cd,ce,cf,cg,ch,ci,cj,ck,cl,cm,cn,co,cp,cq,cr,cs,ct,cu,cv,cw,cx,cy,cz,cA,cB,cC,cD,cE,cF,cG,cH,cI,cJ,m,n,o,q,r,t,u,v,w,y,z,A,B,E,F,G,H,I,J,K,L,M,N,P,Q,R,S,T,U].toArray,[]⟩
def ArgAt(wr:Zp)(d s:Nat)(raw:List Int)(k:Int)(nm:Bs)(l:List Ex)(a C:Nat)(e:List Value)(c:Zp):Prop:=
 (∃b f g,b.map (·.1)=l∧Cx wr d s raw k nm b f g [] [] (.slice none 0 0) (.slice none 0 0) a c)∧Ad c C e 69
structure SwH (d s:Nat)(raw:List Int)(sc:Sc)(v1 a1 f1:Option Zr)(v2 a2 f2:Nat)(C X:Nat)(K:Int)(HA HV HB:Bool)(ka:Nat)(wr W:Zp):Prop where
 hd1:d≤1000
 hsc:Fy s wr sc (.slice v1 sc.vars.length v2) (.slice a1 sc.arrays.length a2) (.slice f1 sc.funcs.length f2)
 hC:Ad W C [.slice v1 sc.vars.length v2,.slice a1 sc.arrays.length a2,.slice f1 sc.funcs.length f2,.bool sc.free,.bool sc.loop] 69
 hH:Cx wr X s raw 8 [] [] none 0 [] [] (.slice none 0 0) (.slice none 0 0) ka W
 hCX:C<X
 hsC:s<C
 hd0:0≤K
 hd14:K<14
 hKd:7≤K→K<11→2≤d
 eA:sc.hasArrays=HA
 eV:sc.hasVars=HV
 eF:sc.hasFuncs=HB
def SwG(d s:Nat)(raw:List Int)(sc:Sc)(gs gl:Nat→List St ×Nat)(C i:Nat)(b:Int)(c f e:Bool)(k:Nat)(wr j:Zp):Prop:=
 ∀(q0 q4 q5 q6 q7 q8 q9 q15 q16 q17 q18 q19 q20 q21 q22 q23 q24 q25 q26 q27 q28 q29 q30 q31 q32 q33 q34 q35 q36 q37 q38 q39 q40 q41 q42 q43 q44 q45 q46 q47 q48 q49 q50 q51 q52 q53 q54 q55 q56 q57 q58 q59 q60 q61 q62 q63 q64 q65 q66 q67 q68 q69 q70 q71 q72 q73 q74 q75 q76 q77 q78 q79 q80 q81 q82 q83 q84 q85 q86 q87 q88 q89 q90 q91 q92 q93 q94 q95 q96 q97 q98 q99 q100 q101 q102 q103 q104 q105 q106 q107 q108 q109 q110 q111 q112 q113 q114 q115 q116 q117 q118 q119 q120 q121 q122 q123 q124 q125 q126 q127 q128 q129 q130 q131 q132 q133 q134 q135 q136 q137 q138 q139 q140 q141 q142 q143 q144 q145 q146 q147 q148 q149 q150 q151 q152 q153 q154 q155 q156 q157 q158 q159 q160 q161 q162 q163 q164 q165 q166 q167 q168 q169 q170 q171 q172 q173 q174 q175 q176 q177 q178 q179 q180 q181 q182 q183 q184 q185 q186 q187 q188 q189 q190 q191 q192 q193 q194 q195 q196 q197 q198 q199 q200 q201 q202 q203 q204 q205 q206 q207 q208 q209 q210 q211 q212 q213 q214 q215 q216 q217 q218 q219 q220 q221 q222 q223 q224 q225:Value) (g h:Act→Zp→Prop),(∀a w',SwR d s C i b c f e wr raw (Cj sc raw gs gl b k) q0 q4 q5 q6 q7 q8 q9 q16 q17 q18 q19 q20 q21 q22 q23 q24 q25 q26 q27 q28 q29 q30 q31 q32 q33 q34 q35 q36 q37 q38 q39 q40 q41 q42 q43 q44 q45 q46 q47 q48 q49 q50 q51 q52 q53 q54 q55 q56 q57 q58 q59 q60 q197 q198 q199 q200 q201 q202 q203 q204 q205 q206 q207 q208 q209 q210 q211 q212 q213 q214 q215 q216 q217 q218 q219 q220 q221 q222 q223 q224 q225 a w'→g a w')→(∀a w',Met g a w'→h a w')→
  Code.wp Zb swCode (Exit.then h (fun _ _ _=>False)) ⟨[q0,.pointer (some ⟨s,0,none⟩),.int .i64 d,.pointer (some ⟨C,0,none⟩),q4,q5,q6,q7,q8,q9,.int .i64 b,.pointer (some ⟨i,0,none⟩),.bool c,.bool f,.bool e,q15,q16,q17,q18,q19,q20,q21,q22,q23,q24,q25,q26,q27,q28,q29,q30,q31,q32,q33,q34,q35,q36,q37,q38,q39,q40,q41,q42,q43,q44,q45,q46,q47,q48,q49,q50,q51,q52,q53,q54,q55,q56,q57,q58,q59,q60,q61,q62,q63,q64,q65,q66,q67,q68,q69,q70,q71,q72,q73,q74,q75,q76,q77,q78,q79,q80,q81,q82,q83,q84,q85,q86,q87,q88,q89,q90,q91,q92,q93,q94,q95,q96,q97,q98,q99,q100,q101,q102,q103,q104,q105,q106,q107,q108,q109,q110,q111,q112,q113,q114,q115,q116,q117,q118,q119,q120,q121,q122,q123,q124,q125,q126,q127,q128,q129,q130,q131,q132,q133,q134,q135,q136,q137,q138,q139,q140,q141,q142,q143,q144,q145,q146,q147,q148,q149,q150,q151,q152,q153,q154,q155,q156,q157,q158,q159,q160,q161,q162,q163,q164,q165,q166,q167,q168,q169,q170,q171,q172,q173,q174,q175,q176,q177,q178,q179,q180,q181,q182,q183,q184,q185,q186,q187,q188,q189,q190,q191,q192,q193,q194,q195,q196,q197,q198,q199,q200,q201,q202,q203,q204,q205,q206,q207,q208,q209,q210,q211,q212,q213,q214,q215,q216,q217,q218,q219,q220,q221,q222,q223,q224,q225].toArray,[]⟩ j
abbrev SwI(d s:Nat)(raw:List Int)(sc:Sc)(v1 a1 f1:Option Zr)(v2 a2 f2:Nat)(lb:Bool)(g:Nat→List St ×Nat):Prop:=
 2≤d→∀w1 b,Az w1 s raw b→Fy s w1 sc (.slice v1 sc.vars.length v2) (.slice a1 sc.arrays.length a2) (.slice f1 sc.funcs.length f2)→Zs Zb 23 #[.agg #[.slice v1 sc.vars.length v2,.slice a1 sc.arrays.length a2,.slice f1 sc.funcs.length f2,.bool sc.free,.bool lb],.pointer (some ⟨s,0,none⟩),.int .i64 ((d:Int)-1)] w1 (Ig w1 s raw (g b))
theorem Qx {d s:Nat}{raw:List Int}{sc:Sc}{P I K:Option Zr}{Q J L:Nat}{gs gl:Nat→List St ×Nat}{C k:Nat}{b:Int}{f h g:Bool}{u:Nat}{wr y:Zp}(O:SwH d s raw sc P I K Q J L C k b f h g u wr y)(t:b<4→h=false)(q:b=4→f=false)(r:b=5→g=false)(D:b≠6)(E:b<7∨10<b)(n:b=11→(sc.loop||sc.free)=false):SwG d s raw sc gs gl C k b f h g u wr y:=by
 obtain⟨ac,e,p,j,M,ae,ab,ad,Z,z,B,A⟩:=O;unfold SwG;intros;rename_i U V hJ hM;obtain⟨lv,ag,ah⟩:sc.vars.length≤1000000∧sc.arrays.length≤1000000∧sc.funcs.length≤1000000:=⟨e.v1,e.a1,e.f1⟩;obtain⟨S,x,w⟩:=Y3 e j p;have T:Zq (C≠s):=by show _≠_;omega
 have R:Zq (C<k):=M;have aa:=j.lt;have Y:=p.lt;have af:=j.gt;clear e j p;obtain⟨H,F,G⟩:=Y3 B z A;clear B z A;have v:=rR (sc:=sc) (raw:=raw) (gs:=gs) (gl:=gl) (a:=u) (fun c=>H.out.trans (t c)) (fun c=>F.out.trans (q c)) (fun c=>G.out.trans (r c)) D E n;rw[v]at hJ;clear v;have W:=w.o.at 3 _ rfl;have X:=w.o.at 4 _ rfl;have N:(b<4∧h=false)∨(b=4∧f=false)∨(b=5∧g=false)∨(b=11∧sc.loop=false∧sc.free=false)∨12≤b:=by
  by_cases i:b<4
  ·exact .inl ⟨i,t i⟩
  by_cases l:b=4
  ·exact .inr (.inl ⟨l,q l⟩)
  by_cases m:b=5
  ·exact .inr (.inr (.inl ⟨m,r m⟩))
  by_cases h4:b=11
  ·exact .inr (.inr (.inr (.inl ⟨h4,by simpa using n h4⟩)))
  exact .inr (.inr (.inr (.inr (by omega))))
 clear t q r D E n;rcases N with⟨i,rfl⟩|⟨rfl,rfl⟩|⟨rfl,rfl⟩|⟨rfl,l,m⟩|i
 case inl|inr.inr.inr.inr=>
  all_goals
   have ak:(b==4)=false:=beq_eq_false_iff_ne.2 (by omega);have al:(b==5)=false:=beq_eq_false_iff_ne.2 (by omega);have am:(b==6)=false:=beq_eq_false_iff_ne.2 (by omega);have an:(b==7)=false:=beq_eq_false_iff_ne.2 (by omega);have ao:(b==8)=false:=beq_eq_false_iff_ne.2 (by omega);have ap:(b==9)=false:=beq_eq_false_iff_ne.2 (by omega);have ai:(b==10)=false:=beq_eq_false_iff_ne.2 (by omega);have aj:(b==11)=false:=beq_eq_false_iff_ne.2 (by omega)
   conv=>arg 2;whnf
   go_wp2;go_meet;exact x.o.to rfl
 all_goals
  conv=>arg 2;whnf
  go_wp2;go_meet;exact x.o.to rfl
theorem sw_set {d s:Nat}{raw:List Int}{sc:Sc}{j x D:Option Zr}{k y E:Nat}{gs gl:Nat→List St ×Nat}{C h:Nat}{p:Int}{t n u:Bool}{b:Nat}{wr w:Zp}(R:SwH d s raw sc j x D k y E C h p t n u b wr w)(Q:p<4)(H:n=true):SwG d s raw sc gs gl C h p t n u b wr w:=by
 obtain⟨ak,e,q,i,P,am,aj,al,ag,z,B,A⟩:=R;unfold SwG;intros;rename_i W X hJ hM;obtain⟨lv,ao,ap⟩:sc.vars.length≤1000000∧sc.arrays.length≤1000000∧sc.funcs.length≤1000000:=⟨e.v1,e.a1,e.f1⟩;obtain⟨M,l,J⟩:=Y3 e i q;have V:Zq (C≠s):=by show _≠_;omega
 have U:Zq (C<h):=P;have ah:=i.lt;have af:=q.lt;have an:=i.gt;clear e i q;obtain⟨I,S,T⟩:=Y3 B z A;clear B z A;have r:=sJ (sc:=sc) (raw:=raw) (gs:=gs) (gl:=gl) (a:=b) Q (I.out.trans H);have v:Zq (∀c,Az c s raw b→Bb (· ≠s) c sc.vars (ρ j sc.vars k)→Zs Zb 49 #[.agg #[ρ j sc.vars k,ρ x sc.arrays y,ρ D sc.funcs E,.bool sc.free,.bool sc.loop],π s,ρ j sc.vars k] c (Eb c s raw (σ (Gn sc.free sc.vars raw b).1) (Gn sc.free sc.vars raw b).2)):=fun c N O=>aB s raw b sc sc.vars c N O lv
 rw[r]at hJ;clear r;generalize Gn sc.free sc.vars raw b=g at*;obtain⟨nm,aq⟩:=g;dsimp only at v hJ;subst H;obtain⟨m,K⟩:=Y2 (l.o.kind 1) (J.o.other (show C≠h by omega) 0 (ι 1));have L:=Za (M.o.sfr m.o.fr);obtain ⟨Y, Z, aa, ab, ac⟩ := τ5 K.o;obtain ⟨av, aw, ax, ay, az⟩ := τ5 l.o.own;have ad:=l.o.own.fz 0
 conv=>arg 2;whnf
 go_wp2_with fail;refine(v.o _ m.o.src L.o.vars).mono ?_;rintro ar au ⟨rfl,G,F⟩;have f:=Za (m.o.sfr G F);clear G F;obtain ⟨aA, aC, aD, aE, aF⟩ := τ5 f.o.own;have ae:=f.o.own.fz 1;have ai:=f.o.lt;go_wp2;go_meet;exact(f.o.name nm).to rfl
theorem vG {d s:Nat}{raw:List Int}{sc:Sc}{E l w:Option Zr}{F m y:Nat}{gs gl:Nat→List St ×Nat}{C f:Nat}{L:Int}{G ae Y:Bool}{h:Nat}{wr ag:Zp}(bb:SwH d s raw sc E l w F m y C f L G ae Y h wr ag)(aV:L=4)(ax:G=true):SwG d s raw sc gs gl C f L G ae Y h wr ag:=by
 obtain⟨bG,p,Q,z,aU,bJ,bF,bH,bx,am,ao,an⟩:=bb;unfold SwG;intros;rename_i br bs hJ hM;obtain⟨lv,bh,bM⟩:sc.vars.length≤1000000∧sc.arrays.length≤1000000∧sc.funcs.length≤1000000:=⟨p.v1,p.a1,p.f1⟩;obtain⟨ad,I,aG⟩:=Y3 p z Q;have af:Zq (C≠s):=by show _≠_;omega
 have ab:Zq (C<f):=aU;have bD:=z.lt;have bw:=Q.lt;have bK:=z.gt;clear p z Q;obtain⟨bp,aF,bo⟩:=Y3 ao am an;clear ao am an;subst aV;have X:=lC (sc:=sc) (raw:=raw) (gs:=gs) (gl:=gl) (a:=h) (aF.out.trans ax);have ac:Zq (∀c,Az c s raw h→Cd (· ≠s) c sc.arrays (.slice l sc.arrays.length m)→Zs Zb 22 #[.agg #[.slice E sc.vars.length F,.slice l sc.arrays.length m,.slice w sc.funcs.length y,.bool sc.free,.bool sc.loop],π s] c (Eb c s raw (.agg #[.string (Aa (Cq sc.free sc.arrays raw h).1.name),.int .i64 (Cq sc.free sc.arrays raw h).1.size]) (Cq sc.free sc.arrays raw h).2)):=fun c N O=>Qn s raw h sc _ _ _ c N O bh
 rw[X]at hJ;clear X;generalize Cq sc.free sc.arrays raw h=q at*;obtain⟨⟨V,bN⟩,ay⟩:=q;dsimp only at ac hJ;have r:Zq (∀b c,Az c s raw b→Fy s c sc (.slice E sc.vars.length F) (.slice l sc.arrays.length m) (.slice w sc.funcs.length y)→Zs Zb 26 #[.agg #[.slice E sc.vars.length F,.slice l sc.arrays.length m,.slice w sc.funcs.length y,.bool sc.free,.bool sc.loop],π s,.int .i64 3] c (Fg c s raw (Aw sc raw 3 b))):=fun b c N O=>Ku 3 (by decide) s raw b sc _ _ _ c N O
 replace r:=Za (r.o ay);generalize Aw sc raw 3 ay=x at*;obtain⟨x,bP⟩:=x;dsimp only at r hJ;subst ax;obtain⟨J,Z⟩:=Y2 (I.o.kind 2) (aG.o.other (show C≠f by omega) 0 (.int .i64 2));have aN:=Za (ad.o.sfr J.o.fr);obtain ⟨ah, ai, aj, ak, al⟩ := τ5 Z.o;obtain ⟨az, aA, aB, aC, aD⟩ := τ5 I.o.own;have aR:=I.o.own.fz 0
 conv=>arg 2;whnf
 go_wp2_with fail;refine(ac.o _ J.o.src aN.o.arrays).mono ?_;rintro bi bj ⟨rfl,av,S⟩;obtain⟨t,aH⟩:=Y2 (J.o.sfr av S) (Z.o.sfr S af.o);clear av S ah ai aj ak al az aA aB aC aD aR;obtain ⟨bk, bl, aE, bm, bn⟩ := τ5 t.o.own;have aS:=t.o.own.fz 1;have aW:=t.o.lt;obtain⟨u,H⟩:=Y2 (t.o.name V) (aH.o.other (show C≠f by omega) 1 (.string (Aa V)));go_upto_region 19 with(fail);generalize bj.setCell ⟨f,1,none⟩ (.string (Aa V))=M at*;clear bk bl aE bm bn aS aW;have R:Zt M.heap.size M M.drew:=(Zc _ _).drew;obtain⟨v,aK⟩:=Y2 (u.o.below R) (H.o.old R);clear R;obtain ⟨ah, ai, aj, ak, al⟩ := τ5 H.o;obtain ⟨az, aA, aB, aC, aD⟩ := τ5 u.o.own;have bt:=u.o.own.fz 2;have bC:=u.o.lt;have bv:=H.o.lt;obtain⟨bg,aZ,bd,be,bf⟩:=info_parts Mo;go_wp2_with fail
 go_region_law (first
  |((try go_simp);go_at_call 26;refine(r.o _ v.o.src (ad.o.sfr v.o.fr)).mono ?_;rintro bi j ⟨bQ,aY,aw,o,T,ar⟩;obtain⟨xs,W,bc⟩:=T.shape;subst bc;subst aY;have bE:∀b U,b<_→b≠s→j.cell? ⟨b,U,none⟩=_:=fun b U aT ba=>Zj (a:=⟨b,U,none⟩) (o.block b aT ba);obtain⟨K,aI,aP,aO⟩:=Y4 (v.o.sfr aw o) (aK.o.sfr o af.o) T ar;have bL:=o.size;have u2:=K.o.own.at 2 _ rfl;have bz:=K.o.lt;clear aw o T ar;have D:Zt j.heap.size j (j.alloc (.cells #[.int .i64 x.kind,.int .i64 x.op,.int .i64 x.n,.string (Aa x.name),.slice xs x.args.length W] 35)):=bA;obtain⟨i,aa,aM,aQ⟩:=Y4 (K.o.below D) (aI.o.old D) (Zh j (Ba x (.slice xs x.args.length W)) 35) ((aP.out.old D).mono (fun b aX=>v.o.beside b aX));clear D)
  |(refine step_append_lies (P:=Zb) _ rfl _ _ 33 rfl (f+1) 35 bg _ 5 64 Zk aZ bd be bf rfl (by decide) (ν) 0 (Dl []) rfl i.o.exs.1 ⟨j.heap.size,0,none⟩ 1 1 (Ba x (.slice xs x.args.length W)) rfl rfl (Fr aM.o) (Lw x) (by decide) (by unfold maxLen;omega) (by omega) (by have:=i.o.lt;omega) _ rfl ?_;intro g cap bO au B ap bI;have aq:∀k,(Value.slice none 0 0).ownBlock=some k→f+1≤k:=fun k e=>(i.o.exs.ge e).1;have aL:=Za (i.o.more x _ aQ.out aO.out au B ap);have A:=i.o.own.low (B.block f i.o.lt (fun e=>by have:=aq _ e.symm;omega));have aJ:=Za (aa.o.low (B.block _ aa.o.lt (fun e=>by have:=aq _ e.symm;have:=ab.o;omega)));have aE:=A.at 2 _ rfl;have bu:=A.fz 2;have bB:=A.lt;clear au B ap A))
 all_goals
  have bq:=Za (aJ.o.other (show C≠f by have:=ab.o;omega) 2 (.slice (some ⟨g,0,none⟩) (0+1) cap));go_wp2;go_meet;exact aL.o.to rfl
theorem sw_call {d s:Nat}{raw:List Int}{sc:Sc}{M E G:Option Zr}{N F H:Nat}{gs gl:Nat→List St ×Nat}{C c:Nat}{A:Int}{R V v:Bool}{f:Nat}{wr B:Zp}(aE:SwH d s raw sc M E G N F H C c A R V v f wr B)(az:A=5)(ae:v=true):SwG d s raw sc gs gl C c A R V v f wr B:=by
 obtain⟨bj,m,I,q,ay,bm,bi,bk,bc,W,Y,X⟩:=aE;unfold SwG;intros;rename_i aR aS hJ hM;obtain⟨lv,bp,bq⟩:sc.vars.length≤1000000∧sc.arrays.length≤1000000∧sc.funcs.length≤1000000:=⟨m.v1,m.a1,m.f1⟩;obtain⟨an,y,ah⟩:=Y3 m q I;have ao:Zq (C≠s):=by show _≠_;omega
 have U:Zq (C<c):=ay;have bg:=q.lt;have bb:=I.lt;have bn:=q.gt;clear m q I;obtain⟨aP,aO,ag⟩:=Y3 Y W X;clear Y W X;subst az;have Q:=qS (sc:=sc) (raw:=raw) (gs:=gs) (gl:=gl) (a:=f) (ag.out.trans ae);rw[Q]at hJ;clear Q;have T:Zq (∀i,Az i s raw f→Fy s i sc (.slice M sc.vars.length N) (.slice E sc.arrays.length F) (.slice G sc.funcs.length H)→Zs Zb 50 #[.agg #[.slice M sc.vars.length N,.slice E sc.arrays.length F,.slice G sc.funcs.length H,.bool sc.free,.bool sc.loop],π s,.int .i64 3] i (Fg i s raw (Hu sc raw (Aw sc raw 2) f))):=fun i aw ax=>xM 3 (by decide) (by decide) s raw f sc _ _ _ i aw ax
 generalize Hu sc raw (Aw sc raw 2) f=x at*;obtain⟨x,bz⟩:=x;dsimp only at T hJ;subst ae;obtain⟨o,w⟩:=Y2 (y.o.kind 10) (ah.o.other (show C≠c by omega) 0 (.int .i64 10));obtain ⟨aK, aL, af, aM, aN⟩ := τ5 y.o.own;have au:=y.o.own.fz 0
 conv=>arg 2;whnf
 go_upto_region 22 with(fail);generalize B.setCell ⟨c,0,none⟩ (.int .i64 10)=D at*;clear aK aL af aM aN au;have J:Zt D.heap.size D D.drew:=(Zc _ _).drew;obtain⟨p,ak⟩:=Y2 (o.o.below J) (w.o.old J);clear J;obtain ⟨aT, aU, aV, aW, aX⟩ := τ5 w.o;obtain ⟨bt, bu, bv, bw, bx⟩ := τ5 o.o.own;have aY:=o.o.own.fz 2;have bf:=o.o.lt;have ba:=w.o.lt;obtain⟨aJ,aC,aG,aH,aI⟩:=info_parts Mo;go_wp2_with fail
 go_region_law (first
  |((try go_simp);go_at_call 50;refine(T.o _ p.o.src (an.o.sfr p.o.fr)).mono ?_;rintro br j ⟨bB,aB,ad,l,K,ab⟩;obtain⟨xs,O,aF⟩:=K.shape;subst aF;subst aB;have bh:∀b L,b<_→b≠s→j.cell? ⟨b,L,none⟩=_:=fun b L av aD=>Zj (a:=⟨b,L,none⟩) (l.block b av aD);obtain⟨z,ai,aq,ap⟩:=Y4 (p.o.sfr ad l) (ak.o.sfr l ao.o) K ab;have bo:=l.size;have u2:=z.o.own.at 2 _ rfl;have bd:=z.o.lt;clear ad l K ab;have u:Zt j.heap.size j (j.alloc (.cells #[.int .i64 x.kind,.int .i64 x.op,.int .i64 x.n,.string (Aa x.name),.slice xs x.args.length O] 35)):=bA;obtain⟨h,S,am,ar⟩:=Y4 (z.o.below u) (ai.o.old u) (Zh j (Ba x (.slice xs x.args.length O)) 35) ((aq.out.old u).mono (fun b aA=>p.o.beside b aA));clear u)
  |(refine step_append_lies (P:=Zb) _ rfl _ _ 33 rfl (c+1) 35 aJ _ 5 64 Zk aC aG aH aI rfl (by decide) (ν) 0 (Dl []) rfl h.o.exs.1 ⟨j.heap.size,0,none⟩ 1 1 (Ba x (.slice xs x.args.length O)) rfl rfl (Fr am.o) (Lw x) (by decide) (by unfold maxLen;omega) (by omega) (by have:=h.o.lt;omega) _ rfl ?_;intro g cap bs ac t Z bl;have aa:∀k,(Value.slice none 0 0).ownBlock=some k→c+1≤k:=fun k e=>(h.o.exs.ge e).1;have al:=Za (h.o.more x _ ar.out ap.out ac t Z);have r:=h.o.own.low (t.block c h.o.lt (fun e=>by have:=aa _ e.symm;omega));have aj:=Za (S.o.low (t.block _ S.o.lt (fun e=>by have:=aa _ e.symm;have:=U.o;omega)));have af:=r.at 2 _ rfl;have aZ:=r.fz 2;have be:=r.lt;clear ac t Z r))
 all_goals
  have aQ:=Za (aj.o.other (show C≠c by have:=U.o;omega) 2 (.slice (some ⟨g,0,none⟩) (0+1) cap));go_wp2;go_meet;exact al.o.to rfl
theorem sw_ret {d s:Nat}{raw:List Int}{sc:Sc}{V M O:Option Zr}{W N P:Nat}{gs gl:Nat→List St ×Nat}{C m:Nat}{l:Int}{v B w:Bool}{c:Nat}{wr D:Zp}(T:SwH d s raw sc V M O W N P C m l v B w c wr D)(R:l=6)(t:(Ab raw c 3).1=2):SwG d s raw sc gs gl C m l v B w c wr D:=by
 obtain⟨am,g,p,h,Q,ap,al,an,ai,E,G,F⟩:=T;unfold SwG;intros;rename_i ae af hJ hM;obtain⟨lv,ay,az⟩:sc.vars.length≤1000000∧sc.arrays.length≤1000000∧sc.funcs.length≤1000000:=⟨g.v1,g.a1,g.f1⟩;obtain⟨ac,x,aa⟩:=Y3 g h p;have ad:Zq (C≠s):=by show _≠_;omega
 have ab:Zq (C<m):=Q;have aj:=h.lt;have ah:=p.lt;have aq:=h.gt;clear g h p;obtain⟨Z,X,Y⟩:=Y3 G E F;clear G E F;subst R;have u:=xQ (sc:=sc) (raw:=raw) (gs:=gs) (gl:=gl) (a:=c) t;rw[u]at hJ;clear u;have A:Zq (∀b,Az b s raw c→Zs Zb 21 #[π s,ι 3] b (Eb b s raw (ι (Ab raw c 3).1) (Ab raw c 3).2)):=fun b n=>Co s raw c 3 b n (by decide) (by decide)
 rw[t]at A;generalize (Ab raw c 3).2=e at*;have z:Zq (∀b,Az b s raw e→Zs Zb 21 #[π s,ι 2] b (Eb b s raw (ι (Ab raw e 2).1) (Ab raw e 2).2)):=fun b n=>Co s raw e 2 b n (by decide) (by decide)
 have I:=Am raw e 2 (by decide);generalize Ab raw e 2=j at*;obtain⟨j,av⟩:=j;dsimp only at z hJ I;clear t
 conv=>arg 2;whnf
 go_wp2_with fail;refine(A.o _ x.o.src).mono ?_;rintro U i ⟨rfl,J,q⟩;have H:Zt i.heap.size i (i.alloc (.cells #[ι 7,ι 9] 3)):=bA;obtain⟨k,y⟩:=Y2 ((x.o.sfr J q).below H) (Ze i [ι 7,ι 9] 3);have ao:=q.size;clear J q H;go_wp2_with fail;refine(z.o _ k.o.src).mono ?_;rintro U aA ⟨rfl,K,r⟩;obtain⟨f,L⟩:=Y2 (k.o.sfr K r) (y.o.sfr r (by omega));clear K r y k;obtain ⟨aB, aC, aD, aE, aF⟩ := τ5 f.o.own;have ag:=f.o.own.fz 0;have ak:=f.o.lt;obtain ⟨aw, ax⟩ := τ2 L.o;obtain⟨ar,au⟩:=I;have S:j=0∨j=1:=by omega
 rcases S with rfl|rfl
 ·rw[if_pos rfl]at hJ
  go_wp2;go_meet;exact(f.o.kind 7).to rfl
 ·rw[if_neg (by decide)]at hJ
  go_wp2;go_meet;exact(f.o.kind 9).to rfl
theorem sR {d s:Nat}{raw:List Int}{sc:Sc}{J A D:Option Zr}{K B E:Nat}{gs gl:Nat→List St ×Nat}{C i:Nat}{h:Int}{m r n:Bool}{b:Nat}{wr t:Zp}(I:SwH d s raw sc J A D K B E C i h m r n b wr t)(H:h=6)(g:¬(Ab raw b 3).1=2):SwG d s raw sc gs gl C i h m r n b wr t:=by
 obtain⟨Y,c,k,f,G,ab,X,Z,V,u,w,v⟩:=I;unfold SwG;intros;rename_i S T hJ hM;obtain⟨lv,ae,af⟩:sc.vars.length≤1000000∧sc.arrays.length≤1000000∧sc.funcs.length≤1000000:=⟨c.v1,c.a1,c.f1⟩;obtain⟨Q,p,O⟩:=Y3 c f k;have R:Zq (C≠s):=by show _≠_;omega
 have P:Zq (C<i):=G;have W:=f.lt;have U:=k.lt;have ac:=f.gt;clear c f k;obtain⟨N,L,M⟩:=Y3 w u v;clear w u v;subst H;have l:=gO (sc:=sc) (raw:=raw) (gs:=gs) (gl:=gl) (a:=b) g;rw[l]at hJ;clear l;have q:Zq (∀e,Az e s raw b→Zs Zb 21 #[π s,ι 3] e (Eb e s raw (ι (Ab raw b 3).1) (Ab raw b 3).2)):=fun e F=>Co s raw b 3 e F (by decide) (by decide)
 generalize Ab raw b 3=j at*;obtain⟨j,ad⟩:=j;dsimp only at q hJ g;have aa:(j==2)=false:=beq_eq_false_iff_ne.2 g;clear g
 conv=>arg 2;whnf
 go_wp2_with fail;refine(q.o _ p.o.src).mono ?_;rintro ag ah ⟨rfl,y,x⟩;have z:=Za (p.o.sfr y x);clear y x;go_wp2;go_meet;exact z.o.to rfl
theorem sw_brk {d s:Nat}{raw:List Int}{sc:Sc}{ac S U:Option Zr}{ad T V:Nat}{gs gl:Nat→List St ×Nat}{C r:Nat}{q:Int}{z G A:Bool}{c:Nat}{wr H:Zp}(aa:SwH d s raw sc ac S U ad T V C r q z G A c wr H)(X:q=11)(l:(sc.loop||sc.free)=true)(x:(Ab raw c 2).1=1):SwG d s raw sc gs gl C r q z G A c wr H:=by
 obtain⟨aw,g,u,k,W,az,av,ax,aq,I,K,J⟩:=aa;unfold SwG;intros;rename_i ak al hJ hM;obtain⟨lv,aG,aH⟩:sc.vars.length≤1000000∧sc.arrays.length≤1000000∧sc.funcs.length≤1000000:=⟨g.v1,g.a1,g.f1⟩;obtain⟨ai,B,n⟩:=Y3 g k u;have aj:Zq (C≠s):=by show _≠_;omega
 have ah:Zq (C<r):=W;have ar:=k.lt;have ap:=u.lt;have aA:=k.gt;clear g k u;obtain⟨ag,ae,af⟩:=Y3 K I J;clear K I J;subst X;have y:=vK (sc:=sc) (raw:=raw) (gs:=gs) (gl:=gl) (a:=c) l x;rw[y]at hJ;clear y;have F:Zq (∀b,Az b s raw c→Zs Zb 21 #[π s,ι 2] b (Eb b s raw (ι (Ab raw c 2).1) (Ab raw c 2).2)):=fun b t=>Co s raw c 2 b t (by decide) (by decide)
 rw[x]at F;generalize (Ab raw c 2).2=e at*;have E:Zq (∀b,Az b s raw e→Zs Zb 21 #[π s,ι 2] b (Eb b s raw (ι (Ab raw e 2).1) (Ab raw e 2).2)):=fun b t=>Co s raw e 2 b t (by decide) (by decide)
 have O:=Am raw e 2 (by decide);generalize Ab raw e 2=j at*;obtain⟨j,aD⟩:=j;dsimp only at E hJ O;clear x;obtain⟨h,M⟩:∃h,h=sc.loop:=⟨_,rfl⟩;obtain⟨i,L⟩:∃i,i=sc.free:=⟨_,rfl⟩;rw[←M,←L]at n l;have am:=n.o.at 3 _ rfl;have an:=n.o.at 4 _ rfl;clear M L;have Y:(h=true)∨(h=false∧i=true):=by revert l;cases h<;>cases i<;>simp
 clear l;rcases Y with rfl|⟨rfl,rfl⟩
 all_goals
  conv=>arg 2;whnf
  go_wp2_with fail;refine(F.o _ B.o.src).mono ?_;rintro ab m ⟨rfl,P,v⟩;have N:Zt m.heap.size m (m.alloc (.cells #[ι 5,ι 6] 3)):=bA;obtain⟨p,D⟩:=Y2 ((B.o.sfr P v).below N) (Ze m [ι 5,ι 6] 3);have ay:=v.size;clear P v N;go_wp2_with fail;refine(E.o _ p.o.src).mono ?_;rintro ab aI ⟨rfl,Q,w⟩;obtain⟨f,R⟩:=Y2 (p.o.sfr Q w) (D.o.sfr w (by omega));clear Q w D p;obtain ⟨aJ, aK, aL, aM, aN⟩ := τ5 f.o.own;have ao:=f.o.own.fz 0;have au:=f.o.lt;obtain ⟨aE, aF⟩ := τ2 R.o;obtain⟨aB,aC⟩:=O;have Z:j=0∨j=1:=by omega
  rcases Z with rfl|rfl
  ·rw[if_pos rfl]at hJ
   go_wp2;go_meet;exact(f.o.kind 5).to rfl
  ·rw[if_neg (by decide)]at hJ
   go_wp2;go_meet;exact(f.o.kind 6).to rfl
theorem vP {d s:Nat}{raw:List Int}{sc:Sc}{Q H J:Option Zr}{R I K:Nat}{gs gl:Nat→List St ×Nat}{C n:Nat}{m:Int}{r w t:Bool}{b:Nat}{wr x:Zp}(P:SwH d s raw sc Q H J R I K C n m r w t b wr x)(N:m=11)(i:(sc.loop||sc.free)=true)(k:¬(Ab raw b 2).1=1):SwG d s raw sc gs gl C n m r w t b wr x:=by
 obtain⟨ag,c,p,h,M,aj,af,ah,ad,y,A,z⟩:=P;unfold SwG;intros;rename_i Y Z hJ hM;obtain⟨lv,am,an⟩:sc.vars.length≤1000000∧sc.arrays.length≤1000000∧sc.funcs.length≤1000000:=⟨c.v1,c.a1,c.f1⟩;obtain⟨W,u,l⟩:=Y3 c h p;have X:Zq (C≠s):=by show _≠_;omega
 have V:Zq (C<n):=M;have ae:=h.lt;have ac:=p.lt;have ak:=h.gt;clear c h p;obtain⟨U,S,T⟩:=Y3 A y z;clear A y z;subst N;have q:=fB (sc:=sc) (raw:=raw) (gs:=gs) (gl:=gl) (a:=b) i k;rw[q]at hJ;clear q;have v:Zq (∀f,Az f s raw b→Zs Zb 21 #[π s,ι 2] f (Eb f s raw (ι (Ab raw b 2).1) (Ab raw b 2).2)):=fun f L=>Co s raw b 2 f L (by decide) (by decide)
 generalize Ab raw b 2=j at*;obtain⟨j,al⟩:=j;dsimp only at v hJ k;have ai:(j==1)=false:=beq_eq_false_iff_ne.2 k;clear k;obtain⟨e,D⟩:∃e,e=sc.loop:=⟨_,rfl⟩;obtain⟨g,B⟩:∃g,g=sc.free:=⟨_,rfl⟩;rw[←D,←B]at l i;have aa:=l.o.at 3 _ rfl;have ab:=l.o.at 4 _ rfl;clear D B;have O:(e=true)∨(e=false∧g=true):=by revert i;cases e<;>cases g<;>simp
 clear i;rcases O with rfl|⟨rfl,rfl⟩
 all_goals
  conv=>arg 2;whnf
  go_wp2_with fail;refine(v.o _ u.o.src).mono ?_;rintro ao ap ⟨rfl,F,E⟩;have G:=Za (u.o.sfr F E);clear F E;go_wp2;go_meet;exact G.o.to rfl
theorem sw_if {d s:Nat}{raw:List Int}{sc:Sc}{q l o:Option Zr}{r m p:Nat}{gs gl:Nat→List St ×Nat}{C c:Nat}{M:Int}{aw az ax:Bool}{G:Nat}{wr ah:Zp}(bx:SwH d s raw sc q l o r m p C c M aw az ax G wr ah)(aF:M=7∨M=8)(aE:SwI d s raw sc q l o r m p sc.loop gs)(br:SwI d s raw sc q l o r m p true gl):SwG d s raw sc gs gl C c M aw az ax G wr ah:=by
 obtain⟨ce,F,aj,T,bq,cj,cd,cf,aG,aB,aD,aC⟩:=bx;unfold SwG;intros;rename_i bO bP hJ hM;obtain⟨lv,cm,cn⟩:sc.vars.length≤1000000∧sc.arrays.length≤1000000∧sc.funcs.length≤1000000:=⟨F.v1,F.a1,F.f1⟩;obtain⟨ag,ae,bb⟩:=Y3 F T aj;have aA:Zq (C≠s):=by show _≠_;omega
 have ad:Zq (C<c):=bq;have cb:=T.lt;have bV:=aj.lt;have ck:=T.gt;clear F T aj;obtain⟨bN,bL,bM⟩:=Y3 aD aB aC;clear aD aB aC;have av:=head_if (sc:=sc) (raw:=raw) (gs:=gs) (gl:=gl) (a:=G) aF;have bt:2≤d:=aG (by omega) (by omega);have cg:(2:Int)≤(d:Int):=by omega
 have ch:(d:Int)≤1000:=by omega
 rw[av]at hJ;clear av;have u:Zq (∀b f,Az f s raw b→Fy s f sc (.slice q sc.vars.length r) (.slice l sc.arrays.length m) (.slice o sc.funcs.length p)→Zs Zb 26 #[.agg #[.slice q sc.vars.length r,.slice l sc.arrays.length m,.slice o sc.funcs.length p,.bool sc.free,.bool sc.loop],π s,.int .i64 3] f (Fg f s raw (Aw sc raw 3 b))):=fun b f w z=>Ku 3 (by decide) s raw b sc _ _ _ f w z
 replace u:=Za (u.o G);have af:=Za (aE bt);clear aE br aG;generalize Aw sc raw 3 G=x at*;obtain⟨x,aq⟩:=x;dsimp only at u hJ;obtain⟨v,H⟩:=Y2 (ae.o.kind 3) (bb.o.other (show C≠c by omega) 0 (.int .i64 3));obtain ⟨bI, bJ, aW, aX, aY⟩ := τ5 ae.o.own;have bo:=ae.o.own.fz 0;rcases aF with rfl|rfl
 all_goals
  conv=>arg 2;whnf
  go_upto_region 27 with(fail);generalize ah.setCell ⟨c,0,none⟩ (.int .i64 3)=ai at*;clear bI bJ aW aX aY bo;go_cut []from 131 to 138 (fun bH=>ArgAt wr c s raw 3 [] [x] aq C [.slice q sc.vars.length r,.slice l sc.arrays.length m,.slice o sc.funcs.length p,.bool sc.free,.bool sc.loop] bH)
  case first=>
   have ak:Zt ai.heap.size ai ai.drew:=(Zc _ _).drew;obtain⟨J,be⟩:=Y2 (v.o.below ak) (H.o.old ak);clear ak;obtain ⟨N, O, Q, R, S⟩ := τ5 H.o;obtain ⟨X, Y, Z, aa, ab⟩ := τ5 v.o.own;have bQ:=v.o.own.fz 2;have ca:=v.o.lt;have bU:=H.o.lt;obtain⟨bE,bv,bB,bC,bD⟩:=info_parts Mo;go_wp2_with fail
   go_region_law (first
    |((try go_simp);go_at_call 26;refine(u.o _ J.o.src (ag.o.sfr J.o.fr)).mono ?_;rintro aT t ⟨cu,bu,aR,B,an,aN⟩;obtain⟨xs,ar,bz⟩:=an.shape;subst bz;subst bu;have cc:∀b ap,b<_→b≠s→t.cell? ⟨b,ap,none⟩=_:=fun b ap bp bw=>Zj (a:=⟨b,ap,none⟩) (B.block b bp bw);obtain⟨h,I,bm,bl⟩:=Y4 (J.o.sfr aR B) (be.o.sfr B aA.o) an aN;have cl:=B.size;have u2:=h.o.own.at 2 _ rfl;have bX:=h.o.lt;clear aR B an aN;have W:Zt t.heap.size t (t.alloc (.cells #[.int .i64 x.kind,.int .i64 x.op,.int .i64 x.n,.string (Aa x.name),.slice xs x.args.length ar] 35)):=bA;obtain⟨j,ay,bh,bn⟩:=Y4 (h.o.below W) (I.o.old W) (Zh t (Ba x (.slice xs x.args.length ar)) 35) ((bm.out.old W).mono (fun b A=>J.o.beside b A));clear W)
    |(refine step_append_lies (P:=Zb) _ rfl _ _ 33 rfl (c+1) 35 bE _ 5 64 Zk bv bB bC bD rfl (by decide) (ν) 0 (Dl []) rfl j.o.exs.1 ⟨t.heap.size,0,none⟩ 1 1 (Ba x (.slice xs x.args.length ar)) rfl rfl (Fr bh.o) (Lw x) (by decide) (by unfold maxLen;omega) (by omega) (by have:=j.o.lt;omega) _ rfl ?_;intro g cap ct aO V aH ci;have aL:∀k,(Value.slice none 0 0).ownBlock=some k→c+1≤k:=fun k e=>(j.o.exs.ge e).1;have bg:=Za (j.o.more x _ bn.out bl.out aO V aH);have U:=j.o.own.low (V.block c j.o.lt (fun e=>by have:=aL _ e.symm;omega));have bc:=Za (ay.o.low (V.block _ ay.o.lt (fun e=>by have:=aL _ e.symm;have:=ad.o;omega)));have aW:=U.at 2 _ rfl;have bR:=U.fz 2;have bZ:=U.lt;clear aO V aH U))
   all_goals
    have bd:=Za (bc.o.other (show C≠c by have:=ad.o;omega) 2 (.slice (some ⟨g,0,none⟩) (0+1) cap));go_wp2;go_meet;exact⟨⟨_,_,_,rfl,bg.o⟩,bd.o⟩
  case rest=>
  obtain⟨⟨co,cp,cq,aP,aM⟩,aJ⟩:=hcut;obtain⟨bi,i,ac⟩:=Y3 aP aM aJ;clear aP aM aJ v H u;have K:=Za (fun f w z=>af.o f aq w z);generalize gs aq=y at K hJ;obtain⟨au,aZ⟩:=y;dsimp only at K hJ;have L:=Za (fun f w z=>af.o f aZ w z);generalize gs aZ=bK at L hJ;obtain⟨ba,cv⟩:=bK;dsimp only at L hJ;clear af;obtain ⟨N, O, Q, R, S⟩ := τ5 ac.o;obtain ⟨X, Y, Z, aa, ab⟩ := τ5 i.o.own;have bs:=i.o.lt;go_wp2_with fail;refine(K.o _ i.o.src (ag.o.sfr i.o.fr)).mono ?_;rintro aT cr ⟨bF,rfl,aQ,al,am⟩;obtain⟨aU,aV,rfl⟩:=am.shape;have D:=i.o.sfr aQ al;have bj:=Za (am.mono (fun b A=>i.o.beside b A));have aI:=ac.o.sfr al aA.o;obtain⟨h,I⟩:=Y2 (D.setThn au (.slice aU au.length aV) bj.o) (aI.other (show C≠c by have:=ad.o;omega) 3 (.slice aU au.length aV));have aX:=D.own.at 3 _ rfl;have bS:=D.own.fz 3;have bW:=D.lt;clear N O Q R S X Y Z aa ab aQ al am D aI bs i ac K;obtain ⟨N, O, Q, R, S⟩ := τ5 I.o;obtain ⟨X, Y, Z, aa, ab⟩ := τ5 h.o.own;go_wp2_with fail;refine(L.o _ h.o.src (ag.o.sfr h.o.fr)).mono ?_;rintro aT cs ⟨bF,rfl,aS,aK,ao⟩;obtain⟨bG,uc,rfl⟩:=ao.shape;have E:=h.o.sfr aS aK;have bk:=Za (ao.mono (fun b A=>h.o.beside b A));have bf:=Za (E.setEls ba (.slice bG ba.length uc) bk.o);have aY:=E.own.at 4 _ rfl;have bT:=E.own.fz 4;have bY:=E.lt;clear N O Q R S X Y Z aa ab aS aK ao E I L;go_wp2;go_meet;exact bf.o.to bi.o
theorem sw_loop {d s:Nat}{raw:List Int}{sc:Sc}{m h j:Option Zr}{o i l:Nat}{gs gl:Nat→List St ×Nat}{C c:Nat}{K:Int}{ai au aj:Bool}{F:Nat}{wr f:Zp}(bx:SwH d s raw sc m h j o i l C c K ai au aj F wr f)(az:K=9∨K=10)(bq:SwI d s raw sc m h j o i l sc.loop gs)(ay:SwI d s raw sc m h j o i l true gl):SwG d s raw sc gs gl C c K ai au aj F wr f:=by
 obtain⟨cc,D,Y,R,bp,ch,cb,cd,aA,av,ax,aw⟩:=bx;unfold SwG;intros;rename_i bO bP hJ hM;obtain⟨lv,ck,cl⟩:sc.vars.length≤1000000∧sc.arrays.length≤1000000∧sc.funcs.length≤1000000:=⟨D.v1,D.a1,D.f1⟩;obtain⟨ar,H,U⟩:=Y3 D R Y;have bi:Zq (C≠s):=by show _≠_;omega
 have al:Zq (C<c):=bp;have bZ:=R.lt;have bU:=Y.lt;have ci:=R.gt;clear D R Y;obtain⟨bN,bL,bM⟩:=Y3 ax av aw;clear ax av aw;have ah:=pO (sc:=sc) (raw:=raw) (gs:=gs) (gl:=gl) (a:=F) az;have bt:2≤d:=aA (by omega) (by omega);have ce:(2:Int)≤(d:Int):=by omega
 have cf:(d:Int)≤1000:=by omega
 rw[ah]at hJ;clear ah;have v:Zq (∀b p,Az p s raw b→Fy s p sc (.slice m sc.vars.length o) (.slice h sc.arrays.length i) (.slice j sc.funcs.length l)→Zs Zb 26 #[.agg #[.slice m sc.vars.length o,.slice h sc.arrays.length i,.slice j sc.funcs.length l,.bool sc.free,.bool sc.loop],π s,.int .i64 3] p (Fg p s raw (Aw sc raw 3 b))):=fun b p W X=>Ku 3 (by decide) s raw b sc _ _ _ p W X
 replace v:=Za (v.o F);have aq:=Za (ay bt);clear bq ay aA;generalize Aw sc raw 3 F=x at*;obtain⟨x,af⟩:=x;dsimp only at v hJ;have am:=H.o.kind 4;have aa:Zt (f.setCell ⟨c,0,none⟩ (.int .i64 4)).heap.size (f.setCell ⟨c,0,none⟩ (.int .i64 4)) ((f.setCell ⟨c,0,none⟩ (.int .i64 4)).alloc (.cells #[.slice m sc.vars.length o,.slice h sc.arrays.length i,.slice j sc.funcs.length l,.bool sc.free,.bool true] 69)):=bA;obtain⟨w,G⟩:=Y2 (am.below aa) ((U.o.other (show C≠c by omega) 0 (.int .i64 4)).old aa);have ab:=Ze (f.setCell ⟨c,0,none⟩ (.int .i64 4)) [.slice m sc.vars.length o,.slice h sc.arrays.length i,.slice j sc.funcs.length l,.bool sc.free,.bool true] 69;rw[show(f.setCell ⟨c,0,none⟩ (.int .i64 4)).heap.size=f.heap.size by simp [World.setCell]]at ab;have an:=Za ab;have bd:Zq (f.heap.size≠c):=by show _≠_;omega
 have bc:Zq (f.heap.size≠s):=by show _≠_;omega
 clear aa am ab;obtain ⟨L, M, N, O, Q⟩ := τ5 U.o;obtain ⟨bI, bJ, aR, aS, bK⟩ := τ5 H.o.own;have bn:=H.o.own.fz 0;rcases az with rfl|rfl
 all_goals
  conv=>arg 2;whnf
  go_upto_region 34 with(fail);clear bI bJ aR aS bK bn L M N O Q H U;generalize (f.setCell ⟨c,0,none⟩ (.int .i64 4)).alloc (.cells #[.slice m sc.vars.length o,.slice h sc.arrays.length i,.slice j sc.funcs.length l,.bool sc.free,.bool true] 69)=V at*;generalize f.heap.size=bm at*;go_cut []from 161 to 168 (fun aL=>ArgAt wr c s raw 4 [] [x] af C [.slice m sc.vars.length o,.slice h sc.arrays.length i,.slice j sc.funcs.length l,.bool sc.free,.bool sc.loop] aL∧Ad aL bm [.slice m sc.vars.length o,.slice h sc.arrays.length i,.slice j sc.funcs.length l,.bool sc.free,.bool true] 69)
  case first=>
   have T:Zt V.heap.size V V.drew:=(Zc _ _).drew;obtain⟨I,aX,be⟩:=Y3 (w.o.below T) (G.o.old T) (an.o.old T);clear T;obtain ⟨L, M, N, O, Q⟩ := τ5 G.o;obtain ⟨aM, aN, aO, aP, aQ⟩ := τ5 w.o.own;have bQ:=w.o.own.fz 2;have bY:=w.o.lt;have bT:=G.o.lt;obtain⟨bE,bv,bB,bC,bD⟩:=info_parts Mo;go_wp2_with fail
   go_region_law (first
    |((try go_simp);go_at_call 26;refine(v.o _ I.o.src (ar.o.sfr I.o.fr)).mono ?_;rintro bF u ⟨cs,bu,aK,t,ad,aG⟩;obtain⟨xs,ag,bz⟩:=ad.shape;subst bz;subst bu;have ca:∀b ae,b<_→b≠s→u.cell? ⟨b,ae,none⟩=_:=fun b ae bo bw=>Zj (a:=⟨b,ae,none⟩) (t.block b bo bw);obtain⟨z,aU,aZ,bk,bj⟩:=Y5 (I.o.sfr aK t) (aX.o.sfr t bi.o) (be.o.sfr t bc.o) ad aG;have cj:=t.size;have u2:=z.o.own.at 2 _ rfl;have bW:=z.o.lt;clear aK t ad aG;have E:Zt u.heap.size u (u.alloc (.cells #[.int .i64 x.kind,.int .i64 x.op,.int .i64 x.n,.string (Aa x.name),.slice xs x.args.length ag] 35)):=bA;obtain⟨r,ak,ao,bf,bl⟩:=Y5 (z.o.below E) (aU.o.old E) (aZ.o.old E) (Zh u (Ba x (.slice xs x.args.length ag)) 35) ((bk.out.old E).mono (fun b Z=>I.o.beside b Z));clear E)
    |(refine step_append_lies (P:=Zb) _ rfl _ _ 33 rfl (c+1) 35 bE _ 5 64 Zk bv bB bC bD rfl (by decide) (ν) 0 (Dl []) rfl r.o.exs.1 ⟨u.heap.size,0,none⟩ 1 1 (Ba x (.slice xs x.args.length ag)) rfl rfl (Fr bf.o) (Lw x) (by decide) (by unfold maxLen;omega) (by omega) (by have:=r.o.lt;omega) _ rfl ?_;intro g cap cr aH A aB cg;have aD:∀k,(Value.slice none 0 0).ownBlock=some k→c+1≤k:=fun k e=>(r.o.exs.ge e).1;have aY:=Za (r.o.more x _ bl.out bj.out aH A aB);have S:=r.o.own.low (A.block c r.o.lt (fun e=>by have:=aD _ e.symm;omega));obtain⟨aV,ba⟩:=Y2 (ak.o.low (A.block _ ak.o.lt (fun e=>by have:=aD _ e.symm;have:=al.o;omega))) (ao.o.low (A.block _ ao.o.lt (fun e=>by cases e)));have aR:=S.at 2 _ rfl;have bR:=S.fz 2;have bX:=S.lt;clear aH A aB S))
   all_goals
    obtain⟨aW,bb⟩:=Y2 (aV.o.other (show C≠c by have:=al.o;omega) 2 (.slice (some ⟨g,0,none⟩) (0+1) cap)) (ba.o.other bd.o 2 (.slice (some ⟨g,0,none⟩) (0+1) cap));go_wp2;go_meet;exact⟨⟨⟨_,_,_,rfl,aY.o⟩,aW.o⟩,bb.o⟩
  case rest=>
  obtain⟨⟨⟨cm,co,cp,aI,aE⟩,bs⟩,aF⟩:=hcut;obtain⟨bg,q,ap⟩:=Y3 aI aE aF;clear aI aE bs aF w G an v;have J:=Za (fun p W X=>aq.o p af W X);generalize gl af=y at J hJ;obtain⟨aT,ct⟩:=y;dsimp only at J hJ;clear aq;obtain ⟨L, M, N, O, Q⟩ := τ5 ap.o;obtain ⟨aM, aN, aO, aP, aQ⟩ := τ5 q.o.own;have br:=q.o.lt;go_wp2_with fail;refine(J.o _ q.o.src (ar.o.sfr q.o.fr)).mono ?_;rintro bF cq ⟨cn,rfl,aJ,aC,ac⟩;obtain⟨bG,bH,rfl⟩:=ac.shape;have B:=q.o.sfr aJ aC;have bh:=Za (ac.mono (fun b Z=>q.o.beside b Z));have z:=Za (B.setThn aT (.slice bG aT.length bH) bh.o);have aS:=B.own.at 3 _ rfl;have bS:=B.own.fz 3;have bV:=B.lt;clear L M N O Q aM aN aO aP aQ aJ aC ac B br q ap J;go_wp2;go_meet;exact z.o.to bg.o
theorem sw_all {d s:Nat}{raw:List Int}{sc:Sc}{m i k:Option Zr}{n j l:Nat}{gs gl:Nat→List St ×Nat}{C p:Nat}{c:Int}{f h g:Bool}{e:Nat}{wr o:Zp}(b:SwH d s raw sc m i k n j l C p c f h g e wr o)(q:SwI d s raw sc m i k n j l sc.loop gs)(r:SwI d s raw sc m i k n j l true gl):SwG d s raw sc gs gl C p c f h g e wr o:=by
 have t:=b.hd0;have u:=b.hd14;have a:c<4∨c=4∨c=5∨c=6∨(c=7∨c=8)∨(c=9∨c=10)∨c=11∨12≤c:=by omega
 rcases a with a|a|a|a|a|a|a|a
 ·cases hv:h
  ·subst hv;exact Qx b (fun _=>rfl) (fun a=>by omega) (fun a=>by omega) (by omega) (by omega) (fun a=>by omega)
  ·subst hv;exact sw_set b a rfl
 ·cases hv:f
  ·subst hv;exact Qx b (fun a=>by omega) (fun _=>rfl) (fun a=>by omega) (by omega) (by omega) (fun a=>by omega)
  ·subst hv;exact vG b a rfl
 ·cases hv:g
  ·subst hv;exact Qx b (fun a=>by omega) (fun a=>by omega) (fun _=>rfl) (by omega) (by omega) (fun a=>by omega)
  ·subst hv;exact sw_call b a rfl
 ·by_cases hv:(Ab raw e 3).1=2
  ·exact sw_ret b a hv
  ·exact sR b a hv
 ·exact sw_if b a q r
 ·exact sw_loop b a q r
 ·cases hb:(sc.loop||sc.free)
  ·exact Qx b (fun a=>by omega) (fun a=>by omega) (fun a=>by omega) (by omega) (by omega) (fun _=>hb)
  ·by_cases hv:(Ab raw e 2).1=1
   ·exact sw_brk b a hb hv
   ·exact vP b a hb hv
 ·exact Qx b (fun a=>by omega) (fun a=>by omega) (fun a=>by omega) (by omega) (by omega) (fun a=>by omega)
def iN(w:Zp)(a:Nat):Nat:=match w.cell? ⟨a,2,none⟩with
 |some (.slice _ n _)=>n
 |_=>0
theorem aQ {h w:Zp}{b s:Nat}{raw:List Int}{k:Int}{nm:Bs}{c:List (Ex ×Value)}{f:Option Zr}{g:Nat}{t e:List St}{j i:Value}{a:Nat}(d:Cx h b s raw k nm c f g t e j i a w):iN w b=c.length:=by
 have:=d.own.at 2 _ rfl;unfold iN;rw[this]
def FillR(s:Nat)(sc:Sc)(raw:List Int)(C a:Nat)(k:Int)(dk:Zp)(y:St ×Nat)(c bn bW ch cs cD cO cZ d B N Y aj aG aR bc bo bx bz bF bG bH bI bJ bK bL bM bN bO bP bQ bR bS bT bU bV bX bY bZ ca cb cc cd ce cf cg ci cj ck cl cm cn co cp cq cr ct cu cv cw cx cy cz cA cB cC cE cF cG cH cI cJ cK cL cM cN cP cQ cR cS cT cU cV cW cX cY da db dc dd de df dg dh di dj e f g h i j l m n o p q r t u v w x z A D E F G H I J K L M O P Q R S T U V W X Z aa ab ac ad ae af ag ah ai ak al am an ao ap aq ar au av aw ax ay az aA aB aC aD aE aF aH aI aJ aK aL aM aN aO aP aQ aS aT aU aV aW aX aY aZ ba bb bd be bf bg bh bi bj bk bl bm bp bq br bs bt bu bv bw bA bB bC bD bE:Value)(b:Act)(w':Zp):Prop:=
 ∃dl dm dn dp dq dr ds dt du dv dw dx dy:Value,Qs dk a s raw y w'∧b=⟨[c,.pointer (some ⟨s,0,none⟩),bn,.pointer (some ⟨C,0,none⟩),bW,ch,cs,cD,cO,cZ,d,.pointer (some ⟨a,0,none⟩),B,N,Y,aj,.int .i64 (Df k:Nat),aG,aR,bc,bo,bx,bz,bF,bG,bH,bI,bJ,bK,bL,bM,bN,bO,bP,bQ,bR,bS,bT,bU,bV,bX,bY,bZ,ca,cb,cc,cd,ce,cf,cg,ci,cj,ck,cl,cm,cn,co,cp,cq,cr,ct,cu,cv,cw,cx,cy,cz,cA,cB,cC,cE,cF,cG,cH,cI,cJ,cK,cL,cM,cN,cP,cQ,cR,cS,cT,cU,cV,cW,cX,cY,da,db,dc,dd,de,df,dg,dh,di,dj,e,f,g,h,i,j,l,m,n,o,p,q,r,t,u,v,w,x,z,A,D,E,F,G,H,I,J,K,L,M,O,P,Q,R,S,T,U,V,W,X,Z,aa,ab,ac,ad,ae,af,ag,ah,ai,ak,al,am,an,ao,ap,aq,ar,au,av,aw,ax,ay,az,aA,aB,aC,aD,aE,aF,aH,aI,aJ,aK,aL,aM,aN,aO,aP,aQ,aS,aT,aU,aV,aW,aX,aY,aZ,ba,bb,bd,be,bf,bg,bh,bi,bj,bk,bl,bm,bp,bq,br,bs,bt,bu,bv,bw,dl,dm,dn,dp,dq,dr,ds,dt,du,dv,dw,dx,dy,bA,bB,bC,bD,bE].toArray,[]⟩
def mM(sc:Sc)(raw:List Int)(g:Zp)(c s:Nat)(k:Int)(nm:Bs)(t e:List St)(i h:Value)(y:St ×Nat)(w':Zp):Prop:=
 ∃b d f a,Kv sc raw (.mk k nm (b.map (·.1)) t e) a=y∧Df k≤b.length+1∧Cx g c s raw k nm b d f t e i h a w'
theorem rF(s:Nat)(raw:List Int)(sc:Sc)(J z D:Option Zr)(K A E:Nat)(C d:Nat)(k:Int)(nm:Bs)(l:List (Ex ×Value))(u:Option Zr)(v:Nat)(t e:List St)(ab aa:Value)(a:Nat)(p Q:Zp)
  (aB:Fy s p sc (.slice J sc.vars.length K) (.slice z sc.arrays.length A) (.slice D sc.funcs.length E)) (an:Ad p C [.slice J sc.vars.length K,.slice z sc.arrays.length A,.slice D sc.funcs.length E,.bool sc.free,.bool sc.loop] 69) (ao:Cx p d s raw k nm l u v t e ab aa a Q) (aV:C<d) (bw:s<C) (aw:Df k≤l.length+1)
  {q0 q2 q4 q5 q6 q7 q8 q9 q10 q12 q13 q14 q15 q17 q18 q19 q20 q21 q22 q23 q24 q25 q26 q27 q28 q29 q30 q31 q32 q33 q34 q35 q36 q37 q38 q39 q40 q41 q42 q43 q44 q45 q46 q47 q48 q49 q50 q51 q52 q53 q54 q55 q56 q57 q58 q59 q60 q61 q62 q63 q64 q65 q66 q67 q68 q69 q70 q71 q72 q73 q74 q75 q76 q77 q78 q79 q80 q81 q82 q83 q84 q85 q86 q87 q88 q89 q90 q91 q92 q93 q94 q95 q96 q97 q98 q99 q100 q101 q102 q103 q104 q105 q106 q107 q108 q109 q110 q111 q112 q113 q114 q115 q116 q117 q118 q119 q120 q121 q122 q123 q124 q125 q126 q127 q128 q129 q130 q131 q132 q133 q134 q135 q136 q137 q138 q139 q140 q141 q142 q143 q144 q145 q146 q147 q148 q149 q150 q151 q152 q153 q154 q155 q156 q157 q158 q159 q160 q161 q162 q163 q164 q165 q166 q167 q168 q169 q170 q171 q172 q173 q174 q175 q176 q177 q178 q179 q180 q181 q182 q183 q184 q185 q186 q187 q188 q189 q190 q191 q192 q193 q194 q195 q196 q197 q198 q199 q200 q201 q202 q203 q204 q205 q206 q207 q208 q209 q210 q211 q212 q213 q214 q215 q216 q217 q218 q219 q220 q221 q222 q223 q224 q225:Value} (al am:Act→Zp→Prop) (hJ:∀q w',FillR s sc raw C d k p (Kv sc raw (.mk k nm (l.map (·.1)) t e) a) q0 q2 q4 q5 q6 q7 q8 q9 q10 q12 q13 q14 q15 q17 q18 q19 q20 q21 q22 q23 q24 q25 q26 q27 q28 q29 q30 q31 q32 q33 q34 q35 q36 q37 q38 q39 q40 q41 q42 q43 q44 q45 q46 q47 q48 q49 q50 q51 q52 q53 q54 q55 q56 q57 q58 q59 q60 q61 q62 q63 q64 q65 q66 q67 q68 q69 q70 q71 q72 q73 q74 q75 q76 q77 q78 q79 q80 q81 q82 q83 q84 q85 q86 q87 q88 q89 q90 q91 q92 q93 q94 q95 q96 q97 q98 q99 q100 q101 q102 q103 q104 q105 q106 q107 q108 q109 q110 q111 q112 q113 q114 q115 q116 q117 q118 q119 q120 q121 q122 q123 q124 q125 q126 q127 q128 q129 q130 q131 q132 q133 q134 q135 q136 q137 q138 q139 q140 q141 q142 q143 q144 q145 q146 q147 q148 q149 q150 q151 q152 q153 q154 q155 q156 q157 q158 q159 q160 q161 q162 q163 q164 q165 q166 q167 q168 q169 q170 q171 q172 q173 q174 q175 q176 q177 q178 q179 q180 q181 q182 q183 q184 q185 q186 q187 q188 q189 q190 q191 q192 q193 q194 q195 q196 q197 q198 q199 q200 q201 q202 q203 q204 q205 q206 q207 q221 q222 q223 q224 q225 q w'→al q w') (hM:∀q w',Met al q w'→am q w'):
  Code.wp Zb xC (Exit.then am (fun _ _ _=>False)) ⟨[q0,.pointer (some ⟨s,0,none⟩),q2,.pointer (some ⟨C,0,none⟩),q4,q5,q6,q7,q8,q9,q10,.pointer (some ⟨d,0,none⟩),q12,q13,q14,q15,.int .i64 (Df k:Nat),q17,q18,q19,q20,q21,q22,q23,q24,q25,q26,q27,q28,q29,q30,q31,q32,q33,q34,q35,q36,q37,q38,q39,q40,q41,q42,q43,q44,q45,q46,q47,q48,q49,q50,q51,q52,q53,q54,q55,q56,q57,q58,q59,q60,q61,q62,q63,q64,q65,q66,q67,q68,q69,q70,q71,q72,q73,q74,q75,q76,q77,q78,q79,q80,q81,q82,q83,q84,q85,q86,q87,q88,q89,q90,q91,q92,q93,q94,q95,q96,q97,q98,q99,q100,q101,q102,q103,q104,q105,q106,q107,q108,q109,q110,q111,q112,q113,q114,q115,q116,q117,q118,q119,q120,q121,q122,q123,q124,q125,q126,q127,q128,q129,q130,q131,q132,q133,q134,q135,q136,q137,q138,q139,q140,q141,q142,q143,q144,q145,q146,q147,q148,q149,q150,q151,q152,q153,q154,q155,q156,q157,q158,q159,q160,q161,q162,q163,q164,q165,q166,q167,q168,q169,q170,q171,q172,q173,q174,q175,q176,q177,q178,q179,q180,q181,q182,q183,q184,q185,q186,q187,q188,q189,q190,q191,q192,q193,q194,q195,q196,q197,q198,q199,q200,q201,q202,q203,q204,q205,q206,q207,q208,q209,q210,q211,q212,q213,q214,q215,q216,q217,q218,q219,q220,q221,q222,q223,q224,q225].toArray,[]⟩ Q:=by
 have ba:=oX k;obtain⟨aN,aH⟩:=Y2 aB an;have ak:Zq (C≠s):=by show _≠_;omega
 have ae:Zq (C<d):=aV;have aJ:Zq (∀b m,Az m s raw b→Fy s m sc (.slice J sc.vars.length K) (.slice z sc.arrays.length A) (.slice D sc.funcs.length E)→Zs Zb 26 #[.agg #[.slice J sc.vars.length K,.slice z sc.arrays.length A,.slice D sc.funcs.length E,.bool sc.free,.bool sc.loop],π s,.int .i64 4] m (Fg m s raw (Aw sc raw 4 b))):=fun b m aT aU=>Ku 4 (by decide) s raw b sc _ _ _ m aT aU
 have ah:Zq (mM sc raw p d s k nm t e ab aa (Kv sc raw (.mk k nm (l.map (·.1)) t e) a) Q):=⟨l,u,v,a,rfl,aw,ao⟩;generalize Kv sc raw (.mk k nm (l.map (·.1)) t e) a=y at*;obtain⟨j,S⟩:∃j,j=Df k:=⟨_,rfl⟩;have O:=Za S;have bv:j≤2:=by omega
 rw[←S];clear aB an ao aw ba S
 conv=>arg 2;whnf
 go_wp2
 go_loopw [] (fun w'=>mM sc raw p d s k nm t e ab aa y w') (fun w'=>3-iN w' d)
 case atStart=>exact ah.o
 case round=>
  clear ah;obtain⟨c,u,v,b,aC,ax,H⟩:=hrel;have aq:=aQ H;obtain⟨aE,aj,ai,f,M⟩:=Y5 aq aC ax H (aH.o.sfr H.fr ak.o);clear aC ax H aq
  by_cases hl:c.length<j
  ·have aZ:((c.length:Int)<(j:Int)):=by omega
   have av:Zq (c.length≤10):=by show _≤_;omega
   have h:=Lg sc raw (k:=k) (nm:=nm) (args:=c.map (·.1)) (t:=t) (e:=e) b (by rw[Zf,←O.o];exact hl);rw[aj.o]at h;have ap:∀ac B,Kv sc raw (.mk k nm (c.map (·.1)++[ac]) t e) B=(.mk k nm (c.map (·.1)++[ac]) t e,B):=fun ac B=>Lx sc raw B (by rw[Zi,Zf,Zm];have:=ai.o;omega)
   obtain⟨aM,af⟩:=Y2 ap (aJ.o b);generalize Aw sc raw 4 b=x at*;obtain⟨x,aD⟩:=x;dsimp only at af h;have aK:=Za h;clear h ap;obtain ⟨V, W, X, Y, Z⟩ := τ5 f.o.own;go_upto_region 44 with(fail);clear V W X Y Z;have R:Zt wr.heap.size wr wr.drew:=(Zc _ _).drew;obtain⟨w,aI⟩:=Y2 (f.o.below R) (M.o.old R);clear R;obtain ⟨bi, bj, bk, bl, bm⟩ := τ5 M.o;obtain ⟨V, W, X, Y, Z⟩ := τ5 f.o.own;have bn:=f.o.own.fz 2;have bs:=f.o.lt;have bp:=M.o.lt;obtain⟨bg,aY,bd,be,bf⟩:=info_parts Mo;go_wp2_with fail
   go_region_law (first
    |((try go_simp);go_at_call 26;refine(af.o _ w.o.src (aN.o.sfr w.o.fr)).mono ?_;rintro bz o ⟨bC,aX,aA,r,T,ay⟩;obtain⟨xs,L,bc⟩:=T.shape;subst bc;subst aX;have bt:∀b U,b<_→b≠s→o.cell? ⟨b,U,none⟩=_:=fun b U aS bb=>Zj (a:=⟨b,U,none⟩) (r.block b aS bb);obtain⟨N,aF,aP,aO⟩:=Y4 (w.o.sfr aA r) (aI.o.sfr r ak.o) T ay;have bx:=r.size;have u2:=N.o.own.at 2 _ rfl;have bq:=N.o.lt;clear aA r T ay;have I:Zt o.heap.size o (o.alloc (.cells #[.int .i64 x.kind,.int .i64 x.op,.int .i64 x.n,.string (Aa x.name),.slice xs x.args.length L] 35)):=bA;obtain⟨i,ad,aL,aR⟩:=Y4 (N.o.below I) (aF.o.old I) (Zh o (Ba x (.slice xs x.args.length L)) 35) ((aP.out.old I).mono (fun b aW=>w.o.beside b aW));clear I)
    |(refine step_append_lies (P:=Zb) _ rfl _ _ 33 rfl (d+1) 35 bg _ 5 64 Zk aY bd be bf rfl (by decide) (.slice u c.length v) c.length (Dl c) rfl i.o.exs.1 ⟨o.heap.size,0,none⟩ 1 1 (Ba x (.slice xs x.args.length L)) rfl rfl (Fr aL.o) (Lw x) (by decide) (by have:=av.out;unfold maxLen;omega) (by have:=av.out;omega) (by have:=i.o.lt;omega) _ rfl ?_;intro g cap bB az G ar bu;have au:∀k,(Value.slice u c.length v).ownBlock=some k→d+1≤k:=fun k e=>(i.o.exs.ge e).1;have ag:=Za (i.o.more x _ aR.out aO.out az G ar);have F:=i.o.own.low (G.block d i.o.lt (fun e=>by have:=au _ e.symm;omega));have aG:=Za (ad.o.low (G.block _ ad.o.lt (fun e=>by have:=au _ e.symm;have:=ae.o;omega)));have bD:=F.at 2 _ rfl;have bo:=F.fz 2;have br:=F.lt;clear az G ar F))
   all_goals
    have bh:=Za (aG.o.other (show C≠d by have:=ae.o;omega) 2 (.slice (some ⟨g,0,none⟩) (c.length+1) cap));go_wp2;go_roundw
    case rel=>exact⟨c++[(x,.slice xs x.args.length L)],_,_,aD,by rw[List.map_append];show Kv sc raw (.mk k nm (c.map (·.1)++[x]) t e) aD=y;rw[aM.o,aK.o],by rw[Zi,Zm];have:=ai.o;omega,ag.o⟩
    case measure=>rw[aQ ag.o,aE.o,Zi,Zm];omega
  ·have aZ:((j:Int)≤(c.length:Int)):=by omega
   have h:=Lx sc raw (k:=k) (nm:=nm) (args:=c.map (·.1)) (t:=t) (e:=e) b (by rw[Zf,←O.o];exact hl);rw[aj.o]at h;subst h;rw[O.o]at*;obtain ⟨V, W, X, Y, Z⟩ := τ5 f.o.own;go_wp2;go_meet;exact f.o.to rfl
theorem lK(raw:List Int)(d a:Nat):0≤Th raw d a∧Th raw d a<14∧(7≤Th raw d a→Th raw d a<11→2≤d):=by
 have:=Am raw a 14 (by decide);unfold Th;split<;>omega
def cJ(w:Zp)(s:Nat)(raw:List Int)(b:Nat→St ×Nat)(a:Nat)(d:List Value)(k:Nat)(v:Value)(wr:Zp):Prop:=
 ∃c,c.map (·.x)=(Ir b k a).1∧Az wr s raw (Ir b k a).2∧SFr s w wr∧Ad wr w.heap.size d 69∧Dm wr (w.heap.size+1) c v
def Rb(w:Zp)(s d:Nat)(c:Nat)(raw:List Int)(e:Nat→St ×Nat)(b:Nat)(f:List Value)(k j:Nat)(a:Act)(w':Zp):Prop:=
 ∃v q0 q4 q5 q6 q10 q11 q12 q13 q14 q15 q16 q17 q18 q19 q20 q21 q22 q23 q24 q25 q26 q27 q28 q29 q30 q31 q32 q33 q34 q35 q36 q37 q38 q39 q40 q41 q42 q43 q44 q45 q46 q47 q48 q49 q50 q51 q52 q53 q54 q55 q56 q57 q58 q59 q60 q61 q62 q63 q64 q65 q66 q67 q68 q69 q70 q71 q72 q73 q74 q75 q76 q77 q78 q79 q80 q81 q82 q83 q84 q85 q86 q87 q88 q89 q90 q91 q92 q93 q94 q95 q96 q97 q98 q99 q100 q101 q102 q103 q104 q105 q106 q107 q108 q109 q110 q111 q112 q113 q114 q115 q116 q117 q118 q119 q120 q121 q122 q123 q124 q125 q126 q127 q128 q129 q130 q131 q132 q133 q134 q135 q136 q137 q138 q139 q140 q141 q142 q143 q144 q145 q146 q147 q148 q149 q150 q151 q152 q153 q154 q155 q156 q157 q158 q159 q160 q161 q162 q163 q164 q165 q166 q167 q168 q169 q170 q171 q172 q173 q174 q175 q176 q177 q178 q179 q180 q181 q182 q183 q184 q185 q186 q187 q188 q189 q190 q191 q192 q193 q194 q195 q196 q197 q198 q199 q200 q201 q202 q203 q204 q205 q206 q207 q208 q209 q210 q211 q212 q213 q214 q215 q216 q217 q218 q219 q220 q221 q222 q223 q224 q225:Value,cJ w s raw e b f j v w'∧a=⟨[q0,.pointer (some ⟨s,0,none⟩),.int .i64 d,.pointer (some ⟨w.heap.size,0,none⟩),q4,q5,q6,v,.int .i64 c,.int .i64 k,q10,q11,q12,q13,q14,q15,q16,q17,q18,q19,q20,q21,q22,q23,q24,q25,q26,q27,q28,q29,q30,q31,q32,q33,q34,q35,q36,q37,q38,q39,q40,q41,q42,q43,q44,q45,q46,q47,q48,q49,q50,q51,q52,q53,q54,q55,q56,q57,q58,q59,q60,q61,q62,q63,q64,q65,q66,q67,q68,q69,q70,q71,q72,q73,q74,q75,q76,q77,q78,q79,q80,q81,q82,q83,q84,q85,q86,q87,q88,q89,q90,q91,q92,q93,q94,q95,q96,q97,q98,q99,q100,q101,q102,q103,q104,q105,q106,q107,q108,q109,q110,q111,q112,q113,q114,q115,q116,q117,q118,q119,q120,q121,q122,q123,q124,q125,q126,q127,q128,q129,q130,q131,q132,q133,q134,q135,q136,q137,q138,q139,q140,q141,q142,q143,q144,q145,q146,q147,q148,q149,q150,q151,q152,q153,q154,q155,q156,q157,q158,q159,q160,q161,q162,q163,q164,q165,q166,q167,q168,q169,q170,q171,q172,q173,q174,q175,q176,q177,q178,q179,q180,q181,q182,q183,q184,q185,q186,q187,q188,q189,q190,q191,q192,q193,q194,q195,q196,q197,q198,q199,q200,q201,q202,q203,q204,q205,q206,q207,q208,q209,q210,q211,q212,q213,q214,q215,q216,q217,q218,q219,q220,q221,q222,q223,q224,q225].toArray,[]⟩
theorem pC(sc:Sc)(raw:List Int)(gs gl:Nat→List St ×Nat)(k:Int)(a:Nat):Df (Cj sc raw gs gl k a).1.kind≤(Cj sc raw gs gl k a).1.args.length+1:=by
 have b:∀(k:Int) (n:Bs) (l:List Ex) (t e:List St),Df k≤l.length+1→Df (St.mk k n l t e).kind≤(St.mk k n l t e).args.length+1:=fun _ _ _ _ _ b=>b
 unfold Cj;split
 ·exact b _ _ _ _ _ (by decide)
 split
 ·exact b _ _ _ _ _ (by show Df 2≤1+1;decide)
 split
 ·exact b _ _ _ _ _ (by show Df 10≤1+1;decide)
 split
 ·dsimp only
  split
  ·exact b _ _ _ _ _ (by decide)
  ·exact b _ _ _ _ _ (by decide)
 split
 ·exact b _ _ _ _ _ (by show Df 3≤1+1;decide)
 split
 ·exact b _ _ _ _ _ (by show Df 4≤1+1;decide)
 split
 ·dsimp only
  split
  ·exact b _ _ _ _ _ (by decide)
  ·exact b _ _ _ _ _ (by decide)
 ·exact b _ _ _ _ _ (by decide)
theorem Gm {P:Program}{c:Code}{b:Act→Zp→Prop}{Q:Exit→Act→Zp→Prop}{a:Act}{w:Zp}(d:c.wp P (Exit.then b (fun _ _ _=>False)) a w):c.wp P (Exit.then b Q) a w:=
 wp_mono d (fun e a w q=>by cases e with
  |normal=>exact q
  |_=>exact False.elim q)
noncomputable def qG:Code:=match(Tryz.f23.body.bind (Kk isLoop))with
 |some (.loop c)=>c
 |_=>.skip
theorem nV(sc:Sc)(raw:List Int)(gs gl:Nat→List St ×Nat)(k:Int)(a:Nat):(Cj sc raw gs gl k a).1.args.length≤1:=by
 have b:∀(k:Int) (n:Bs) (l:List Ex) (t e:List St),l.length≤1→(St.mk k n l t e).args.length≤1:=fun _ _ _ _ _ b=>b
 unfold Cj;split
 ·exact b _ _ _ _ _ (by simp)
 split
 ·exact b _ _ _ _ _ (by simp)
 split
 ·exact b _ _ _ _ _ (by simp)
 split
 ·dsimp only
  split
  ·exact b _ _ _ _ _ (by simp)
  ·exact b _ _ _ _ _ (by simp)
 split
 ·exact b _ _ _ _ _ (by simp)
 split
 ·exact b _ _ _ _ _ (by simp)
 split
 ·dsimp only
  split
  ·exact b _ _ _ _ _ (by simp)
  ·exact b _ _ _ _ _ (by simp)
 ·exact b _ _ _ _ _ (by simp)
theorem kT(sc:Sc)(raw:List Int)(x:St)(a:Nat)(b:x.args.length≤1):(Kv sc raw x a).1.args.length≤2:=by
 unfold Kv;split
 ·show(x.args++[_]).length≤2
  rw[Zi,Zm];omega
 ·show x.args.length≤2;omega
theorem wp_to {P:Program}{c:Code}{Q:Exit→Act→Zp→Prop}{a:Act}{w:Zp}(b:c.wp P (Exit.then (fun a w=>Q .normal a w) (fun _ _ _=>False)) a w):c.wp P Q a w:=
 wp_mono b (fun e a w q=>by cases e with
  |normal=>exact q
  |_=>exact False.elim q)
def xH(n:Nat):Code→Bool
 |.region k _ _=>k==n
 |_=>false
def Me(n:Nat):Code→Option Code
 |.loop c=>Me n c
 |.seq a b=>if xH n a then some b else match Me n a with
  |some c=>some c
  |none=>Me n b
 |.block _ c=>Me n c
 |.scope c=>Me n c
 |.cond _ a b=>match Me n a with
  |some c=>some c
  |none=>Me n b
 |_=>none
noncomputable def midCode:Code:=((Tryz.f23.body.bind (Me 9)).getD .skip)
def Mp(n:Nat):Code→Option Code
 |.loop c=>Mp n c
 |.seq a b=>if Pm n a then some b else match Mp n a with
  |some c=>some c
  |none=>Mp n b
 |.block _ c=>Mp n c
 |.scope c=>Mp n c
 |.cond _ a b=>match Mp n a with
  |some c=>some c
  |none=>Mp n b
 |_=>none
noncomputable def xJ:Code:=((Tryz.f23.body.bind (Mp 2)).getD .skip)
noncomputable def appCode:Code:=((Tryz.f23.body.bind (Mp 3)).getD .skip)
theorem vT(s d c k:Nat)(raw:List Int)(sc:Sc)(au ab ad:Option Zr)(av ac ae:Nat)(G:Nat→St ×Nat)(aa:Nat)(w wr:Zp)(v:Value)(C:Nat)(y:St ×Nat)(l:Zp)
  (aX:s<w.heap.size) (aU:c≤4) (aV:k<c) (h:List StV) (ar:List St) (Q:Nat) (F:h.map (·.x)=ar) (ai:SFr s w wr) (af:Ad wr w.heap.size [.slice au sc.vars.length av,.slice ab sc.arrays.length ac,.slice ad sc.funcs.length ae,.bool sc.free,.bool sc.loop] 69) (R:Dm wr (w.heap.size+1) h v)
  (T:Ir G (k+1) aa=(ar++[(G Q).1],(G Q).2)) (ak:h.length=k) (al:G Q=y) (aM:w.heap.size<C) (ag:y.1.args.length≤2) (hcut:Qs wr C s raw y l)
  {q0 q4 q5 q6 q10 q12 q13 q14 q15 q16 q17 q18 q19 q20 q21 q22 q23 q24 q25 q26 q27 q28 q29 q30 q31 q32 q33 q34 q35 q36 q37 q38 q39 q40 q41 q42 q43 q44 q45 q46 q47 q48 q49 q50 q51 q52 q53 q54 q55 q56 q57 q58 q59 q60 q61 q62 q63 q64 q65 q66 q67 q68 q69 q70 q71 q72 q73 q74 q75 q76 q77 q78 q79 q80 q81 q82 q83 q84 q85 q86 q87 q88 q89 q90 q91 q92 q93 q94 q95 q96 q97 q98 q99 q100 q101 q102 q103 q104 q105 q106 q107 q108 q109 q110 q111 q112 q113 q114 q115 q116 q117 q118 q119 q120 q121 q122 q123 q124 q125 q126 q127 q128 q129 q130 q131 q132 q133 q134 q135 q136 q137 q138 q139 q140 q141 q142 q143 q144 q145 q146 q147 q148 q149 q150 q151 q152 q153 q154 q155 q156 q157 q158 q159 q160 q161 q162 q163 q164 q165 q166 q167 q168 q169 q170 q171 q172 q173 q174 q175 q176 q177 q178 q179 q180 q181 q182 q183 q184 q185 q186 q187 q188 q189 q190 q191 q192 q193 q194 q195 q196 q197 q198 q199 q200 q201 q202 q203 q204 q205 q206 q207 q208 q209 q210 q211 q212 q213 q214 q215 q216 q217 q218 q219 q220 q221 q222 q223 q224 q225:Value} (Y Z:Act→Zp→Prop) (hJ:∀D w',Rb w s d c raw G aa [.slice au sc.vars.length av,.slice ab sc.arrays.length ac,.slice ad sc.funcs.length ae,.bool sc.free,.bool sc.loop] k (k+1) D w'→Y D w') (hM:∀D w',Met Y D w'→Z D w'):
  Code.wp Zb appCode (Exit.then Z (fun _ _ _=>False)) ⟨[q0,.pointer (some ⟨s,0,none⟩),.int .i64 d,.pointer (some ⟨w.heap.size,0,none⟩),q4,q5,q6,v,.int .i64 c,.int .i64 k,q10,.pointer (some ⟨C,0,none⟩),q12,q13,q14,q15,q16,q17,q18,q19,q20,q21,q22,q23,q24,q25,q26,q27,q28,q29,q30,q31,q32,q33,q34,q35,q36,q37,q38,q39,q40,q41,q42,q43,q44,q45,q46,q47,q48,q49,q50,q51,q52,q53,q54,q55,q56,q57,q58,q59,q60,q61,q62,q63,q64,q65,q66,q67,q68,q69,q70,q71,q72,q73,q74,q75,q76,q77,q78,q79,q80,q81,q82,q83,q84,q85,q86,q87,q88,q89,q90,q91,q92,q93,q94,q95,q96,q97,q98,q99,q100,q101,q102,q103,q104,q105,q106,q107,q108,q109,q110,q111,q112,q113,q114,q115,q116,q117,q118,q119,q120,q121,q122,q123,q124,q125,q126,q127,q128,q129,q130,q131,q132,q133,q134,q135,q136,q137,q138,q139,q140,q141,q142,q143,q144,q145,q146,q147,q148,q149,q150,q151,q152,q153,q154,q155,q156,q157,q158,q159,q160,q161,q162,q163,q164,q165,q166,q167,q168,q169,q170,q171,q172,q173,q174,q175,q176,q177,q178,q179,q180,q181,q182,q183,q184,q185,q186,q187,q188,q189,q190,q191,q192,q193,q194,q195,q196,q197,q198,q199,q200,q201,q202,q203,q204,q205,q206,q207,q208,q209,q210,q211,q212,q213,q214,q215,q216,q217,q218,q219,q220,q221,q222,q223,q224,q225].toArray,[]⟩ l:=by
 have aH:Zq (w.heap.size≠s):=by show _≠_;omega
 obtain⟨J,K,rfl⟩:=R.shape;obtain⟨aF,aA,ax,W,U⟩:=Y5 F ai af R ak;have M:Zq (w.heap.size<C):=aM;rw[al]at T;have N:=Za T;have S:=ag;clear F ai af R T al ak ag
 conv=>arg 2;whnf
 obtain⟨⟨A,B,bg,j,i⟩,bf⟩:=y;obtain⟨f,u,z,be,bd,F,a⟩:=hcut;dsimp only[St.kind,St.name,St.args,St.thn,St.els]at N F a S;subst F;rw[Zf]at S;obtain⟨r,t,rfl⟩:=a.thn.shape;obtain⟨m,n,rfl⟩:=a.els.shape;have aR:=Za a;obtain ⟨aY, aZ, ba, bb, bc⟩ := τ5 a.own;have aT:=a.lt;have I:∀k,(Value.slice J h.length K).ownBlock=some k→k<C:=fun k e=>by have:=(W.o.ge e).2;have:=a.ge;omega
 have an:Fc (fun b=>w.heap.size+1≤b∧(Value.slice J h.length K).ownBlock≠some b) l ⟨.mk A B (f.map (·.1)) j i,.slice u f.length z,.slice r j.length t,.slice m i.length n⟩:=by
  have aN:Cv f.length:=Nat.le_trans S (by decide);exact⟨(a.exs.exs aN).mono (fun b p=>⟨by have:=M.o;omega,fun e=>by have:=I b e;omega⟩),a.thn.mono (fun b p=>⟨by have:=M.o;have:=p.1;omega,fun e=>by have:=I b e;have:=p.1;omega⟩),a.els.mono (fun b p=>⟨by have:=M.o;have:=p.1;omega,fun e=>by have:=I b e;have:=p.1;omega⟩)⟩
 have q:Zt l.heap.size l (l.alloc (.cells #[.int .i64 A,.string (Aa B),.slice u f.length z,.slice r j.length t,.slice m i.length n] 50)):=bA;have V:=W.o.sfr a.fr (show s<w.heap.size+1 by omega);obtain⟨O,aE,X,ay,L,aC⟩:=Y6 (V.keep (w':=l.alloc (.cells #[.int .i64 A,.string (Aa B),.slice u f.length z,.slice r j.length t,.slice m i.length n] 50)) (fun k aL aS=>q.block k aL)) (an.keep (Be q)) (a.src.old q) ((aA.o.trans a.fr).trans (Zd q)) ((ax.o.sfr a.fr aH.o).old q) (Zh l (Fo (.mk A B (f.map (·.1)) j i) (.slice u f.length z) (.slice r j.length t) (.slice m i.length n)) 50);clear q an V a I;obtain⟨aP,aj,ao,ap,aq⟩:=info_parts kX;obtain⟨aB,aI,aJ,aK⟩:=Y4 aj ao ap aq;clear aj ao ap aq;go_wp2_with (at_builtin;(refine Zu (P:=Zb) _ rfl _ _ 46 rfl (w.heap.size+1) 50 aP _ 5 96 underlying46 aB.o aI.o aJ.o aK.o rfl (by decide) (.slice J h.length K) h.length (Ip h) rfl O.o.1 ⟨l.heap.size,0,none⟩ 1 1 (Fo (.mk A B (f.map (·.1)) j i) (.slice u f.length z) (.slice r j.length t) (.slice m i.length n)) rfl rfl (Fr aC.o) (kQ) (by decide) (by have:=U.o;unfold maxLen;omega) (by have:=U.o;omega) (by have:=L.o.lt;omega) _ rfl ?_;intro g cap aQ am E ah aW;have H:∀k,(Value.slice J h.length K).ownBlock=some k→w.heap.size+1≤k:=fun k e=>(O.o.ge e).1;obtain⟨aG,az,aw,aD⟩:=Y4 (X.o.low (w':=aQ) (fun k aO=>E.block k (Nat.lt_of_le_of_lt aO X.o.lt) (fun e=>by have:=H k e.symm;omega))) (ay.o.grow E (fun k e=>by have:=H k e;omega)) (L.o.low (E.block _ L.o.lt (fun e=>by have:=H _ e.symm;omega))) (O.o.snoc _ aE.o am E ah);clear am E ah H))
 go_meet;exact⟨h++[⟨.mk A B (f.map (·.1)) j i,.slice u f.length z,.slice r j.length t,.slice m i.length n⟩],by rw[N.o,List.map_append,aF.o];rfl,by rw[N.o];exact aG.o,az.o,aw.o,aD.o⟩
theorem oC(s d c k:Nat)(raw:List Int)(sc:Sc)(z l n:Option Zr)(A m p:Nat)(g:Nat→St ×Nat)(H:Nat)(w wr:Zp)(v:Value)(f:Nat)(y:St ×Nat)(wc:Zp)
  (af:Fy s w sc (.slice z sc.vars.length A) (.slice l sc.arrays.length m) (.slice n sc.funcs.length p)) (ag:s<w.heap.size) (av:c≤4) (aw:k<c) (u:List StV) (N:List St) (D:Nat) (t:u.map (·.x)=N) (aa:SFr s w wr) (Y:Ad wr w.heap.size [.slice z sc.vars.length A,.slice l sc.arrays.length m,.slice n sc.funcs.length p,.bool sc.free,.bool sc.loop] 69) (J:Dm wr (w.heap.size+1) u v)
  (ad:Ir g (k+1) H=(N++[(g D).1],(g D).2)) (ab:u.length=k) (ae:g D=Kv sc raw y.1 y.2) (ar:w.heap.size<f) (ac:Df y.1.kind≤y.1.args.length+1) (Z:y.1.args.length≤1) (hcut:Qs wr f s raw y wc)
  {q0 q4 q5 q6 q10 q12 q13 q14 q15 q16 q17 q18 q19 q20 q21 q22 q23 q24 q25 q26 q27 q28 q29 q30 q31 q32 q33 q34 q35 q36 q37 q38 q39 q40 q41 q42 q43 q44 q45 q46 q47 q48 q49 q50 q51 q52 q53 q54 q55 q56 q57 q58 q59 q60 q61 q62 q63 q64 q65 q66 q67 q68 q69 q70 q71 q72 q73 q74 q75 q76 q77 q78 q79 q80 q81 q82 q83 q84 q85 q86 q87 q88 q89 q90 q91 q92 q93 q94 q95 q96 q97 q98 q99 q100 q101 q102 q103 q104 q105 q106 q107 q108 q109 q110 q111 q112 q113 q114 q115 q116 q117 q118 q119 q120 q121 q122 q123 q124 q125 q126 q127 q128 q129 q130 q131 q132 q133 q134 q135 q136 q137 q138 q139 q140 q141 q142 q143 q144 q145 q146 q147 q148 q149 q150 q151 q152 q153 q154 q155 q156 q157 q158 q159 q160 q161 q162 q163 q164 q165 q166 q167 q168 q169 q170 q171 q172 q173 q174 q175 q176 q177 q178 q179 q180 q181 q182 q183 q184 q185 q186 q187 q188 q189 q190 q191 q192 q193 q194 q195 q196 q197 q198 q199 q200 q201 q202 q203 q204 q205 q206 q207 q208 q209 q210 q211 q212 q213 q214 q215 q216 q217 q218 q219 q220 q221 q222 q223 q224 q225:Value} (i j:Act→Zp→Prop) (hJ:∀b w',Rb w s d c raw g H [.slice z sc.vars.length A,.slice l sc.arrays.length m,.slice n sc.funcs.length p,.bool sc.free,.bool sc.loop] k (k+1) b w'→i b w') (hM:∀b w',Met i b w'→j b w'):
  Code.wp Zb xJ (Exit.then j (fun _ _ _=>False)) ⟨[q0,.pointer (some ⟨s,0,none⟩),.int .i64 d,.pointer (some ⟨w.heap.size,0,none⟩),q4,q5,q6,v,.int .i64 c,.int .i64 k,q10,.pointer (some ⟨f,0,none⟩),q12,q13,q14,q15,q16,q17,q18,q19,q20,q21,q22,q23,q24,q25,q26,q27,q28,q29,q30,q31,q32,q33,q34,q35,q36,q37,q38,q39,q40,q41,q42,q43,q44,q45,q46,q47,q48,q49,q50,q51,q52,q53,q54,q55,q56,q57,q58,q59,q60,q61,q62,q63,q64,q65,q66,q67,q68,q69,q70,q71,q72,q73,q74,q75,q76,q77,q78,q79,q80,q81,q82,q83,q84,q85,q86,q87,q88,q89,q90,q91,q92,q93,q94,q95,q96,q97,q98,q99,q100,q101,q102,q103,q104,q105,q106,q107,q108,q109,q110,q111,q112,q113,q114,q115,q116,q117,q118,q119,q120,q121,q122,q123,q124,q125,q126,q127,q128,q129,q130,q131,q132,q133,q134,q135,q136,q137,q138,q139,q140,q141,q142,q143,q144,q145,q146,q147,q148,q149,q150,q151,q152,q153,q154,q155,q156,q157,q158,q159,q160,q161,q162,q163,q164,q165,q166,q167,q168,q169,q170,q171,q172,q173,q174,q175,q176,q177,q178,q179,q180,q181,q182,q183,q184,q185,q186,q187,q188,q189,q190,q191,q192,q193,q194,q195,q196,q197,q198,q199,q200,q201,q202,q203,q204,q205,q206,q207,q208,q209,q210,q211,q212,q213,q214,q215,q216,q217,q218,q219,q220,q221,q222,q223,q224,q225].toArray,[]⟩ wc:=by
 have aq:=Za af;have aF:Zq (w.heap.size≠s):=by show _≠_;omega
 obtain⟨ax,ay,rfl⟩:=J.shape;obtain⟨ap,S,Q,ao,an,V,am⟩:=Y7 t aa Y J ad ae ab;have R:Zq (w.heap.size<f):=ar;obtain⟨G,P⟩:=Y2 ac (kT sc raw y.1 y.2 Z);clear t aa Y J af ad ae ab ac Z
 conv=>arg 2;whnf
 obtain⟨O,M⟩:∃O,O=Kv sc raw y.1 y.2:=⟨_,rfl⟩;rw[←M]at V P;have X:=Za M;clear M;obtain⟨⟨a,ak,aJ,al,aj⟩,ai⟩:=y;obtain⟨ah,az,aA,aE,aD,t,r⟩:=hcut;dsimp only[St.kind,St.name,St.args,St.thn,St.els]at G X t r;subst t;have T:=Za r;have aC:=r.own.at 0 _ rfl;have aG:=r.lt;clear r
 go_upto_if 199 with(fail)
 go_cut [16]from 19 to 224 (fun q B=>q= ι (if a=2 then 2 else 1)∧wc=B)
 case first=>
  by_cases h:a=2
  ·subst h
   go_wp2;go_meet;exact⟨rfl,rfl⟩
  ·have I:(a==2)=false:=beq_eq_false_iff_ne.2 h
   have e:Zq ((if a=2 then(2:Int)else 1)=1):=if_neg h;clear h;go_wp2;go_meet;exact⟨by rw[e.out],rfl⟩
 case rest=>
 obtain⟨rfl,rfl⟩:=hcut;obtain⟨F,L⟩:∃F,F=(if a=2 then(2:Int)else 1):=⟨_,rfl⟩;rw[←L];have W:=Za L;clear L;go_upto_region 41 with(fail);go_cut [207]from 19 to 224 (fun q B=>q=.bool (decide (a=5∨a=6))∧wc=B)
 case first=>
  by_cases h:a=5
  ·subst h
   go_wp2;go_meet;exact⟨rfl,rfl⟩
  ·by_cases h6:a=6
   ·subst h6
    go_wp2;go_meet;exact⟨rfl,rfl⟩
   ·have e:Zq (decide (a=5∨a=6)=false):=by show _=_;exact decide_eq_false (by omega)
    have aH:(a==5)=false:=beq_eq_false_iff_ne.2 h;have aI:(a==6)=false:=beq_eq_false_iff_ne.2 h6;clear h h6;go_wp2;go_meet;exact⟨by rw[e.out],rfl⟩
 case rest=>
 obtain⟨rfl,rfl⟩:=hcut;obtain⟨C,K⟩:∃C,C=decide (a=5∨a=6):=⟨_,rfl⟩;rw[←K];have U:Zq ((Df a:Int)=if C=true then 0 else F):=by
  show _=_
  rw[W.o,K];unfold Df
  by_cases I:a=2
  ·subst I;rfl
  ·by_cases h56:a=5∨a=6<;>simp [I,h56]
 clear W K
 go_upto_if 207 with(fail)
 go_cut [16]from 19 to 224 (fun q B=>q= ι (Df a:Nat)∧wc=B)
 case first=>
  have E:=U.o
  cases C
  ·have e:Zq ((Df a:Int)=F):=E
   clear E;go_wp2;go_meet;exact⟨by rw[e.out],rfl⟩
  ·have e:Zq ((Df a:Int)=0):=E
   clear E;go_wp2;go_meet;exact⟨by rw[e.out],rfl⟩
 case rest=>
 obtain⟨rfl,rfl⟩:=hcut;clear U aC
 go_upto_block 3 with(fail);refine wp_cut (fun b w'=>FillR s sc raw w.heap.size f a wr (Kv sc raw (.mk a ak (ah.map (·.1)) al aj) ai) _ _ _ _ _ _ _ _ _ _ _ _ _ _ _ _ _ _ _ _ _ _ _ _ _ _ _ _ _ _ _ _ _ _ _ _ _ _ _ _ _ _ _ _ _ _ _ _ _ _ _ _ _ _ _ _ _ _ _ _ _ _ _ _ _ _ _ _ _ _ _ _ _ _ _ _ _ _ _ _ _ _ _ _ _ _ _ _ _ _ _ _ _ _ _ _ _ _ _ _ _ _ _ _ _ _ _ _ _ _ _ _ _ _ _ _ _ _ _ _ _ _ _ _ _ _ _ _ _ _ _ _ _ _ _ _ _ _ _ _ _ _ _ _ _ _ _ _ _ _ _ _ _ _ _ _ _ _ _ _ _ _ _ _ _ _ _ _ _ _ _ _ _ _ _ _ _ _ _ _ _ _ _ _ _ _ _ _ _ _ _ _ _ _ _ _ _ _ _ _ _ _ _ _ _ _ _ _ _ b w') ?rest (fun i j hJ hM=>Gm (rF s raw sc z l n A m p w.heap.size f a ak ah az aA al aj aE aD ai wr wc (aq.o.sfr S.o) Q.o T.o R.o ag (by have:=G.o;rwa[Zf]at this) i j hJ hM))
 case rest=>
 intro b aB hcut;obtain⟨aK,aL,aM,aN,aO,aP,aQ,aR,aS,aT,aU,aV,aW,hcut⟩:=hcut;obtain⟨hcut,au⟩:=hcut;subst au;clear T G;rw[←X.o]at hcut;apply_assumption
 exact vT s d c k raw sc z l n A m p g H w wr (ρ ax u ay) f O aB ag av aw u N D ap.o S.o Q.o ao.o an.o am.o V.o R.o P.o hcut i j hJ hM
theorem vB(d s c k:Nat)(raw:List Int)(sc:Sc)(i e g:Option Zr)(j f h:Nat)(gs gl:Nat→List St ×Nat)(E:Nat)(w wr:Zp)(v:Value)(aw:d≤1000)(z:Fy s w sc (.slice i sc.vars.length j) (.slice e sc.arrays.length f) (.slice g sc.funcs.length h))(aa:s<w.heap.size)(av:c≤4)(S:2≤d→∀l b,Az l s raw b→Fy s l sc (.slice i sc.vars.length j) (.slice e sc.arrays.length f) (.slice g sc.funcs.length h)→Zs Zb 23 #[.agg #[.slice i sc.vars.length j,.slice e sc.arrays.length f,.slice g sc.funcs.length h,.bool sc.free,.bool sc.loop],.pointer (some ⟨s,0,none⟩),.int .i64 ((d:Int)-1)] l (Ig l s raw (gs b)))(T:2≤d→∀l b,Az l s raw b→Fy s l sc (.slice i sc.vars.length j) (.slice e sc.arrays.length f) (.slice g sc.funcs.length h)→Zs Zb 23 #[.agg #[.slice i sc.vars.length j,.slice e sc.arrays.length f,.slice g sc.funcs.length h,.bool sc.free,.bool true],.pointer (some ⟨s,0,none⟩),.int .i64 ((d:Int)-1)] l (Ig l s raw (gl b)))(ax:k<c)(A:List StV)(J:List St)(C:Nat)(Z:A.map (·.x)=J)(V:SFr s w wr)(P:Ad wr w.heap.size [.slice i sc.vars.length j,.slice e sc.arrays.length f,.slice g sc.funcs.length h,.bool sc.free,.bool sc.loop] 69)(F:Dm wr (w.heap.size+1) A v)
  (X:Ir (gSt sc raw gs gl d) (k+1) E=(J++[((gSt sc raw gs gl d) C).1],((gSt sc raw gs gl d) C).2)) (W:A.length=k) (r:Nat) (a:Int) (n:Nat) (p:Zp) (Y:gSt sc raw gs gl d C=Kv sc raw (Cj sc raw gs gl a n).1 (Cj sc raw gs gl a n).2)
  (ao:w.heap.size<r) (ap:0≤a) (aq:a<14) (U:7≤a→a<11→2≤d) (Q:Ad p w.heap.size [.slice i sc.vars.length j,.slice e sc.arrays.length f,.slice g sc.funcs.length h,.bool sc.free,.bool sc.loop] 69) (R:Cx wr r s raw 8 [] [] none 0 [] [] (.slice none 0 0) (.slice none 0 0) n p)
  {q0 q4 q5 q6 q12 q13 q14 q15 q16 q17 q18 q19 q20 q21 q22 q23 q24 q25 q26 q27 q28 q29 q30 q31 q32 q33 q34 q35 q36 q37 q38 q39 q40 q41 q42 q43 q44 q45 q46 q47 q48 q49 q50 q51 q52 q53 q54 q55 q56 q57 q58 q59 q60 q61 q62 q63 q64 q65 q66 q67 q68 q69 q70 q71 q72 q73 q74 q75 q76 q77 q78 q79 q80 q81 q82 q83 q84 q85 q86 q87 q88 q89 q90 q91 q92 q93 q94 q95 q96 q97 q98 q99 q100 q101 q102 q103 q104 q105 q106 q107 q108 q109 q110 q111 q112 q113 q114 q115 q116 q117 q118 q119 q120 q121 q122 q123 q124 q125 q126 q127 q128 q129 q130 q131 q132 q133 q134 q135 q136 q137 q138 q139 q140 q141 q142 q143 q144 q145 q146 q147 q148 q149 q150 q151 q152 q153 q154 q155 q156 q157 q158 q159 q160 q161 q162 q163 q164 q165 q166 q167 q168 q169 q170 q171 q172 q173 q174 q175 q176 q177 q178 q179 q180 q181 q182 q183 q184 q185 q186 q187 q188 q189 q190 q191 q192 q193 q194 q195 q196 q197 q198 q199 q200 q201 q202 q203 q204 q205 q206 q207 q208 q209 q210 q211 q212 q213 q214 q215 q216 q217 q218 q219 q220 q221 q222 q223 q224 q225:Value} {t u:Act→Zp→Prop} (hJ:∀m w',Rb w s d c raw (gSt sc raw gs gl d) E [.slice i sc.vars.length j,.slice e sc.arrays.length f,.slice g sc.funcs.length h,.bool sc.free,.bool sc.loop] k (k+1) m w'→t m w') (hM:∀m w',Met t m w'→u m w'):
  Code.wp Zb midCode (Exit.then u (fun _ _ _=>False)) ⟨[q0,.pointer (some ⟨s,0,none⟩),.int .i64 d,.pointer (some ⟨w.heap.size,0,none⟩),q4,q5,q6,v,.int .i64 c,.int .i64 k,.int .i64 a,.pointer (some ⟨r,0,none⟩),q12,q13,q14,q15,q16,q17,q18,q19,q20,q21,q22,q23,q24,q25,q26,q27,q28,q29,q30,q31,q32,q33,q34,q35,q36,q37,q38,q39,q40,q41,q42,q43,q44,q45,q46,q47,q48,q49,q50,q51,q52,q53,q54,q55,q56,q57,q58,q59,q60,q61,q62,q63,q64,q65,q66,q67,q68,q69,q70,q71,q72,q73,q74,q75,q76,q77,q78,q79,q80,q81,q82,q83,q84,q85,q86,q87,q88,q89,q90,q91,q92,q93,q94,q95,q96,q97,q98,q99,q100,q101,q102,q103,q104,q105,q106,q107,q108,q109,q110,q111,q112,q113,q114,q115,q116,q117,q118,q119,q120,q121,q122,q123,q124,q125,q126,q127,q128,q129,q130,q131,q132,q133,q134,q135,q136,q137,q138,q139,q140,q141,q142,q143,q144,q145,q146,q147,q148,q149,q150,q151,q152,q153,q154,q155,q156,q157,q158,q159,q160,q161,q162,q163,q164,q165,q166,q167,q168,q169,q170,q171,q172,q173,q174,q175,q176,q177,q178,q179,q180,q181,q182,q183,q184,q185,q186,q187,q188,q189,q190,q191,q192,q193,q194,q195,q196,q197,q198,q199,q200,q201,q202,q203,q204,q205,q206,q207,q208,q209,q210,q211,q212,q213,q214,q215,q216,q217,q218,q219,q220,q221,q222,q223,q224,q225].toArray,[]⟩ p:=by
 have aD:=z.f1;have lv:=z.v1;have aC:=z.a1;have I:Zq (sc.hasVars=(decide (0<sc.vars.length)||sc.free)):=Wo sc;have G:Zq (sc.hasArrays=(decide (0<sc.arrays.length)||sc.free)):=Qu sc;have H:Zq (sc.hasFuncs=(decide (0<sc.funcs.length)||sc.free)):=Tv sc;obtain⟨O,ac,ad⟩:=Y3 z S T;have aB:Zq (w.heap.size≠s):=by show _≠_;omega
 obtain⟨az,aA,rfl⟩:=F.shape;obtain⟨ai,L,ab,ag,af,ae,ah⟩:=Y7 Z V P F X W Y;have K:Zq (w.heap.size<r):=ao;obtain⟨N,D,M⟩:=Y3 U Q R;clear Z V P F z S T X W Y U Q R
 conv=>arg 2;whnf
 dsimp only;obtain ⟨aj, ak, al, am, an⟩ := τ5 D.o;go_upto_region 10 with(fail);go_cut [12]from 19 to 224 (fun q B=>q=.bool sc.hasArrays∧p=B)
 case first=>
  by_cases hlv:0<sc.arrays.length
  ·have y:(0:Int)<(sc.arrays.length:Int):=by omega
   go_wp2;go_meet;exact⟨by rw[G.out,decide_eq_true hlv];rfl,rfl⟩
  ·have y:(sc.arrays.length:Int)≤0:=by omega
   go_wp2;go_meet;exact⟨by rw[G.out,decide_eq_false hlv];rfl,rfl⟩
 case rest=>
 obtain⟨rfl,rfl⟩:=hcut;go_upto_region 11 with(fail);go_cut [13]from 19 to 224 (fun q B=>q=.bool sc.hasVars∧p=B)
 case first=>
  by_cases hlv:0<sc.vars.length
  ·have y:(0:Int)<(sc.vars.length:Int):=by omega
   go_wp2;go_meet;exact⟨by rw[I.out,decide_eq_true hlv];rfl,rfl⟩
  ·have y:(sc.vars.length:Int)≤0:=by omega
   go_wp2;go_meet;exact⟨by rw[I.out,decide_eq_false hlv];rfl,rfl⟩
 case rest=>
 obtain⟨rfl,rfl⟩:=hcut;go_upto_region 12 with(fail);go_cut [14]from 19 to 224 (fun q B=>q=.bool sc.hasFuncs∧p=B)
 case first=>
  by_cases hlv:0<sc.funcs.length
  ·have y:(0:Int)<(sc.funcs.length:Int):=by omega
   go_wp2;go_meet;exact⟨by rw[H.out,decide_eq_true hlv];rfl,rfl⟩
  ·have y:(sc.funcs.length:Int)≤0:=by omega
   go_wp2;go_meet;exact⟨by rw[H.out,decide_eq_false hlv];rfl,rfl⟩
 case rest=>
 obtain⟨rfl,rfl⟩:=hcut;clear aj ak al am an G I H
 go_upto_block 2 with(fail);refine wp_cut (fun m w'=>SwR d s w.heap.size r a sc.hasArrays sc.hasVars sc.hasFuncs wr raw (Cj sc raw gs gl a n) _ _ _ _ _ _ _ _ _ _ _ _ _ _ _ _ _ _ _ _ _ _ _ _ _ _ _ _ _ _ _ _ _ _ _ _ _ _ _ _ _ _ _ _ _ _ _ _ _ _ _ _ _ _ _ _ _ _ _ _ _ _ _ _ _ _ _ _ _ _ _ _ _ _ _ _ _ _ _ _ _ m w') ?rest (fun t u hJ hM=>Gm (sw_all (gs:=gs) (gl:=gl) ⟨aw,(O.o.sfr L.o),D.o,M.o,K.o,aa,ap,aq,N.o,rfl,rfl,rfl⟩ ac.o ad.o _ _ _ _ _ _ _ _ _ _ _ _ _ _ _ _ _ _ _ _ _ _ _ _ _ _ _ _ _ _ _ _ _ _ _ _ _ _ _ _ _ _ _ _ _ _ _ _ _ _ _ _ _ _ _ _ _ _ _ _ _ _ _ _ _ _ _ _ _ _ _ _ _ _ _ _ _ _ _ _ _ _ _ _ _ _ _ _ _ _ _ _ _ _ _ _ _ _ _ _ _ _ _ _ _ _ _ _ _ _ _ _ _ _ _ _ _ _ _ _ _ _ _ _ _ _ _ _ _ _ _ _ _ _ _ _ _ _ _ _ _ _ _ _ _ _ _ _ _ _ _ _ _ _ _ _ _ _ _ _ _ _ _ _ _ _ _ _ _ _ _ _ _ _ _ _ _ _ _ _ _ _ _ _ _ _ _ _ _ _ _ _ _ _ _ _ _ _ _ _ _ _ _ _ _ _ _ _ _ _ _ _ _ _ _ _ _ _ t u hJ hM))
 case rest=>
 intro m wc hcut;obtain⟨bD,cz,cA,cB,cC,cD,cE,cF,cG,cH,cI,cJ,cK,cL,cM,cN,cO,cP,cQ,cR,hcut⟩:=hcut;obtain⟨cS,cT,cU,cV,cW,cX,cY,cZ,da,db,dc,dd,de,df,dg,dh,di,dj,dk,dl,hcut⟩:=hcut;obtain⟨aE,aF,aG,aH,aI,aJ,aK,aL,aM,aN,aO,aP,aQ,aR,aS,aT,aU,aV,aW,aX,hcut⟩:=hcut;obtain⟨aY,aZ,ba,bb,bc,bd,be,bf,bg,bh,bi,bj,bk,bl,bm,bn,bo,bp,bq,br,hcut⟩:=hcut;obtain⟨bs,bt,bu,bv,bw,bx,bz,bA,bB,bC,bE,bF,bG,bH,bI,bJ,bK,bL,bM,bN,hcut⟩:=hcut;obtain⟨bO,bP,bQ,bR,bS,bT,bU,bV,bW,bX,bY,bZ,ca,cb,cc,cd,ce,cf,cg,ch,hcut⟩:=hcut;obtain⟨ci,cj,ck,cl,cm,cn,co,cp,cq,cr,cs,ct,cu,cv,cw,cx,cy,hcut⟩:=hcut;obtain⟨hcut,ar⟩:=hcut;subst ar;have ay:=pC sc raw gs gl a n;have au:=nV sc raw gs gl a n;clear N M D;apply_assumption
 exact oC s d c k raw sc i e g j f h (gSt sc raw gs gl d) E w wr (ρ az A aA) r (Cj sc raw gs gl a n) wc O.o aa av ax A J C ai.o L.o ab.o ag.o af.o ae.o ah.o K.o ay au hcut t u hJ hM
theorem kV(d s c k:Nat)(raw:List Int)(sc:Sc)(r j m:Option Zr)(t l n:Nat)(gs gl:Nat→List St ×Nat)(y:Nat)(w wr:Zp)(v:Value)(az:d≤1000)(z:Fy s w sc (.slice r sc.vars.length t) (.slice j sc.arrays.length l) (.slice m sc.funcs.length n))(aD:s<w.heap.size)(ay:c≤4)(X:2≤d→∀i b,Az i s raw b→Fy s i sc (.slice r sc.vars.length t) (.slice j sc.arrays.length l) (.slice m sc.funcs.length n)→Zs Zb 23 #[.agg #[.slice r sc.vars.length t,.slice j sc.arrays.length l,.slice m sc.funcs.length n,.bool sc.free,.bool sc.loop],.pointer (some ⟨s,0,none⟩),.int .i64 ((d:Int)-1)] i (Ig i s raw (gs b)))(Y:2≤d→∀i b,Az i s raw b→Fy s i sc (.slice r sc.vars.length t) (.slice j sc.arrays.length l) (.slice m sc.funcs.length n)→Zs Zb 23 #[.agg #[.slice r sc.vars.length t,.slice j sc.arrays.length l,.slice m sc.funcs.length n,.bool sc.free,.bool true],.pointer (some ⟨s,0,none⟩),.int .i64 ((d:Int)-1)] i (Ig i s raw (gl b)))(aB:k<c)(aA:cJ w s raw (gSt sc raw gs gl d) y [.slice r sc.vars.length t,.slice j sc.arrays.length l,.slice m sc.funcs.length n,.bool sc.free,.bool sc.loop] k v wr)(aI dM dX ei aJ aU bf bq bC bN bY cj cu cF cR dc dn dv dw dx dy dz dA dB dC dD dE dF dG dH dI dJ dK dL dN dO dP dQ dR dS dT dU dV dW dY dZ ea eb ec ed ee ef eg eh ej ek el em en eo ep eq er es et eu ev ew ex ey ez eA eB eC eD eE eF eG eH eI eJ eK eL eM eN eO eP eQ eR eS eT eU eV eW aK aL aM aN aO aP aQ aR aS aT aV aW aX aY aZ ba bb bc bd be bg bh bi bj bk bl bm bn bo bp br bs bt bu bv bw bx bz bA bB bD bE bF bG bH bI bJ bK bL bM bO bP bQ bR bS bT bU bV bW bX bZ ca cb cc cd ce cf cg ch ci ck cl cm cn co cp cq cr cs ct cv cw cx cy cz cA cB cC cD cE cG cH cI cK cL cM cN cO cP cQ cS cT cU cV cW cX cY cZ da db dd de df dg dh di dj dk dl dm dp dq dr ds dt du:Value){T U:Act→Zp→Prop}(hJ:∀u w',Rb w s d c raw (gSt sc raw gs gl d) y [.slice r sc.vars.length t,.slice j sc.arrays.length l,.slice m sc.funcs.length n,.bool sc.free,.bool sc.loop] (k+1) (k+1) u w'→T u w')(hM:∀u w',Met T u w'→U u w'):
  Code.wp Zb qG (Exit.then U (fun _ _ _=>False)) ⟨[aI,.pointer (some ⟨s,0,none⟩),.int .i64 d,.pointer (some ⟨w.heap.size,0,none⟩),dM,dX,ei,v,.int .i64 c,.int .i64 k,aJ,aU,bf,bq,bC,bN,bY,cj,cu,cF,cR,dc,dn,dv,dw,dx,dy,dz,dA,dB,dC,dD,dE,dF,dG,dH,dI,dJ,dK,dL,dN,dO,dP,dQ,dR,dS,dT,dU,dV,dW,dY,dZ,ea,eb,ec,ed,ee,ef,eg,eh,ej,ek,el,em,en,eo,ep,eq,er,es,et,eu,ev,ew,ex,ey,ez,eA,eB,eC,eD,eE,eF,eG,eH,eI,eJ,eK,eL,eM,eN,eO,eP,eQ,eR,eS,eT,eU,eV,eW,aK,aL,aM,aN,aO,aP,aQ,aR,aS,aT,aV,aW,aX,aY,aZ,ba,bb,bc,bd,be,bg,bh,bi,bj,bk,bl,bm,bn,bo,bp,br,bs,bt,bu,bv,bw,bx,bz,bA,bB,bD,bE,bF,bG,bH,bI,bJ,bK,bL,bM,bO,bP,bQ,bR,bS,bT,bU,bV,bW,bX,bZ,ca,cb,cc,cd,ce,cf,cg,ch,ci,ck,cl,cm,cn,co,cp,cq,cr,cs,ct,cv,cw,cx,cy,cz,cA,cB,cC,cD,cE,cG,cH,cI,cK,cL,cM,cN,cO,cP,cQ,cS,cT,cU,cV,cW,cX,cY,cZ,da,db,dd,de,df,dg,dh,di,dj,dk,dl,dm,dp,dq,dr,ds,dt,du].toArray,[]⟩ wr:=by
 have fc:=z.f1;have lv:=z.v1;have fb:=z.a1;obtain⟨ap,ak,al⟩:=Y3 z X Y;have ar:Zq (w.heap.size≠s):=by show _≠_;omega
 obtain⟨Q,af,ag,aa,W,N⟩:=aA;obtain⟨aG,aH,rfl⟩:=N.shape;obtain⟨C,D,ai,J,ao⟩:=Y5 af ag aa W N;clear af ag aa W N z X Y;have L:=Za (kF (gSt sc raw gs gl d) k y);have an:Zq (Q.length=k):=by show _=_;have E:=congrArg List.length C.o;rw[Zf,Mv]at E;exact E
 generalize Ir (gSt sc raw gs gl d) k y=mk at C D L;obtain⟨aF,f⟩:=mk;dsimp only at C D L;have K:Zq (Zs Zb 21 #[π s,ι 14] wr (Eb wr s raw (ι (Ab raw f 14).1) (Ab raw f 14).2)):=Co s raw f 14 wr D.o (by decide) (by decide);have aC:=Am raw f 14 (by decide);have ad:=lK raw d f;obtain⟨h,G⟩:∃h,h=Th raw d f:=⟨_,rfl⟩;obtain⟨B,F⟩:∃B,B=decide (d<2∧7≤(Ab raw f 14).1∧(Ab raw f 14).1<11):=⟨_,rfl⟩;have M:h=if B=true then 0 else(Ab raw f 14).1:=by rw[G,F];unfold Th;by_cases p:d<2∧7≤(Ab raw f 14).1∧(Ab raw f 14).1<11<;>simp [p]
 have ae:gSt sc raw gs gl d f=Kv sc raw (Cj sc raw gs gl h (Ab raw f 14).2).1 (Cj sc raw gs gl h (Ab raw f 14).2).2:=by rw[G];rfl
 have S:=Za ae;rw[←G]at ad;obtain⟨av,aw,Z⟩:=ad;clear ae G;generalize Ab raw f 14=g at*;obtain⟨P,aE⟩:=g;obtain⟨ab,ac⟩:=aC;dsimp only at K F M S ab ac;obtain⟨x,R,am⟩:=Y3 F M Z;clear F M Z;have eY:(k:Int)<(c:Int):=by omega
 conv=>arg 2;whnf
 go_wp2_with fail;refine K.o.mono ?_;rintro fd w2 ⟨rfl,O,H⟩;obtain⟨aj,ah⟩:=Y2 (Cx.new 8 O H) ((J.o.sfr H ar.o).alloc (.cells #[ι 8,ε,ν,ν,ν] 50));have eX:=H.size;have fa:=J.o.lt;have eZ:s<w2.heap.size:=O.lt;clear O H K;go_upto_region 7 with(fail);go_cut [35]from 19 to 224 (fun q A=>q=.bool B∧w2=A)
 case first=>
  by_cases E:(d:Int)<2
  ·by_cases h2:7≤P
   ·by_cases h3:P<11
    ·have e:Zq (B=true):=by show _=_;rw[x.o];exact decide_eq_true ⟨by omega,h2,h3⟩
     go_wp2;go_meet;exact⟨by rw[e.out],rfl⟩
    ·have e:Zq (B=false):=by show _=_;rw[x.o];exact decide_eq_false (fun p=>h3 p.2.2)
     go_wp2;go_meet;exact⟨by rw[e.out],rfl⟩
   ·have e:Zq (B=false):=by show _=_;rw[x.o];exact decide_eq_false (fun p=>h2 p.2.1)
    go_wp2;go_meet;exact⟨by rw[e.out],rfl⟩
  ·have e:Zq (B=false):=by show _=_;rw[x.o];exact decide_eq_false (fun p=>E (by omega))
   go_wp2;go_meet;exact⟨by rw[e.out],rfl⟩
 case rest=>
 obtain⟨rfl,rfl⟩:=hcut
 go_upto_if 35 with(fail)
 go_cut [10]from 19 to 224 (fun q A=>q= ι h∧w2=A)
 case first=>
  have I:=R.o
  cases B
  ·have e:Zq (h=P):=I
   clear I;go_wp2;go_meet;exact⟨by rw[e.out],rfl⟩
  ·have e:Zq (h=0):=I
   clear I;go_wp2;go_meet;exact⟨by rw[e.out],rfl⟩
 case rest=>
 obtain⟨rfl,rfl⟩:=hcut;clear x R ab ac D;go_upto_region 9 with(fail);go_cut [11]from 19 to 224 (fun q A=>q= π w2.heap.size∧w2.alloc (.cells #[ι 8,ε,ν,ν,ν] 50)=A)
 case first=>
  go_wp2;go_meet;exact⟨rfl,rfl⟩
 case rest=>
 obtain⟨rfl,rfl⟩:=hcut;generalize w2.alloc (.cells #[ι 8,ε,ν,ν,ν] 50)=au at*;generalize w2.heap.size=V at*;apply_assumption
 refine wp_to (vB d s c k raw sc r j m t l n gs gl y w wr (ρ aG Q aH) az ap.o aD ay ak.o al.o aB Q aF f C.o ai.o J.o ao.o L.o an.o V h aE au S.o (show w.heap.size<V by omega) av aw am.o ah.o aj.o (fun u w' a=>?_) (fun _ _ p=>p));dsimp only[Exit.inBlock,Exit.then];apply_assumption
 obtain⟨v,fe,io,iB,iM,ff,fq,fB,fM,fX,gi,gw,gH,gS,hd,ho,hA,hN,hU,hV,a⟩:=a;obtain⟨hW,hX,hY,hZ,ia,ib,ic,ie,ig,ih,ii,ij,ik,il,im,ip,iq,ir,iu,iv,a⟩:=a;obtain⟨iw,ix,iy,iz,iA,iC,iD,iE,iF,iG,iH,iI,iJ,iK,iL,iN,iO,iP,iQ,iR,a⟩:=a;obtain⟨iS,iT,iU,iV,iW,iX,iY,iZ,ja,jb,jc,jd,je,jf,jg,jh,ji,jj,jk,jl,a⟩:=a;obtain⟨jm,jn,jo,jp,jq,jr,js,jt,ju,jv,jw,jx,jy,jz,jA,fg,fh,fi,fj,fk,a⟩:=a;obtain⟨fl,fm,fn,fo,fp,fr,fs,ft,fu,fv,fw,fx,fy,fz,fA,fC,fD,fE,fF,fG,a⟩:=a;obtain⟨fH,fI,fJ,fK,fL,fN,fO,fP,fQ,fR,fS,fT,fU,fV,fW,fY,fZ,ga,gb,gc,a⟩:=a;obtain⟨gd,ge,gf,gg,gh,gj,gk,gm,gn,gp,gq,gr,gt,gu,gv,gx,gy,gz,gA,gB,a⟩:=a;obtain⟨gC,gD,gE,gF,gG,gI,gJ,gK,gL,gM,gN,gO,gP,gQ,gR,gT,gU,gV,gW,gX,a⟩:=a;obtain⟨gY,gZ,ha,hb,hc,he,hf,hg,hh,hi,hj,hk,hl,hm,hn,hp,hq,hr,hs,ht,a⟩:=a;obtain⟨hu,hv,hw,hy,hz,hB,hC,hD,hE,hF,hG,hH,hI,hK,hL,hO,hP,hQ,hR,hS,a⟩:=a;obtain⟨hT,a⟩:=a;obtain⟨a,ax⟩:=a;subst ax;have aq:=Za a;clear a;go_wp2;go_meet;exact aq.o
noncomputable def xR:Code:=((Tryz.f23.body.bind (Kk (Pm 0))).getD .skip)
theorem Rb.meas {w:Zp}{s d c:Nat}{raw:List Int}{g:Nat→St ×Nat}{e:Nat}{h:List Value}{k j:Nat}{b:Act}{w':Zp}(a:Rb w s d c raw g e h k j b w'):(intOf (b.tmps.getD 9 undef)).toNat=k:=by
 obtain⟨v,i,cr,cC,cN,l,z,K,V,ag,ar,aE,aP,ba,bl,bw,bI,bT,ca,cb,a⟩:=a;obtain⟨cc,cd,ce,cf,cg,ch,ci,cj,ck,cl,cm,cn,co,cp,cq,cs,ct,cu,cv,cw,a⟩:=a;obtain⟨cx,cy,cz,cA,cB,cD,cE,cF,cG,cH,cI,cJ,cK,cL,cM,cO,cP,cQ,cR,cS,a⟩:=a;obtain⟨cT,cU,cV,cW,cX,cY,cZ,da,db,dc,dd,de,df,dg,dh,di,dj,dk,dl,dm,a⟩:=a;obtain⟨dn,dp,dq,dr,ds,dt,du,dv,dw,dx,dy,dz,dA,dB,dC,m,n,o,p,q,a⟩:=a;obtain⟨r,t,u,x,y,A,B,C,D,E,F,G,H,I,J,L,M,N,O,P,a⟩:=a;obtain⟨Q,R,S,T,U,W,X,Y,Z,aa,ab,ac,ad,ae,af,ah,ai,aj,ak,al,a⟩:=a;obtain⟨am,an,ao,ap,aq,au,av,aw,ax,ay,az,aA,aB,aC,aD,aF,aG,aH,aI,aJ,a⟩:=a;obtain⟨aK,aL,aM,aN,aO,aQ,aR,aS,aT,aU,aV,aW,aX,aY,aZ,bb,bc,bd,be,bf,a⟩:=a;obtain⟨bg,bh,bi,bj,bk,bm,bn,bo,bp,bq,br,bs,bt,bu,bv,bx,bz,bA,bB,bC,a⟩:=a;obtain⟨bD,bE,bF,bG,bH,bJ,bK,bL,bM,bN,bO,bP,bQ,bR,bS,bU,bV,bW,bX,bY,a⟩:=a;obtain⟨bZ,a⟩:=a;obtain⟨_,f⟩:=a;subst f;show(intOf (ι (k:Int))).toNat=k
 simp [intOf]
theorem pV(d s c:Nat)(raw:List Int)(sc:Sc)(j f h:Option Zr)(l g i:Nat)(gs gl:Nat→List St ×Nat)(n:Nat)(w w2:Zp)(dU:d≤1000)(dW:Fy s w sc (.slice j sc.vars.length l) (.slice f sc.arrays.length g) (.slice h sc.funcs.length i))(dX:s<w.heap.size)(dT:c≤4)(r:2≤d→∀m b,Az m s raw b→Fy s m sc (.slice j sc.vars.length l) (.slice f sc.arrays.length g) (.slice h sc.funcs.length i)→Zs Zb 23 #[.agg #[.slice j sc.vars.length l,.slice f sc.arrays.length g,.slice h sc.funcs.length i,.bool sc.free,.bool sc.loop],.pointer (some ⟨s,0,none⟩),.int .i64 ((d:Int)-1)] m (Ig m s raw (gs b)))(t:2≤d→∀m b,Az m s raw b→Fy s m sc (.slice j sc.vars.length l) (.slice f sc.arrays.length g) (.slice h sc.funcs.length i)→Zs Zb 23 #[.agg #[.slice j sc.vars.length l,.slice f sc.arrays.length g,.slice h sc.funcs.length i,.bool sc.free,.bool true],.pointer (some ⟨s,0,none⟩),.int .i64 ((d:Int)-1)] m (Ig m s raw (gl b)))(x:cJ w s raw (gSt sc raw gs gl d) n [.slice j sc.vars.length l,.slice f sc.arrays.length g,.slice h sc.funcs.length i,.bool sc.free,.bool sc.loop] 0 (.slice none 0 0) w2){z cD cP da A L W ah au aF aQ bb bm bx bJ bU cf cm cn co cp cq cr cs ct cu cv cw cx cy cz cA cB cC cE cF cG cH cI cK cL cM cN cO cQ cR cS cT cU cV cW cX cY cZ db dc dd de df dg dh di dj dk dl dm dn dp dq dr ds dt du dv dw dx dy dz dA dB dC dD dE dF dG dH dI dJ dK dL dM dN dO dP B C D E F G H I J K M N O P Q R S T U V X Y Z aa ab ac ad ae af ag ai aj ak al am an ao ap aq ar av aw ax ay az aA aB aC aD aE aG aH aI aJ aK aL aM aN aO aP aR aS aT aU aV aW aX aY aZ ba bc bd be bf bg bh bi bj bk bl bn bo bp bq br bs bt bu bv bw bz bA bB bC bD bE bF bG bH bI bK bL bM bN bO bP bQ bR bS bT bV bW bX bY bZ ca cb cc cd ce cg ch ci cj ck cl:Value}(p q:Act→Zp→Prop)(hJ:∀e w',Rb w s d c raw (gSt sc raw gs gl d) n [.slice j sc.vars.length l,.slice f sc.arrays.length g,.slice h sc.funcs.length i,.bool sc.free,.bool sc.loop] c c e w'→p e w')(hM:∀e w',Met p e w'→q e w'):
  Code.wp Zb xR (Exit.then q (fun _ _ _=>False)) ⟨[z,.pointer (some ⟨s,0,none⟩),.int .i64 d,.pointer (some ⟨w.heap.size,0,none⟩),cD,cP,da,.slice none 0 0,.int .i64 c,.int .i64 (0:Nat),A,L,W,ah,au,aF,aQ,bb,bm,bx,bJ,bU,cf,cm,cn,co,cp,cq,cr,cs,ct,cu,cv,cw,cx,cy,cz,cA,cB,cC,cE,cF,cG,cH,cI,cK,cL,cM,cN,cO,cQ,cR,cS,cT,cU,cV,cW,cX,cY,cZ,db,dc,dd,de,df,dg,dh,di,dj,dk,dl,dm,dn,dp,dq,dr,ds,dt,du,dv,dw,dx,dy,dz,dA,dB,dC,dD,dE,dF,dG,dH,dI,dJ,dK,dL,dM,dN,dO,dP,B,C,D,E,F,G,H,I,J,K,M,N,O,P,Q,R,S,T,U,V,X,Y,Z,aa,ab,ac,ad,ae,af,ag,ai,aj,ak,al,am,an,ao,ap,aq,ar,av,aw,ax,ay,az,aA,aB,aC,aD,aE,aG,aH,aI,aJ,aK,aL,aM,aN,aO,aP,aR,aS,aT,aU,aV,aW,aX,aY,aZ,ba,bc,bd,be,bf,bg,bh,bi,bj,bk,bl,bn,bo,bp,bq,br,bs,bt,bu,bv,bw,bz,bA,bB,bC,bD,bE,bF,bG,bH,bI,bK,bL,bM,bN,bO,bP,bQ,bR,bS,bT,bV,bW,bX,bY,bZ,ca,cb,cc,cd,ce,cg,ch,ci,cj,ck,cl].toArray,[]⟩ w2:=by
 conv=>arg 2;whnf
 refine wp_block (wp_loop (fun e w'=> ∃k,k≤c∧Rb w s d c raw (gSt sc raw gs gl d) n [ρ j sc.vars l,ρ f sc.arrays g,ρ h sc.funcs i,.bool sc.free,.bool sc.loop] k k e w') (fun e _=>c-(intOf (e.tmps.getD 9 undef)).toNat) ⟨0,Nat.zero_le _,ν,z,cD,cP,da,A,L,W,ah,au,aF,aQ,bb,bm,bx,bJ,bU,cf,cm,cn,co,cp,cq,cr,cs,ct,cu,cv,cw,cx,cy,cz,cA,cB,cC,cE,cF,cG,cH,cI,cK,cL,cM,cN,cO,cQ,cR,cS,cT,cU,cV,cW,cX,cY,cZ,db,dc,dd,de,df,dg,dh,di,dj,dk,dl,dm,dn,dp,dq,dr,ds,dt,du,dv,dw,dx,dy,dz,dA,dB,dC,dD,dE,dF,dG,dH,dI,dJ,dK,dL,dM,dN,dO,dP,B,C,D,E,F,G,H,I,J,K,M,N,O,P,Q,R,S,T,U,V,X,Y,Z,aa,ab,ac,ad,ae,af,ag,ai,aj,ak,al,am,an,ao,ap,aq,ar,av,aw,ax,ay,az,aA,aB,aC,aD,aE,aG,aH,aI,aJ,aK,aL,aM,aN,aO,aP,aR,aS,aT,aU,aV,aW,aX,aY,aZ,ba,bc,bd,be,bf,bg,bh,bi,bj,bk,bl,bn,bo,bp,bq,br,bs,bt,bu,bv,bw,bz,bA,bB,bC,bD,bE,bF,bG,bH,bI,bK,bL,bM,bN,bO,bP,bQ,bR,bS,bT,bV,bW,bX,bY,bZ,ca,cb,cc,cd,ce,cg,ch,ci,cj,ck,cl,x,rfl⟩ ?_);intro e w' a;obtain⟨k,dV,a⟩:=a;have y:=a.meas;obtain⟨v,dY,hc,hn,hz,dZ,ek,ev,eG,eR,fc,fn,fy,fJ,fU,gf,gt,gE,gL,gM,a⟩:=a;obtain⟨gN,gO,gP,gQ,gR,gS,gT,gU,gV,gW,gX,gY,gZ,ha,hb,hd,he,hf,hg,hh,a⟩:=a
 obtain⟨hi,hj,hk,hl,hm,ho,hp,hq,hr,hs,ht,hu,hv,hw,hy,hA,hB,hC,hD,hE,a⟩:=a;obtain⟨hF,hG,hH,hI,hK,hL,hN,hO,hP,hQ,hR,hS,hT,hU,hV,hW,hX,hY,hZ,ia,a⟩:=a;obtain⟨ib,ic,ie,ig,ih,ii,ij,ik,il,im,io,ip,iq,ir,iu,ea,eb,ec,ed,ee,a⟩:=a;obtain⟨ef,eg,eh,ei,ej,el,em,en,eo,ep,eq,er,es,et,eu,ew,ex,ey,ez,eA,a⟩:=a;obtain⟨eB,eC,eD,eE,eF,eH,eI,eJ,eK,eL,eM,eN,eO,eP,eQ,eS,eT,eU,eV,eW,a⟩:=a;obtain⟨eX,eY,eZ,fa,fb,fd,fe,ff,fg,fh,fi,fj,fk,fl,fm,fo,fp,fq,fr,fs,a⟩:=a;obtain⟨ft,fu,fv,fw,fx,fz,fA,fB,fC,fD,fE,fF,fG,fH,fI,fK,fL,fM,fN,fO,a⟩:=a;obtain⟨fP,fQ,fR,fS,fT,fV,fW,fX,fY,fZ,ga,gb,gc,gd,ge,gg,gh,gi,gj,gk,a⟩:=a;obtain⟨gm,gn,gp,gq,gr,gu,gv,gw,gx,gy,gz,gA,gB,gC,gD,gF,gG,gH,gI,gJ,a⟩:=a;obtain⟨gK,a⟩:=a;obtain⟨a,dS⟩:=a;subst dS
 by_cases hlt:k<c
 ·refine Gm (kV d s c k raw sc j f h l g i gs gl n w w' v dU dW dX dT r t hlt a dY hc hn hz dZ ek ev eG eR fc fn fy fJ fU gf gt gE gL gM gN gO gP gQ gR gS gT gU gV gW gX gY gZ ha hb hd he hf hg hh hi hj hk hl hm ho hp hq hr hs ht hu hv hw hy hA hB hC hD hE hF hG hH hI hK hL hN hO hP hQ hR hS hT hU hV hW hX hY hZ ia ib ic ie ig ih ii ij ik il im io ip iq ir iu ea eb ec ed ee ef eg eh ei ej el em en eo ep eq er es et eu ew ex ey ez eA eB eC eD eE eF eH eI eJ eK eL eM eN eO eP eQ eS eT eU eV eW eX eY eZ fa fb fd fe ff fg fh fi fj fk fl fm fo fp fq fr fs ft fu fv fw fx fz fA fB fC fD fE fF fG fH fI fK fL fM fN fO fP fQ fR fS fT fV fW fX fY fZ ga gb gc gd ge gg gh gi gj gk gm gn gp gq gr gu gv gw gx gy gz gA gB gC gD gF gG gH gI gJ gK (fun e w' u=>⟨⟨k+1,hlt,u⟩,?_⟩) (fun _ _ dR=>dR))
  rw[u.meas,y];omega
 ·obtain rfl:k=c:=by omega
  have dQ:=Za a;clear a y dV hlt r t x;go_wp2;go_meet;exact dQ.o
def Qr(w:Zp)(s:Nat)(raw:List Int)(x:List St ×Nat)(b:Ending)(w':Zp):Prop:=
 ∃v a,b=.returned v∧Az w' s raw x.2∧SFr s w w'∧a.map (·.x)=x.1∧a.length≤4∧Dm w' (w.heap.size+1) a v
theorem Qr.sts {w w':Zp}{s:Nat}{raw:List Int}{x:List St ×Nat}{c:Ending}(a:Qr w s raw x c w'):Ig w s raw x c w':=by
 obtain⟨v,i,d,e,f,g,j,h⟩:=a;have q:=h.sts (show i.length≤140737488355328 by omega);rw[g]at q;exact⟨v,d,e,f,q.mono (fun b a=>(Nat.le_trans (by omega) a:w.heap.size≤b))⟩
def gC(d:Nat):Prop:= ∀(s:Nat) (raw:List Int) (a:Nat) (sc:Sc) (e b c:Value) (w:Zp),Az w s raw a→Fy s w sc e b c→
 Zs Zb 23 #[scV sc e b c,.pointer (some ⟨s,0,none⟩),.int .i64 d] w (Qr w s raw (Gt raw d sc a))
theorem gB(d:Nat)(ag:d≤1000)(D:2≤d→Pi (d-1)):gC d:=by
 intro s raw a sc ao aj ak w C r;obtain⟨gs,gl,E,A⟩:=jQ raw d sc;rw[E];clear E;obtain⟨l,m,rfl⟩:=r.vars.shape;obtain⟨h,i,rfl⟩:=r.arrays.shape;obtain⟨j,k,rfl⟩:=r.funcs.shape;have ai:=C.lt;have y:Zt w.heap.size w (w.alloc (.cells #[ρ l sc.vars m,ρ h sc.arrays i,ρ j sc.funcs k,.bool sc.free,.bool sc.loop] 69)):=bA;obtain⟨F,L⟩:=Y2 (Ze w [ρ l sc.vars m,ρ h sc.arrays i,ρ j sc.funcs k,.bool sc.free,.bool sc.loop] 69) (C.old y);have G:Zq (SFr s w (w.alloc (.cells #[ρ l sc.vars m,ρ h sc.arrays i,ρ j sc.funcs k,.bool sc.free,.bool sc.loop] 69))):=Zd y;have W:=Za r;have Z:Zq (w.heap.size≠s):=by show _≠_;omega
 have K:Zq (∀f,Az f s raw a→Zs Zb 21 #[π s,ι 5] f (Eb f s raw (ι (Ab raw a 5).1) (Ab raw a 5).2)):=fun f n=>Co s raw a 5 f n (by decide) (by decide)
 have I:Zq (2≤d→∀f b,Az f s raw b→Fy s f sc (ρ l sc.vars m) (ρ h sc.arrays i) (ρ j sc.funcs k)→Zs Zb 23 #[.agg #[ρ l sc.vars m,ρ h sc.arrays i,ρ j sc.funcs k,.bool sc.free,.bool sc.loop],π s,ι ((d:Int)-1)] f (Ig f s raw (gs b))):=fun p f b n u=>by
  have q:=D p s raw b sc _ _ _ f n u;rw[(A p).1];rw[show((d-1:Nat):Int)=(d:Int)-1 by omega]at q;exact q
 have J:Zq (2≤d→∀f b,Az f s raw b→Fy s f sc (ρ l sc.vars m) (ρ h sc.arrays i) (ρ j sc.funcs k)→Zs Zb 23 #[.agg #[ρ l sc.vars m,ρ h sc.arrays i,ρ j sc.funcs k,.bool sc.free,.bool true],π s,ι ((d:Int)-1)] f (Ig f s raw (gl b))):=fun p f b n u=>by
  have q:=D p s raw b sc.inLoop _ _ _ f n u.inLoop;rw[(A p).2];rw[show((d-1:Nat):Int)=(d:Int)-1 by omega]at q;exact q
 have ah:=Am raw a 5 (by decide);generalize Ab raw a 5=g at*;obtain⟨c,t⟩:=g;obtain⟨N,ac⟩:=ah;dsimp only at*;obtain⟨c,rfl⟩:=Int.eq_ofNat_of_zero_le N;rw[Int.toNat_natCast];have af:c≤4:=by omega
 clear y C r D A N ac;unfold scV;go_enter func23,ntmps23;go_wp2_with fail;refine(K.o _ L.o).mono ?_;rintro an w2 ⟨rfl,Q,z⟩;have H:Zq (cJ w s raw (gSt sc raw gs gl d) t [ρ l sc.vars m,ρ h sc.arrays i,ρ j sc.funcs k,.bool sc.free,.bool sc.loop] 0 (ν) w2):=⟨[],rfl,Q,G.o.trans z,F.o.sfr z Z.o,Dm.zero _ _⟩;clear Q z L G F K
 go_upto_block 0 with(fail);refine wp_cut (fun M w'=>Rb w s d c raw (gSt sc raw gs gl d) t [ρ l sc.vars m,ρ h sc.arrays i,ρ j sc.funcs k,.bool sc.free,.bool sc.loop] c c M w') ?rest (fun aa ab hJ hM=>Gm (pV d s c raw sc l h j m i k gs gl t w w2 ag W.o ai af I.o J.o H.o aa ab hJ hM))
 case rest=>
 intro M wc e;obtain⟨v,ap,dw,dH,dS,aq,aD,aO,aZ,bk,bv,bI,bT,ce,cp,cA,cM,cX,de,df,e⟩:=e;obtain⟨dg,dh,di,dj,dk,dl,dm,dn,dp,dq,dr,ds,dt,du,dv,dx,dy,dz,dA,dB,e⟩:=e;obtain⟨dC,dD,dE,dF,dG,dI,dJ,dK,dL,dM,dN,dO,dP,dQ,dR,dT,dU,dV,dW,dX,e⟩:=e;obtain⟨dY,dZ,ea,eb,ec,ed,ee,ef,eg,eh,ei,ej,ek,el,em,en,eo,ep,eq,er,e⟩:=e;obtain⟨es,et,eu,ev,ew,ex,ey,ez,eA,eB,eC,eD,eE,eF,eG,ar,au,av,aw,ax,e⟩:=e;obtain⟨ay,az,aA,aB,aC,aE,aF,aG,aH,aI,aJ,aK,aL,aM,aN,aP,aQ,aR,aS,aT,e⟩:=e;obtain⟨aU,aV,aW,aX,aY,ba,bb,bc,bd,be,bf,bg,bh,bi,bj,bl,bm,bn,bo,bp,e⟩:=e;obtain⟨bq,br,bs,bt,bu,bw,bx,bz,bB,bC,bD,bE,bF,bG,bH,bJ,bK,bL,bM,bN,e⟩:=e;obtain⟨bO,bP,bQ,bR,bS,bU,bV,bW,bX,bY,bZ,ca,cb,cc,cd,cf,cg,ch,ci,cj,e⟩:=e;obtain⟨ck,cl,cm,cn,co,cq,cr,cs,ct,cu,cv,cw,cx,cy,cz,cB,cC,cD,cE,cF,e⟩:=e;obtain⟨cG,cH,cI,cK,cL,cN,cO,cP,cQ,cR,cS,cT,cU,cV,cW,cY,cZ,da,db,dc,e⟩:=e;obtain⟨dd,e⟩:=e;obtain⟨e,ae⟩:=e;subst ae;obtain⟨S,B,R,O,ad,x⟩:=e;obtain⟨al,am,rfl⟩:=x.shape;have P:S.length≤4:=by have n:=congrArg List.length B;rw[Zf,Mv]at n;omega
 obtain⟨Y,V,U,X,T⟩:=Y5 x B P R O;clear B R O ad x P I J H;go_wp2;go_ret
 exact⟨_,S,rfl,X.o,T.o,V.o,U.o,Y.o⟩
theorem bR(d:Nat)(h:d≤1000)(i:2≤d→Pi (d-1)):Pi d:=fun s raw a sc j b c w f g=>(gB d h i s raw a sc j b c w f g).mono (fun _ _ e=>e.sts)
theorem bU:∀d:Nat,d≤1000→Pi d
 |0,a=>bR 0 a (fun a=>absurd a (by decide))
 |d+1,a=>bR (d+1) a (fun _=>bU d (by omega))
theorem oM(d:Nat)(a:d≤1000):gC d:=gB d a (fun _=>bU (d-1) (by omega))
theorem infoAr:(Tryz.prog.info? 60).map (fun i=>(i.zero,i.size,i.bytes))=some (some (.agg #[.string ⟨#[]⟩,.int .i64 0]),2,24):=by kernel_rfl
theorem lJ:(Tryz.prog.info? 48).map (fun i=>(i.zero,i.size,i.bytes))=some (some (.agg #[.string ⟨#[]⟩,.slice none 0 0,.slice none 0 0,.slice none 0 0]),4,88):=by kernel_rfl
theorem infoStr:(Tryz.prog.info? 9).map (fun i=>(i.zero,i.size,i.bytes))=some (some (.string ⟨#[]⟩),1,16):=by kernel_rfl
def Bq(D:Nat→Prop)(w w':Zp):Prop:= ∀k,D k→k<w.heap.size→w'.heap[k]? =w.heap[k]?
theorem Bq.keeps {D:Nat→Prop}{w w':Zp}(a:Bq D w w'):Db D w w':=fun b d x c hx=>by
 rw[Zj (w:=w) (a b c (Zo _ _ hx))];exact hx
theorem Bq.mono {D D':Nat→Prop}{w w':Zp}(a:Bq D' w w')(c:∀b,D b→D' b):Bq D w w':=fun k d e=>a k (c k d) e
theorem Bq.below {D:Nat→Prop}{w w':Zp}(a:Zt w.heap.size w w'):Bq D w w':=fun k _ b=>a.block k b
theorem Bq.sfr {s:Nat}{D:Nat→Prop}{w w':Zp}(a:SFr s w w')(c:∀b,D b→b≠s):Bq D w w':=fun k d e=>a.block k e (c k d)
theorem Bq.set {D:Nat→Prop}(w:Zp){k:Nat}(a:¬D k)(i:Nat)(v:Value):Bq D w (w.setCell ⟨k,i,none⟩ v):=fun b c d=>Below.heap_setCell _ _ _ _ (by rintro rfl;exact a c)
theorem He {D:Nat→Prop}{w w':Zp}{b f n:Nat}{e:TypeId}{v:Value}{xs:List Value}(c:w.ownsRow b e f v n xs)(i:∀k,v.ownBlock=some k→D k)(l:Bq D w w'):w'.ownsRow b e f v n xs:=by
 refine⟨c.1,?_⟩;rcases c.2 with m|⟨g,cap,h,rfl,j,d,o⟩
 ·exact .inl m
 ·refine .inr ⟨g,cap,h,rfl,j,?_,o⟩
  rw[l g (i g rfl) (by
   rcases Nat.lt_or_ge g w.heap.size with a|a
   ·exact a
   ·simp [Array.getElem?_eq_none a]at d)]
  exact d
theorem Li {w:Zp}{a h n g:Nat}{e:TypeId}{cap:Nat}{xs:List Value}(b:w.ownsRow a e h (.slice (some ⟨g,0,none⟩) n cap) n xs)(j:Nat)(u:Value)(f:xs[j]? =some u):w.cell? ⟨g,0+j,none⟩=some u:=by
 have c:=b.cells (g:=g) rfl j u f;have d:(⟨g,0,none⟩:Zr).add j=⟨g,0+j,none⟩:=by unfold Addr.add;split<;>simp_all
 rwa[d]at c
theorem Se {α:Type}(f:α→List Value)(k:Nat)(a:∀x,(f x).length=k):∀(l:List α) (i q:Nat) (p:α),l[i]? =some p→q<k→(l.flatMap f)[i*k+q]? =(f p)[q]?
 |[],i,q,p,h,_=>by simp at h
 |x::l,0,q,p,h,hq=>by
  simp at h;subst h;rw[List.flatMap_cons,List.getElem?_append_left (by rw[a];omega)];simp
 |x::l,i+1,q,p,h,hq=>by
  simp at h;have:=Se f k a l i q p h hq;rw[List.flatMap_cons,List.getElem?_append_right (by rw[a,Nat.add_mul];omega),←this];congr 1;rw[a,Nat.add_mul];omega
def Gk(a:Ar):List Value:=[.string (Aa a.name),.int .i64 a.size]
def Do(w:Zp)(a:Nat)(l:List Ar)(v:Value):Prop:=w.ownsRow a 60 2 v l.length (l.flatMap Gk)
theorem Do.zero(w:Zp)(a:Nat):Do w a [] (.slice none 0 0):=⟨rfl,.inl ⟨rfl,rfl⟩⟩
theorem Do.shape {w:Zp}{b:Nat}{l:List Ar}{v:Value}(c:Do w b l v):∃a cap,v=.slice a l.length cap:=by
 rcases c.2 with⟨rfl,d⟩|⟨g,cap,e,rfl,_⟩
 ·exact⟨none,0,by rw[d]⟩
 ·exact⟨_,_,rfl⟩
theorem Do.ge {w:Zp}{a:Nat}{l:List Ar}{v:Value}(b:Do w a l v){k:Nat}(c:v.ownBlock=some k):a≤k∧k<w.heap.size:=World.ownsRow.lt b k c
theorem Do.keep {w w':Zp}{a:Nat}{l:List Ar}{v:Value}(b:Do w a l v)(c:Bq (a≤ ·) w w'):Do w' a l v:=He b (fun k e=>(b.ge e).1) c
theorem Do.ars {w:Zp}{a:Nat}{l:List Ar}{v:Value}(d:Do w a l v)(n:Cv l.length):Cd (a≤ ·) w l v:=by
 have e:=d;rcases d.2 with⟨rfl,p⟩|⟨g,cap,q,rfl,k,r,m,s,t,u⟩
 ·have:l=[]:=Zl.1 p
  subst this;exact Cd.zero
 ·refine⟨_,cap,g,0,rfl,m,n,.inr ⟨rfl,k⟩,fun i o=>?_⟩
  have f:l[i]? =some (Em l i):=by simp [Em,Zg o]
  have h:=Se Gk 2 (fun _=>rfl) l i 0 _ f (by decide);have j:=Se Gk 2 (fun _=>rfl) l i 1 _ f (by decide);have b:=Li e (i*2+0) _ h;have c:=Li e (i*2+1) _ j;rw[show 0+(i*2+0)=0+i*2 by omega]at b;rw[show 0+(i*2+1)=0+i*2+1 by omega]at c;exact⟨b,c⟩
theorem Do.snoc {w':Zp}{b:Nat}{l:List Ar}(a:Ar){g cap:Nat}(c:w'.ownsRow b 60 2 (.slice (some ⟨g,0,none⟩) (l.length+1) cap) (l.length+1) (l.flatMap Gk++Gk a)):
  Do w' b (l++[a]) (.slice (some ⟨g,0,none⟩) (l.length+1) cap):=by
 unfold Do;rw[Zi,List.flatMap_append];simpa using c
theorem Tq{a:Ar}:∀u,u∈Gk a→u.oneCell'=true:=by
 intro u b;simp only[Gk,List.mem_cons,List.not_mem_nil,or_false]at b;rcases b with rfl|rfl<;>rfl
def Gj(w:Zp)(D:Nat→Prop)(a:List StV)(v:Value):Prop:=
 w.ownsRow 0 50 5 v a.length (Ip a)∧(∀k,v.ownBlock=some k→D k∧k<w.heap.size)∧∀p,p∈a→Fc (fun k=>D k∧v.ownBlock≠some k) w p
theorem Og {w:Zp}{d c n:Nat}{e:TypeId}{v:Value}{xs:List Value}(b:w.ownsRow d e c v n xs){a:Nat}(h:∀k,v.ownBlock=some k→a≤k):w.ownsRow a e c v n xs:=by
 refine⟨b.1,?_⟩;rcases b.2 with i|⟨g,cap,f,rfl,_,j⟩
 ·exact .inl i
 ·exact .inr ⟨g,cap,f,rfl,h g rfl,j⟩
theorem Dm.toD {w:Zp}{b:Nat}{c:List StV}{v:Value}(a:Dm w b c v):Gj w (b≤ ·) c v:=
 ⟨Og a.1 (fun _ _=>Nat.zero_le _),fun k e=>a.ge e,a.2⟩
theorem Gj.zero(w:Zp)(D:Nat→Prop):Gj w D [] (.slice none 0 0):=⟨⟨rfl,.inl ⟨rfl,rfl⟩⟩,fun k e=>(by cases e),fun p a=>(by cases a)⟩
theorem Gj.keep {D:Nat→Prop}{w w':Zp}{d:List StV}{v:Value}(a:Gj w D d v)(c:Bq D w w')(h:w.heap.size≤w'.heap.size):Gj w' D d v:=
 ⟨He a.1 (fun k e=>(a.2.1 k e).1) c,fun k e=>⟨(a.2.1 k e).1,Nat.lt_of_lt_of_le (a.2.1 k e).2 h⟩,fun p g=>(a.2.2 p g).keep (c.mono (fun b f=>f.1)).keeps⟩
theorem Gj.mono {D D':Nat→Prop}{w:Zp}{f:List StV}{v:Value}(a:Gj w D f v)(d:∀b,D b→b<w.heap.size→D' b):Gj w D' f v:=
 ⟨a.1,fun k e=>⟨d k (a.2.1 k e).1 (a.2.1 k e).2,(a.2.1 k e).2⟩,fun p g=>(a.2.2 p g).strong.mono (fun b c=>⟨d b c.1.1 c.2,c.1.2⟩)⟩
theorem Gj.shape {D:Nat→Prop}{w:Zp}{b:List StV}{v:Value}(c:Gj w D b v):∃a cap,v=.slice a b.length cap:=by
 rcases c.1.2 with⟨rfl,d⟩|⟨g,cap,e,rfl,_⟩
 ·exact⟨none,0,by rw[d]⟩
 ·exact⟨_,_,rfl⟩
theorem Gj.sts {D:Nat→Prop}{w:Zp}{c:List StV}{v:Value}(h:Gj w D c v)(y:Cv c.length):Au D w (c.map (·.x)) v:=by
 have m:(c.map (·.x)).length=c.length:=Zf _;rcases h.1.2 with⟨rfl,o⟩|⟨g,cap,E,rfl,j,F,s,l,G,H⟩
 ·have:c=[]:=Zl.1 o
  subst this;exact Au.zero
 ·have k:∀i q p u,c[i]? =some p→q<5→(Fo p.x p.a p.t p.e)[q]? =some u→w.cell? ⟨g,0+i*5+q,none⟩=some u:=by
   intro i q p u f A B;have r:=Li h.1 (i*5+q) u (by rw[Tj c i q p f A];exact B)
   rwa[show 0+(i*5+q)=0+i*5+q by omega]at r
  have n:∀i,i<c.length→∃p,c[i]? =some p∧Fk (c.map (·.x)) i=p.x∧p∈c:=by
   intro i d;refine⟨c[i],Zg d,?_,List.getElem_mem d⟩;simp [Fk,Zg d]
  let z:StV:=⟨St.nil,undef,undef,undef⟩
  have e:=Au.mk (D:=D) (w:=w) (c.map (·.x)) (some ⟨g,0,none⟩) cap g 0 (fun i=>(c.getD i z).a) (fun i=>(c.getD i z).t) (fun i=>(c.getD i z).e) (by rw[m];exact s) (by rw[m];exact y) (.inr ⟨rfl,(h.2.1 g rfl).1⟩);rw[m]at e;have C:∀i p,c[i]? =some p→c.getD i z=p:=fun i p f=>by rw[Zn,f];rfl
  refine e (fun i d=>?_) (fun i d=>?_) (fun i d=>?_) (fun i d=>?_) (fun i d=>?_) (fun i d=>?_) (fun i d=>?_) (fun i d=>?_)
  all_goals
   obtain⟨p,f,hx,l⟩:=n i d
   try rw[hx]
   try rw[C i p f]
  ·exact k i 0 p _ f (by omega) rfl
  ·exact k i 1 p _ f (by omega) rfl
  ·exact k i 2 p _ f (by omega) rfl
  ·exact k i 3 p _ f (by omega) rfl
  ·exact k i 4 p _ f (by omega) rfl
  ·exact(h.2.2 p l).1.mono (fun b j=>j.1)
  ·exact(h.2.2 p l).2.1.mono (fun b j=>j.1)
  ·exact(h.2.2 p l).2.2.mono (fun b j=>j.1)
theorem Bb.strong {D:Nat→Prop}{w:Zp}{l:List Bs}{v:Value}(f:Bb D w l v):Bb (fun b=>D b∧b<w.heap.size) w l v:=by
 obtain⟨a,cap,b,m,k,g,h,c,e⟩:=f;refine⟨a,cap,b,m,k,g,h,?_,e⟩;rcases c with c|⟨j,i⟩
 ·exact .inl c
 ·rcases Nat.eq_zero_or_pos l.length with d|d
  ·exact .inl d
  ·exact .inr ⟨j,i,Zo _ _ (e 0 d)⟩
structure FuV where
 x:Fu
 p:Value
 l:Value
 b:Value
def Fd(p:FuV):List Value:=[.string (Aa p.x.name),p.p,p.l,p.b]
def Ee(D:Nat→Prop)(w:Zp)(p:FuV):Prop:=Bb D w p.x.params p.p∧Bb D w p.x.locals p.l∧∃a,a.map (·.x)=p.x.body∧a.length≤4∧Gj w D a p.b
theorem Ee.keep {D:Nat→Prop}{w w':Zp}{p:FuV}(b:Ee D w p)(a:Bq D w w')(h:w.heap.size≤w'.heap.size):Ee D w' p:=by
 obtain⟨c,d,i,e,f,g⟩:=b;exact⟨c.keep a.keeps,d.keep a.keeps,i,e,f,g.keep a h⟩
theorem Ee.mono {D D':Nat→Prop}{w:Zp}{p:FuV}(d:Ee D w p)(c:∀b,D b→b<w.heap.size→D' b):Ee D' w p:=by
 obtain⟨e,f,j,g,h,i⟩:=d;exact⟨e.strong.mono (fun b a=>c b a.1 a.2),f.strong.mono (fun b a=>c b a.1 a.2),j,g,h,i.mono c⟩
def Dj(w:Zp)(c:Nat)(a:List FuV)(v:Value):Prop:=
 w.ownsRow c 48 4 v a.length (a.flatMap Fd)∧∀p,p∈a→Ee (fun b=>c≤b∧v.ownBlock≠some b) w p
theorem Dj.zero(w:Zp)(a:Nat):Dj w a [] (.slice none 0 0):=⟨⟨rfl,.inl ⟨rfl,rfl⟩⟩,fun p b=>by cases b⟩
theorem Dj.shape {w:Zp}{c:Nat}{b:List FuV}{v:Value}(d:Dj w c b v):∃a cap,v=.slice a b.length cap:=by
 rcases d.1.2 with⟨rfl,e⟩|⟨g,cap,f,rfl,_⟩
 ·exact⟨none,0,by rw[e]⟩
 ·exact⟨_,_,rfl⟩
theorem Dj.ge {w:Zp}{a:Nat}{d:List FuV}{v:Value}(b:Dj w a d v){k:Nat}(c:v.ownBlock=some k):a≤k∧k<w.heap.size:=World.ownsRow.lt b.1 k c
theorem Dj.keep {w w':Zp}{a:Nat}{f:List FuV}{v:Value}(c:Dj w a f v)(d:Bq (a≤ ·) w w')(i:w.heap.size≤w'.heap.size):Dj w' a f v:=
 ⟨He c.1 (fun k e=>(c.ge e).1) d,fun p h=>(c.2 p h).keep (d.mono (fun b g=>g.1)) i⟩
theorem Dj.fus {w:Zp}{k:Nat}{a:List FuV}{v:Value}(h:Dj w k a v)(A:Cv a.length):Bw (k≤ ·) w (a.map (·.x)) v:=by
 have f:(a.map (·.x)).length=a.length:=Zf _;rcases h.1.2 with⟨rfl,D⟩|⟨g,cap,G,rfl,c,I,y,n,J,K⟩
 ·have:a=[]:=Zl.1 D
  subst this;exact Bw.zero
 ·let z:FuV:=⟨Fu.nil,undef,undef,undef⟩
  refine⟨some ⟨g,0,none⟩,cap,g,0,(fun i=>(a.getD i z).p),(fun i=>(a.getD i z).l),(fun i=>(a.getD i z).b),by rw[f],by rw[f];exact y,by rw[f];exact A,.inr ⟨rfl,c⟩,fun i e=>?_⟩;rw[f]at e;obtain⟨p,o,hx,n⟩:∃p,a[i]? =some p∧Bc (a.map (·.x)) i=p.x∧p∈a:=⟨a[i],Zg e,by simp [Bc,Zg e],List.getElem_mem e⟩;have F:a.getD i z=p:=by rw[Zn,o];rfl
  rw[hx];dsimp only;rw[F];have d:∀q u,q<4→(Fd p)[q]? =some u→w.cell? ⟨g,0+i*4+q,none⟩=some u:=by
   intro q u B C;have j:=Li h.1 (i*4+q) u (by rw[Se Fd 4 (fun _=>rfl) a i q p o B];exact C)
   rwa[show 0+(i*4+q)=0+i*4+q by omega]at j
  obtain⟨j,r,E,s,H,t⟩:=h.2 p n;have m:=t.sts (show E.length≤140737488355328 by omega);rw[s]at m;exact⟨⟨d 0 _ (by decide) rfl,d 1 _ (by decide) rfl,d 2 _ (by decide) rfl,d 3 _ (by decide) rfl⟩,j.mono (fun b c=>c.1),r.mono (fun b c=>c.1),m.mono (fun b c=>c.1)⟩
theorem Dj.snoc {w w':Zp}{a:Nat}{c:List FuV}{v:Value}(m:Dj w a c v)(p:FuV)(hx:Ee (fun b=>a≤b∧v.ownBlock≠some b) w p){g cap:Nat}
  (s:w'.ownsRow a 48 4 (.slice (some ⟨g,0,none⟩) (c.length+1) cap) (c.length+1) (c.flatMap Fd++Fd p)) (j:w.grownBy w' v.ownBlock) (h:v.ownBlock=some g∨g=w.heap.size):
  Dj w' a (c++[p]) (.slice (some ⟨g,0,none⟩) (c.length+1) cap):=by
 have l:∀q:FuV,Ee (fun b=>a≤b∧v.ownBlock≠some b) w q→Ee (fun b=>a≤b∧(Value.slice (some ⟨g,0,none⟩) (c.length+1) cap).ownBlock≠some b) w' q:=by
  intro q t;have n:Ee (fun b=>a≤b∧(v.ownBlock≠some b∧b<w.heap.size)) w q:=t.mono (fun b d i=>⟨d.1,d.2,i⟩);have o:=n.keep (w':=w') (fun k r i=>j.block k i (fun e=>r.2.1 e.symm)) j.size;refine o.mono (fun b d _=>⟨d.1,?_⟩);show some g≠some b
  intro e
  cases e
  rcases h with h|h
  ·exact d.2.1 h
  ·have:=d.2.2;omega
 refine⟨?_,fun q f=>?_⟩
 ·rw[Zi,List.flatMap_append];simpa using s
 ·rcases List.mem_append.1 f with f|f
  ·exact l _ (m.2 q f)
  ·rw[List.mem_singleton.1 f];exact l _ hx
theorem cI(n:Bs){x:Fu}{a b c:Option Zr}{i j k e f g:Nat}:∀u,u∈Fd ⟨x,.slice a i e,.slice b j f,.slice c k g⟩→u.oneCell'=true:=by
 intro u d;simp only[Fd,List.mem_cons,List.not_mem_nil,or_false]at d;rcases d with rfl|rfl|rfl|rfl<;>rfl

noncomputable def sZ (n:Nat):Code:=((Tryz.f6.body.bind (La n)).getD .skip)
noncomputable def eJ (n:Nat):Code:=((Tryz.f6.body.bind (Kk (Pm n))).getD .skip)
def Cm(l:List Bs):List Value:=l.map fun x=>.string (Aa x)
def Tf(l:List Int):List Value:=l.map fun x=>.int .i64 x
theorem yH:∀j:Fin 3,(Cm Gf)[j.val]? =some (.string (Aa (Gf.getD j.val []))):=by
 intro j;match j with
 |⟨0,_⟩=>rfl
 |⟨1,_⟩=>rfl
 |⟨2,_⟩=>rfl
theorem xS:∀j:Fin 4,(Tf Ge)[j.val]? =some (.int .i64 (Ge.getD j.val 0)):=by
 intro j;match j with
 |⟨0,_⟩=>rfl
 |⟨1,_⟩=>rfl
 |⟨2,_⟩=>rfl
 |⟨3,_⟩=>rfl
theorem uc {L:Nat→Bool}{j k:Nat}{P:Prop}(a:L j=true→P)(b:j≠k:=by decide):upd L k j=true→P:=fun e=>a (by rwa[Ay L b]at e)
theorem ux {L:Nat→Bool}{n k:Nat}{P:Prop}(a:L n=false)(b:n≠k:=by decide):upd L k n=true→P:=fun e=>by rw[Ay L b,a]at e;cases e
theorem un {L:Nat→Bool}{n k:Nat}(a:L n=true→∀j,j<n→L j=true)(c:L k=false)(b:k<n:=by decide):L n=false:=by
 cases e:L n with
 |false=>rfl
 |true=>have:=a e k b;rw[c]at this;cases this
theorem uw {L:Nat→Bool}{j n k:Nat}{P:Prop}(a:L j=true→L n=false→P)(c:j≠k:=by decide)(b:n≠k:=by decide):upd L k j=true→upd L k n=false→P:=fun e f=>a (by rwa[Ay L c]at e) (by rwa[Ay L b]at f)
theorem uk {L:Nat→Bool}{j n k c:Nat}{w w':Zp}{p:Nat→Prop}{d:List Value}{a:TypeId}(g:∀b d a,c≤b→Ad w b d a→Ad w' b d a)(h:L j=true→L n=false→∃b,p b∧c≤b∧Ad w b d a)(l:j≠k:=by decide)(i:n≠k:=by decide):upd L k j=true→upd L k n=false→∃b,p b∧c≤b∧Ad w' b d a:=uw (fun e f=>let⟨b,e1,e2,e3⟩:=h e f;⟨b,e1,e2,g b _ _ e2 e3⟩) l i
theorem uz {L:Nat→Bool}{j k:Nat}{P:Prop}:upd L k j=true→upd L k k=false→P:=fun _ e=>by rw[Bo]at e;cases e
theorem ui {w:Zp}{c:Nat}:∀b d a,c≤b→Ad w b d a→Ad w b d a:=fun _ _ _ _ e=>e
theorem ul {L:Nat→Bool}{j n k c:Nat}{w w':Zp}{p:Nat→Prop}{d B:List Value}{a:TypeId}(g:∀b f a,c≤b→Ad w b f a→Ad w' b f a)(h:L j=true→∃b,p b∧c≤b∧Ad w b (if L n=true then d else B) a)(l:j≠k:=by decide)(i:n≠k:=by decide):upd L k j=true→∃b,p b∧c≤b∧Ad w' b (if upd L k n=true then d else B) a:=uc (fun e=>by rw[Ay L i];exact let⟨b,e1,e2,e3⟩:=h e;⟨b,e1,e2,g b _ _ e2 e3⟩) l
theorem uj {L:Nat→Bool}{n k S a B:Nat}{raw:List Int}{w:Zp}(b:Az w S raw (if L n=true then a else B))(c:n≠k:=by decide):Az w S raw (if upd L k n=true then a else B):=by rw[Ay L c];exact b
structure V9 (S i a:Nat)(raw:List Int)(W:Zp)(L:Nat→Bool)(z9 z34 z35 z36 z37 z38 z39 z40 z41 z42 z43:Value)(wx:Zp):Prop where
 fr:SFr S W wx
 src:Az wx S raw (if L 6=true then(Ab raw a 4).2 else a)
 ord:L 11=true→∀j,j<11→L j=true
 c0:L 0=true→L 11=false→∃b,z34=.slice (some ⟨b,0,none⟩) 3 3∧W.heap.size≤b∧Ad wx b (Cm Gf) 9
 c1:L 1=true→z35=.int .i64 (i:Int)
 c2:L 2=true→L 11=false→∃b,z36=.pointer (some ⟨b,i,none⟩)∧W.heap.size≤b∧Ad wx b (Cm Gf) 9
 c3:L 3=true→z37=.string (Aa (Gf.getD i []))
 c4:L 4=true→L 11=false→∃b,z38=.slice (some ⟨b,0,none⟩) 4 4∧W.heap.size≤b∧Ad wx b (Tf Ge) 3
 c5:L 5=true→z39=.pointer (some ⟨S,0,none⟩)
 c6:L 6=true→z40=.int .i64 (Ab raw a 4).1
 c7:L 7=true→L 11=false→∃b,z41=.pointer (some ⟨b,(Ab raw a 4).1.toNat,none⟩)∧W.heap.size≤b∧Ad wx b (Tf Ge) 3
 c8:L 8=true→z42=.int .i64 (Ge.getD (Ab raw a 4).1.toNat 0)
 c9:L 9=true→z43=.agg #[.string (Aa (Gf.getD i [])),.int .i64 (Ge.getD (Ab raw a 4).1.toNat 0)]
 c10:L 10=true→∃b,z9=.pointer (some ⟨b,0,none⟩)∧W.heap.size≤b∧Ad wx b (if L 11=true then [.string (Aa (Gf.getD i [])),.int .i64 (Ge.getD (Ab raw a 4).1.toNat 0)]else [.string ⟨#[]⟩,.int .i64 0]) 60
def R9(S i a:Nat)(raw:List Int)(c:Zp)(f g M Y ad aw aH h t E F G H I J K L N O P Q R T U V W X Z aa ab ac ae af ag ah ai aj ak al am an ao ap aq ar au av ax ay az aA aB aC aD aE aF aG aI aJ aK aL aM aN aO aP aQ aR aS aT aU aV aW aX aY aZ ba bb bc bd be bf bg bh bi bj bk bl j k l m n o p q r s u v w x y z A B C D:Value)(e:Act)(w':Zp):Prop:=
 ∃d bm bn bo bp bq br bs bt bu bv:Value,(∃b,d=.pointer (some ⟨b,0,none⟩)∧c.heap.size≤b∧Ad w' b [.string (Aa (Gf.getD i [])),.int .i64 (Ge.getD (Ab raw a 4).1.toNat 0)] 60∧Az w' S raw (Ab raw a 4).2∧SFr S c w')∧e=⟨[f,g,M,Y,ad,.pointer (some ⟨S,0,none⟩),aw,aH,.int .i64 (i:Int),d,h,t,E,F,G,H,I,J,K,L,N,O,P,Q,R,T,U,V,W,X,Z,aa,ab,ac,bm,bn,bo,bp,bq,br,bs,bt,bu,bv,ae,af,ag,ah,ai,aj,ak,al,am,an,ao,ap,aq,ar,au,av,ax,ay,az,aA,aB,aC,aD,aE,aF,aG,aI,aJ,aK,aL,aM,aN,aO,aP,aQ,aR,aS,aT,aU,aV,aW,aX,aY,aZ,ba,bb,bc,bd,be,bf,bg,bh,bi,bj,bk,bl,j,k,l,m,n,o,p,q,r,s,u,v,w,x,y,z,A,B,C,D].toArray,[]⟩
def I9(S i a:Nat)(raw:List Int)(n:Zp)(p q X ai an aG aR r C O P Q R T U V W Y Z aa ab ac ad ae af ag ah aj ak al am ao ap aq ar au av aw ax ay az aA aB aC aD aE aF aH aI aJ aK aL aM aN aO aP aQ aS aT aU aV aW aX aY aZ ba bb bc bd be bf bg bh bi bj bk bl bm bn bo bp bq br bs bt bu bv s t u v w x y z A B D E F G H I J K M N:Value)(L:Nat→Bool)(o:Act)(w':Zp):Prop:=
 ∃m b c d e f g h j k l:Value,V9 S i a raw n L m b c d e f g h j k l w'∧o=⟨[p,q,X,ai,an,.pointer (some ⟨S,0,none⟩),aG,aR,.int .i64 (i:Int),m,r,C,O,P,Q,R,T,U,V,W,Y,Z,aa,ab,ac,ad,ae,af,ag,ah,aj,ak,al,am,b,c,d,e,f,g,h,j,k,l,ao,ap,aq,ar,au,av,aw,ax,ay,az,aA,aB,aC,aD,aE,aF,aH,aI,aJ,aK,aL,aM,aN,aO,aP,aQ,aS,aT,aU,aV,aW,aX,aY,aZ,ba,bb,bc,bd,be,bf,bg,bh,bi,bj,bk,bl,bm,bn,bo,bp,bq,br,bs,bt,bu,bv,s,t,u,v,w,x,y,z,A,B,D,E,F,G,H,I,J,K,M,N].toArray,[]⟩
theorem pg_reg9(S i a:Nat)(raw:List Int)(H:Zp)(P:Az H S raw a)(cJ:1≤i∧i≤2){Q R az aK aP bg br cm T ae ap aq ar au av aw ax ay aA aB aC aD aE aF aG aH aI aJ aL aM aN aO cc cd ce cf cg ch ci cj ck cl aQ aR aS aT aU aV aW aX aY aZ ba bb bc bd be bf bh bi bj bk bl bm bn bo bp bq bs bt bu bv bw bx bz bB bC bD bE bF bG bH bI bJ bK bL bM bN bO bP bQ bR bS bT bU bV bW bX U V W X Y Z aa ab ac ad af ag ah ai aj ak al am an ao:Value}(bY o:Act→Zp→Prop)(hJ:∀I w',R9 S i a raw H Q R az aK aP bg br T ae ap aq ar au av aw ax ay aA aB aC aD aE aF aG aH aI aJ aL aM aN aO aQ aR aS aT aU aV aW aX aY aZ ba bb bc bd be bf bh bi bj bk bl bm bn bo bp bq bs bt bu bv bw bx bz bB bC bD bE bF bG bH bI bJ bK bL bM bN bO bP bQ bR bS bT bU bV bW bX U V W X Y Z aa ab ac ad af ag ah ai aj ak al am an ao I w'→bY I w')(hM:∀I w',Met bY I w'→o I w'):
  Code.wp Zb (sZ 9) (Exit.then o (fun _ _ _=>False)) ⟨[Q,R,az,aK,aP,.pointer (some ⟨S,0,none⟩),bg,br,.int .i64 (i:Int),cm,T,ae,ap,aq,ar,au,av,aw,ax,ay,aA,aB,aC,aD,aE,aF,aG,aH,aI,aJ,aL,aM,aN,aO,cc,cd,ce,cf,cg,ch,ci,cj,ck,cl,aQ,aR,aS,aT,aU,aV,aW,aX,aY,aZ,ba,bb,bc,bd,be,bf,bh,bi,bj,bk,bl,bm,bn,bo,bp,bq,bs,bt,bu,bv,bw,bx,bz,bB,bC,bD,bE,bF,bG,bH,bI,bJ,bK,bL,bM,bN,bO,bP,bQ,bR,bS,bT,bU,bV,bW,bX,U,V,W,X,Y,Z,aa,ab,ac,ad,af,ag,ah,ai,aj,ak,al,am,an,ao].toArray,[]⟩ H:=by
 conv=>arg 2;whnf
 dsimp only;refine Fv (by kernel_rfl) (by kernel_rfl) (I9 S i a raw H Q R az aK aP bg br T ae ap aq ar au av aw ax ay aA aB aC aD aE aF aG aH aI aJ aL aM aN aO aQ aR aS aT aU aV aW aX aY aZ ba bb bc bd be bf bh bi bj bk bl bm bn bo bp bq bs bt bu bv bw bx bz bB bC bD bE bF bG bH bI bJ bK bL bM bN bO bP bQ bR bS bT bU bV bW bX U V W X Y Z aa ab ac ad af ag ah ai aj ak al am an ao) ?_ ?_ ?_
 ·refine⟨cm,cc,cd,ce,cf,cg,ch,ci,cj,ck,cl,⟨Zd (Zc _ _).drew,by rw[if_neg (by decide)];exact P.old (Zc _ _).drew,fun d=>(by cases d),fun d=>(by cases d),fun d=>(by cases d),fun d=>(by cases d),fun d=>(by cases d),fun d=>(by cases d),fun d=>(by cases d),fun d=>(by cases d),fun d=>(by cases d),fun d=>(by cases d),fun d=>(by cases d),fun d=>(by cases d)⟩,rfl⟩
 ·intro L cn e k M O g h
  obtain⟨A,q,r,s,t,u,v,w,x,y,z,c,rfl⟩:=M;have O:k=0∨k=1∨k=2∨k=3∨k=4∨k=5∨k=6∨k=7∨k=8∨k=9∨k=10∨k=11:=by
   have:k<12:=O;omega
  rcases O with rfl|rfl|rfl|rfl|rfl|rfl|rfl|rfl|rfl|rfl|rfl|rfl
  ·have f:=un c.ord g
   have F:Zt e.heap.size e (e.alloc (.cells (Cm Gf).toArray 9)):=bA;have l:∀b n m,H.heap.size≤b→Ad e b n m→Ad (e.alloc (.cells (Cm Gf).toArray 9)) b n m:=fun b n m _ d=>d.old F
   obtain⟨D,B,C⟩:=Y3 c h g;refine Bh rfl rfl (fun o E=>?_)
   conv=>arg 2;whnf
   go_wp2;exact⟨A,κ e.heap.size 3 3,r,s,t,u,v,w,x,y,z,⟨c.fr.trans (Zd F),uj (c.src.old F),ux f,(fun _ _=>⟨e.heap.size,rfl,c.fr.size,Ze e (Cm Gf) _⟩),uc c.c1,uk l c.c2,uc c.c3,uk l c.c4,uc c.c5,uc c.c6,uk l c.c7,uc c.c8,uc c.c9,ul l c.c10⟩,rfl⟩
  ·have f:=un c.ord g
   obtain⟨D,B,C⟩:=Y3 c h g;refine Bh rfl rfl (fun o E=>?_)
   conv=>arg 2;whnf
   go_wp2;exact⟨A,q,ι (i:Int),s,t,u,v,w,x,y,z,⟨c.fr,uj c.src,ux f,uw c.c0,(fun _=>rfl),uw c.c2,uc c.c3,uw c.c4,uc c.c5,uc c.c6,uw c.c7,uc c.c8,uc c.c9,ul ui c.c10⟩,rfl⟩
  ·have f:=un c.ord g
   have cp:L 0=true:=h _ rfl ⟨0,.data⟩ (by simp) rfl;have cq:L 1=true:=h _ rfl ⟨1,.data⟩ (by simp) rfl;obtain⟨b,rfl,G,p⟩:=c.c0 cp f;obtain rfl:=c.c1 cq;have cK:(i:Int)<3:=by omega
   obtain⟨D,B,C⟩:=Y3 c h g;refine Bh rfl rfl (fun o E=>?_)
   conv=>arg 2;whnf
   go_wp2;exact⟨A,κ b 3 3,ι (i:Int),.pointer (some ⟨b,i,none⟩),t,u,v,w,x,y,z,⟨c.fr,uj c.src,ux f,uw c.c0,uc c.c1,(fun _ _=>⟨b,rfl,G,p⟩),uc c.c3,uw c.c4,uc c.c5,uc c.c6,uw c.c7,uc c.c8,uc c.c9,ul ui c.c10⟩,rfl⟩
  ·have f:=un c.ord g
   have cs:L 2=true:=h _ rfl ⟨2,.data⟩ (by simp) rfl;obtain⟨b,rfl,G,p⟩:=c.c2 cs f;have hx:=p.at i _ (yH ⟨i,by omega⟩);obtain⟨D,B,C⟩:=Y3 c h g;refine Bh rfl rfl (fun o E=>?_)
   conv=>arg 2;whnf
   go_wp2;exact⟨A,q,r,.pointer (some ⟨b,i,none⟩),σ (Gf.getD i []),u,v,w,x,y,z,⟨c.fr,uj c.src,ux f,uw c.c0,uc c.c1,uw c.c2,(fun _=>rfl),uw c.c4,uc c.c5,uc c.c6,uw c.c7,uc c.c8,uc c.c9,ul ui c.c10⟩,rfl⟩
  ·have f:=un c.ord g
   have F:Zt e.heap.size e (e.alloc (.cells (Tf Ge).toArray 3)):=bA;have l:∀b n m,H.heap.size≤b→Ad e b n m→Ad (e.alloc (.cells (Tf Ge).toArray 3)) b n m:=fun b n m _ d=>d.old F
   obtain⟨D,B,C⟩:=Y3 c h g;refine Bh rfl rfl (fun o E=>?_)
   conv=>arg 2;whnf
   go_wp2;exact⟨A,q,r,s,t,κ e.heap.size 4 4,v,w,x,y,z,⟨c.fr.trans (Zd F),uj (c.src.old F),ux f,uk l c.c0,uc c.c1,uk l c.c2,uc c.c3,(fun _ _=>⟨e.heap.size,rfl,c.fr.size,Ze e (Tf Ge) _⟩),uc c.c5,uc c.c6,uk l c.c7,uc c.c8,uc c.c9,ul l c.c10⟩,rfl⟩
  ·have f:=un c.ord g
   obtain⟨D,B,C⟩:=Y3 c h g;refine Bh rfl rfl (fun o E=>?_)
   conv=>arg 2;whnf
   go_wp2;exact⟨A,q,r,s,t,u,π S,w,x,y,z,⟨c.fr,uj c.src,ux f,uw c.c0,uc c.c1,uw c.c2,uc c.c3,uw c.c4,(fun _=>rfl),uc c.c6,uw c.c7,uc c.c8,uc c.c9,ul ui c.c10⟩,rfl⟩
  ·have f:=un c.ord g
   have cv:L 5=true:=h _ rfl ⟨5,.data⟩ (by simp) rfl;obtain rfl:=c.c5 cv;have J:=c.src;rw[if_neg (by rw[g];decide)]at J;have cD:=P.lt;obtain⟨D,B,C⟩:=Y3 c h g;refine Bh rfl rfl (fun o E=>?_)
   conv=>arg 2;whnf
   go_wp2_with fail;refine(Co S raw a 4 e J (by decide) (by decide)).mono ?_;rintro cN w2 ⟨rfl,cC,ca⟩;have l:∀b n m,H.heap.size≤b→Ad e b n m→Ad w2 b n m:=fun b n m G d=>d.sfr ca (by omega)
   go_wp2;exact⟨A,q,r,s,t,u,π S,ι (Ab raw a 4).1,x,y,z,⟨c.fr.trans ca,(by rw[Bo,if_pos rfl];exact cC),ux f,uk l c.c0,uc c.c1,uk l c.c2,uc c.c3,uk l c.c4,uc c.c5,(fun _=>rfl),uk l c.c7,uc c.c8,uc c.c9,ul l c.c10⟩,rfl⟩
  ·have f:=un c.ord g
   have cu:L 4=true:=h _ rfl ⟨4,.data⟩ (by simp) rfl;have cw:L 6=true:=h _ rfl ⟨6,.data⟩ (by simp) rfl;obtain⟨b,rfl,G,p⟩:=c.c4 cu f;obtain rfl:=c.c6 cw;have cb:=Am raw a 4 (by decide);obtain⟨cG,cH⟩:=cb;obtain⟨D,B,C⟩:=Y3 c h g;refine Bh rfl rfl (fun o E=>?_)
   conv=>arg 2;whnf
   go_wp2;exact⟨A,q,r,s,t,κ b 4 4,v,ι (Ab raw a 4).1,.pointer (some ⟨b,(Ab raw a 4).1.toNat,none⟩),y,z,⟨c.fr,uj c.src,ux f,uw c.c0,uc c.c1,uw c.c2,uc c.c3,uw c.c4,uc c.c5,uc c.c6,(fun _ _=>⟨b,rfl,G,p⟩),uc c.c8,uc c.c9,ul ui c.c10⟩,rfl⟩
  ·have f:=un c.ord g
   have cx:L 7=true:=h _ rfl ⟨7,.data⟩ (by simp) rfl;obtain⟨b,rfl,G,p⟩:=c.c7 cx f;have cb:=Am raw a 4 (by decide);have hx:=p.at (Ab raw a 4).1.toNat _ (xS ⟨(Ab raw a 4).1.toNat,by omega⟩);obtain⟨D,B,C⟩:=Y3 c h g;refine Bh rfl rfl (fun o E=>?_)
   conv=>arg 2;whnf
   go_wp2;exact⟨A,q,r,s,t,u,v,w,.pointer (some ⟨b,(Ab raw a 4).1.toNat,none⟩),ι (Ge.getD (Ab raw a 4).1.toNat 0),z,⟨c.fr,uj c.src,ux f,uw c.c0,uc c.c1,uw c.c2,uc c.c3,uw c.c4,uc c.c5,uc c.c6,uw c.c7,(fun _=>rfl),uc c.c9,ul ui c.c10⟩,rfl⟩
  ·have f:=un c.ord g
   have ct:L 3=true:=h _ rfl ⟨3,.data⟩ (by simp) rfl;have cy:L 8=true:=h _ rfl ⟨8,.data⟩ (by simp) rfl;obtain rfl:=c.c3 ct;obtain rfl:=c.c8 cy;obtain⟨D,B,C⟩:=Y3 c h g;refine Bh rfl rfl (fun o E=>?_)
   conv=>arg 2;whnf
   go_wp2;exact⟨A,q,r,s,σ (Gf.getD i []),u,v,w,x,ι (Ge.getD (Ab raw a 4).1.toNat 0),.agg #[σ (Gf.getD i []),ι (Ge.getD (Ab raw a 4).1.toNat 0)],⟨c.fr,uj c.src,ux f,uw c.c0,uc c.c1,uw c.c2,uc c.c3,uw c.c4,uc c.c5,uc c.c6,uw c.c7,uc c.c8,(fun _=>rfl),ul ui c.c10⟩,rfl⟩
  ·have f:=un c.ord g
   have F:Zt e.heap.size e (e.alloc (.cells #[ε,ι 0] 60)):=bA;have l:∀b n m,H.heap.size≤b→Ad e b n m→Ad (e.alloc (.cells #[ε,ι 0] 60)) b n m:=fun b n m _ d=>d.old F
   obtain⟨D,B,C⟩:=Y3 c h g;refine Bh rfl rfl (fun o E=>?_)
   conv=>arg 2;whnf
   go_wp2;exact⟨π e.heap.size,q,r,s,t,u,v,w,x,y,z,⟨c.fr.trans (Zd F),uj (c.src.old F),ux f,uk l c.c0,uc c.c1,uk l c.c2,uc c.c3,uk l c.c4,uc c.c5,uc c.c6,uk l c.c7,uc c.c8,uc c.c9,(fun _=>⟨e.heap.size,rfl,c.fr.size,by rw[Ay L (show 11≠10 by decide),f];exact Ze e [ε,ι 0] _⟩)⟩,rfl⟩
  ·have cz:L 9=true:=h _ rfl ⟨9,.data⟩ (by simp) rfl
   have cr:L 10=true:=h _ rfl ⟨10,.data⟩ (by simp) rfl;obtain⟨b,rfl,G,p⟩:=c.c10 cr;obtain rfl:=c.c9 cz;rw[g,if_neg (by decide)]at p;have co:∀j,j<11→L j=true:=fun j K=>by
    have K:j=0∨j=1∨j=2∨j=3∨j=4∨j=5∨j=6∨j=7∨j=8∨j=9∨j=10:=by omega
    rcases K with rfl|rfl|rfl|rfl|rfl|rfl|rfl|rfl|rfl|rfl|rfl<;>exact h _ rfl ⟨_,.phase⟩ (by simp) rfl
   obtain ⟨cL, cM⟩ := τ2 p;have cE:=p.fz 0;have cF:=p.fz 1;have cI:=p.lt;have cD:=P.lt;obtain⟨D,B,C⟩:=Y3 c h g;refine Bh rfl rfl (fun o E=>?_)
   conv=>arg 2;whnf
   go_wp2;exact⟨π b,q,r,s,t,u,v,w,x,y,.agg #[σ (Gf.getD i []),ι (Ge.getD (Ab raw a 4).1.toNat 0)],⟨(c.fr.setNew G 0 (σ (Gf.getD i []))).setNew G 1 (ι (Ge.getD (Ab raw a 4).1.toNat 0)),uj ((c.src.other (by omega) 0 (σ (Gf.getD i []))).other (by omega) 1 (ι (Ge.getD (Ab raw a 4).1.toNat 0))),(fun _ j K=>by rw[Ay L (show j≠11 by omega)];exact co j K),uz,uc c.c1,uz,uc c.c3,uz,uc c.c5,uc c.c6,uz,uc c.c8,uc c.c9,(fun _=>⟨b,rfl,G,by rw[Bo,if_pos rfl];exact(p.set 0 (σ (Gf.getD i []))).set 1 (ι (Ge.getD (Ab raw a 4).1.toNat 0))⟩)⟩,rfl⟩
 ·intro L cn e M N
  obtain⟨A,q,r,s,t,u,v,w,x,y,z,c,rfl⟩:=M;obtain⟨b,cA,cB,bZ⟩:=c.c10 (N 10 (by decide));have J:=c.src;rw[if_pos (N 6 (by decide))]at J;rw[if_pos (N 11 (by decide))]at bZ;exact hM _ _ (Met.intro (hJ _ _ ⟨A,q,r,s,t,u,v,w,x,y,z,⟨b,cA,cB,bZ,J,c.fr⟩,rfl⟩))
theorem tU:∀j:Fin 3,(Cm Fj)[j.val]? =some (.string (Aa (Fj.getD j.val []))):=by
 intro j;match j with
 |⟨0,_⟩=>rfl
 |⟨1,_⟩=>rfl
 |⟨2,_⟩=>rfl
structure V18 (S i a:Nat)(raw:List Int)(W:Zp)(L:Nat→Bool)(z11 z69 z70 z71 z72 z73 z74 z75 z76 z77:Value)(wx:Zp):Prop where
 fr:SFr S W wx
 src:Az wx S raw (if L 6=true then(Ab raw a 7).2 else a)
 ord:L 10=true→∀j,j<10→L j=true
 c0:L 0=true→L 10=false→∃b,z69=.slice (some ⟨b,0,none⟩) 3 3∧W.heap.size≤b∧Ad wx b (Cm Fj) 9
 c1:L 1=true→z70=.int .i64 (i:Int)
 c2:L 2=true→L 10=false→∃b,z71=.pointer (some ⟨b,i,none⟩)∧W.heap.size≤b∧Ad wx b (Cm Fj) 9
 c3:L 3=true→z72=.string (Aa (Fj.getD i []))
 c4:L 4=true→L 10=false→∃b,z73=.slice (some ⟨b,0,none⟩) 6 6∧W.heap.size≤b∧Ad wx b (Cm Hw) 9
 c5:L 5=true→z74=.pointer (some ⟨S,0,none⟩)
 c6:L 6=true→z75=.int .i64 (Ab raw a 7).1
 c7:L 7=true→L 10=false→∃b,z76=.slice (some ⟨b,0,none⟩) (Ab raw a 7).1.toNat 6∧W.heap.size≤b∧Ad wx b (Cm Hw) 9
 c8:L 8=true→L 10=false→∃b,z77=.agg #[.string (Aa (Fj.getD i [])),.slice (some ⟨b,0,none⟩) (Ab raw a 7).1.toNat 6,.slice none 0 0,.slice none 0 0]∧W.heap.size≤b∧Ad wx b (Cm Hw) 9
 c9:L 9=true→L 10=false→∃b,z11=.pointer (some ⟨b,0,none⟩)∧W.heap.size≤b∧Ad wx b [.string ⟨#[]⟩,.slice none 0 0,.slice none 0 0,.slice none 0 0] 48
 c10:L 10=true→∃b b6,z11=.pointer (some ⟨b,0,none⟩)∧W.heap.size≤b∧Ad wx b [.string (Aa (Fj.getD i [])),.slice (some ⟨b6,0,none⟩) (Ab raw a 7).1.toNat 6,.slice none 0 0,.slice none 0 0] 48∧W.heap.size≤b6∧Ad wx b6 (Cm Hw) 9
def R18(S i a:Nat)(raw:List Int)(c:Zp)(g h L X ai aF aP aS bd D E F G H I J K M N O P Q R T U V W Y Z aa ab ac ad ae af ag ah aj ak al am an ao ap aq ar au av aw ax ay az aA aB aC aD aE aG aH aI aJ aK aL aM aN aO aQ aR aT aU aV aW aX aY aZ ba bb bc be bf bg bh bi bj bk bl bm bn j k l m n o p q r s t u v w x y z A B C:Value)(f:Act)(w':Zp):Prop:=
 ∃e bo bp bq br bs bt bu bv bw:Value,(∃b d,e=.pointer (some ⟨b,0,none⟩)∧c.heap.size≤b∧Ad w' b [.string (Aa (Fj.getD i [])),.slice (some ⟨d,0,none⟩) (Ab raw a 7).1.toNat 6,.slice none 0 0,.slice none 0 0] 48∧c.heap.size≤d∧Ad w' d (Cm Hw) 9∧Az w' S raw (Ab raw a 7).2∧SFr S c w')∧f=⟨[g,h,L,X,ai,.pointer (some ⟨S,0,none⟩),aF,aP,aS,bd,.int .i64 (i:Int),e,D,E,F,G,H,I,J,K,M,N,O,P,Q,R,T,U,V,W,Y,Z,aa,ab,ac,ad,ae,af,ag,ah,aj,ak,al,am,an,ao,ap,aq,ar,au,av,aw,ax,ay,az,aA,aB,aC,aD,aE,aG,aH,aI,aJ,aK,aL,aM,aN,aO,bo,bp,bq,br,bs,bt,bu,bv,bw,aQ,aR,aT,aU,aV,aW,aX,aY,aZ,ba,bb,bc,be,bf,bg,bh,bi,bj,bk,bl,bm,bn,j,k,l,m,n,o,p,q,r,s,t,u,v,w,x,y,z,A,B,C].toArray,[]⟩
def I18(S i a:Nat)(raw:List Int)(m:Zp)(o p U af aq aN aX ba bl K M N O P Q R T V W X Y Z aa ab ac ad ae ag ah ai aj ak al am an ao ap ar au av aw ax ay az aA aB aC aD aE aF aG aH aI aJ aK aL aM aO aP aQ aR aS aT aU aV aW aY aZ bb bc bd be bf bg bh bi bj bk bm bn bo bp bq br bs bt bu bv q r s t u v w x y z A B C D E F G H I J:Value)(L:Nat→Bool)(n:Act)(w':Zp):Prop:=
 ∃b c d e f g h j k l:Value,V18 S i a raw m L b c d e f g h j k l w'∧n=⟨[o,p,U,af,aq,.pointer (some ⟨S,0,none⟩),aN,aX,ba,bl,.int .i64 (i:Int),b,K,M,N,O,P,Q,R,T,V,W,X,Y,Z,aa,ab,ac,ad,ae,ag,ah,ai,aj,ak,al,am,an,ao,ap,ar,au,av,aw,ax,ay,az,aA,aB,aC,aD,aE,aF,aG,aH,aI,aJ,aK,aL,aM,aO,aP,aQ,aR,aS,aT,aU,aV,aW,c,d,e,f,g,h,j,k,l,aY,aZ,bb,bc,bd,be,bf,bg,bh,bi,bj,bk,bm,bn,bo,bp,bq,br,bs,bt,bu,bv,q,r,s,t,u,v,w,x,y,z,A,B,C,D,E,F,G,H,I,J].toArray,[]⟩
theorem vQ(S i a:Nat)(raw:List Int)(I:Zp)(R:Az I S raw a)(cR:1≤i∧i≤2){T U az aK aV bq bC bF bQ cf ap aq ar au av aw ax ay aA aB aC aD aE aF aG aH aI aJ aL aM aN aO aP aQ aR aS aT aU aW aX aY aZ ba bb bc bd be bf bg bh bi bj bk bl bm bn bo bp br bs bt bu bv bw bx bz bB cg ch ci cj ck cl cm cn co bD bE bG bH bI bJ bK bL bM bN bO bP bR bS bT bU bV bW bX bY bZ ca V W X Y Z aa ab ac ad ae af ag ah ai aj ak al am an ao:Value}(cb q:Act→Zp→Prop)(hJ:∀J w',R18 S i a raw I T U az aK aV bq bC bF bQ ap aq ar au av aw ax ay aA aB aC aD aE aF aG aH aI aJ aL aM aN aO aP aQ aR aS aT aU aW aX aY aZ ba bb bc bd be bf bg bh bi bj bk bl bm bn bo bp br bs bt bu bv bw bx bz bB bD bE bG bH bI bJ bK bL bM bN bO bP bR bS bT bU bV bW bX bY bZ ca V W X Y Z aa ab ac ad ae af ag ah ai aj ak al am an ao J w'→cb J w')(hM:∀J w',Met cb J w'→q J w'):
  Code.wp Zb (sZ 18) (Exit.then q (fun _ _ _=>False)) ⟨[T,U,az,aK,aV,.pointer (some ⟨S,0,none⟩),bq,bC,bF,bQ,.int .i64 (i:Int),cf,ap,aq,ar,au,av,aw,ax,ay,aA,aB,aC,aD,aE,aF,aG,aH,aI,aJ,aL,aM,aN,aO,aP,aQ,aR,aS,aT,aU,aW,aX,aY,aZ,ba,bb,bc,bd,be,bf,bg,bh,bi,bj,bk,bl,bm,bn,bo,bp,br,bs,bt,bu,bv,bw,bx,bz,bB,cg,ch,ci,cj,ck,cl,cm,cn,co,bD,bE,bG,bH,bI,bJ,bK,bL,bM,bN,bO,bP,bR,bS,bT,bU,bV,bW,bX,bY,bZ,ca,V,W,X,Y,Z,aa,ab,ac,ad,ae,af,ag,ah,ai,aj,ak,al,am,an,ao].toArray,[]⟩ I:=by
 conv=>arg 2;whnf
 dsimp only;refine Fv (by kernel_rfl) (by kernel_rfl) (I18 S i a raw I T U az aK aV bq bC bF bQ ap aq ar au av aw ax ay aA aB aC aD aE aF aG aH aI aJ aL aM aN aO aP aQ aR aS aT aU aW aX aY aZ ba bb bc bd be bf bg bh bi bj bk bl bm bn bo bp br bs bt bu bv bw bx bz bB bD bE bG bH bI bJ bK bL bM bN bO bP bR bS bT bU bV bW bX bY bZ ca V W X Y Z aa ab ac ad ae af ag ah ai aj ak al am an ao) ?_ ?_ ?_
 ·refine⟨cf,cg,ch,ci,cj,ck,cl,cm,cn,co,⟨Zd (Zc _ _).drew,by rw[if_neg (by decide)];exact R.old (Zc _ _).drew,fun f=>(by cases f),fun f=>(by cases f),fun f=>(by cases f),fun f=>(by cases f),fun f=>(by cases f),fun f=>(by cases f),fun f=>(by cases f),fun f=>(by cases f),fun f=>(by cases f),fun f=>(by cases f),fun f=>(by cases f),fun f=>(by cases f)⟩,rfl⟩
 ·intro L cp g k P Q l m
  obtain⟨t,u,v,w,x,y,z,A,B,C,c,rfl⟩:=P;have Q:k=0∨k=1∨k=2∨k=3∨k=4∨k=5∨k=6∨k=7∨k=8∨k=9∨k=10:=by
   have:k<11:=Q;omega
  rcases Q with rfl|rfl|rfl|rfl|rfl|rfl|rfl|rfl|rfl|rfl|rfl
  ·have d:=un c.ord l
   have s:Zt g.heap.size g (g.alloc (.cells (Cm Fj).toArray 9)):=bA;have h:∀b p o,I.heap.size≤b→Ad g b p o→Ad (g.alloc (.cells (Cm Fj).toArray 9)) b p o:=fun b p o _ f=>f.old s
   obtain⟨F,D,E⟩:=Y3 c m l;refine Bh rfl rfl (fun q G=>?_)
   conv=>arg 2;whnf
   go_wp2;exact⟨t,κ g.heap.size 3 3,v,w,x,y,z,A,B,C,⟨c.fr.trans (Zd s),uj (c.src.old s),ux d,(fun _ _=>⟨g.heap.size,rfl,c.fr.size,Ze g (Cm Fj) _⟩),uc c.c1,uk h c.c2,uc c.c3,uk h c.c4,uc c.c5,uc c.c6,uk h c.c7,uk h c.c8,uk h c.c9,ux d⟩,rfl⟩
  ·have d:=un c.ord l
   obtain⟨F,D,E⟩:=Y3 c m l;refine Bh rfl rfl (fun q G=>?_)
   conv=>arg 2;whnf
   go_wp2;exact⟨t,u,ι (i:Int),w,x,y,z,A,B,C,⟨c.fr,uj c.src,ux d,uw c.c0,(fun _=>rfl),uw c.c2,uc c.c3,uw c.c4,uc c.c5,uc c.c6,uw c.c7,uw c.c8,uw c.c9,ux d⟩,rfl⟩
  ·have d:=un c.ord l
   have cr:L 0=true:=m _ rfl ⟨0,.data⟩ (by simp) rfl;have cs:L 1=true:=m _ rfl ⟨1,.data⟩ (by simp) rfl;obtain⟨b,rfl,r,n⟩:=c.c0 cr d;obtain rfl:=c.c1 cs;have cS:(i:Int)<3:=by omega
   obtain⟨F,D,E⟩:=Y3 c m l;refine Bh rfl rfl (fun q G=>?_)
   conv=>arg 2;whnf
   go_wp2;exact⟨t,κ b 3 3,ι (i:Int),.pointer (some ⟨b,i,none⟩),x,y,z,A,B,C,⟨c.fr,uj c.src,ux d,uw c.c0,uc c.c1,(fun _ _=>⟨b,rfl,r,n⟩),uc c.c3,uw c.c4,uc c.c5,uc c.c6,uw c.c7,uw c.c8,uw c.c9,ux d⟩,rfl⟩
  ·have d:=un c.ord l
   have ct:L 2=true:=m _ rfl ⟨2,.data⟩ (by simp) rfl;obtain⟨b,rfl,r,n⟩:=c.c2 ct d;have hx:=n.at i _ (tU ⟨i,by omega⟩);obtain⟨F,D,E⟩:=Y3 c m l;refine Bh rfl rfl (fun q G=>?_)
   conv=>arg 2;whnf
   go_wp2;exact⟨t,u,v,.pointer (some ⟨b,i,none⟩),σ (Fj.getD i []),y,z,A,B,C,⟨c.fr,uj c.src,ux d,uw c.c0,uc c.c1,uw c.c2,(fun _=>rfl),uw c.c4,uc c.c5,uc c.c6,uw c.c7,uw c.c8,uw c.c9,ux d⟩,rfl⟩
  ·have d:=un c.ord l
   have s:Zt g.heap.size g (g.alloc (.cells (Cm Hw).toArray 9)):=bA;have h:∀b p o,I.heap.size≤b→Ad g b p o→Ad (g.alloc (.cells (Cm Hw).toArray 9)) b p o:=fun b p o _ f=>f.old s
   obtain⟨F,D,E⟩:=Y3 c m l;refine Bh rfl rfl (fun q G=>?_)
   conv=>arg 2;whnf
   go_wp2;exact⟨t,u,v,w,x,κ g.heap.size 6 6,z,A,B,C,⟨c.fr.trans (Zd s),uj (c.src.old s),ux d,uk h c.c0,uc c.c1,uk h c.c2,uc c.c3,(fun _ _=>⟨g.heap.size,rfl,c.fr.size,Ze g (Cm Hw) _⟩),uc c.c5,uc c.c6,uk h c.c7,uk h c.c8,uk h c.c9,ux d⟩,rfl⟩
  ·have d:=un c.ord l
   obtain⟨F,D,E⟩:=Y3 c m l;refine Bh rfl rfl (fun q G=>?_)
   conv=>arg 2;whnf
   go_wp2;exact⟨t,u,v,w,x,y,π S,A,B,C,⟨c.fr,uj c.src,ux d,uw c.c0,uc c.c1,uw c.c2,uc c.c3,uw c.c4,(fun _=>rfl),uc c.c6,uw c.c7,uw c.c8,uw c.c9,ux d⟩,rfl⟩
  ·have d:=un c.ord l
   have cw:L 5=true:=m _ rfl ⟨5,.data⟩ (by simp) rfl;obtain rfl:=c.c5 cw;have K:=c.src;rw[if_neg (by rw[l];decide)]at K;have cJ:=R.lt;obtain⟨F,D,E⟩:=Y3 c m l;refine Bh rfl rfl (fun q G=>?_)
   conv=>arg 2;whnf
   go_wp2_with fail;refine(Co S raw a 7 g K (by decide) (by decide)).mono ?_;rintro cX w2 ⟨rfl,cI,cd⟩;have h:∀b p o,I.heap.size≤b→Ad g b p o→Ad w2 b p o:=fun b p o r f=>f.sfr cd (by omega)
   go_wp2;exact⟨t,u,v,w,x,y,π S,ι (Ab raw a 7).1,B,C,⟨c.fr.trans cd,(by rw[Bo,if_pos rfl];exact cI),ux d,uk h c.c0,uc c.c1,uk h c.c2,uc c.c3,uk h c.c4,uc c.c5,(fun _=>rfl),uk h c.c7,uk h c.c8,uk h c.c9,ux d⟩,rfl⟩
  ·have d:=un c.ord l
   have cv:L 4=true:=m _ rfl ⟨4,.data⟩ (by simp) rfl;have cx:L 6=true:=m _ rfl ⟨6,.data⟩ (by simp) rfl;obtain⟨b,rfl,r,n⟩:=c.c4 cv d;obtain rfl:=c.c6 cx;have cH:=Am raw a 7 (by decide);obtain⟨cO,cP⟩:=cH;obtain⟨F,D,E⟩:=Y3 c m l;refine Bh rfl rfl (fun q G=>?_)
   conv=>arg 2;whnf
   go_wp2;exact⟨t,u,v,w,x,κ b 6 6,z,ι (Ab raw a 7).1,.slice (some ⟨b,0,none⟩) (Ab raw a 7).1.toNat 6,C,⟨c.fr,uj c.src,ux d,uw c.c0,uc c.c1,uw c.c2,uc c.c3,uw c.c4,uc c.c5,uc c.c6,(fun _ _=>⟨b,rfl,r,n⟩),uw c.c8,uw c.c9,ux d⟩,rfl⟩
  ·have d:=un c.ord l
   have cu:L 3=true:=m _ rfl ⟨3,.data⟩ (by simp) rfl;have cy:L 7=true:=m _ rfl ⟨7,.data⟩ (by simp) rfl;obtain rfl:=c.c3 cu;obtain⟨b,rfl,r,n⟩:=c.c7 cy d;obtain⟨F,D,E⟩:=Y3 c m l;refine Bh rfl rfl (fun q G=>?_)
   conv=>arg 2;whnf
   go_wp2;exact⟨t,u,v,w,σ (Fj.getD i []),y,z,A,.slice (some ⟨b,0,none⟩) (Ab raw a 7).1.toNat 6,.agg #[σ (Fj.getD i []),.slice (some ⟨b,0,none⟩) (Ab raw a 7).1.toNat 6,ν,ν],⟨c.fr,uj c.src,ux d,uw c.c0,uc c.c1,uw c.c2,uc c.c3,uw c.c4,uc c.c5,uc c.c6,uw c.c7,(fun _ _=>⟨b,rfl,r,n⟩),uw c.c9,ux d⟩,rfl⟩
  ·have d:=un c.ord l
   have s:Zt g.heap.size g (g.alloc (.cells #[ε,ν,ν,ν] 48)):=bA;have h:∀b p o,I.heap.size≤b→Ad g b p o→Ad (g.alloc (.cells #[ε,ν,ν,ν] 48)) b p o:=fun b p o _ f=>f.old s
   obtain⟨F,D,E⟩:=Y3 c m l;refine Bh rfl rfl (fun q G=>?_)
   conv=>arg 2;whnf
   go_wp2;exact⟨π g.heap.size,u,v,w,x,y,z,A,B,C,⟨c.fr.trans (Zd s),uj (c.src.old s),ux d,uk h c.c0,uc c.c1,uk h c.c2,uc c.c3,uk h c.c4,uc c.c5,uc c.c6,uk h c.c7,uk h c.c8,(fun _ _=>⟨g.heap.size,rfl,c.fr.size,Ze g [ε,ν,ν,ν] _⟩),ux d⟩,rfl⟩
  ·have d:=l
   have cA:L 9=true:=m _ rfl ⟨9,.data⟩ (by simp) rfl;have cz:L 8=true:=m _ rfl ⟨8,.data⟩ (by simp) rfl;obtain⟨b,rfl,r,n⟩:=c.c9 cA d;obtain⟨H,rfl,cG,ce⟩:=c.c8 cz d;have N:H≠b:=by
    rintro rfl;have e:=n.symm.trans ce;simp at e
   have cq:∀j,j<10→L j=true:=fun j O=>by
    have O:j=0∨j=1∨j=2∨j=3∨j=4∨j=5∨j=6∨j=7∨j=8∨j=9:=by omega
    rcases O with rfl|rfl|rfl|rfl|rfl|rfl|rfl|rfl|rfl|rfl<;>exact m _ rfl ⟨_,.phase⟩ (by simp) rfl
   have cT:=n.at 0 _ rfl;have cK:=n.fz 0;have cU:=n.at 1 _ rfl;have cL:=n.fz 1;have cV:=n.at 2 _ rfl;have cM:=n.fz 2;have cW:=n.at 3 _ rfl;have cN:=n.fz 3;have cQ:=n.lt;have cJ:=R.lt;have M:S<b:=by omega
   obtain⟨F,D,E⟩:=Y3 c m l;refine Bh rfl rfl (fun q G=>?_)
   conv=>arg 2;whnf
   go_wp2;exact⟨π b,u,v,w,x,y,z,A,B,.agg #[σ (Fj.getD i []),.slice (some ⟨H,0,none⟩) (Ab raw a 7).1.toNat 6,ν,ν],⟨(((c.fr.setNew r 0 (σ (Fj.getD i []))).setNew r 1 (.slice (some ⟨H,0,none⟩) (Ab raw a 7).1.toNat 6)).setNew r 2 (ν)).setNew r 3 (ν),uj ((((c.src.other M 0 (σ (Fj.getD i []))).other M 1 (.slice (some ⟨H,0,none⟩) (Ab raw a 7).1.toNat 6)).other M 2 (ν)).other M 3 (ν)),(fun _ j O=>by rw[Ay L (show j≠10 by omega)];exact cq j O),uz,uc c.c1,uz,uc c.c3,uz,uc c.c5,uc c.c6,uz,uz,uz,(fun _=>⟨b,H,rfl,r,(((n.set 0 (σ (Fj.getD i []))).set 1 (.slice (some ⟨H,0,none⟩) (Ab raw a 7).1.toNat 6)).set 2 (ν)).set 3 (ν),cG,(((ce.other N 0 (σ (Fj.getD i []))).other N 1 (.slice (some ⟨H,0,none⟩) (Ab raw a 7).1.toNat 6)).other N 2 (ν)).other N 3 (ν)⟩)⟩,rfl⟩
 ·intro L cp g P cc
  obtain⟨t,u,v,w,x,y,z,A,B,C,c,rfl⟩:=P;obtain⟨b,H,cB,cC,cD,cE,cF⟩:=c.c10 (cc 10 (by decide));have K:=c.src;rw[if_pos (cc 6 (by decide))]at K;exact hM _ _ (Met.intro (hJ _ _ ⟨t,u,v,w,x,y,z,A,B,C,⟨b,H,cB,cC,cD,cE,cF,K,c.fr⟩,rfl⟩))
theorem lB(l:List Bs):∀u,u∈Cm l→u.oneCell'=true:=by
 intro u a;obtain⟨x,_,rfl⟩:=List.mem_map.1 a;rfl
theorem Ww(l:List Bs):(Cm l).length=l.length:=Zf _
theorem Uo(w:Zp)(h:Nat)(t:TypeId)(v:Value)(n:Nat)(xs:List Value)(q:w.ownsRow h 9 1 v n xs){D:Nat→Prop}(l:List Bs)(s:Value)(G:Bb D w l s)(O:n+l.length≤1000)(B:h≤w.heap.size):
  ∃f w',(Builtin.append_ #[38,38] t #[v,s]).run Zb w=.ok f w'∧w'.ownsRow h 9 1 f (n+l.length) (xs++Cm l)∧w.grownBy w' v.ownBlock∧(f.ownBlock=v.ownBlock∨f.ownBlock=some w.heap.size):=by
 obtain⟨K,o,H,I,J⟩:=info_parts infoStr;obtain⟨a,cap,b,r,rfl,M,N,d,y⟩:=G
 cases a with
 |none=>
  have x:l=[]:=by
   rcases d with d|d
   ·exact Zl.1 d
   ·cases d.1
  subst x;refine⟨v,w,?_,by simpa [Cm]using q,World.grownBy.refl w _,.inl rfl⟩;rcases q.2 with⟨rfl,rfl⟩|⟨g,c,L,rfl,_,_,E,_⟩
  ·simp [Builtin.append_,run_underlying underlying38,sizeOf,typeInfo,o,Builtin.lenOf,Builtin.firstCells]
  ·simp [Builtin.append_,run_underlying underlying38,sizeOf,typeInfo,o,Builtin.lenOf,Builtin.firstCells,E,storeCells]
 |some ad=>
  have C:∀j u,(Cm l)[j]? =some u→w.cell? (ad.add j)=some u:=by
   intro j u i;have p:j<l.length:=by
    rcases Nat.lt_or_ge j l.length with k|k
    ·exact k
    ·rw[List.getElem?_eq_none (by rw[Ww];exact k)]at i;cases i
   rcases d with d|⟨d,_⟩
   ·omega
   ·cases d
    have e:(Cm l)[j]? =some (σ (l.getD j [])):=by
     unfold Cm;rw[List.getElem?_map,Zg p,Zn,Zg p];rfl
    rw[e]at i
    cases i
    have m:(⟨b,r,none⟩:Zr).add j=⟨b,r+j,none⟩:=by unfold Addr.add;split<;>simp_all
    rw[m];exact y j p
  obtain⟨f,w',F,m,z,_,A⟩:=run_append_own_at (P:=Zb) w h 38 t 9 K _ 1 16 underlying38 o H I J rfl (by decide) v n xs q ad l.length cap (Cm l) (by rw[Ww,Nat.mul_one]) C (lB l) (by unfold maxLen;omega) (by omega) B;exact⟨f,w',F,m,z,A⟩
theorem Op {d:Oper}{a:Act}{w:Zp}{f:Act→Zp→Prop}{Q:Exit→Act→Zp→Prop}{s x:Operand}(p:d.op=.call {callee:=.builtin .append,args:= #[s,x],argTypes:= #[38,38]})
  (c:Nat) (v:Value) (n:Nat) (xs:List Value) (t:a.eval s=v) (q:w.ownsRow c 9 1 v n xs) {D:Nat→Prop} (l:List Bs) (e:Value) (hx:a.eval x=e) (m:Bb D w l e) (o:n+l.length≤1000) (k:c≤w.heap.size)
  (g:∀b w',w'.ownsRow c 9 1 b (n+l.length) (xs++Cm l)→w.grownBy w' v.ownBlock→(b.ownBlock=v.ownBlock∨b.ownBlock=some w.heap.size)→f (a.put d.dst b) w'):d.wp Zb a w f Q:=by
 obtain⟨b,w',r,h,i,j⟩:=Uo w c d.type v n xs q l e m o k;unfold Oper.wp execOp;simp only[p,resolve,invoke,builtin,Sem.run_bind,Sem.run_pure,Result.andThen_ok,List.map_toArray,List.map_cons,List.map_nil,t,hx,r];exact g b w' h i j
theorem qZ {w:Zp}{b f n:Nat}{e:TypeId}{v:Value}{xs:List Value}(d:w.ownsRow b e f v n xs):∃a k c,v=.slice a k c:=by
 rcases d.2 with⟨rfl,_⟩|⟨g,cap,h,rfl,_⟩
 ·exact⟨_,_,_,rfl⟩
 ·exact⟨_,_,_,rfl⟩
theorem rV {w:Zp}{a:Nat}{v:Value}{l:List Bs}(b:w.ownsRow a 9 1 v l.length (Cm l))(h:Cv l.length):Bb (a≤ ·) w l v:=by
 have d:=b;rcases b.2 with⟨rfl,j⟩|⟨g,cap,k,rfl,e,m,f,n,o,p⟩
 ·have:l=[]:=Zl.1 j
  subst this;exact Bb.zero
 ·refine⟨_,cap,g,0,rfl,f,h,.inr ⟨rfl,e⟩,fun i c=>?_⟩
  refine Li d i _ ?_;unfold Cm;rw[List.getElem?_map,Zg c,Zn,Zg c];rfl
structure V26 (f n:Nat)(nm:Bs)(ps ls:List Bs)(pv lv bd x1 x2 x3 x4:Value)(W:Zp)(L:Nat→Bool)(z102 z103 z104 z105 z106 z107 z108:Value)(wx:Zp):Prop where
 fr:SFr n W wx
 ord:L 7=true→∀j,j<7→L j=true
 own:Ad wx n (if L 7=true then [z107,x1,x2,x3,x4]else [.slice none 0 0,x1,x2,x3,x4]) 69
 c0:L 0=true→z102=.pointer (some ⟨f,1,none⟩)
 c1:L 1=true→z103=pv
 c2:L 2=true→L 5=false→wx.ownsRow W.heap.size 9 1 z104 ps.length (Cm ps)
 c3:L 3=true→z105=.pointer (some ⟨f,2,none⟩)
 c4:L 4=true→z106=lv
 c5:L 5=true→wx.ownsRow W.heap.size 9 1 z107 (ps++ls).length (Cm (ps++ls))
 c6:L 6=true→z108=.pointer (some ⟨n,0,none⟩)
 c25:L 5=true→¬L 2=false
def R26(f n:Nat)(nm:Bs)(d c:List Bs)(pv lv bC bq br bs bt:Value)(a:Zp)(e g E P aa al ay aJ aU bf h l y z A B C D F G H I J K L M N O Q R S T U V W X Y Z ab ac ad ae af ag ah ai aj ak am an ao ap aq ar au av aw ax az aA aB aC aD aE aF aG aH aI aK aL aM aN aO aP aQ aR aS aT aV aW aX aY aZ ba bb bc bd be bg bh bi bj bk bl bm bn bo bp i j k m o p q r s t u w x:Value)(b:Act)(w':Zp):Prop:=
 ∃bu bv bw bx bz bA bB:Value,(∃v,Ad w' n [v,bq,br,bs,bt] 69∧Bb (a.heap.size≤ ·) w' (d++c) v∧SFr n a w')∧b=⟨[e,g,E,P,aa,al,ay,aJ,aU,bf,h,l,y,.pointer (some ⟨f,0,none⟩),.pointer (some ⟨n,0,none⟩),z,A,B,C,D,F,G,H,I,J,K,L,M,N,O,Q,R,S,T,U,V,W,X,Y,Z,ab,ac,ad,ae,af,ag,ah,ai,aj,ak,am,an,ao,ap,aq,ar,au,av,aw,ax,az,aA,aB,aC,aD,aE,aF,aG,aH,aI,aK,aL,aM,aN,aO,aP,aQ,aR,aS,aT,aV,aW,aX,aY,aZ,ba,bb,bc,bd,be,bg,bh,bi,bj,bk,bl,bm,bn,bo,bp,i,j,bu,bv,bw,bx,bz,bA,bB,k,m,o,p,q,r,s,t,u,w,x].toArray,[]⟩
def I26(f n:Nat)(nm:Bs)(m l:List Bs)(pv lv k bz bA bB bC:Value)(i:Zp)(o p M X ai av aG aR bc bn q u F G H I J K N O P Q R S T U V W Y Z aa ab ac ad ae af ag ah aj ak al am an ao ap aq ar au aw ax ay az aA aB aC aD aE aF aH aI aJ aK aL aM aN aO aP aQ aS aT aU aV aW aX aY aZ ba bb bd be bf bg bh bi bj bk bl bm bo bp bq br bs bt bu bv bw bx r s t v w x y z A B C D E:Value)(L:Nat→Bool)(j:Act)(w':Zp):Prop:=
 ∃a b c d e g h:Value,V26 f n nm m l pv lv k bz bA bB bC i L a b c d e g h w'∧j=⟨[o,p,M,X,ai,av,aG,aR,bc,bn,q,u,F,.pointer (some ⟨f,0,none⟩),.pointer (some ⟨n,0,none⟩),G,H,I,J,K,N,O,P,Q,R,S,T,U,V,W,Y,Z,aa,ab,ac,ad,ae,af,ag,ah,aj,ak,al,am,an,ao,ap,aq,ar,au,aw,ax,ay,az,aA,aB,aC,aD,aE,aF,aH,aI,aJ,aK,aL,aM,aN,aO,aP,aQ,aS,aT,aU,aV,aW,aX,aY,aZ,ba,bb,bd,be,bf,bg,bh,bi,bj,bk,bl,bm,bo,bp,bq,br,bs,bt,bu,bv,bw,bx,r,s,a,b,c,d,e,g,h,t,v,w,x,y,z,A,B,C,D,E].toArray,[]⟩
theorem yQ(f n:Nat)(nm:Bs)(l s:List Bs)(pv lv N cd ce cf cg:Value)(i:Zp)(cm:Ad i f [.string (Aa nm),pv,lv,N] 48)(cp:Ad i n [.slice none 0 0,cd,ce,cf,cg] 69)(cn:f≠n)(cN:Bb (· ≠n) i l pv)(cL:Bb (· ≠n) i s lv)(cR:l.length+s.length≤1000){S T ap aC aN aY bj bu bG bR U Y aj ak al am an ao aq ar au av aw ax ay az aA aB aD aE aF aG aH aI aJ aK aL aM aO aP aQ aR aS aT aU aV aW aX aZ ba bb bc bd be bf bg bh bi bk bl bm bn bo bp bq br bs bt bv bw bx bz bA bB bC bD bE bF bH bI bJ bK bL bM bN bO bP bQ bS bT bU bV bW bX bY bZ ca cb V W cr cs ct cu cv cw cx X Z aa ab ac ad ae af ag ah ai:Value}(ch o:Act→Zp→Prop)(hJ:∀G w',R26 f n nm l s pv lv N cd ce cf cg i S T ap aC aN aY bj bu bG bR U Y aj ak al am an ao aq ar au av aw ax ay az aA aB aD aE aF aG aH aI aJ aK aL aM aO aP aQ aR aS aT aU aV aW aX aZ ba bb bc bd be bf bg bh bi bk bl bm bn bo bp bq br bs bt bv bw bx bz bA bB bC bD bE bF bH bI bJ bK bL bM bN bO bP bQ bS bT bU bV bW bX bY bZ ca cb V W X Z aa ab ac ad ae af ag ah ai G w'→ch G w')(hM:∀G w',Met ch G w'→o G w'):
  Code.wp Zb (sZ 26) (Exit.then o (fun _ _ _=>False)) ⟨[S,T,ap,aC,aN,aY,bj,bu,bG,bR,U,Y,aj,.pointer (some ⟨f,0,none⟩),.pointer (some ⟨n,0,none⟩),ak,al,am,an,ao,aq,ar,au,av,aw,ax,ay,az,aA,aB,aD,aE,aF,aG,aH,aI,aJ,aK,aL,aM,aO,aP,aQ,aR,aS,aT,aU,aV,aW,aX,aZ,ba,bb,bc,bd,be,bf,bg,bh,bi,bk,bl,bm,bn,bo,bp,bq,br,bs,bt,bv,bw,bx,bz,bA,bB,bC,bD,bE,bF,bH,bI,bJ,bK,bL,bM,bN,bO,bP,bQ,bS,bT,bU,bV,bW,bX,bY,bZ,ca,cb,V,W,cr,cs,ct,cu,cv,cw,cx,X,Z,aa,ab,ac,ad,ae,af,ag,ah,ai].toArray,[]⟩ i:=by
 have cS:=cp.lt
 conv=>arg 2;whnf
 dsimp only;refine Fv (by kernel_rfl) (by kernel_rfl) (I26 f n nm l s pv lv N cd ce cf cg i S T ap aC aN aY bj bu bG bR U Y aj ak al am an ao aq ar au av aw ax ay az aA aB aD aE aF aG aH aI aJ aK aL aM aO aP aQ aR aS aT aU aV aW aX aZ ba bb bc bd be bf bg bh bi bk bl bm bn bo bp bq br bs bt bv bw bx bz bA bB bC bD bE bF bH bI bJ bK bL bM bN bO bP bQ bS bT bU bV bW bX bY bZ ca cb V W X Z aa ab ac ad ae af ag ah ai) ?_ ?_ ?_
 ·exact⟨cr,cs,ct,cu,cv,cw,cx,⟨Zd (Zc _ _).drew,fun b=>(by cases b),by rw[if_neg (by decide)];exact cp.old (Zc _ _).drew,fun b=>(by cases b),fun b=>(by cases b),fun b=>(by cases b),fun b=>(by cases b),fun b=>(by cases b),fun b=>(by cases b),fun b=>(by cases b),fun b=>(by cases b)⟩,rfl⟩
 ·intro L cy J k O K h g
  obtain⟨u,p,m,v,q,t,w,a,rfl⟩:=O;have K:k=0∨k=1∨k=2∨k=3∨k=4∨k=5∨k=6∨k=7:=by
   have:k<8:=K;omega
  rcases K with rfl|rfl|rfl|rfl|rfl|rfl|rfl|rfl
  ·have c:=un a.ord h
   have d:=a.own;rw[c,if_neg (by decide)]at d;obtain⟨z,x,y⟩:=Y3 a g h;refine Bh rfl rfl (fun o A=>?_)
   conv=>arg 2;whnf
   go_wp2;exact⟨.pointer (some ⟨f,1,none⟩),p,m,v,q,t,w,⟨a.fr,ux c,(by rw[Ay L (show 7≠0 by decide),c];exact d),(fun _=>rfl),uc a.c1,uw a.c2,uc a.c3,uc a.c4,uc a.c5,uc a.c6,(fun b=>by rw[Ay L (show 2≠0 by decide)];exact a.c25 (by rwa[Ay L (show 5≠0 by decide)]at b))⟩,rfl⟩
  ·have c:=un a.ord h
   have cA:L 0=true:=g _ rfl ⟨0,.data⟩ (by simp) rfl;have d:=a.own;rw[c,if_neg (by decide)]at d;obtain rfl:=a.c0 cA;have I:=cm.sfr a.fr cn;have cF:=I.at 1 _ rfl;have cG:=I.at 2 _ rfl;obtain⟨z,x,y⟩:=Y3 a g h;refine Bh rfl rfl (fun o A=>?_)
   conv=>arg 2;whnf
   go_wp2;exact⟨.pointer (some ⟨f,1,none⟩),pv,m,v,q,t,w,⟨a.fr,ux c,(by rw[Ay L (show 7≠1 by decide),c];exact d),uc a.c0,(fun _=>rfl),uw a.c2,uc a.c3,uc a.c4,uc a.c5,uc a.c6,(fun b=>by rw[Ay L (show 2≠1 by decide)];exact a.c25 (by rwa[Ay L (show 5≠1 by decide)]at b))⟩,rfl⟩
  ·have c:=un a.ord h
   have cB:L 1=true:=g _ rfl ⟨1,.data⟩ (by simp) rfl;have d:=a.own;rw[c,if_neg (by decide)]at d;obtain rfl:=a.c1 cB;have cP:L 5=false:=by
    cases b:L 5 with
    |false=>rfl
    |true=>exact absurd (a.c25 b) (by rw[h];decide)
   have cM:=cN.keep a.fr.keeps;obtain⟨z,x,y⟩:=Y3 a g h;refine Bh rfl rfl (fun o A=>?_)
   conv=>arg 2;whnf
   refine Op rfl i.heap.size (ν) 0 [] rfl ⟨rfl,.inl ⟨rfl,rfl⟩⟩ l p rfl cM (by omega) a.fr.size ?_;intro cc w2 M r cH;rw[Nat.zero_add,List.nil_append]at M;have P:SFr n J w2:=⟨r.os,r.tape,r.output,r.size,fun j B _=>r.block j B (by simp [Value.ownBlock])⟩;have Q:Ad w2 n _ _:=d.low (r.block n d.lt (by simp [Value.ownBlock]));go_wp2;exact⟨u,p,cc,v,q,t,w,⟨a.fr.trans P,ux c,(by rw[Ay L (show 7≠2 by decide),c];exact Q),uc a.c0,uc a.c1,(fun _ _=>M),uc a.c3,uc a.c4,(fun b=>by rw[Ay L (show 5≠2 by decide),cP]at b;cases b),uc a.c6,(fun _=>by rw[Bo];decide)⟩,rfl⟩
  ·have c:=un a.ord h
   have d:=a.own;rw[c,if_neg (by decide)]at d;obtain⟨z,x,y⟩:=Y3 a g h;refine Bh rfl rfl (fun o A=>?_)
   conv=>arg 2;whnf
   go_wp2;exact⟨u,p,m,.pointer (some ⟨f,2,none⟩),q,t,w,⟨a.fr,ux c,(by rw[Ay L (show 7≠3 by decide),c];exact d),uc a.c0,uc a.c1,uw a.c2,(fun _=>rfl),uc a.c4,uc a.c5,uc a.c6,(fun b=>by rw[Ay L (show 2≠3 by decide)];exact a.c25 (by rwa[Ay L (show 5≠3 by decide)]at b))⟩,rfl⟩
  ·have c:=un a.ord h
   have cC:L 3=true:=g _ rfl ⟨3,.data⟩ (by simp) rfl;have d:=a.own;rw[c,if_neg (by decide)]at d;obtain rfl:=a.c3 cC;have I:=cm.sfr a.fr cn;have cF:=I.at 1 _ rfl;have cG:=I.at 2 _ rfl;obtain⟨z,x,y⟩:=Y3 a g h;refine Bh rfl rfl (fun o A=>?_)
   conv=>arg 2;whnf
   go_wp2;exact⟨u,p,m,.pointer (some ⟨f,2,none⟩),lv,t,w,⟨a.fr,ux c,(by rw[Ay L (show 7≠4 by decide),c];exact d),uc a.c0,uc a.c1,uw a.c2,uc a.c3,(fun _=>rfl),uc a.c5,uc a.c6,(fun b=>by rw[Ay L (show 2≠4 by decide)];exact a.c25 (by rwa[Ay L (show 5≠4 by decide)]at b))⟩,rfl⟩
  ·have c:=un a.ord h
   have ci:L 2=true:=g _ rfl ⟨2,.data⟩ (by simp) rfl;have cD:L 4=true:=g _ rfl ⟨4,.data⟩ (by simp) rfl;have d:=a.own;rw[c,if_neg (by decide)]at d;obtain rfl:=a.c4 cD;have cq:=a.c2 ci h;have cK:=cL.keep a.fr.keeps;have co:∀k,m.ownBlock=some k→i.heap.size≤k:=fun k e=>(World.ownsRow.lt cq k e).1
   obtain⟨z,x,y⟩:=Y3 a g h;refine Bh rfl rfl (fun o A=>?_)
   conv=>arg 2;whnf
   refine Op rfl i.heap.size m l.length (Cm l) rfl cq s q rfl cK (by omega) a.fr.size ?_;intro cc w2 M r cH;have P:SFr n i w2:=a.fr.grow r co;have Q:Ad w2 n _ _:=d.low (r.block n d.lt (fun e=>by have:=co n e.symm;omega));go_wp2;exact⟨u,p,m,v,q,cc,w,⟨P,ux c,(by rw[Ay L (show 7≠5 by decide),c];exact Q),uc a.c0,uc a.c1,(fun _ H=>by rw[Bo]at H;cases H),uc a.c3,uc a.c4,(fun _=>by rw[Zi,show Cm (l++s)=Cm l++Cm s from List.map_append];exact M),uc a.c6,(fun _=>by rw[Ay L (show 2≠5 by decide),ci];decide)⟩,rfl⟩
  ·have c:=un a.ord h
   have d:=a.own;rw[c,if_neg (by decide)]at d;obtain⟨z,x,y⟩:=Y3 a g h;refine Bh rfl rfl (fun o A=>?_)
   conv=>arg 2;whnf
   go_wp2;exact⟨u,p,m,v,q,t,π n,⟨a.fr,ux c,(by rw[Ay L (show 7≠6 by decide),c];exact d),uc a.c0,uc a.c1,uw a.c2,uc a.c3,uc a.c4,uc a.c5,(fun _=>rfl),(fun b=>by rw[Ay L (show 2≠6 by decide)];exact a.c25 (by rwa[Ay L (show 5≠6 by decide)]at b))⟩,rfl⟩
  ·have c:=h
   have cE:L 6=true:=g _ rfl ⟨6,.data⟩ (by simp) rfl;have cj:L 5=true:=g _ rfl ⟨5,.data⟩ (by simp) rfl;have d:=a.own;rw[c,if_neg (by decide)]at d;obtain rfl:=a.c6 cE;have R:=a.c5 cj;obtain⟨C,F,E,rfl⟩:=qZ R;have cz:∀j,j<7→L j=true:=fun j B=>by
    have B:j=0∨j=1∨j=2∨j=3∨j=4∨j=5∨j=6:=by omega
    rcases B with rfl|rfl|rfl|rfl|rfl|rfl|rfl
    ·exact g _ rfl ⟨0,.phase⟩ (by simp) rfl
    ·exact g _ rfl ⟨1,.phase⟩ (by simp) rfl
    ·exact g _ rfl ⟨2,.phase⟩ (by simp) rfl
    ·exact g _ rfl ⟨3,.phase⟩ (by simp) rfl
    ·exact g _ rfl ⟨4,.phase⟩ (by simp) rfl
    ·exact g _ rfl ⟨5,.data⟩ (by simp) rfl
    ·exact g _ rfl ⟨6,.data⟩ (by simp) rfl
   have cU:=d.at 0 _ rfl;have cQ:=d.fz 0;have cT:=d.lt;have cI:SFr n i (J.setCell ⟨n,0,none⟩ (.slice C F E)):=a.fr.trans ⟨rfl,rfl,rfl,by simp [World.setCell],fun k K cO=>Below.heap_setCell _ _ _ _ cO⟩;have cJ:(J.setCell ⟨n,0,none⟩ (.slice C F E)).ownsRow i.heap.size 9 1 (.slice C F E) (l++s).length (Cm (l++s)):=He R (D:=(i.heap.size≤ ·)) (fun k e=>(World.ownsRow.lt R k e).1) (Bq.set J (by show ¬i.heap.size≤n;omega) 0 (.slice C F E));obtain⟨z,x,y⟩:=Y3 a g h;refine Bh rfl rfl (fun o A=>?_)
   conv=>arg 2;whnf
   go_wp2;exact⟨u,p,m,v,q,.slice C F E,π n,⟨cI,(fun _ j B=>by rw[Ay L (show j≠7 by omega)];exact cz j B),(by rw[Bo,if_pos rfl];exact d.set 0 (.slice C F E)),uc a.c0,uc a.c1,(fun _ H=>by rw[Ay L (show 5≠7 by decide),cj]at H;cases H),uc a.c3,uc a.c4,(fun _=>cJ),uc a.c6,(fun b=>by rw[Ay L (show 2≠7 by decide)];exact a.c25 (by rwa[Ay L (show 5≠7 by decide)]at b))⟩,rfl⟩
 ·intro L cy J O cl
  obtain⟨u,p,m,v,q,t,w,a,rfl⟩:=O;have ck:=a.own;rw[if_pos (cl 7 (by decide))]at ck;exact hM _ _ (Met.intro (hJ _ _ ⟨u,p,m,v,q,t,w,⟨t,ck,rV (a.c5 (cl 5 (by decide))) (by show _≤_;rw[Zi];omega),a.fr⟩,rfl⟩))
structure Gd (w:Zp)(raw:List Int)(a:Nat)(free:Bool)(ca cf pa pf:Value)(wr:Zp):Prop where
 bel:Zt w.heap.size w wr
 src:Az wr (w.heap.size+1) raw a
 res:Ad wr w.heap.size [.slice none 0 0,.slice none 0 0] 30
 scp:Ad wr (w.heap.size+2) [.slice none 0 0,ca,cf,.bool free,.bool false] 69
 prg:Ad wr (w.heap.size+3) [pa,pf] 30
theorem Gd.lt {w:Zp}{raw:List Int}{a:Nat}{d:Bool}{b c pa f:Value}{wr:Zp}(e:Gd w raw a d b c pa f wr):w.heap.size+3<wr.heap.size:=e.prg.lt
theorem Gd.sfr {w:Zp}{raw:List Int}{a d:Nat}{g:Bool}{e f pa h:Value}{wr w':Zp}(b:Gd w raw a g e f pa h wr)(i:Az w' (w.heap.size+1) raw d)(c:SFr (w.heap.size+1) wr w'):Gd w raw d g e f pa h w':=
 ⟨b.bel.trans ((c.below (by have:=b.lt;omega)).mono (by omega)),i,b.res.sfr c (by omega),b.scp.sfr c (by omega),b.prg.sfr c (by omega)⟩
theorem Gd.old {w:Zp}{raw:List Int}{a:Nat}{d:Bool}{b c pa g:Value}{wr w':Zp}(e:Gd w raw a d b c pa g wr)(f:Zt wr.heap.size wr w'):Gd w raw a d b c pa g w':=e.sfr (e.src.old f) (Zd f)
theorem Gd.grow {w:Zp}{raw:List Int}{a:Nat}{i:Bool}{g h pa j:Value}{wr w':Zp}(b:Gd w raw a i g h pa j wr){row:Option Nat}(c:wr.grownBy w' row)(l:∀k,row=some k→w.heap.size+4≤k):Gd w raw a i g h pa j w':=by
 have m:=b.lt;have d:∀k,k≤w.heap.size+3→w'.heap[k]? =wr.heap[k]? :=fun k f=>c.block k (by omega) (fun e=>by have:=l k e.symm;omega)
 refine⟨⟨c.os.trans b.bel.os,c.tape.trans b.bel.tape,c.output.trans b.bel.output,Nat.le_trans b.bel.size c.size,fun k f=>(d k (by omega)).trans (b.bel.block k f)⟩,b.src.low (fun k f=>d k (by omega)),b.res.low (d _ (by omega)),b.scp.low (d _ (by omega)),b.prg.low (d _ (by omega))⟩
theorem Gd.sfrN {w:Zp}{raw:List Int}{a:Nat}{h:Bool}{f g pa i:Value}{wr w':Zp}(b:Gd w raw a h f g pa i wr){n:Nat}(c:SFr n wr w')(l:w.heap.size+4≤n):Gd w raw a h f g pa i w':=by
 have j:=b.lt;have d:∀k,k≤w.heap.size+3→w'.heap[k]? =wr.heap[k]? :=fun k e=>c.block k (by omega) (by omega)
 refine⟨⟨c.os.trans b.bel.os,c.tape.trans b.bel.tape,c.output.trans b.bel.output,Nat.le_trans b.bel.size c.size,fun k e=>(d k (by omega)).trans (b.bel.block k e)⟩,b.src.low (fun k e=>d k (by omega)),b.res.low (d _ (by omega)),b.scp.low (d _ (by omega)),b.prg.low (d _ (by omega))⟩
theorem Gd.other {w:Zp}{raw:List Int}{a:Nat}{e:Bool}{c d pa f:Value}{wr:Zp}(b:Gd w raw a e c d pa f wr){k:Nat}(g:w.heap.size+4≤k)(i:Nat)(v:Value):Gd w raw a e c d pa f (wr.setCell ⟨k,i,none⟩ v):=
 ⟨b.bel.trans ((Zc _ _).setCell (by show w.heap.size≤k;omega) _),b.src.other (by omega) i v,b.res.other (by omega) i v,b.scp.other (by omega) i v,b.prg.other (by omega) i v⟩
theorem Gd.setP {w:Zp}{raw:List Int}{a:Nat}{e:Bool}{c d pa f:Value}{wr:Zp}(b:Gd w raw a e c d pa f wr)(v:Value):Gd w raw a e c d v f (wr.setCell ⟨w.heap.size+3,0,none⟩ v):=
 ⟨b.bel.trans ((Zc _ _).setCell (by show w.heap.size≤w.heap.size+3;omega) _),b.src.other (by omega) 0 v,b.res.other (by omega) 0 v,b.scp.other (by omega) 0 v,b.prg.set 0 v⟩
theorem Gd.setPf {w:Zp}{raw:List Int}{a:Nat}{e:Bool}{c d pa f:Value}{wr:Zp}(b:Gd w raw a e c d pa f wr)(v:Value):Gd w raw a e c d pa v (wr.setCell ⟨w.heap.size+3,1,none⟩ v):=
 ⟨b.bel.trans ((Zc _ _).setCell (by show w.heap.size≤w.heap.size+3;omega) _),b.src.other (by omega) 1 v,b.res.other (by omega) 1 v,b.scp.other (by omega) 1 v,b.prg.set 1 v⟩
theorem Gd.setC {w:Zp}{raw:List Int}{a:Nat}{d:Bool}{f c pa e:Value}{wr:Zp}(b:Gd w raw a d f c pa e wr)(v:Value):Gd w raw a d v c pa e (wr.setCell ⟨w.heap.size+2,1,none⟩ v):=
 ⟨b.bel.trans ((Zc _ _).setCell (by show w.heap.size≤w.heap.size+2;omega) _),b.src.other (by omega) 1 v,b.res.other (by omega) 1 v,b.scp.set 1 v,b.prg.other (by omega) 1 v⟩
theorem Gd.setCf {w:Zp}{raw:List Int}{a:Nat}{d:Bool}{c f pa e:Value}{wr:Zp}(b:Gd w raw a d c f pa e wr)(v:Value):Gd w raw a d c v pa e (wr.setCell ⟨w.heap.size+2,2,none⟩ v):=
 ⟨b.bel.trans ((Zc _ _).setCell (by show w.heap.size≤w.heap.size+2;omega) _),b.src.other (by omega) 2 v,b.res.other (by omega) 2 v,b.scp.set 2 v,b.prg.other (by omega) 2 v⟩
noncomputable def kO (n:Nat):Code:=match(Tryz.f6.body.bind (Kk (Pm n)))with
 |some (.block _ (.loop c))=>c
 |_=>.skip
def PG8(w:Zp)(bq:Value)(c:Bool)(x:Value)(a:Zp→Prop)(b:Act)(w':Zp):Prop:= ∃J U bf d o B C D E F G H I K L M N O P Q R S T V W X Y Z aa ab ac ad ae af ag ah ai aj ak al am an ao ap aq ar au av aw ax ay az aA aB aC aD aE aF aG aH aI aJ aK aL aM aN aO aP aQ aR aS aT aU aV aW aX aY aZ ba bb bc bd be bg bh bi bj bk bl bm bn bo bp e f g h i j k l m n p q r s t u v y z A:Value,a w'∧b=⟨[bq,.bool c,J,U,.pointer (some ⟨w.heap.size,0,none⟩),.pointer (some ⟨w.heap.size+1,0,none⟩),.pointer (some ⟨w.heap.size+2,0,none⟩),.pointer (some ⟨w.heap.size+3,0,none⟩),x,bf,d,o,B,C,D,E,F,G,H,I,K,L,M,N,O,P,Q,R,S,T,V,W,X,Y,Z,aa,ab,ac,ad,ae,af,ag,ah,ai,aj,ak,al,am,an,ao,ap,aq,ar,au,av,aw,ax,ay,az,aA,aB,aC,aD,aE,aF,aG,aH,aI,aJ,aK,aL,aM,aN,aO,aP,aQ,aR,aS,aT,aU,aV,aW,aX,aY,aZ,ba,bb,bc,bd,be,bg,bh,bi,bj,bk,bl,bm,bn,bo,bp,e,f,g,h,i,j,k,l,m,n,p,q,r,s,t,u,v,y,z,A].toArray,[]⟩
def pP(w:Zp)(bq:Value)(c:Bool)(x:Value)(a:Zp→Prop)(b:Act)(w':Zp):Prop:= ∃I T aU bf n A B C D E F G H J K L M N O P Q R S U V W X Y Z aa ab ac ad ae af ag ah ai aj ak al am an ao ap aq ar au av aw ax ay az aA aB aC aD aE aF aG aH aI aJ aK aL aM aN aO aP aQ aR aS aT aV aW aX aY aZ ba bb bc bd be bg bh bi bj bk bl bm bn bo bp d e f g h i j k l m o p q r s t u v y z:Value,a w'∧b=⟨[bq,.bool c,I,T,.pointer (some ⟨w.heap.size,0,none⟩),.pointer (some ⟨w.heap.size+1,0,none⟩),.pointer (some ⟨w.heap.size+2,0,none⟩),.pointer (some ⟨w.heap.size+3,0,none⟩),aU,bf,x,n,A,B,C,D,E,F,G,H,J,K,L,M,N,O,P,Q,R,S,U,V,W,X,Y,Z,aa,ab,ac,ad,ae,af,ag,ah,ai,aj,ak,al,am,an,ao,ap,aq,ar,au,av,aw,ax,ay,az,aA,aB,aC,aD,aE,aF,aG,aH,aI,aJ,aK,aL,aM,aN,aO,aP,aQ,aR,aS,aT,aV,aW,aX,aY,aZ,ba,bb,bc,bd,be,bg,bh,bi,bj,bk,bl,bm,bn,bo,bp,d,e,f,g,h,i,j,k,l,m,o,p,q,r,s,t,u,v,y,z].toArray,[]⟩
def oL(w:Zp)(bq:Value)(c:Bool)(x:Value)(a:Zp→Prop)(b:Act)(w':Zp):Prop:= ∃I T aU bf d o B C D E F G H J K L M N O P Q R S U V W X Y Z aa ab ac ad ae af ag ah ai aj ak al am an ao ap aq ar au av aw ax ay az aA aB aC aD aE aF aG aH aI aJ aK aL aM aN aO aP aQ aR aS aT aV aW aX aY aZ ba bb bc bd be bg bh bi bj bk bl bm bn bo bp e f g h i j k l m n p q r s t u v y z A:Value,a w'∧b=⟨[bq,.bool c,I,T,.pointer (some ⟨w.heap.size,0,none⟩),.pointer (some ⟨w.heap.size+1,0,none⟩),.pointer (some ⟨w.heap.size+2,0,none⟩),.pointer (some ⟨w.heap.size+3,0,none⟩),aU,bf,d,o,x,B,C,D,E,F,G,H,J,K,L,M,N,O,P,Q,R,S,U,V,W,X,Y,Z,aa,ab,ac,ad,ae,af,ag,ah,ai,aj,ak,al,am,an,ao,ap,aq,ar,au,av,aw,ax,ay,az,aA,aB,aC,aD,aE,aF,aG,aH,aI,aJ,aK,aL,aM,aN,aO,aP,aQ,aR,aS,aT,aV,aW,aX,aY,aZ,ba,bb,bc,bd,be,bg,bh,bi,bj,bk,bl,bm,bn,bo,bp,e,f,g,h,i,j,k,l,m,n,p,q,r,s,t,u,v,y,z,A].toArray,[]⟩
theorem nZ(w wr:Zp)(aw:Value)(j:Bool)(raw:List Int)(a i:Nat)(aN:1≤i∧i≤2)(l:List Ar)(pa:Value)(G:Gd w raw a j (.slice none 0 0) (.slice none 0 0) pa (.slice none 0 0) wr)(F:Do wr (w.heap.size+4) l pa)(al:l.length≤2)(bv bI cR aR bc bn bo bp bq br bs bt bu bw bx bz bB bC bD bE bF bG bH bJ bK bL bM bN bO bP bQ bR bS bT bU bV bW bX bY bZ ca cb cc cd ce cf cg ch ci cj ck cl cm cn co cp cq cr cs ct cu cv cw cx cy cz cA cB cC cD cE cF cG cH cI cJ cK cL cM cN cO cP cQ cS cT cU cV cW cX cY cZ da db aS aT aU aV aW aX aY aZ ba bb bd be bf bg bh bi bj bk bl bm:Value){C E:Act→Zp→Prop}
  (hJ:∀h w',PG8 w aw j (.int .i64 ((i:Int)-1)) (fun w'=> ∃av,Gd w raw (Xj j raw i a).2 j (.slice none 0 0) (.slice none 0 0) av (.slice none 0 0) w'∧Do w' (w.heap.size+4) (l++[(Xj j raw i a).1]) av) h w'→C h w') (hM:∀h w',Met C h w'→E h w'):
  Code.wp Zb (kO 0) (Exit.then E (fun _ _ _=>False)) ⟨[aw,.bool j,bv,bI,.pointer (some ⟨w.heap.size,0,none⟩),.pointer (some ⟨w.heap.size+1,0,none⟩),.pointer (some ⟨w.heap.size+2,0,none⟩),.pointer (some ⟨w.heap.size+3,0,none⟩),.int .i64 (i:Int),cR,aR,bc,bn,bo,bp,bq,br,bs,bt,bu,bw,bx,bz,bB,bC,bD,bE,bF,bG,bH,bJ,bK,bL,bM,bN,bO,bP,bQ,bR,bS,bT,bU,bV,bW,bX,bY,bZ,ca,cb,cc,cd,ce,cf,cg,ch,ci,cj,ck,cl,cm,cn,co,cp,cq,cr,cs,ct,cu,cv,cw,cx,cy,cz,cA,cB,cC,cD,cE,cF,cG,cH,cI,cJ,cK,cL,cM,cN,cO,cP,cQ,cS,cT,cU,cV,cW,cX,cY,cZ,da,db,aS,aT,aU,aV,aW,aX,aY,aZ,ba,bb,bd,be,bf,bg,bh,bi,bj,bk,bl,bm].toArray,[]⟩ wr:=by
 obtain⟨L,M,rfl⟩:=F.shape;have B:=Za al;have ac:Zq (∀k,(Value.slice L l.length M).ownBlock=some k→k<wr.heap.size):=fun k e=>(F.ge e).2
 obtain⟨au,ak,ap,aq,ar⟩:=info_parts infoAr;obtain⟨aa,ae,af,ag⟩:=Y4 ak ap aq ar;have dg:(0:Int)<(i:Int):=by omega
 clear ak ap aq ar al
 conv=>arg 2;whnf
 go_upto_region 9 with(fail);refine wp_cut (fun h w'=>R9 (w.heap.size+1) i a raw wr _ _ _ _ _ _ _ _ _ _ _ _ _ _ _ _ _ _ _ _ _ _ _ _ _ _ _ _ _ _ _ _ _ _ _ _ _ _ _ _ _ _ _ _ _ _ _ _ _ _ _ _ _ _ _ _ _ _ _ _ _ _ _ _ _ _ _ _ _ _ _ _ _ _ _ _ _ _ _ _ _ _ _ _ _ _ _ _ _ _ _ _ _ _ _ _ _ _ _ _ _ _ _ _ _ _ _ h w') ?rest (fun C E hJ hM=>Gm (pg_reg9 (w.heap.size+1) i a raw wr G.src aN C E hJ hM))
 case rest=>
 intro h s T;obtain⟨du,dj,dk,dl,dm,dn,dp,dq,dr,ds,dt,T⟩:=T;obtain⟨⟨b,aE,I,K,an,V⟩,aL⟩:=T;subst aL;subst aE;have r:=G.sfr an V;have H:=F.keep (Bq.sfr V (fun b I=>by have:w.heap.size+4≤b:=I;omega));have aj:w.heap.size+4≤b:=by have:=G.lt;omega
 clear G F an V
 cases j
 ·have t:Xj false raw i a=(⟨Gf.getD i [],Ge.getD (Ab raw a 4).1.toNat 0⟩,(Ab raw a 4).2):=rfl
  rw[t]at hJ;clear t;generalize Gf.getD i []=nm at*;generalize Ge.getD (Ab raw a 4).1.toNat 0=c at*;obtain⟨f,A,n⟩:=Y3 r H K;clear r H K;have m:Zt s.heap.size s (s.alloc (.cells #[.string (Aa nm),.int .i64 c] 60)):=bA;obtain⟨v,u,Q⟩:=Y3 (f.o.old m) (A.o.keep (Bq.below m)) (Zh s (Gk ⟨nm,c⟩) 60);clear m;obtain ⟨aP, aQ⟩ := τ2 f.o.prg;obtain ⟨ax, ay⟩ := τ2 n.o;have aJ:=f.o.lt;have aI:=n.o.lt;go_wp2_with (at_builtin;(refine Zu (P:=Zb) _ rfl _ _ 27 rfl (w.heap.size+4) 60 au _ 2 24 underlying27 aa.o ae.o af.o ag.o rfl (by decide) (ρ L l M) l.length (l.flatMap Gk) rfl u.o ⟨s.heap.size,0,none⟩ 1 1 (Gk ⟨nm,c⟩) rfl rfl (Fr Q.o) (Tq) (by decide) (by have:=B.o;unfold maxLen;omega) (by have:=B.o;omega) (by have:=v.o.lt;omega) _ rfl ?_;intro g cap W z y U aO;have d:=v.o.grow y (fun k e=>(u.o.ge e).1);have R:=Za d;obtain ⟨de, df⟩ := τ2 d.prg;have aH:=d.prg.fz 0;have aK:=d.lt;have N:=Za (Do.snoc ⟨nm,c⟩ z);clear z y U d));have O:=Za (N.o.keep (Bq.set W (show ¬(w.heap.size+4≤w.heap.size+3)by omega) 0 (.slice (some ⟨g,0,none⟩) (l.length+1) cap)));go_meet;exact⟨_,R.o.setP _,O.o⟩
 ·have t:Xj true raw i a=Cq true [] raw (Ab raw a 4).2:=rfl
  rw[t]at hJ;clear t;have ab:=Za (Qn (w.heap.size+1) raw (Ab raw a 4).2 ⟨[],[],[],true,false⟩ (ν) (ν) (ν) s r.src Cd.zero (by decide));generalize Cq true [] raw (Ab raw a 4).2=q at*;obtain⟨⟨nm,c⟩,dh⟩:=q;dsimp only at ab hJ;obtain⟨ad,Y,Z⟩:=Y3 r H K;obtain ⟨az, aA, aB, aC, aD⟩ := τ5 r.scp;clear r H K;go_wp2_with fail;refine ab.o.mono ?_;rintro di X ⟨rfl,ao,J⟩;have p:=Z.o.sfr J (show b≠w.heap.size+1 by omega);have am:=ad.o.sfr ao J;have ai:=Y.o.keep (Bq.sfr J (fun b I=>by have:w.heap.size+4≤b:=I;omega));obtain⟨f,n⟩:=Y2 ((am.other aj 0 (.string (Aa nm))).other aj 1 (.int .i64 c)) ((p.set 0 (.string (Aa nm))).set 1 (.int .i64 c));have A:Zq (Do ((X.setCell ⟨b,0,none⟩ (.string (Aa nm))).setCell ⟨b,1,none⟩ (.int .i64 c)) (w.heap.size+4) l (ρ L l M)):=(He (He ai (D:=(· ≠b)) (fun k e=>by have:=ac.o k e;omega) (Bq.set X (fun S=>S rfl) 0 (.string (Aa nm)))) (D:=(· ≠b)) (fun k e=>by have:=ac.o k e;omega) (Bq.set _ (fun S=>S rfl) 1 (.int .i64 c)));obtain ⟨dc, dd⟩ := τ2 p;have aF:=p.fz 0;have aG:=p.fz 1;have aM:=p.lt;clear am ai p ao J az aA aB aC aD ad Z Y;generalize ah:(X.setCell ⟨b,0,none⟩ (.string (Aa nm))).setCell ⟨b,1,none⟩ (.int .i64 c)=x at f n A
  go_upto_region 12 with(fail)
  try rw[ah]
  clear dc dd aF aG aM ah;have m:Zt x.heap.size x (x.alloc (.cells #[.string (Aa nm),.int .i64 c] 60)):=bA;obtain⟨v,u,Q⟩:=Y3 (f.o.old m) (A.o.keep (Bq.below m)) (Zh x (Gk ⟨nm,c⟩) 60);clear m;obtain ⟨aP, aQ⟩ := τ2 f.o.prg;obtain ⟨ax, ay⟩ := τ2 n.o;have aJ:=f.o.lt;have aI:=n.o.lt;go_wp2_with (at_builtin;(refine Zu (P:=Zb) _ rfl _ _ 27 rfl (w.heap.size+4) 60 au _ 2 24 underlying27 aa.o ae.o af.o ag.o rfl (by decide) (ρ L l M) l.length (l.flatMap Gk) rfl u.o ⟨x.heap.size,0,none⟩ 1 1 (Gk ⟨nm,c⟩) rfl rfl (Fr Q.o) (Tq) (by decide) (by have:=B.o;unfold maxLen;omega) (by have:=B.o;omega) (by have:=v.o.lt;omega) _ rfl ?_;intro g cap W z y U aO;have d:=v.o.grow y (fun k e=>(u.o.ge e).1);have R:=Za d;obtain ⟨de, df⟩ := τ2 d.prg;have aH:=d.prg.fz 0;have aK:=d.lt;have N:=Za (Do.snoc ⟨nm,c⟩ z);clear z y U d));have O:=Za (N.o.keep (Bq.set W (show ¬(w.heap.size+4≤w.heap.size+3)by omega) 0 (.slice (some ⟨g,0,none⟩) (l.length+1) cap)));go_meet;exact⟨_,R.o.setP _,O.o⟩
end Go.Proofs.YthcpopmmlneneaaGreatDoor
