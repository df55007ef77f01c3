/-
  Expr, Parse: whole, then Right. Conditions: what whole gives is known.
-/
import Derived.Test.YtcfpfnoldgnloaaGreatDoorPb16
import Derived.Defers
import Derived.Recover
import Derived.Laws.Pointers
set_option linter.unusedVariables false
set_option linter.unusedSimpArgs false
namespace Go.Proofs.YtcfpfnoldgnloaaGreatDoor
open Go.RowKit Go.Proofs.Tryz
set_option maxHeartbeats 20000000
set_option maxRecDepth 100000
open Go.Lib renaming hid→Za
open Nat renaming le_refl→Zb,le_of_lt→Zf
open Go.Proofs.Tryz renaming prog→Zc
open Ae renaming new→Zd
open Below renaming refl→Ze
section
variable {P:Program} {Q:Exit→Act→List Frame→World→Prop} {a:Act} {cs:List Frame} {w:World}
def Xf(P:Program)(Q:Exit→Act→List Frame→World→Prop):List Oper→Act→List Frame→World→Prop
 |[],a,cs,w=>Q .normal a cs w
 |o::rest,a,cs,w=>o.guard=none∧match(execOp a.eval o).run P w with
  |.ok .recover w'=>(match recoverD cs with
   |some (v,cs')=>Xf P Q rest (a.put o.dst v) cs' w'
   |none=>Xf P Q rest (a.put o.dst .nilIface) cs w')
  |r=>o.upon P a (fun a' w'=>Xf P Q rest a' cs w') (fun e a' w'=>Q e a' cs w') r
theorem pO {o:Oper}{a:Act}{K K':Act→World→Prop}{Q':Exit→Act→World→Prop}(hk:∀a w,K a w→K' a w){r:Result Next}(h:o.upon P a K Q' r):o.upon P a K' Q' r:=by
 unfold Oper.upon at h ⊢;split at h
 ·exact hk _ _ h
 ·exact hk _ _ h
 ·exact hk _ _ h
 ·refine Calls.mono h ?_
  intro e w' q
  cases e with
  |returned v=>exact hk _ _ q
  |panicked c=>exact q
  |outgrown=>exact q
 ·exact Rows.mono h (fun v w' q=>hk _ _ q)
 ·exact h
 ·exact h
theorem bH {ops:Array Oper}:∀(n k:Nat),k+n=ops.size→∀(a:Act) (cs:List Frame) (w:World),Xf P Q (ops.toList.drop k) a cs w→wpOpsS P ops Q (List.range' k n) a cs w
 |0,k,hk,a,cs,w,h=>by
  rw[List.drop_of_length_le (by rw[Array.length_toList];omega)]at h;exact h
 |n+1,k,hk,a,cs,w,h=>by
  have hlt:k<ops.toList.length:=by rw[Array.length_toList];omega
  rw[List.drop_eq_getElem_cons hlt]at h;obtain⟨hg,h⟩:=h;have ho:ops[k]? =some (ops.toList[k]):=by rw[←Array.getElem?_toList,List.getElem?_eq_getElem hlt]
  have ih:=bH (ops:=ops) n (k+1) (by omega);rw[List.range'_succ,wpOpsS,ho];simp only[Region.wanted,hg,if_true];split at h
  ·rename_i w' hr
   rw[hr];dsimp only;split at h
   ·rename_i v cs' hc
    rw[hc];exact ih _ _ _ h
   ·rename_i hc
    rw[hc];exact ih _ _ _ h
  ·rename_i r hn
   split
   ·rename_i w' hr
    exact absurd hr (hn w')
   ·exact pO (fun a w q=>ih _ _ _ q) h
theorem Sg {id:Nat}{ops:Array Oper}{l:List Oper}(hl:ops.toList=l)(h:Xf P Q l a cs w):(Code.region id ops false).wpS P Q a cs w:=by
 apply wpS_region
 rw[List.range_eq_range'];exact bH ops.size 0 (by omega) a cs w (by rw[List.drop_zero,hl];exact h)
theorem Vs {o:Oper}{rest:List Oper}(hg:o.guard=none)(h:∀K':Act→World→Prop,(∀a w,Xf P Q rest a cs w→K' a w)→o.wp P a w K' (fun e a' w'=>Q e a' cs w')):Xf P Q (o::rest) a cs w:=by
 refine⟨hg,?_⟩;have h1:=h _ (fun _ _ q=>q);unfold Oper.wp at h1;split
 ·rename_i w' hr
  rw[hr]at h1;exact h1.elim
 ·exact h1
theorem mS {o:Oper}{rest:List Oper}(hg:o.guard=none)(hr:(execOp a.eval o).run P w=.ok .recover w){v:Value}{cs':List Frame}(hc:recoverD cs=some (v,cs'))(h:Xf P Q rest (a.put o.dst v) cs' w):Xf P Q (o::rest) a cs w:=by
 refine⟨hg,?_⟩;rw[hr];dsimp only;rw[hc];exact h
theorem nD {o:Oper}{rest:List Oper}(hg:o.guard=none)(hr:(execOp a.eval o).run P w=.ok .recover w)(hc:recoverD cs=none)(h:Xf P Q rest (a.put o.dst .nilIface) cs w):Xf P Q (o::rest) a cs w:=by
 refine⟨hg,?_⟩;rw[hr];dsimp only;rw[hc];exact h
end
@[go_sem] theorem assert_nil (w:World):(Instr.typeAssert .nilIface 20 110 true).run Zc w=.ok (.tuple #[.agg #[.int .i64 0],.bool false]) w:=by kernel_rfl
@[go_sem] theorem assert_wrong (v:Value) (w:World):(Instr.typeAssert (.iface 110 v) 20 110 true).run Zc w=.ok (.tuple #[v,.bool true]) w:=by kernel_rfl
def Mk(n:Int):Value:=.iface 110 (.agg #[.int .i64 n])
structure VCE (b0 b1 b2 T0 T1 B:Nat)(n x1 x2:Int)(a0 a1 a2 a3 a4:Value)(W:World)(L:Nat→Bool)(z12 z13 z14:Value)(wx:World):Prop where
 ord:L 5=true→∀j,j<5→L j=true
 p4_3:L 4=true→L 3=true
 c0:L 0=true→z12=.agg #[.int .i64 0,.int .i64 0,.int .i64 0,.string ⟨#[]⟩,.slice none 0 0]
 c1:L 1=true→z13=.pointer (some ⟨T0,0,none⟩)
 c2:L 2=true→z14=.int .i64 n
 fr:Below B W wx
 o0:L 3=false→Ae wx b0 [a0,a1,a2,a3,a4] 27
 o0t:L 3=true→Ae wx b0 [.int .i64 0,.int .i64 0,.int .i64 0,.string ⟨#[]⟩,.slice none 0 0] 27
 o1:L 4=false→Ae wx b1 [.int .i64 x1] 28
 o1t:L 4=true→Ae wx b1 [.int .i64 40] 28
 o2:L 5=false→Ae wx b2 [.int .i64 x2] 3
 o2t:L 5=true→Ae wx b2 [.int .i64 n] 3
 wr:Ae wx T0 [.int .i64 n] 110
 nn:Ae wx T1 [.int .i64 0,.int .i64 0,.int .i64 0,.string ⟨#[]⟩,.slice none 0 0] 27
def ICE(b0 b1 b2 T0 T1 B:Nat)(n x1 x2:Int)(a0 a1 a2 a3 a4:Value)(W:World)(q4 q6 q7 q8 q9 q10 q11:Value)(L:Nat→Bool)(a':Act)(w':World):Prop:=
 ∃z12 z13 z14:Value,VCE b0 b1 b2 T0 T1 B n x1 x2 a0 a1 a2 a3 a4 W L z12 z13 z14 w'∧a'=⟨[.pointer (some ⟨b0,0,none⟩),.pointer (some ⟨b1,0,none⟩),.pointer (some ⟨b2,0,none⟩),.pointer (some ⟨T0,0,none⟩),q4,.pointer (some ⟨T1,0,none⟩),q6,q7,q8,q9,q10,q11,z12,z13,z14].toArray,[]⟩
def RCE(b0 b1 b2 T0 T1 B:Nat)(n x1 x2:Int)(a0 a1 a2 a3 a4:Value)(W:World)(q4 q6 q7 q8 q9 q10 q11:Value)(a':Act)(w':World):Prop:=
 (Below B W w'∧Ae w' b0 [.int .i64 0,.int .i64 0,.int .i64 0,.string ⟨#[]⟩,.slice none 0 0] 27∧Ae w' b1 [.int .i64 40] 28∧Ae w' b2 [.int .i64 n] 3)∧a'=⟨[.pointer (some ⟨b0,0,none⟩),.pointer (some ⟨b1,0,none⟩),.pointer (some ⟨b2,0,none⟩),.pointer (some ⟨T0,0,none⟩),q4,.pointer (some ⟨T1,0,none⟩),q6,q7,q8,q9,q10,q11,.agg #[.int .i64 0,.int .i64 0,.int .i64 0,.string ⟨#[]⟩,.slice none 0 0],.pointer (some ⟨T0,0,none⟩),.int .i64 n].toArray,[]⟩
theorem reg_CE(b0 b1 b2 T0 T1 B:Nat)(n x1 x2:Int)(a0 a1 a2 a3 a4:Value)(W:World)(h0:Ae W b0 [a0,a1,a2,a3,a4] 27)(h1:Ae W b1 [.int .i64 x1] 28)(h2:Ae W b2 [.int .i64 x2] 3)(hw:Ae W T0 [.int .i64 n] 110)(hn:Ae W T1 [.int .i64 0,.int .i64 0,.int .i64 0,.string ⟨#[]⟩,.slice none 0 0] 27)(h01:b0<b1)(h12:b1<b2)(h2t:b2<T0)(htt:T0<T1)(hB:B≤b0)(q4 q6 q7 q8 q9 q10 q11 q12 q13 q14:Value)(J K':Act→World→Prop)(hJ:∀a' w',RCE b0 b1 b2 T0 T1 B n x1 x2 a0 a1 a2 a3 a4 W q4 q6 q7 q8 q9 q10 q11 a' w'→J a' w')(hM:∀a' w',Met J a' w'→K' a' w'):
  Code.wp Zc ((Tryz.f57.body.bind (Ld 3)).getD .skip) (Exit.then K' (fun _ _ _=>False)) ⟨[.pointer (some ⟨b0,0,none⟩),.pointer (some ⟨b1,0,none⟩),.pointer (some ⟨b2,0,none⟩),.pointer (some ⟨T0,0,none⟩),q4,.pointer (some ⟨T1,0,none⟩),q6,q7,q8,q9,q10,q11,q12,q13,q14].toArray,[]⟩ W:=by
 have H0:=Za h0;have H1:=Za h1;have H2:=Za h2;have HW:=Za hw;have HN:=Za hn;clear h0 h1 h2 hw hn
 conv=>arg 2;whnf
 (try dsimp only);refine Fp (by kernel_rfl) (by kernel_rfl) (ICE b0 b1 b2 T0 T1 B n x1 x2 a0 a1 a2 a3 a4 W q4 q6 q7 q8 q9 q10 q11) ?_ ?_ ?_
 ·exact⟨q12,q13,q14,⟨(fun h=>by cases h),(fun h=>by cases h),(fun h=>by cases h),(fun h=>by cases h),(fun h=>by cases h),((Ze _ _).drew),(fun _=>H0.o.old (Ze _ _).drew),(fun h=>by cases h),(fun _=>H1.o.old (Ze _ _).drew),(fun h=>by cases h),(fun _=>H2.o.old (Ze _ _).drew),(fun h=>by cases h),(HW.o.old (Ze _ _).drew),(HN.o.old (Ze _ _).drew)⟩,rfl⟩
 ·intro L act wx k hI hk hl hd
  obtain⟨z12,z13,z14,hV,rfl⟩:=hI;have hk:k=0∨k=1∨k=2∨k=3∨k=4∨k=5:=by
   have:k<6:=hk;omega
  rcases hk with rfl|rfl|rfl|rfl|rfl|rfl
  ·have nl:=kf hV.ord hl
   have hn:=hV.nn;have n0:=hn.at 0 _ rfl;have nf0:=hn.fz 0;have n1:=hn.at 1 _ rfl;have nf1:=hn.fz 1;have n2:=hn.at 2 _ rfl;have nf2:=hn.fz 2;have n3:=hn.at 3 _ rfl;have nf3:=hn.fz 3;have n4:=hn.at 4 _ rfl;have nf4:=hn.fz 4;have nlt:=hn.lt;refine Bc _ rfl rfl (fun K' hK=>?_)
   conv=>arg 2;whnf
   go_wp2_with fail
   exact⟨.agg #[.int .i64 0,.int .i64 0,.int .i64 0,.string ⟨#[]⟩,.slice none 0 0],z13,z14,⟨kl nl,kq hV.p4_3,(fun _=>rfl),kc hV.c1,kc hV.c2,hV.fr,(fun h0=>hV.o0 (kb h0)),kc hV.o0t,(fun h0=>hV.o1 (kb h0)),kc hV.o1t,(fun h0=>hV.o2 (kb h0)),kl nl,hV.wr,hV.nn⟩,rfl⟩
  ·have nl:=kf hV.ord hl
   refine Bc _ rfl rfl (fun K' hK=>?_)
   conv=>arg 2;whnf
   go_wp2_with fail
   exact⟨z12,.pointer (some ⟨T0,0,none⟩),z14,⟨kl nl,kq hV.p4_3,kc hV.c0,(fun _=>rfl),kc hV.c2,hV.fr,(fun h0=>hV.o0 (kb h0)),kc hV.o0t,(fun h0=>hV.o1 (kb h0)),kc hV.o1t,(fun h0=>hV.o2 (kb h0)),kl nl,hV.wr,hV.nn⟩,rfl⟩
  ·have nl:=kf hV.ord hl
   have d1:L 1=true:=hd _ rfl ⟨1,.data⟩ (by simp) rfl;obtain rfl:=(hV.c1 d1).symm;have hw:=hV.wr;have w0:=hw.at 0 _ rfl;have wf0:=hw.fz 0;have wlt:=hw.lt;refine Bc _ rfl rfl (fun K' hK=>?_)
   conv=>arg 2;whnf
   go_wp2_with fail
   exact⟨z12,.pointer (some ⟨T0,0,none⟩),.int .i64 n,⟨kl nl,kq hV.p4_3,kc hV.c0,kc hV.c1,(fun _=>rfl),hV.fr,(fun h0=>hV.o0 (kb h0)),kc hV.o0t,(fun h0=>hV.o1 (kb h0)),kc hV.o1t,(fun h0=>hV.o2 (kb h0)),kl nl,hV.wr,hV.nn⟩,rfl⟩
  ·have nl:=kf hV.ord hl
   have d0:L 0=true:=hd _ rfl ⟨0,.data⟩ (by simp) rfl;obtain rfl:=(hV.c0 d0).symm;have ho:=hV.o0 hl;have x0:=ho.at 0 _ rfl;have xf0:=ho.fz 0;have x1:=ho.at 1 _ rfl;have xf1:=ho.fz 1;have x2:=ho.at 2 _ rfl;have xf2:=ho.fz 2;have x3:=ho.at 3 _ rfl;have xf3:=ho.fz 3;have x4:=ho.at 4 _ rfl;have xf4:=ho.fz 4;have xlt:=ho.lt;refine Bc _ rfl rfl (fun K' hK=>?_)
   conv=>arg 2;whnf
   go_wp2_with fail
   exact⟨.agg #[.int .i64 0,.int .i64 0,.int .i64 0,.string ⟨#[]⟩,.slice none 0 0],z13,z14,⟨kl nl,(fun _=>Bb L 3),kc hV.c0,kc hV.c1,kc hV.c2,(((((hV.fr.setCell (p:=⟨b0,0,none⟩) (show B≤b0 by omega) _).setCell (p:=⟨b0,1,none⟩) (show B≤b0 by omega) _).setCell (p:=⟨b0,2,none⟩) (show B≤b0 by omega) _).setCell (p:=⟨b0,3,none⟩) (show B≤b0 by omega) _).setCell (p:=⟨b0,4,none⟩) (show B≤b0 by omega) _),(ks),(fun _=>(((((ho.set 0 (.int .i64 0)).set 1 (.int .i64 0)).set 2 (.int .i64 0)).set 3 (.string ⟨#[]⟩)).set 4 (.slice none 0 0))),(fun h=>((((((hV.o1 (kb h)).other (by omega) _ _).other (by omega) _ _).other (by omega) _ _).other (by omega) _ _).other (by omega) _ _)),(fun h=>((((((hV.o1t (kb h)).other (by omega) _ _).other (by omega) _ _).other (by omega) _ _).other (by omega) _ _).other (by omega) _ _)),(fun h=>((((((hV.o2 (kb h)).other (by omega) _ _).other (by omega) _ _).other (by omega) _ _).other (by omega) _ _).other (by omega) _ _)),kl nl,(((((hV.wr.other (by omega) _ _).other (by omega) _ _).other (by omega) _ _).other (by omega) _ _).other (by omega) _ _),(((((hV.nn.other (by omega) _ _).other (by omega) _ _).other (by omega) _ _).other (by omega) _ _).other (by omega) _ _)⟩,rfl⟩
  ·have nl:=kf hV.ord hl
   have d3:L 3=true:=hd _ rfl ⟨3,.chain⟩ (by simp) rfl;have ho:=hV.o1 hl;have x0:=ho.at 0 _ rfl;have xf0:=ho.fz 0;have xlt:=ho.lt;refine Bc _ rfl rfl (fun K' hK=>?_)
   conv=>arg 2;whnf
   go_wp2_with fail
   exact⟨z12,z13,z14,⟨kl nl,(kd (d3)),kc hV.c0,kc hV.c1,kc hV.c2,(hV.fr.setCell (p:=⟨b1,0,none⟩) (show B≤b1 by omega) _),(fun h=>((hV.o0 (kb h)).other (by omega) _ _)),(fun h=>((hV.o0t (kb h)).other (by omega) _ _)),(ks),(fun _=>ho.set 0 (.int .i64 40)),(fun h=>((hV.o2 (kb h)).other (by omega) _ _)),kl nl,(hV.wr.other (by omega) _ _),(hV.nn.other (by omega) _ _)⟩,rfl⟩
  ·have before:∀j,j<5→L j=true:=fun j hj=>by
    have hj:j=0∨j=1∨j=2∨j=3∨j=4:=by omega
    rcases hj with rfl|rfl|rfl|rfl|rfl
    ·exact hd _ rfl ⟨0,.phase⟩ (by simp) rfl
    ·exact hd _ rfl ⟨1,.phase⟩ (by simp) rfl
    ·exact hd _ rfl ⟨2,.data⟩ (by simp) rfl
    ·exact hd _ rfl ⟨3,.phase⟩ (by simp) rfl
    ·exact hd _ rfl ⟨4,.chain⟩ (by simp) rfl
   have d2:L 2=true:=hd _ rfl ⟨2,.data⟩ (by simp) rfl;obtain rfl:=(hV.c2 d2).symm;have d4:L 4=true:=hd _ rfl ⟨4,.chain⟩ (by simp) rfl;have ho:=hV.o2 hl;have x0:=ho.at 0 _ rfl;have xf0:=ho.fz 0;have xlt:=ho.lt;refine Bc _ rfl rfl (fun K' hK=>?_)
   conv=>arg 2;whnf
   go_wp2_with fail
   exact⟨z12,z13,.int .i64 n,⟨(fun _ j hj=>by rw[Ab L (show j≠5 by omega)];exact before j hj),kq hV.p4_3,kc hV.c0,kc hV.c1,kc hV.c2,(hV.fr.setCell (p:=⟨b2,0,none⟩) (show B≤b2 by omega) _),(fun h=>by rw[Ab L (by decide),before 3 (by decide)]at h;cases h),(fun h=>((hV.o0t (kb h)).other (by omega) _ _)),(fun h=>by rw[Ab L (by decide),before 4 (by decide)]at h;cases h),(fun h=>((hV.o1t (kb h)).other (by omega) _ _)),(ks),(fun _=>ho.set 0 (.int .i64 n)),(hV.wr.other (by omega) _ _),(hV.nn.other (by omega) _ _)⟩,rfl⟩
 ·intro L act wx hI hall
  obtain⟨z12,z13,z14,hV,rfl⟩:=hI;obtain rfl:=(hV.c0 (hall 0 (by decide))).symm;obtain rfl:=(hV.c1 (hall 1 (by decide))).symm;obtain rfl:=(hV.c2 (hall 2 (by decide))).symm;exact hM _ _ (Met.intro (hJ _ _ ⟨⟨hV.fr,hV.o0t (hall 3 (by decide)),hV.o1t (hall 4 (by decide)),hV.o2t (hall 5 (by decide))⟩,rfl⟩))
theorem eX(b0 b1 b2:Nat)(w:World):
  CallsD Zc 57 #[.pointer (some ⟨b0,0,none⟩),.pointer (some ⟨b1,0,none⟩),.pointer (some ⟨b2,0,none⟩)] .returning w fun e u' w'=>e=.returned (.tuple #[])∧u'=.returning∧Below w.heap.size w w':=by
 refine callsD_of_wpS func57 rfl fun c₀ cs hu=>?_
 have hfr:(#[Value.pointer (some ⟨b0,0,none⟩),.pointer (some ⟨b1,0,none⟩),.pointer (some ⟨b2,0,none⟩)]++Array.replicate (Tryz.f57.ntmps-(#[Value.pointer (some ⟨b0,0,none⟩),.pointer (some ⟨b1,0,none⟩),.pointer (some ⟨b2,0,none⟩)]:Array Value).size) undef)= #[.pointer (some ⟨b0,0,none⟩),.pointer (some ⟨b1,0,none⟩),.pointer (some ⟨b2,0,none⟩),undef,undef,undef,undef,undef,undef,undef,undef,undef,undef,undef,undef]:=by
  rw[ntmps57];rfl
 rw[hfr];clear hfr;apply wpS_seq
 refine Sg rfl ?_;refine nD rfl ?hr ?hc ?hh
 case hc=>simp only[recoverD,hu]
 case hr=>simp [go_sem]
 case hh=>
 iterate 7
  refine Vs rfl (fun K' hK=>?_);go_wp2_with fail
 show Code.wpS _ _ _ _ _ _
 refine wpS_of_wp ?_;go_wp2_with fail
 refine⟨rfl,.returning,by cases c₀;cases hu;rfl,.tuple #[],by simp [results,results57],rfl,rfl,bA⟩
theorem Ro(b0 b1 b2:Nat)(n x1 x2:Int)(a0 a1 a2 a3 a4:Value)(older:List PanicEntry)(B:Nat)(w:World)(h0:Ae w b0 [a0,a1,a2,a3,a4] 27)(h1:Ae w b1 [.int .i64 x1] 28)(h2:Ae w b2 [.int .i64 x2] 3)(h01:b0<b1)(h12:b1<b2)(hB:B≤b0):
  CallsD Zc 57 #[.pointer (some ⟨b0,0,none⟩),.pointer (some ⟨b1,0,none⟩),.pointer (some ⟨b2,0,none⟩)] (.panicking ({v:=Mk n,recovered:=false}::older)) w fun e u' w'=>e=.returned (.tuple #[])∧u'=.panicking ({v:=Mk n,recovered:=true}::older)∧Below B w w'∧
   Ae w' b0 [.int .i64 0,.int .i64 0,.int .i64 0,.string ⟨#[]⟩,.slice none 0 0] 27∧Ae w' b1 [.int .i64 40] 28∧Ae w' b2 [.int .i64 n] 3:=by
 refine callsD_of_wpS func57 rfl fun c₀ cs hu=>?_
 have hfr:(#[Value.pointer (some ⟨b0,0,none⟩),.pointer (some ⟨b1,0,none⟩),.pointer (some ⟨b2,0,none⟩)]++Array.replicate (Tryz.f57.ntmps-(#[Value.pointer (some ⟨b0,0,none⟩),.pointer (some ⟨b1,0,none⟩),.pointer (some ⟨b2,0,none⟩)]:Array Value).size) undef)= #[.pointer (some ⟨b0,0,none⟩),.pointer (some ⟨b1,0,none⟩),.pointer (some ⟨b2,0,none⟩),undef,undef,undef,undef,undef,undef,undef,undef,undef,undef,undef,undef]:=by
  rw[ntmps57];rfl
 rw[hfr];clear hfr;apply wpS_seq
 refine Sg rfl ?_;refine mS rfl ?hr (v:=Mk n) (cs':= {c₀ with mode:=.panicking ({v:=Mk n,recovered:=true}::older)}::cs) ?hc ?hh
 case hc=>simp only[recoverD,hu]
 case hr=>simp [go_sem]
 case hh=>
 unfold Mk at*;have H0:=Za h0;have H1:=Za h1;have H2:=Za h2;clear hu h0 h1 h2
 iterate 7
  refine Vs rfl (fun K' hK=>?_);go_wp2_with fail
 show Code.wpS _ _ _ _ _ _
 refine wpS_of_wp ?_;go_upto_region 3 with(fail)
 have hb1:Below w.heap.size w ((w.alloc (.cells #[.int .i64 n] 110)).alloc (.cells #[.int .i64 0,.int .i64 0,.int .i64 0,.string ⟨#[]⟩,.slice none 0 0] 27)):=(bA).alloc (by simp) _;have hw:=(Zd w [.int .i64 n] 110).alloc (.cells #[.int .i64 0,.int .i64 0,.int .i64 0,.string ⟨#[]⟩,.slice none 0 0] 27);have hn:=Zd (w.alloc (.cells #[.int .i64 n] 110)) [.int .i64 0,.int .i64 0,.int .i64 0,.string ⟨#[]⟩,.slice none 0 0] 27;rw[show(w.alloc (.cells #[.int .i64 n] 110)).heap.size=w.heap.size+1 by simp]at hn;have hlt:=H2.o.lt;refine wp_mono (Q:=Exit.then (Met (RCE b0 b1 b2 w.heap.size (w.heap.size+1) B n x1 x2 a0 a1 a2 a3 a4 _ _ _ _ _ _ _ _)) (fun _ _ _=>False)) (reg_CE b0 b1 b2 w.heap.size (w.heap.size+1) B n x1 x2 a0 a1 a2 a3 a4 _ (H0.o.old hb1) (H1.o.old hb1) (H2.o.old hb1) hw hn h01 h12 hlt (Nat.lt_succ_self _) hB _ _ _ _ _ _ _ _ _ _ _ _ (fun _ _ q=>q) (fun _ _ q=>q)) ?_;intro e a' w' hq
 cases e with
 |normal=>
  obtain⟨⟨g0,g1,g2,g3⟩,rfl⟩:=(show RCE b0 b1 b2 w.heap.size (w.heap.size+1) B n x1 x2 a0 a1 a2 a3 a4 _ _ _ _ _ _ _ _ a' w' from hq);exact⟨rfl,_,rfl,.tuple #[],by simp [results,results57],rfl,rfl,(hb1.mono (by omega)).trans g0,g1,g2,g3⟩
 |_=>exact False.elim hq
structure VCP (b0 b1 b2 T0 T1 B:Nat)(n x1 x2:Int)(a0 a1:Value)(W:World)(L:Nat→Bool)(z12 z13 z14:Value)(wx:World):Prop where
 ord:L 5=true→∀j,j<5→L j=true
 p4_3:L 4=true→L 3=true
 c0:L 0=true→z12=.agg #[.slice none 0 0,.slice none 0 0]
 c1:L 1=true→z13=.pointer (some ⟨T0,0,none⟩)
 c2:L 2=true→z14=.int .i64 n
 fr:Below B W wx
 o0:L 3=false→Ae wx b0 [a0,a1] 34
 o0t:L 3=true→Ae wx b0 [.slice none 0 0,.slice none 0 0] 34
 o1:L 4=false→Ae wx b1 [.int .i64 x1] 28
 o1t:L 4=true→Ae wx b1 [.int .i64 40] 28
 o2:L 5=false→Ae wx b2 [.int .i64 x2] 3
 o2t:L 5=true→Ae wx b2 [.int .i64 n] 3
 wr:Ae wx T0 [.int .i64 n] 110
 nn:Ae wx T1 [.slice none 0 0,.slice none 0 0] 34
def ICP(b0 b1 b2 T0 T1 B:Nat)(n x1 x2:Int)(a0 a1:Value)(W:World)(q4 q6 q7 q8 q9 q10 q11:Value)(L:Nat→Bool)(a':Act)(w':World):Prop:=
 ∃z12 z13 z14:Value,VCP b0 b1 b2 T0 T1 B n x1 x2 a0 a1 W L z12 z13 z14 w'∧a'=⟨[.pointer (some ⟨b0,0,none⟩),.pointer (some ⟨b1,0,none⟩),.pointer (some ⟨b2,0,none⟩),.pointer (some ⟨T0,0,none⟩),q4,.pointer (some ⟨T1,0,none⟩),q6,q7,q8,q9,q10,q11,z12,z13,z14].toArray,[]⟩
def RCP(b0 b1 b2 T0 T1 B:Nat)(n x1 x2:Int)(a0 a1:Value)(W:World)(q4 q6 q7 q8 q9 q10 q11:Value)(a':Act)(w':World):Prop:=
 (Below B W w'∧Ae w' b0 [.slice none 0 0,.slice none 0 0] 34∧Ae w' b1 [.int .i64 40] 28∧Ae w' b2 [.int .i64 n] 3)∧a'=⟨[.pointer (some ⟨b0,0,none⟩),.pointer (some ⟨b1,0,none⟩),.pointer (some ⟨b2,0,none⟩),.pointer (some ⟨T0,0,none⟩),q4,.pointer (some ⟨T1,0,none⟩),q6,q7,q8,q9,q10,q11,.agg #[.slice none 0 0,.slice none 0 0],.pointer (some ⟨T0,0,none⟩),.int .i64 n].toArray,[]⟩
theorem reg_CP(b0 b1 b2 T0 T1 B:Nat)(n x1 x2:Int)(a0 a1:Value)(W:World)(h0:Ae W b0 [a0,a1] 34)(h1:Ae W b1 [.int .i64 x1] 28)(h2:Ae W b2 [.int .i64 x2] 3)(hw:Ae W T0 [.int .i64 n] 110)(hn:Ae W T1 [.slice none 0 0,.slice none 0 0] 34)(h01:b0<b1)(h12:b1<b2)(h2t:b2<T0)(htt:T0<T1)(hB:B≤b0)(q4 q6 q7 q8 q9 q10 q11 q12 q13 q14:Value)(J K':Act→World→Prop)(hJ:∀a' w',RCP b0 b1 b2 T0 T1 B n x1 x2 a0 a1 W q4 q6 q7 q8 q9 q10 q11 a' w'→J a' w')(hM:∀a' w',Met J a' w'→K' a' w'):
  Code.wp Zc ((Tryz.f63.body.bind (Ld 3)).getD .skip) (Exit.then K' (fun _ _ _=>False)) ⟨[.pointer (some ⟨b0,0,none⟩),.pointer (some ⟨b1,0,none⟩),.pointer (some ⟨b2,0,none⟩),.pointer (some ⟨T0,0,none⟩),q4,.pointer (some ⟨T1,0,none⟩),q6,q7,q8,q9,q10,q11,q12,q13,q14].toArray,[]⟩ W:=by
 have H0:=Za h0;have H1:=Za h1;have H2:=Za h2;have HW:=Za hw;have HN:=Za hn;clear h0 h1 h2 hw hn
 conv=>arg 2;whnf
 (try dsimp only);refine Fp (by kernel_rfl) (by kernel_rfl) (ICP b0 b1 b2 T0 T1 B n x1 x2 a0 a1 W q4 q6 q7 q8 q9 q10 q11) ?_ ?_ ?_
 ·exact⟨q12,q13,q14,⟨(fun h=>by cases h),(fun h=>by cases h),(fun h=>by cases h),(fun h=>by cases h),(fun h=>by cases h),((Ze _ _).drew),(fun _=>H0.o.old (Ze _ _).drew),(fun h=>by cases h),(fun _=>H1.o.old (Ze _ _).drew),(fun h=>by cases h),(fun _=>H2.o.old (Ze _ _).drew),(fun h=>by cases h),(HW.o.old (Ze _ _).drew),(HN.o.old (Ze _ _).drew)⟩,rfl⟩
 ·intro L act wx k hI hk hl hd
  obtain⟨z12,z13,z14,hV,rfl⟩:=hI;have hk:k=0∨k=1∨k=2∨k=3∨k=4∨k=5:=by
   have:k<6:=hk;omega
  rcases hk with rfl|rfl|rfl|rfl|rfl|rfl
  ·have nl:=kf hV.ord hl
   have hn:=hV.nn;have n0:=hn.at 0 _ rfl;have nf0:=hn.fz 0;have n1:=hn.at 1 _ rfl;have nf1:=hn.fz 1;have nlt:=hn.lt;refine Bc _ rfl rfl (fun K' hK=>?_)
   conv=>arg 2;whnf
   go_wp2_with fail
   exact⟨.agg #[.slice none 0 0,.slice none 0 0],z13,z14,⟨kl nl,kq hV.p4_3,(fun _=>rfl),kc hV.c1,kc hV.c2,hV.fr,(fun h0=>hV.o0 (kb h0)),kc hV.o0t,(fun h0=>hV.o1 (kb h0)),kc hV.o1t,(fun h0=>hV.o2 (kb h0)),kl nl,hV.wr,hV.nn⟩,rfl⟩
  ·have nl:=kf hV.ord hl
   refine Bc _ rfl rfl (fun K' hK=>?_)
   conv=>arg 2;whnf
   go_wp2_with fail
   exact⟨z12,.pointer (some ⟨T0,0,none⟩),z14,⟨kl nl,kq hV.p4_3,kc hV.c0,(fun _=>rfl),kc hV.c2,hV.fr,(fun h0=>hV.o0 (kb h0)),kc hV.o0t,(fun h0=>hV.o1 (kb h0)),kc hV.o1t,(fun h0=>hV.o2 (kb h0)),kl nl,hV.wr,hV.nn⟩,rfl⟩
  ·have nl:=kf hV.ord hl
   have d1:L 1=true:=hd _ rfl ⟨1,.data⟩ (by simp) rfl;obtain rfl:=(hV.c1 d1).symm;have hw:=hV.wr;have w0:=hw.at 0 _ rfl;have wf0:=hw.fz 0;have wlt:=hw.lt;refine Bc _ rfl rfl (fun K' hK=>?_)
   conv=>arg 2;whnf
   go_wp2_with fail
   exact⟨z12,.pointer (some ⟨T0,0,none⟩),.int .i64 n,⟨kl nl,kq hV.p4_3,kc hV.c0,kc hV.c1,(fun _=>rfl),hV.fr,(fun h0=>hV.o0 (kb h0)),kc hV.o0t,(fun h0=>hV.o1 (kb h0)),kc hV.o1t,(fun h0=>hV.o2 (kb h0)),kl nl,hV.wr,hV.nn⟩,rfl⟩
  ·have nl:=kf hV.ord hl
   have d0:L 0=true:=hd _ rfl ⟨0,.data⟩ (by simp) rfl;obtain rfl:=(hV.c0 d0).symm;have ho:=hV.o0 hl;have x0:=ho.at 0 _ rfl;have xf0:=ho.fz 0;have x1:=ho.at 1 _ rfl;have xf1:=ho.fz 1;have xlt:=ho.lt;refine Bc _ rfl rfl (fun K' hK=>?_)
   conv=>arg 2;whnf
   go_wp2_with fail
   exact⟨.agg #[.slice none 0 0,.slice none 0 0],z13,z14,⟨kl nl,(fun _=>Bb L 3),kc hV.c0,kc hV.c1,kc hV.c2,((hV.fr.setCell (p:=⟨b0,0,none⟩) (show B≤b0 by omega) _).setCell (p:=⟨b0,1,none⟩) (show B≤b0 by omega) _),(ks),(fun _=>((ho.set 0 (.slice none 0 0)).set 1 (.slice none 0 0))),(fun h=>(((hV.o1 (kb h)).other (by omega) _ _).other (by omega) _ _)),(fun h=>(((hV.o1t (kb h)).other (by omega) _ _).other (by omega) _ _)),(fun h=>(((hV.o2 (kb h)).other (by omega) _ _).other (by omega) _ _)),kl nl,((hV.wr.other (by omega) _ _).other (by omega) _ _),((hV.nn.other (by omega) _ _).other (by omega) _ _)⟩,rfl⟩
  ·have nl:=kf hV.ord hl
   have d3:L 3=true:=hd _ rfl ⟨3,.chain⟩ (by simp) rfl;have ho:=hV.o1 hl;have x0:=ho.at 0 _ rfl;have xf0:=ho.fz 0;have xlt:=ho.lt;refine Bc _ rfl rfl (fun K' hK=>?_)
   conv=>arg 2;whnf
   go_wp2_with fail
   exact⟨z12,z13,z14,⟨kl nl,(kd (d3)),kc hV.c0,kc hV.c1,kc hV.c2,(hV.fr.setCell (p:=⟨b1,0,none⟩) (show B≤b1 by omega) _),(fun h=>((hV.o0 (kb h)).other (by omega) _ _)),(fun h=>((hV.o0t (kb h)).other (by omega) _ _)),(ks),(fun _=>ho.set 0 (.int .i64 40)),(fun h=>((hV.o2 (kb h)).other (by omega) _ _)),kl nl,(hV.wr.other (by omega) _ _),(hV.nn.other (by omega) _ _)⟩,rfl⟩
  ·have before:∀j,j<5→L j=true:=fun j hj=>by
    have hj:j=0∨j=1∨j=2∨j=3∨j=4:=by omega
    rcases hj with rfl|rfl|rfl|rfl|rfl
    ·exact hd _ rfl ⟨0,.phase⟩ (by simp) rfl
    ·exact hd _ rfl ⟨1,.phase⟩ (by simp) rfl
    ·exact hd _ rfl ⟨2,.data⟩ (by simp) rfl
    ·exact hd _ rfl ⟨3,.phase⟩ (by simp) rfl
    ·exact hd _ rfl ⟨4,.chain⟩ (by simp) rfl
   have d2:L 2=true:=hd _ rfl ⟨2,.data⟩ (by simp) rfl;obtain rfl:=(hV.c2 d2).symm;have d4:L 4=true:=hd _ rfl ⟨4,.chain⟩ (by simp) rfl;have ho:=hV.o2 hl;have x0:=ho.at 0 _ rfl;have xf0:=ho.fz 0;have xlt:=ho.lt;refine Bc _ rfl rfl (fun K' hK=>?_)
   conv=>arg 2;whnf
   go_wp2_with fail
   exact⟨z12,z13,.int .i64 n,⟨(fun _ j hj=>by rw[Ab L (show j≠5 by omega)];exact before j hj),kq hV.p4_3,kc hV.c0,kc hV.c1,kc hV.c2,(hV.fr.setCell (p:=⟨b2,0,none⟩) (show B≤b2 by omega) _),(fun h=>by rw[Ab L (by decide),before 3 (by decide)]at h;cases h),(fun h=>((hV.o0t (kb h)).other (by omega) _ _)),(fun h=>by rw[Ab L (by decide),before 4 (by decide)]at h;cases h),(fun h=>((hV.o1t (kb h)).other (by omega) _ _)),(ks),(fun _=>ho.set 0 (.int .i64 n)),(hV.wr.other (by omega) _ _),(hV.nn.other (by omega) _ _)⟩,rfl⟩
 ·intro L act wx hI hall
  obtain⟨z12,z13,z14,hV,rfl⟩:=hI;obtain rfl:=(hV.c0 (hall 0 (by decide))).symm;obtain rfl:=(hV.c1 (hall 1 (by decide))).symm;obtain rfl:=(hV.c2 (hall 2 (by decide))).symm;exact hM _ _ (Met.intro (hJ _ _ ⟨⟨hV.fr,hV.o0t (hall 3 (by decide)),hV.o1t (hall 4 (by decide)),hV.o2t (hall 5 (by decide))⟩,rfl⟩))
theorem jC(b0 b1 b2:Nat)(w:World):
  CallsD Zc 63 #[.pointer (some ⟨b0,0,none⟩),.pointer (some ⟨b1,0,none⟩),.pointer (some ⟨b2,0,none⟩)] .returning w fun e u' w'=>e=.returned (.tuple #[])∧u'=.returning∧Below w.heap.size w w':=by
 refine callsD_of_wpS func63 rfl fun c₀ cs hu=>?_
 have hfr:(#[Value.pointer (some ⟨b0,0,none⟩),.pointer (some ⟨b1,0,none⟩),.pointer (some ⟨b2,0,none⟩)]++Array.replicate (Tryz.f63.ntmps-(#[Value.pointer (some ⟨b0,0,none⟩),.pointer (some ⟨b1,0,none⟩),.pointer (some ⟨b2,0,none⟩)]:Array Value).size) undef)= #[.pointer (some ⟨b0,0,none⟩),.pointer (some ⟨b1,0,none⟩),.pointer (some ⟨b2,0,none⟩),undef,undef,undef,undef,undef,undef,undef,undef,undef,undef,undef,undef]:=by
  rw[ntmps63];rfl
 rw[hfr];clear hfr;apply wpS_seq
 refine Sg rfl ?_;refine nD rfl ?hr ?hc ?hh
 case hc=>simp only[recoverD,hu]
 case hr=>simp [go_sem]
 case hh=>
 iterate 7
  refine Vs rfl (fun K' hK=>?_);go_wp2_with fail
 show Code.wpS _ _ _ _ _ _
 refine wpS_of_wp ?_;go_wp2_with fail
 refine⟨rfl,.returning,by cases c₀;cases hu;rfl,.tuple #[],by simp [results,results63],rfl,rfl,bA⟩
theorem Ru(b0 b1 b2:Nat)(n x1 x2:Int)(a0 a1:Value)(older:List PanicEntry)(B:Nat)(w:World)(h0:Ae w b0 [a0,a1] 34)(h1:Ae w b1 [.int .i64 x1] 28)(h2:Ae w b2 [.int .i64 x2] 3)(h01:b0<b1)(h12:b1<b2)(hB:B≤b0):
  CallsD Zc 63 #[.pointer (some ⟨b0,0,none⟩),.pointer (some ⟨b1,0,none⟩),.pointer (some ⟨b2,0,none⟩)] (.panicking ({v:=Mk n,recovered:=false}::older)) w fun e u' w'=>e=.returned (.tuple #[])∧u'=.panicking ({v:=Mk n,recovered:=true}::older)∧Below B w w'∧
   Ae w' b0 [.slice none 0 0,.slice none 0 0] 34∧Ae w' b1 [.int .i64 40] 28∧Ae w' b2 [.int .i64 n] 3:=by
 refine callsD_of_wpS func63 rfl fun c₀ cs hu=>?_
 have hfr:(#[Value.pointer (some ⟨b0,0,none⟩),.pointer (some ⟨b1,0,none⟩),.pointer (some ⟨b2,0,none⟩)]++Array.replicate (Tryz.f63.ntmps-(#[Value.pointer (some ⟨b0,0,none⟩),.pointer (some ⟨b1,0,none⟩),.pointer (some ⟨b2,0,none⟩)]:Array Value).size) undef)= #[.pointer (some ⟨b0,0,none⟩),.pointer (some ⟨b1,0,none⟩),.pointer (some ⟨b2,0,none⟩),undef,undef,undef,undef,undef,undef,undef,undef,undef,undef,undef,undef]:=by
  rw[ntmps63];rfl
 rw[hfr];clear hfr;apply wpS_seq
 refine Sg rfl ?_;refine mS rfl ?hr (v:=Mk n) (cs':= {c₀ with mode:=.panicking ({v:=Mk n,recovered:=true}::older)}::cs) ?hc ?hh
 case hc=>simp only[recoverD,hu]
 case hr=>simp [go_sem]
 case hh=>
 unfold Mk at*;have H0:=Za h0;have H1:=Za h1;have H2:=Za h2;clear hu h0 h1 h2
 iterate 7
  refine Vs rfl (fun K' hK=>?_);go_wp2_with fail
 show Code.wpS _ _ _ _ _ _
 refine wpS_of_wp ?_;go_upto_region 3 with(fail)
 have hb1:Below w.heap.size w ((w.alloc (.cells #[.int .i64 n] 110)).alloc (.cells #[.slice none 0 0,.slice none 0 0] 34)):=(bA).alloc (by simp) _;have hw:=(Zd w [.int .i64 n] 110).alloc (.cells #[.slice none 0 0,.slice none 0 0] 34);have hn:=Zd (w.alloc (.cells #[.int .i64 n] 110)) [.slice none 0 0,.slice none 0 0] 34;rw[show(w.alloc (.cells #[.int .i64 n] 110)).heap.size=w.heap.size+1 by simp]at hn;have hlt:=H2.o.lt;refine wp_mono (Q:=Exit.then (Met (RCP b0 b1 b2 w.heap.size (w.heap.size+1) B n x1 x2 a0 a1 _ _ _ _ _ _ _ _)) (fun _ _ _=>False)) (reg_CP b0 b1 b2 w.heap.size (w.heap.size+1) B n x1 x2 a0 a1 _ (H0.o.old hb1) (H1.o.old hb1) (H2.o.old hb1) hw hn h01 h12 hlt (Nat.lt_succ_self _) hB _ _ _ _ _ _ _ _ _ _ _ _ (fun _ _ q=>q) (fun _ _ q=>q)) ?_;intro e a' w' hq
 cases e with
 |normal=>
  obtain⟨⟨g0,g1,g2,g3⟩,rfl⟩:=(show RCP b0 b1 b2 w.heap.size (w.heap.size+1) B n x1 x2 a0 a1 _ _ _ _ _ _ _ _ a' w' from hq);exact⟨rfl,_,rfl,.tuple #[],by simp [results,results63],rfl,rfl,(hb1.mono (by omega)).trans g0,g1,g2,g3⟩
 |_=>exact False.elim hq
theorem aU {w:World}{base g cap:Nat}{T:List Tk}(h:Gt w base T (.slice (some ⟨g,0,none⟩) T.length cap)):∀(l pre:List Tk),T=pre++l→Nj w g (pre.length*4) l
 |[],pre,e=>trivial
 |t::l,pre,e=>by
  have ht:T[pre.length]? =some t:=by rw[e];simp
  have hlt:pre.length<T.length:=by rw[e];simp
  have cell:∀q u,q<4→(Ii t)[q]? =some u→w.cell? ⟨g,pre.length*4+q,none⟩=some u:=by
   intro q u hq hu;have h1:=h.cellAt (pre.length*4+q) (by omega);rw[Mu Ii 4 (fun _=>rfl) T pre.length q t ht hq,hu]at h1;exact h1
  have ih:=aU h l (pre++[t]) (by rw[e];simp);rw[List.length_append,List.length_singleton,Nat.succ_mul]at ih;exact⟨cell 0 _ (by decide) rfl,cell 1 _ (by decide) rfl,cell 2 _ (by decide) rfl,cell 3 _ (by decide) rfl,ih⟩
theorem iX {w:World}{base:Nat}{T:List Tk}{v:Value}(h:Gt w base T v)(h0:0<T.length):∃g cap,v=.slice (some ⟨g,0,none⟩) T.length cap∧Nj w g 0 T∧T.length≤cap∧g<w.heap.size∧base≤g:=by
 have hlt:=World.ownsRow.lt h;rcases h.2 with⟨_,hz⟩|⟨g,cap,cur,rfl,hb,hg,hc,r⟩
 ·omega
 ·have:=aU h T [] rfl
  exact⟨g,cap,rfl,by simpa using this,hc,(hlt g rfl).2,hb⟩
theorem Ps.under {w:World}{p tb:Nat}{l:List Tk}(h:Ps w p tb l){k:Nat}(hk:k<tb)(i:Nat)(v:Value):Ps (w.setCell ⟨k,i,none⟩ v) p tb l:=by
 obtain⟨o,cap,h⟩:=h;exact⟨o,cap,⟨h.own.other (by have:=h.lt;omega) i v,h.row.keep (Ai w (by show ¬k=tb;omega) i v),h.hcap,h.fit,h.lt,h.ends,h.nums⟩⟩
theorem Bt.ymono {D D':Nat→Prop}{w:World}(hD:∀b,D b→D' b){l:List Ar}{v:Value}(h:Bt D w l v):Bt D' w l v:=by
 obtain⟨a,cap,b,off,hv,h1,h2,h3,h4⟩:=h;exact⟨a,cap,b,off,hv,h1,h2,h3.imp id fun h=>⟨h.1,hD _ h.2⟩,h4⟩
theorem Bw.ymono {D D':Nat→Prop}{w:World}(hD:∀b,D b→D' b){l:List Fu}{v:Value}(h:Bw D w l v):Bw D' w l v:=by
 obtain⟨a,cap,b,off,pv,lv,bv,hv,h1,h2,h3,h4⟩:=h;exact⟨a,cap,b,off,pv,lv,bv,hv,h1,h2,h3.imp id fun h=>⟨h.1,hD _ h.2⟩,fun i hi=>⟨(h4 i hi).1,(h4 i hi).2.1.mono hD,(h4 i hi).2.2.1.mono hD,(h4 i hi).2.2.2.mono hD⟩⟩
theorem Bt.yshape {D:Nat→Prop}{w:World}{l:List Ar}{v:Value}(h:Bt D w l v):∃a cap,v=.slice a l.length cap:=by
 obtain⟨a,cap,b,off,hv,_⟩:=h;exact⟨a,cap,hv⟩
theorem Bw.yshape {D:Nat→Prop}{w:World}{l:List Fu}{v:Value}(h:Bw D w l v):∃a cap,v=.slice a l.length cap:=by
 obtain⟨a,cap,b,off,pv,lv,bv,hv,_⟩:=h;exact⟨a,cap,hv⟩
theorem Xq {D:Nat→Prop}(w:World){b:Nat}(hb:¬D b)(c0 c1:Value):Ed D w ((w.setCell ⟨b,0,none⟩ c0).setCell ⟨b,1,none⟩ c1):=
 (Ai w hb 0 c0).trans (Ai _ hb 1 c1)
def eE:PR Ex→Ex ×Int ×Int
 |.error n=>(exZ,40,n)
 |.ok (_,[])=>(exZ,40,0)
 |.ok (x,t::_)=>if t.kind=5 then(x,0,0)else(exZ,40,t.line)
def WhE(w:World)(r:Ex ×Int ×Int)(e:Ending)(w':World):Prop:=Below w.heap.size w w'∧∃v,e=.returned (.tuple #[v,.int .i64 r.2.1,.int .i64 r.2.2])∧ExH w.heap.size r.1 v w'
theorem pB(z:Bs)(T:List Tk)(hE:Kl T)(hN:∀t,t∈T→I64 t.num)(hL:T.length≤1000000)(f:Nat)(hf:4*T.length+4≤f)(w:World)(HSC:Hid (∀w1,Below w.heap.size w w1→Calls Zc 20 #[.string (Aa z)] w1 fun e w'=>Below w1.heap.size w1 w'∧∃v,e=.returned (.tuple #[v,.int .i64 0,.int .i64 0])∧Gt w' w1.heap.size T v)):
  Calls Zc 26 #[.string (Aa z),.func (.func 27) #[] #[]] w (WhE w (eE (Bf f 1 T))):=by
 have hmf:∀(fn:Fn) (first cap:Array Value) (w:World),(Instr.makeFunc fn first cap).run Zc w=.ok (.func fn first cap) w:=fun _ _ _ _=>rfl
 obtain⟨W,hW⟩:∃W,(((w.alloc (.cells #[.int .i64 0,.int .i64 0,.int .i64 0,.string ⟨#[]⟩,.slice none 0 0] 27)).alloc (.cells #[.int .i64 0] 28)).alloc (.cells #[.int .i64 0] 3))=W:=⟨_,rfl⟩;have hb0:Below w.heap.size w W:=hW ▸ ((bA).alloc (by simp) _).alloc (by simp;omega) _;have hws:W.heap.size=w.heap.size+3:=by rw[←hW];simp
 have h0:Ae W w.heap.size [.int .i64 0,.int .i64 0,.int .i64 0,.string ⟨#[]⟩,.slice none 0 0] 27:=hW ▸ ((Zd w [.int .i64 0,.int .i64 0,.int .i64 0,.string ⟨#[]⟩,.slice none 0 0] 27).alloc _).alloc _;have h1:Ae W (w.heap.size+1) [.int .i64 0] 28:=by
  have:=(Zd (w.alloc (.cells #[.int .i64 0,.int .i64 0,.int .i64 0,.string ⟨#[]⟩,.slice none 0 0] 27)) [.int .i64 0] 28).alloc (.cells #[.int .i64 0] 3);rw[show(w.alloc (.cells #[.int .i64 0,.int .i64 0,.int .i64 0,.string ⟨#[]⟩,.slice none 0 0] 27)).heap.size=w.heap.size+1 by simp]at this;exact hW ▸ this
 have h2:Ae W (w.heap.size+2) [.int .i64 0] 3:=by
  have:=Zd ((w.alloc (.cells #[.int .i64 0,.int .i64 0,.int .i64 0,.string ⟨#[]⟩,.slice none 0 0] 27)).alloc (.cells #[.int .i64 0] 28)) [.int .i64 0] 3;rw[show((w.alloc (.cells #[.int .i64 0,.int .i64 0,.int .i64 0,.string ⟨#[]⟩,.slice none 0 0] 27)).alloc (.cells #[.int .i64 0] 28)).heap.size=w.heap.size+2 by simp]at this;exact hW ▸ this
 have HS:=Za (HSC.o W hb0);have HB0:=Za hb0;have H0:=Za h0;have H1:=Za h1;have H2:=Za h2;have HWS:=Za hws;have HW:=Za hW;obtain⟨R,hR⟩:∃R,Bf f 1 T=R:=⟨_,rfl⟩;rw[hR];have HR:=Za hR;clear hb0 hws h0 h1 h2 hW hR
 go_enter_defers func26,ntmps26
 go_upto_region 1 with(fail)
 rw[HW.o];rw[show w.heap.size+1+1=w.heap.size+2 from rfl];clear HW;go_wp2_with fail
 refine HS.o.mono ?_;rintro e w1 ⟨hb,v,rfl,ht⟩;have hbw:=HB0.o.trans (hb.mono HB0.o.size);have HB1:=Za hbw;have k1:=H1.o.old hb;have k2:=H2.o.old hb;have HA0:=Za (H0.o.old hb);have HA1:=Za k1;have HA2:=Za k2;have HTK:=Za ht;have x10:=k1.at 0 _ rfl;have x1f:=k1.fz 0;have x20:=k2.at 0 _ rfl;have x2f:=k2.fz 0;have xl1:=k1.lt;have xl2:=k2.lt;clear hb hbw ht k1 k2;go_upto_region 2 with(fail)
 rw[Bj x10,Bj x20];clear x1f x2f xl1 xl2 x20;obtain⟨g,cap,hv,hrow⟩:=iX HTK.o (by obtain⟨t,r,rfl⟩:=hE.ne;simp);have HG:Hid (w.heap.size+3≤g):=(HWS.o ▸ hrow.2.2.2:w.heap.size+3≤g);subst hv;have HROW:=Za hrow;clear hrow;go_upto_region 6 with(fail)
 have hba:Below w1.heap.size w1 (w1.alloc (.cells #[.slice (some ⟨g,0,none⟩) T.length cap] 113)):=bA;have hps:Ps (w1.alloc (.cells #[.slice (some ⟨g,0,none⟩) T.length cap] 113)) w1.heap.size g T:=⟨0,cap,Zd w1 [.slice (some ⟨g,0,none⟩) T.length cap] 113,HROW.o.1.keep (Bh hba),HROW.o.2.1,hL,HROW.o.2.2.1,hE,hN⟩;have HPS:=Za hps;have HBB:=Za (HB1.o.alloc HB1.o.size (.cells #[.slice (some ⟨g,0,none⟩) T.length cap] 113));have HC0:=Za (HA0.o.old hba);have HC1:=Za (HA1.o.old hba);have HC2:=Za (HA2.o.old hba);have hlt2:=HA2.o.lt;have HLT:Hid (w.heap.size+2<w1.heap.size):=hlt2;have HP1:Hid (w1.heap.size<(w1.alloc (.cells #[.slice (some ⟨g,0,none⟩) T.length cap] 113)).heap.size):=hps.lt;clear hba hps hlt2 x10 HROW;obtain⟨pb,hpb⟩:∃pb,w1.heap.size=pb:=⟨_,rfl⟩;rw[hpb]at HPS HLT HP1 ⊢;generalize w1.alloc (.cells #[.slice (some ⟨g,0,none⟩) T.length cap] 113)=w4 at*;clear hpb;have HCALL:=Za ((Ns f).2.1 T w4 pb g (by omega) HPS.o);rw[HR.o]at HCALL;go_wp2_with fail
 refine HCALL.o.mono ?_;intro e w5 he
 cases R with
 |error n=>
  obtain⟨hf,rfl⟩:=he;have h0:=HC0.o.sfr hf (by have:=HLT.o;omega);have h1:=HC1.o.sfr hf (by have:=HLT.o;omega);have h2:=HC2.o.sfr hf (by have:=HLT.o;omega);have hbf:Below w.heap.size w w5:=HBB.o.trans ((hf.below (Zf HP1.o)).mono (by have:=HLT.o;omega));have HX0:=Za h0;have HX1:=Za h1;have HX2:=Za h2;have HBF:=Za hbf;clear h0 h1 h2 hbf hf;unfold Bk;go_wp2_with fail
  refine leaves_cons (f:=57) (args:= #[.pointer (some ⟨w.heap.size,0,none⟩),.pointer (some ⟨w.heap.size+1,0,none⟩),.pointer (some ⟨w.heap.size+2,0,none⟩)]) (by simp) (by simp [go_sem]) ?_;refine(Ro w.heap.size (w.heap.size+1) (w.heap.size+2) n 0 0 (.int .i64 0) (.int .i64 0) (.int .i64 0) (.string ⟨#[]⟩) (.slice none 0 0) [] w.heap.size w5 HX0.o HX1.o HX2.o (by omega) (by omega) (Zb _)).mono ?_;rintro e u' w'' ⟨rfl,rfl,hb,g0,g1,g2⟩;have hwb:=HBF.o.trans (hb.mono (Zb _));have d0:=g0.at 0 _ rfl;have f0:=g0.fz 0;have d1:=g0.at 1 _ rfl;have f1:=g0.fz 1;have d2:=g0.at 2 _ rfl;have f2:=g0.fz 2;have d3:=g0.at 3 _ rfl;have f3:=g0.fz 3;have d4:=g0.at 4 _ rfl;have f4:=g0.fz 4;have e0:=g1.at 0 _ rfl;have e1:=g1.fz 0;have i0:=g2.at 0 _ rfl;have i1:=g2.fz 0;show ∃v,(results Tryz.f26 _).run Zc w''=.ok v w''∧_
  refine⟨.tuple #[.agg #[.int .i64 0,.int .i64 0,.int .i64 0,.string ⟨#[]⟩,.slice none 0 0],.int .i64 40,.int .i64 n],by simp [results,results26,go_sem,d0,d1,d2,d3,d4,e0,i0],hwb,_,rfl,⟨_,rfl,Ag.zero,Gp⟩⟩
 |ok q=>
  obtain⟨x,r⟩:=q;obtain⟨hf,v,rfl,hps,hv⟩:=he;obtain⟨s5,rfl,hx,hn5⟩:=hv;obtain⟨a1,a2,rfl⟩:=hx.shape;have h0:=HC0.o.sfr hf (by have:=HLT.o;omega);have h1:=HC1.o.sfr hf (by have:=HLT.o;omega);have h2:=HC2.o.sfr hf (by have:=HLT.o;omega);have hbf:Below w.heap.size w w5:=HBB.o.trans ((hf.below (Zf HP1.o)).mono (by have:=HLT.o;omega));have HX0:=Za h0;have HX1:=Za h1;have HX2:=Za h2;have HBF:=Za hbf;have hg:=HG.o;have hw5:w.heap.size+3≤w5.heap.size:=by have:=h2.lt;omega
  have y0:=h0.at 0 _ rfl;have f0:=h0.fz 0;have y1:=h0.at 1 _ rfl;have f1:=h0.fz 1;have y2:=h0.at 2 _ rfl;have f2:=h0.fz 2;have y3:=h0.at 3 _ rfl;have f3:=h0.fz 3;have y4:=h0.at 4 _ rfl;have f4:=h0.fz 4;obtain⟨t,r',rfl⟩:=hps.ends.ne;obtain⟨W6,hW6⟩:∃W6,(((((w5.setCell ⟨w.heap.size,0,none⟩ (.int .i64 x.kind)).setCell ⟨w.heap.size,1,none⟩ (.int .i64 x.op)).setCell ⟨w.heap.size,2,none⟩ (.int .i64 x.n)).setCell ⟨w.heap.size,3,none⟩ (.string (Aa x.name))).setCell ⟨w.heap.size,4,none⟩ (.slice a1 x.args.length a2))=W6:=⟨_,rfl⟩;have kk:Ed (w.heap.size< ·) w5 W6:=hW6 ▸ (La w5 (by show ¬w.heap.size<w.heap.size;omega) _ _ _ _ _);have HPS6:=Za (show Ps W6 pb g (t::r')from hW6 ▸ (((((hps.under (by omega) _ _).under (by omega) _ _).under (by omega) _ _).under (by omega) _ _).under (by omega) _ _));have HO0:=Za (show Ae W6 w.heap.size [.int .i64 x.kind,.int .i64 x.op,.int .i64 x.n,.string (Aa x.name),.slice a1 x.args.length a2] 27 from hW6 ▸ (((((h0.set 0 (.int .i64 x.kind)).set 1 (.int .i64 x.op)).set 2 (.int .i64 x.n)).set 3 (.string (Aa x.name))).set 4 (.slice a1 x.args.length a2)));have HO1:=Za (show Ae W6 (w.heap.size+1) [.int .i64 0] 28 from hW6 ▸ (((((h1.other (by omega) _ _).other (by omega) _ _).other (by omega) _ _).other (by omega) _ _).other (by omega) _ _));have HO2:=Za (show Ae W6 (w.heap.size+2) [.int .i64 0] 3 from hW6 ▸ (((((h2.other (by omega) _ _).other (by omega) _ _).other (by omega) _ _).other (by omega) _ _).other (by omega) _ _))
  have HB6:=Za (show Below w.heap.size w W6 from hW6 ▸ (((((hbf.setCell (p:=⟨w.heap.size,0,none⟩) (Zb _) (.int .i64 x.kind)).setCell (p:=⟨w.heap.size,1,none⟩) (Zb _) (.int .i64 x.op)).setCell (p:=⟨w.heap.size,2,none⟩) (Zb _) (.int .i64 x.n)).setCell (p:=⟨w.heap.size,3,none⟩) (Zb _) (.string (Aa x.name))).setCell (p:=⟨w.heap.size,4,none⟩) (Zb _) (.slice a1 x.args.length a2)));have HKK:=Za kk;have HW6:=Za hW6;have HV:=Za (show Ag (w4.heap.size≤ ·) w5 x.args _∧I64 x.n from⟨hx,hn5⟩);clear h0 h1 h2 hps hbf kk hW6 hg hx hn5;go_upto_region 7 with(fail)
  rw[HW6.o];have HN:=Za (Ha pb g t r' W6 HPS6.o);clear y0 f0 y1 f1 y2 f2 y3 f3 y4 f4 HW6;go_wp2_with fail
  refine HN.o.mono ?_;rintro e w7 ⟨rfl,hb7⟩;unfold tkV;have HQ0:=Za (HO0.o.old hb7);have HQ1:=Za (HO1.o.old hb7);have HQ2:=Za (HO2.o.old hb7);have HPS7:=Za (HPS6.o.old hb7);have HB7:=Za (HB6.o.trans (hb7.mono HB6.o.size));have HK7:=Za (HKK.o.trans (Bh hb7));clear hb7
  by_cases hk:t.kind=5
  ·rw[hk]
   have z0:=HQ0.o.at 0 _ rfl;have g0:=HQ0.o.fz 0;have z1:=HQ0.o.at 1 _ rfl;have g1:=HQ0.o.fz 1;have z2:=HQ0.o.at 2 _ rfl;have g2:=HQ0.o.fz 2;have z3:=HQ0.o.at 3 _ rfl;have g3:=HQ0.o.fz 3;have z4:=HQ0.o.at 4 _ rfl;have g4:=HQ0.o.fz 4;have u1:=HQ1.o.at 0 _ rfl;have v1:=HQ1.o.fz 0;have u2:=HQ2.o.at 0 _ rfl;have v2:=HQ2.o.fz 0;clear hmf;go_wp2_with fail
   rw[Bj z0,Bj z1,Bj z2,Bj z3,Bj z4,Bj u1,Bj u2];refine leaves_cons (f:=57) (args:= #[.pointer (some ⟨w.heap.size,0,none⟩),.pointer (some ⟨w.heap.size+1,0,none⟩),.pointer (some ⟨w.heap.size+2,0,none⟩)]) (by simp) (by simp [go_sem]) ?_;refine(eX w.heap.size (w.heap.size+1) (w.heap.size+2) w7).mono ?_;rintro e u' w'' ⟨rfl,rfl,hb⟩;clear z0 g0 z1 g1 z2 g2 z3 g3 z4 g4 u1 v1 u2 v2;have hwb:=HB7.o.trans (hb.mono HB7.o.size);have g0:=HQ0.o.old hb;have g1:=HQ1.o.old hb;have g2:=HQ2.o.old hb;have d0:=g0.at 0 _ rfl;have f0:=g0.fz 0;have d1:=g0.at 1 _ rfl;have f1:=g0.fz 1;have d2:=g0.at 2 _ rfl;have f2:=g0.fz 2;have d3:=g0.at 3 _ rfl;have f3:=g0.fz 3;have d4:=g0.at 4 _ rfl;have f4:=g0.fz 4;have e0:=g1.at 0 _ rfl;have e1:=g1.fz 0;have i0:=g2.at 0 _ rfl;have i1:=g2.fz 0;show ∃v,(results Tryz.f26 _).run Zc w''=.ok v w''∧_
   refine⟨.tuple #[.agg #[.int .i64 x.kind,.int .i64 x.op,.int .i64 x.n,.string (Aa x.name),.slice a1 x.args.length a2],.int .i64 0,.int .i64 0],by simp [results,results26,go_sem,d0,d1,d2,d3,d4,e0,i0],?_⟩;rw[eE,if_pos hk];exact⟨hwb,_,rfl,⟨_,rfl,(HV.o.1.keep (Qu HK7.o (fun b hb=>by have:=HC2.o.lt;show w.heap.size<b;have:w4.heap.size≤b:=hb;omega))|>.keep (Bh hb)).mono (fun b hb=>by have:=HC2.o.lt;have:w4.heap.size≤b:=hb;show w.heap.size≤b;omega),HV.o.2⟩⟩
  ·have HFL:=Za (Kf pb g t r' w7 HPS7.o)
   go_wp2_with fail
   refine HFL.o.mono ?_;rintro e w8 ⟨rfl,hb8⟩;have h0:=HQ0.o.old hb8;have h1:=HQ1.o.old hb8;have h2:=HQ2.o.old hb8;have HX0:=Za h0;have HX1:=Za h1;have HX2:=Za h2;have HBF:=Za (HB7.o.trans (hb8.mono HB7.o.size));clear h0 h1 h2 hb8;unfold Bk;go_wp2_with fail
   refine leaves_cons (f:=57) (args:= #[.pointer (some ⟨w.heap.size,0,none⟩),.pointer (some ⟨w.heap.size+1,0,none⟩),.pointer (some ⟨w.heap.size+2,0,none⟩)]) (by simp) (by simp [go_sem]) ?_;refine(Ro w.heap.size (w.heap.size+1) (w.heap.size+2) t.line 0 0 (.int .i64 x.kind) (.int .i64 x.op) (.int .i64 x.n) (.string (Aa x.name)) (.slice a1 x.args.length a2) [] w.heap.size w8 HX0.o HX1.o HX2.o (by omega) (by omega) (Zb _)).mono ?_;rintro e u' w'' ⟨rfl,rfl,hb,g0,g1,g2⟩;have hwb:=HBF.o.trans (hb.mono (Zb _));have d0:=g0.at 0 _ rfl;have f0:=g0.fz 0;have d1:=g0.at 1 _ rfl;have f1:=g0.fz 1;have d2:=g0.at 2 _ rfl;have f2:=g0.fz 2;have d3:=g0.at 3 _ rfl;have f3:=g0.fz 3;have d4:=g0.at 4 _ rfl;have f4:=g0.fz 4;have e0:=g1.at 0 _ rfl;have e1:=g1.fz 0;have i0:=g2.at 0 _ rfl;have i1:=g2.fz 0;show ∃v,(results Tryz.f26 _).run Zc w''=.ok v w''∧_
   refine⟨.tuple #[.agg #[.int .i64 0,.int .i64 0,.int .i64 0,.string ⟨#[]⟩,.slice none 0 0],.int .i64 40,.int .i64 t.line],by simp [results,results26,go_sem,d0,d1,d2,d3,d4,e0,i0],?_⟩;rw[eE,if_neg hk];exact⟨hwb,_,rfl,⟨_,rfl,Ag.zero,Gp⟩⟩
def Tv:PR Pr→Pr ×Int ×Int
 |.error n=>((⟨[],[]⟩:Pr),40,n)
 |.ok (_,[])=>((⟨[],[]⟩:Pr),40,0)
 |.ok (x,t::_)=>if t.kind=5 then(x,0,0)else((⟨[],[]⟩:Pr),40,t.line)
def WhP(w:World)(r:Pr ×Int ×Int)(e:Ending)(w':World):Prop:=Below w.heap.size w w'∧∃v,e=.returned (.tuple #[v,.int .i64 r.2.1,.int .i64 r.2.2])∧PrH w.heap.size r.1 v w'
theorem oK(z:Bs)(T:List Tk)(hE:Kl T)(hN:∀t,t∈T→I64 t.num)(hL:T.length≤1000000)(f:Nat)(hf:4*T.length+4≤f)(w:World)(HSC:Hid (∀w1,Below w.heap.size w w1→Calls Zc 20 #[.string (Aa z)] w1 fun e w'=>Below w1.heap.size w1 w'∧∃v,e=.returned (.tuple #[v,.int .i64 0,.int .i64 0])∧Gt w' w1.heap.size T v)):
  Calls Zc 29 #[.string (Aa z),.func (.func 30) #[] #[]] w (WhP w (Tv (Fm f ⟨[],[]⟩ T))):=by
 have hmf:∀(fn:Fn) (first cap:Array Value) (w:World),(Instr.makeFunc fn first cap).run Zc w=.ok (.func fn first cap) w:=fun _ _ _ _=>rfl
 obtain⟨W,hW⟩:∃W,(((w.alloc (.cells #[.slice none 0 0,.slice none 0 0] 34)).alloc (.cells #[.int .i64 0] 28)).alloc (.cells #[.int .i64 0] 3))=W:=⟨_,rfl⟩;have hb0:Below w.heap.size w W:=hW ▸ ((bA).alloc (by simp) _).alloc (by simp;omega) _;have hws:W.heap.size=w.heap.size+3:=by rw[←hW];simp
 have h0:Ae W w.heap.size [.slice none 0 0,.slice none 0 0] 34:=hW ▸ ((Zd w [.slice none 0 0,.slice none 0 0] 34).alloc _).alloc _;have h1:Ae W (w.heap.size+1) [.int .i64 0] 28:=by
  have:=(Zd (w.alloc (.cells #[.slice none 0 0,.slice none 0 0] 34)) [.int .i64 0] 28).alloc (.cells #[.int .i64 0] 3);rw[show(w.alloc (.cells #[.slice none 0 0,.slice none 0 0] 34)).heap.size=w.heap.size+1 by simp]at this;exact hW ▸ this
 have h2:Ae W (w.heap.size+2) [.int .i64 0] 3:=by
  have:=Zd ((w.alloc (.cells #[.slice none 0 0,.slice none 0 0] 34)).alloc (.cells #[.int .i64 0] 28)) [.int .i64 0] 3;rw[show((w.alloc (.cells #[.slice none 0 0,.slice none 0 0] 34)).alloc (.cells #[.int .i64 0] 28)).heap.size=w.heap.size+2 by simp]at this;exact hW ▸ this
 have HS:=Za (HSC.o W hb0);have HB0:=Za hb0;have H0:=Za h0;have H1:=Za h1;have H2:=Za h2;have HWS:=Za hws;have HW:=Za hW;obtain⟨R,hR⟩:∃R,Fm f ⟨[],[]⟩ T=R:=⟨_,rfl⟩;rw[hR];have HR:=Za hR;clear hb0 hws h0 h1 h2 hW hR
 go_enter_defers func29,ntmps29
 go_upto_region 1 with(fail)
 rw[HW.o];rw[show w.heap.size+1+1=w.heap.size+2 from rfl];clear HW;go_wp2_with fail
 refine HS.o.mono ?_;rintro e w1 ⟨hb,v,rfl,ht⟩;have hbw:=HB0.o.trans (hb.mono HB0.o.size);have HB1:=Za hbw;have k1:=H1.o.old hb;have k2:=H2.o.old hb;have HA0:=Za (H0.o.old hb);have HA1:=Za k1;have HA2:=Za k2;have HTK:=Za ht;have x10:=k1.at 0 _ rfl;have x1f:=k1.fz 0;have x20:=k2.at 0 _ rfl;have x2f:=k2.fz 0;have xl1:=k1.lt;have xl2:=k2.lt;clear hb hbw ht k1 k2;go_upto_region 2 with(fail)
 rw[Bj x10,Bj x20];clear x1f x2f xl1 xl2 x20;obtain⟨g,cap,hv,hrow⟩:=iX HTK.o (by obtain⟨t,r,rfl⟩:=hE.ne;simp);have HG:Hid (w.heap.size+3≤g):=(HWS.o ▸ hrow.2.2.2:w.heap.size+3≤g);subst hv;have HROW:=Za hrow;clear hrow;go_upto_region 6 with(fail)
 have hba:Below w1.heap.size w1 (w1.alloc (.cells #[.slice (some ⟨g,0,none⟩) T.length cap] 113)):=bA;have hps:Ps (w1.alloc (.cells #[.slice (some ⟨g,0,none⟩) T.length cap] 113)) w1.heap.size g T:=⟨0,cap,Zd w1 [.slice (some ⟨g,0,none⟩) T.length cap] 113,HROW.o.1.keep (Bh hba),HROW.o.2.1,hL,HROW.o.2.2.1,hE,hN⟩;have HPS:=Za hps;have HBB:=Za (HB1.o.alloc HB1.o.size (.cells #[.slice (some ⟨g,0,none⟩) T.length cap] 113));have HC0:=Za (HA0.o.old hba);have HC1:=Za (HA1.o.old hba);have HC2:=Za (HA2.o.old hba);have hlt2:=HA2.o.lt;have HLT:Hid (w.heap.size+2<w1.heap.size):=hlt2;have HP1:Hid (w1.heap.size<(w1.alloc (.cells #[.slice (some ⟨g,0,none⟩) T.length cap] 113)).heap.size):=hps.lt;clear hba hps hlt2 x10 HROW;obtain⟨pb,hpb⟩:∃pb,w1.heap.size=pb:=⟨_,rfl⟩;rw[hpb]at HPS HLT HP1 ⊢;generalize w1.alloc (.cells #[.slice (some ⟨g,0,none⟩) T.length cap] 113)=w4 at*;clear hpb;have HCALL:=Za (qA f T w4 pb g (by omega) HPS.o);rw[HR.o]at HCALL;go_wp2_with fail
 refine HCALL.o.mono ?_;intro e w5 he
 cases R with
 |error n=>
  obtain⟨hf,rfl⟩:=he;have h0:=HC0.o.sfr hf (by have:=HLT.o;omega);have h1:=HC1.o.sfr hf (by have:=HLT.o;omega);have h2:=HC2.o.sfr hf (by have:=HLT.o;omega);have hbf:Below w.heap.size w w5:=HBB.o.trans ((hf.below (Zf HP1.o)).mono (by have:=HLT.o;omega));have HX0:=Za h0;have HX1:=Za h1;have HX2:=Za h2;have HBF:=Za hbf;clear h0 h1 h2 hbf hf;unfold Bk;go_wp2_with fail
  refine leaves_cons (f:=63) (args:= #[.pointer (some ⟨w.heap.size,0,none⟩),.pointer (some ⟨w.heap.size+1,0,none⟩),.pointer (some ⟨w.heap.size+2,0,none⟩)]) (by simp) (by simp [go_sem]) ?_;refine(Ru w.heap.size (w.heap.size+1) (w.heap.size+2) n 0 0 (.slice none 0 0) (.slice none 0 0) [] w.heap.size w5 HX0.o HX1.o HX2.o (by omega) (by omega) (Zb _)).mono ?_;rintro e u' w'' ⟨rfl,rfl,hb,g0,g1,g2⟩;have hwb:=HBF.o.trans (hb.mono (Zb _));have d0:=g0.at 0 _ rfl;have f0:=g0.fz 0;have d1:=g0.at 1 _ rfl;have f1:=g0.fz 1;have e0:=g1.at 0 _ rfl;have e1:=g1.fz 0;have i0:=g2.at 0 _ rfl;have i1:=g2.fz 0;show ∃v,(results Tryz.f29 _).run Zc w''=.ok v w''∧_
  refine⟨.tuple #[.agg #[.slice none 0 0,.slice none 0 0],.int .i64 40,.int .i64 n],by simp [results,results29,go_sem,d0,d1,e0,i0],hwb,_,rfl,⟨_,_,rfl,Bt.zero,Bw.zero⟩⟩
 |ok q=>
  obtain⟨x,r⟩:=q;obtain⟨hf,v,rfl,hps,hv⟩:=he;obtain⟨av,fv,rfl,hxa,hxf⟩:=hv;obtain⟨a1,a2,rfl⟩:=hxa.yshape;obtain⟨c1,c2,rfl⟩:=hxf.yshape;have h0:=HC0.o.sfr hf (by have:=HLT.o;omega);have h1:=HC1.o.sfr hf (by have:=HLT.o;omega);have h2:=HC2.o.sfr hf (by have:=HLT.o;omega);have hbf:Below w.heap.size w w5:=HBB.o.trans ((hf.below (Zf HP1.o)).mono (by have:=HLT.o;omega));have HX0:=Za h0;have HX1:=Za h1;have HX2:=Za h2;have HBF:=Za hbf;have hg:=HG.o;have hw5:w.heap.size+3≤w5.heap.size:=by have:=h2.lt;omega
  have y0:=h0.at 0 _ rfl;have f0:=h0.fz 0;have y1:=h0.at 1 _ rfl;have f1:=h0.fz 1;obtain⟨t,r',rfl⟩:=hps.ends.ne;obtain⟨W6,hW6⟩:∃W6,((w5.setCell ⟨w.heap.size,0,none⟩ (.slice a1 x.arrays.length a2)).setCell ⟨w.heap.size,1,none⟩ (.slice c1 x.funcs.length c2))=W6:=⟨_,rfl⟩;have kk:Ed (w.heap.size< ·) w5 W6:=hW6 ▸ (Xq w5 (by show ¬w.heap.size<w.heap.size;omega) _ _);have HPS6:=Za (show Ps W6 pb g (t::r')from hW6 ▸ ((hps.under (by omega) _ _).under (by omega) _ _));have HO0:=Za (show Ae W6 w.heap.size [.slice a1 x.arrays.length a2,.slice c1 x.funcs.length c2] 34 from hW6 ▸ ((h0.set 0 (.slice a1 x.arrays.length a2)).set 1 (.slice c1 x.funcs.length c2)));have HO1:=Za (show Ae W6 (w.heap.size+1) [.int .i64 0] 28 from hW6 ▸ ((h1.other (by omega) _ _).other (by omega) _ _));have HO2:=Za (show Ae W6 (w.heap.size+2) [.int .i64 0] 3 from hW6 ▸ ((h2.other (by omega) _ _).other (by omega) _ _));have HB6:=Za (show Below w.heap.size w W6 from hW6 ▸ ((hbf.setCell (p:=⟨w.heap.size,0,none⟩) (Zb _) (.slice a1 x.arrays.length a2)).setCell (p:=⟨w.heap.size,1,none⟩) (Zb _) (.slice c1 x.funcs.length c2)));have HKK:=Za kk;have HW6:=Za hW6;have HV:=Za (show Bt (w4.heap.size≤ ·) w5 x.arrays _∧Bw (w4.heap.size≤ ·) w5 x.funcs _ from⟨hxa,hxf⟩);clear h0 h1 h2 hps hbf kk hW6 hg hxa hxf;go_upto_region 7 with(fail)
  rw[HW6.o];have HN:=Za (Ha pb g t r' W6 HPS6.o);clear y0 f0 y1 f1 HW6;go_wp2_with fail
  refine HN.o.mono ?_;rintro e w7 ⟨rfl,hb7⟩;unfold tkV;have HQ0:=Za (HO0.o.old hb7);have HQ1:=Za (HO1.o.old hb7);have HQ2:=Za (HO2.o.old hb7);have HPS7:=Za (HPS6.o.old hb7);have HB7:=Za (HB6.o.trans (hb7.mono HB6.o.size));have HK7:=Za (HKK.o.trans (Bh hb7));clear hb7
  by_cases hk:t.kind=5
  ·rw[hk]
   have z0:=HQ0.o.at 0 _ rfl;have g0:=HQ0.o.fz 0;have z1:=HQ0.o.at 1 _ rfl;have g1:=HQ0.o.fz 1;have u1:=HQ1.o.at 0 _ rfl;have v1:=HQ1.o.fz 0;have u2:=HQ2.o.at 0 _ rfl;have v2:=HQ2.o.fz 0;clear hmf;go_wp2_with fail
   rw[Bj z0,Bj z1,Bj u1,Bj u2];refine leaves_cons (f:=63) (args:= #[.pointer (some ⟨w.heap.size,0,none⟩),.pointer (some ⟨w.heap.size+1,0,none⟩),.pointer (some ⟨w.heap.size+2,0,none⟩)]) (by simp) (by simp [go_sem]) ?_;refine(jC w.heap.size (w.heap.size+1) (w.heap.size+2) w7).mono ?_;rintro e u' w'' ⟨rfl,rfl,hb⟩;clear z0 g0 z1 g1 u1 v1 u2 v2;have hwb:=HB7.o.trans (hb.mono HB7.o.size);have g0:=HQ0.o.old hb;have g1:=HQ1.o.old hb;have g2:=HQ2.o.old hb;have d0:=g0.at 0 _ rfl;have f0:=g0.fz 0;have d1:=g0.at 1 _ rfl;have f1:=g0.fz 1;have e0:=g1.at 0 _ rfl;have e1:=g1.fz 0;have i0:=g2.at 0 _ rfl;have i1:=g2.fz 0;show ∃v,(results Tryz.f29 _).run Zc w''=.ok v w''∧_
   refine⟨.tuple #[.agg #[.slice a1 x.arrays.length a2,.slice c1 x.funcs.length c2],.int .i64 0,.int .i64 0],by simp [results,results29,go_sem,d0,d1,e0,i0],?_⟩;rw[Tv,if_pos hk];exact⟨hwb,_,rfl,⟨_,_,rfl,(HV.o.1.keep (Qu HK7.o (fun b hb=>by have:=HC2.o.lt;show w.heap.size<b;have:w4.heap.size≤b:=hb;omega))|>.keep (Bh hb)).ymono (fun b hb=>by have:=HC2.o.lt;have:w4.heap.size≤b:=hb;show w.heap.size≤b;omega),(HV.o.2.keep (Qu HK7.o (fun b hb=>by have:=HC2.o.lt;show w.heap.size<b;have:w4.heap.size≤b:=hb;omega))|>.keep (Bh hb)).ymono (fun b hb=>by have:=HC2.o.lt;have:w4.heap.size≤b:=hb;show w.heap.size≤b;omega)⟩⟩
  ·have HFL:=Za (Kf pb g t r' w7 HPS7.o)
   go_wp2_with fail
   refine HFL.o.mono ?_;rintro e w8 ⟨rfl,hb8⟩;have h0:=HQ0.o.old hb8;have h1:=HQ1.o.old hb8;have h2:=HQ2.o.old hb8;have HX0:=Za h0;have HX1:=Za h1;have HX2:=Za h2;have HBF:=Za (HB7.o.trans (hb8.mono HB7.o.size));clear h0 h1 h2 hb8;unfold Bk;go_wp2_with fail
   refine leaves_cons (f:=63) (args:= #[.pointer (some ⟨w.heap.size,0,none⟩),.pointer (some ⟨w.heap.size+1,0,none⟩),.pointer (some ⟨w.heap.size+2,0,none⟩)]) (by simp) (by simp [go_sem]) ?_;refine(Ru w.heap.size (w.heap.size+1) (w.heap.size+2) t.line 0 0 (.slice a1 x.arrays.length a2) (.slice c1 x.funcs.length c2) [] w.heap.size w8 HX0.o HX1.o HX2.o (by omega) (by omega) (Zb _)).mono ?_;rintro e u' w'' ⟨rfl,rfl,hb,g0,g1,g2⟩;have hwb:=HBF.o.trans (hb.mono (Zb _));have d0:=g0.at 0 _ rfl;have f0:=g0.fz 0;have d1:=g0.at 1 _ rfl;have f1:=g0.fz 1;have e0:=g1.at 0 _ rfl;have e1:=g1.fz 0;have i0:=g2.at 0 _ rfl;have i1:=g2.fz 0;show ∃v,(results Tryz.f29 _).run Zc w''=.ok v w''∧_
   refine⟨.tuple #[.agg #[.slice none 0 0,.slice none 0 0],.int .i64 40,.int .i64 t.line],by simp [results,results29,go_sem,d0,d1,e0,i0],?_⟩;rw[Tv,if_neg hk];exact⟨hwb,_,rfl,⟨_,_,rfl,Bt.zero,Bw.zero⟩⟩
def Tf:Ex ×Int ×Int→Ex ×Int ×Int
 |(x,e,n)=>if e=0∧Ew x=false then(exZ,41,1)else(x,e,n)
theorem topE_of(z:Bs)(w:World)(r:Ex ×Int ×Int)(HSC:Hid (∀w1,Below w.heap.size w w1→Calls Zc 26 #[.string (Aa z),.func (.func 27) #[] #[]] w1 (WhE w1 r))):
  Calls Zc 13 #[.string (Aa z)] w (WhE w (Tf r)):=by
 obtain⟨x,e0,n0⟩:=r;obtain⟨W,hW⟩:∃W,w.alloc (.cells #[.int .i64 0,.int .i64 0,.int .i64 0,.string ⟨#[]⟩,.slice none 0 0] 27)=W:=⟨_,rfl⟩;have hb0:Below w.heap.size w W:=hW ▸ bA;have h0:Ae W w.heap.size [.int .i64 0,.int .i64 0,.int .i64 0,.string ⟨#[]⟩,.slice none 0 0] 27:=hW ▸ Zd w [.int .i64 0,.int .i64 0,.int .i64 0,.string ⟨#[]⟩,.slice none 0 0] 27;have HS:=Za (HSC.o W hb0);have HB0:=Za hb0;have H0:=Za h0;have HW:=Za hW;clear hb0 h0 hW;go_enter func13,ntmps13
 go_upto_region 1 with(fail)
 rw[HW.o];clear HW;go_wp2_with fail
 refine HS.o.mono ?_;rintro e w1 ⟨hb,v,rfl,hv⟩;dsimp only at hv;obtain⟨s5,rfl,hx,hn5⟩:=hv;obtain⟨a1,a2,rfl⟩:=hx.shape;have HB1:=Za (HB0.o.trans (hb.mono HB0.o.size));have HLT:Hid (w.heap.size<w1.heap.size):=(H0.o.old hb).lt;have HA0:=Za (H0.o.old hb);have HT:=Za (show Ag (w.heap.size< ·) w1 x.args _∧I64 x.n from⟨hx.mono (fun b hb=>by have:=HB0.o.size;have h2:=H0.o.lt;have:W.heap.size≤b:=hb;show w.heap.size<b;omega),hn5⟩);clear hb hx hn5 HS HSC HB0 H0;go_upto_region 2 with(fail)
 have HN:=Za (Zd w1 [.int .i64 x.kind,.int .i64 x.op,.int .i64 x.n,.string (Aa x.name),.slice a1 x.args.length a2] 27);have HA1:=Za (HA0.o.alloc (.cells #[.int .i64 x.kind,.int .i64 x.op,.int .i64 x.n,.string (Aa x.name),.slice a1 x.args.length a2] 27));have HB2:=Za (HB1.o.alloc HB1.o.size (.cells #[.int .i64 x.kind,.int .i64 x.op,.int .i64 x.n,.string (Aa x.name),.slice a1 x.args.length a2] 27));have hal:Below w1.heap.size w1 (w1.alloc (.cells #[.int .i64 x.kind,.int .i64 x.op,.int .i64 x.n,.string (Aa x.name),.slice a1 x.args.length a2] 27)):=bA;have HT2:=Za (show Ag (w.heap.size< ·) _ x.args _∧I64 x.n from⟨(HT.o.1).keep (Bh hal),HT.o.2⟩);clear hal HT HB1 HA0;generalize w1.alloc (.cells #[.int .i64 x.kind,.int .i64 x.op,.int .i64 x.n,.string (Aa x.name),.slice a1 x.args.length a2] 27)=w2 at*;obtain⟨b2,hb2⟩:∃b2,w1.heap.size=b2:=⟨_,rfl⟩;rw[hb2]at HLT HN ⊢;clear hb2;have y0:=HN.o.at 0 _ rfl;have f0:=HN.o.fz 0;have y1:=HN.o.at 1 _ rfl;have f1:=HN.o.fz 1;have y2:=HN.o.at 2 _ rfl;have f2:=HN.o.fz 2;have y3:=HN.o.at 3 _ rfl;have f3:=HN.o.fz 3;have y4:=HN.o.at 4 _ rfl;have f4:=HN.o.fz 4;have o0:=HA1.o.at 0 _ rfl;have q0:=HA1.o.fz 0;have o1:=HA1.o.at 1 _ rfl;have q1:=HA1.o.fz 1;have o2:=HA1.o.at 2 _ rfl;have q2:=HA1.o.fz 2;have o3:=HA1.o.at 3 _ rfl;have q3:=HA1.o.fz 3;have o4:=HA1.o.at 4 _ rfl;have q4:=HA1.o.fz 4
 by_cases he:e0=0
 ·subst he
  go_wp2_with fail
  refine(Qk x (w.heap.size< ·) _ _ HT2.o.1).mono ?_;rintro e w3 ⟨rfl,hb3⟩;have HN3:=Za (HN.o.old hb3);have HA3:=Za (HA1.o.old hb3);have HB3:=Za (HB2.o.trans (hb3.mono HB2.o.size));have HT3:=Za (show Ag (w.heap.size< ·) w3 x.args _∧I64 x.n from⟨(HT2.o.1).keep (Bh hb3),HT2.o.2⟩);clear hb3 y0 f0 o0 q0 y1 f1 o1 q1 y2 f2 o2 q2 y3 f3 o3 q3 y4 f4 o4 q4;have y0:=HN3.o.at 0 _ rfl;have f0:=HN3.o.fz 0;have y1:=HN3.o.at 1 _ rfl;have f1:=HN3.o.fz 1;have y2:=HN3.o.at 2 _ rfl;have f2:=HN3.o.fz 2;have y3:=HN3.o.at 3 _ rfl;have f3:=HN3.o.fz 3;have y4:=HN3.o.at 4 _ rfl;have f4:=HN3.o.fz 4;have o0:=HA3.o.at 0 _ rfl;have q0:=HA3.o.fz 0;have o1:=HA3.o.at 1 _ rfl;have q1:=HA3.o.fz 1;have o2:=HA3.o.at 2 _ rfl;have q2:=HA3.o.fz 2;have o3:=HA3.o.at 3 _ rfl;have q3:=HA3.o.fz 3;have o4:=HA3.o.at 4 _ rfl;have q4:=HA3.o.fz 4
  cases hr:Ew x
  ·go_wp2_with fail
   have hs:=(((((HA3.o.set 0 (.int .i64 0)).set 1 (.int .i64 0)).set 2 (.int .i64 0)).set 3 (.string ⟨#[]⟩)).set 4 (.slice none 0 0));have s0:=hs.at 0 _ rfl;have s1:=hs.at 1 _ rfl;have s2:=hs.at 2 _ rfl;have s3:=hs.at 3 _ rfl;have s4:=hs.at 4 _ rfl;exact bodyPost_ret (v:=.tuple #[.agg #[.int .i64 0,.int .i64 0,.int .i64 0,.string ⟨#[]⟩,.slice none 0 0],.int .i64 41,.int .i64 1]) (by simp [results,results13,go_sem,s0,s1,s2,s3,s4]) rfl (by
    rw[show Tf (x,0,n0)=(exZ,41,1)by simp [Tf,hr]];exact⟨(((((HB3.o.setCell (p:=⟨w.heap.size,0,none⟩) (Zb _) (.int .i64 0)).setCell (p:=⟨w.heap.size,1,none⟩) (Zb _) (.int .i64 0)).setCell (p:=⟨w.heap.size,2,none⟩) (Zb _) (.int .i64 0)).setCell (p:=⟨w.heap.size,3,none⟩) (Zb _) (.string ⟨#[]⟩)).setCell (p:=⟨w.heap.size,4,none⟩) (Zb _) (.slice none 0 0)),_,rfl,⟨_,rfl,Ag.zero,Gp⟩⟩)
  ·go_wp2_with fail
   have hs:=(((((HA3.o.set 0 (.int .i64 x.kind)).set 1 (.int .i64 x.op)).set 2 (.int .i64 x.n)).set 3 (.string (Aa x.name))).set 4 (.slice a1 x.args.length a2));have s0:=hs.at 0 _ rfl;have s1:=hs.at 1 _ rfl;have s2:=hs.at 2 _ rfl;have s3:=hs.at 3 _ rfl;have s4:=hs.at 4 _ rfl;exact bodyPost_ret (v:=.tuple #[.agg #[.int .i64 x.kind,.int .i64 x.op,.int .i64 x.n,.string (Aa x.name),.slice a1 x.args.length a2],.int .i64 0,.int .i64 n0]) (by simp [results,results13,go_sem,s0,s1,s2,s3,s4]) rfl (by
    rw[show Tf (x,0,n0)=(x,0,n0)by simp [Tf,hr]];exact⟨(((((HB3.o.setCell (p:=⟨w.heap.size,0,none⟩) (Zb _) (.int .i64 x.kind)).setCell (p:=⟨w.heap.size,1,none⟩) (Zb _) (.int .i64 x.op)).setCell (p:=⟨w.heap.size,2,none⟩) (Zb _) (.int .i64 x.n)).setCell (p:=⟨w.heap.size,3,none⟩) (Zb _) (.string (Aa x.name))).setCell (p:=⟨w.heap.size,4,none⟩) (Zb _) (.slice a1 x.args.length a2)),_,rfl,⟨_,rfl,((HT3.o.1).keep (La _ (by show ¬w.heap.size<w.heap.size;omega) _ _ _ _ _)).mono (fun b hb=>Zf hb),HT3.o.2⟩⟩)
 ·have HA3:=HA1;have HN3:=HN;have HB3:=HB2
  go_wp2_with fail
  have hs:=(((((HA3.o.set 0 (.int .i64 x.kind)).set 1 (.int .i64 x.op)).set 2 (.int .i64 x.n)).set 3 (.string (Aa x.name))).set 4 (.slice a1 x.args.length a2));have s0:=hs.at 0 _ rfl;have s1:=hs.at 1 _ rfl;have s2:=hs.at 2 _ rfl;have s3:=hs.at 3 _ rfl;have s4:=hs.at 4 _ rfl;exact bodyPost_ret (v:=.tuple #[.agg #[.int .i64 x.kind,.int .i64 x.op,.int .i64 x.n,.string (Aa x.name),.slice a1 x.args.length a2],.int .i64 e0,.int .i64 n0]) (by simp [results,results13,go_sem,s0,s1,s2,s3,s4]) rfl (by
   rw[show Tf (x,e0,n0)=(x,e0,n0)by simp [Tf,he]];exact⟨(((((HB3.o.setCell (p:=⟨w.heap.size,0,none⟩) (Zb _) (.int .i64 x.kind)).setCell (p:=⟨w.heap.size,1,none⟩) (Zb _) (.int .i64 x.op)).setCell (p:=⟨w.heap.size,2,none⟩) (Zb _) (.int .i64 x.n)).setCell (p:=⟨w.heap.size,3,none⟩) (Zb _) (.string (Aa x.name))).setCell (p:=⟨w.heap.size,4,none⟩) (Zb _) (.slice a1 x.args.length a2)),_,rfl,⟨_,rfl,((HT2.o.1).keep (La _ (by show ¬w.heap.size<w.heap.size;omega) _ _ _ _ _)).mono (fun b hb=>Zf hb),HT2.o.2⟩⟩)
def Qd:Pr ×Int ×Int→Pr ×Int ×Int
 |(x,e,n)=>if e=0∧Eb x=false then((⟨[],[]⟩:Pr),41,1)else(x,e,n)
theorem topP_of(z:Bs)(w:World)(r:Pr ×Int ×Int)(HSC:Hid (∀w1,Below w.heap.size w w1→Calls Zc 29 #[.string (Aa z),.func (.func 30) #[] #[]] w1 (WhP w1 r))):
  Calls Zc 14 #[.string (Aa z)] w (WhP w (Qd r)):=by
 obtain⟨x,e0,n0⟩:=r;obtain⟨W,hW⟩:∃W,w.alloc (.cells #[.slice none 0 0,.slice none 0 0] 34)=W:=⟨_,rfl⟩;have hb0:Below w.heap.size w W:=hW ▸ bA;have h0:Ae W w.heap.size [.slice none 0 0,.slice none 0 0] 34:=hW ▸ Zd w [.slice none 0 0,.slice none 0 0] 34;have HS:=Za (HSC.o W hb0);have HB0:=Za hb0;have H0:=Za h0;have HW:=Za hW;clear hb0 h0 hW;go_enter func14,ntmps14
 go_upto_region 1 with(fail)
 rw[HW.o];clear HW;go_wp2_with fail
 refine HS.o.mono ?_;rintro e w1 ⟨hb,v,rfl,hv⟩;dsimp only at hv;obtain⟨av,fv,rfl,hxa,hxf⟩:=hv;obtain⟨a1,a2,rfl⟩:=hxa.yshape;obtain⟨c1,c2,rfl⟩:=hxf.yshape;have HB1:=Za (HB0.o.trans (hb.mono HB0.o.size));have HLT:Hid (w.heap.size<w1.heap.size):=(H0.o.old hb).lt;have HA0:=Za (H0.o.old hb);have HT:=Za (show Bt (w.heap.size< ·) w1 x.arrays _∧Bw (w.heap.size< ·) w1 x.funcs _ from⟨hxa.ymono (fun b hb=>by have:=HB0.o.size;have h2:=H0.o.lt;have:W.heap.size≤b:=hb;show w.heap.size<b;omega),hxf.ymono (fun b hb=>by have:=HB0.o.size;have h2:=H0.o.lt;have:W.heap.size≤b:=hb;show w.heap.size<b;omega)⟩);clear hb hxa hxf HS HSC HB0 H0;go_upto_region 2 with(fail)
 have HN:=Za (Zd w1 [.slice a1 x.arrays.length a2,.slice c1 x.funcs.length c2] 34);have HA1:=Za (HA0.o.alloc (.cells #[.slice a1 x.arrays.length a2,.slice c1 x.funcs.length c2] 34));have HB2:=Za (HB1.o.alloc HB1.o.size (.cells #[.slice a1 x.arrays.length a2,.slice c1 x.funcs.length c2] 34));have hal:Below w1.heap.size w1 (w1.alloc (.cells #[.slice a1 x.arrays.length a2,.slice c1 x.funcs.length c2] 34)):=bA;have HT2:=Za (show Bt (w.heap.size< ·) _ x.arrays _∧Bw (w.heap.size< ·) _ x.funcs _ from⟨(HT.o.1).keep (Bh hal),(HT.o.2).keep (Bh hal)⟩);clear hal HT HB1 HA0;generalize w1.alloc (.cells #[.slice a1 x.arrays.length a2,.slice c1 x.funcs.length c2] 34)=w2 at*;obtain⟨b2,hb2⟩:∃b2,w1.heap.size=b2:=⟨_,rfl⟩;rw[hb2]at HLT HN ⊢;clear hb2;have y0:=HN.o.at 0 _ rfl;have f0:=HN.o.fz 0;have y1:=HN.o.at 1 _ rfl;have f1:=HN.o.fz 1;have o0:=HA1.o.at 0 _ rfl;have q0:=HA1.o.fz 0;have o1:=HA1.o.at 1 _ rfl;have q1:=HA1.o.fz 1
 by_cases he:e0=0
 ·subst he
  go_wp2_with fail
  refine(bI x (w.heap.size< ·) _ _ _ HT2.o.1 HT2.o.2).mono ?_;rintro e w3 ⟨rfl,hb3⟩;have HN3:=Za (HN.o.old hb3);have HA3:=Za (HA1.o.old hb3);have HB3:=Za (HB2.o.trans (hb3.mono HB2.o.size));have HT3:=Za (show Bt (w.heap.size< ·) w3 x.arrays _∧Bw (w.heap.size< ·) w3 x.funcs _ from⟨(HT2.o.1).keep (Bh hb3),(HT2.o.2).keep (Bh hb3)⟩);clear hb3 y0 f0 o0 q0 y1 f1 o1 q1;have y0:=HN3.o.at 0 _ rfl;have f0:=HN3.o.fz 0;have y1:=HN3.o.at 1 _ rfl;have f1:=HN3.o.fz 1;have o0:=HA3.o.at 0 _ rfl;have q0:=HA3.o.fz 0;have o1:=HA3.o.at 1 _ rfl;have q1:=HA3.o.fz 1
  cases hr:Eb x
  ·go_wp2_with fail
   have hs:=((HA3.o.set 0 (.slice none 0 0)).set 1 (.slice none 0 0));have s0:=hs.at 0 _ rfl;have s1:=hs.at 1 _ rfl;exact bodyPost_ret (v:=.tuple #[.agg #[.slice none 0 0,.slice none 0 0],.int .i64 41,.int .i64 1]) (by simp [results,results14,go_sem,s0,s1]) rfl (by
    rw[show Qd (x,0,n0)=((⟨[],[]⟩:Pr),41,1)by simp [Qd,hr]];exact⟨((HB3.o.setCell (p:=⟨w.heap.size,0,none⟩) (Zb _) (.slice none 0 0)).setCell (p:=⟨w.heap.size,1,none⟩) (Zb _) (.slice none 0 0)),_,rfl,⟨_,_,rfl,Bt.zero,Bw.zero⟩⟩)
  ·go_wp2_with fail
   have hs:=((HA3.o.set 0 (.slice a1 x.arrays.length a2)).set 1 (.slice c1 x.funcs.length c2));have s0:=hs.at 0 _ rfl;have s1:=hs.at 1 _ rfl;exact bodyPost_ret (v:=.tuple #[.agg #[.slice a1 x.arrays.length a2,.slice c1 x.funcs.length c2],.int .i64 0,.int .i64 n0]) (by simp [results,results14,go_sem,s0,s1]) rfl (by
    rw[show Qd (x,0,n0)=(x,0,n0)by simp [Qd,hr]];exact⟨((HB3.o.setCell (p:=⟨w.heap.size,0,none⟩) (Zb _) (.slice a1 x.arrays.length a2)).setCell (p:=⟨w.heap.size,1,none⟩) (Zb _) (.slice c1 x.funcs.length c2)),_,rfl,⟨_,_,rfl,((HT3.o.1).keep (Xq _ (by show ¬w.heap.size<w.heap.size;omega) _ _)).ymono (fun b hb=>Zf hb),((HT3.o.2).keep (Xq _ (by show ¬w.heap.size<w.heap.size;omega) _ _)).ymono (fun b hb=>Zf hb)⟩⟩)
 ·have HA3:=HA1;have HN3:=HN;have HB3:=HB2
  go_wp2_with fail
  have hs:=((HA3.o.set 0 (.slice a1 x.arrays.length a2)).set 1 (.slice c1 x.funcs.length c2));have s0:=hs.at 0 _ rfl;have s1:=hs.at 1 _ rfl;exact bodyPost_ret (v:=.tuple #[.agg #[.slice a1 x.arrays.length a2,.slice c1 x.funcs.length c2],.int .i64 e0,.int .i64 n0]) (by simp [results,results14,go_sem,s0,s1]) rfl (by
   rw[show Qd (x,e0,n0)=(x,e0,n0)by simp [Qd,he]];exact⟨((HB3.o.setCell (p:=⟨w.heap.size,0,none⟩) (Zb _) (.slice a1 x.arrays.length a2)).setCell (p:=⟨w.heap.size,1,none⟩) (Zb _) (.slice c1 x.funcs.length c2)),_,rfl,⟨_,_,rfl,((HT2.o.1).keep (Xq _ (by show ¬w.heap.size<w.heap.size;omega) _ _)).ymono (fun b hb=>Zf hb),((HT2.o.2).keep (Xq _ (by show ¬w.heap.size<w.heap.size;omega) _ _)).ymono (fun b hb=>Zf hb)⟩⟩)
end Go.Proofs.YtcfpfnoldgnloaaGreatDoor
