/-
  Which expressions and programs may be: what tree's functions answer of trees in memory. No condition beside the trees' cells.
-/
import Derived.Test.YtcfpfnoldgnloaaGreatDoorPn07
import Derived.Defers
import Derived.Recover
import Derived.Laws.Pointers
set_option linter.unusedVariables false
set_option linter.unusedSimpArgs false
namespace Go.Proofs.YtcfpfnoldgnloaaGreatDoor
open Go.RowKit
set_option maxHeartbeats 20000000
set_option maxRecDepth 100000
open Go.Lib renaming hid→Za
open Go.Proofs.Tryz renaming prog→Zb
open Below renaming refl→Zc
open Nat renaming le_refl→Zd,lt_succ_iff_lt_or_eq→Zg
open Ac renaming new→Ze
open List renaming getElem?_eq_getElem→Zf
section
variable {P:Program} {Q:Exit→Act→List Frame→World→Prop} {a:Act} {cs:List Frame} {w:World}
def Ov(P:Program)(Q:Exit→Act→List Frame→World→Prop):List Oper→Act→List Frame→World→Prop
 |[],a,cs,w=>Q .normal a cs w
 |o::rest,a,cs,w=>o.guard=none∧match(execOp a.eval o).run P w with
  | .ok .recover w'=>(match recoverD cs with
   |some (v,cs')=>Ov P Q rest (a.put o.dst v) cs' w'
   |none=>Ov P Q rest (a.put o.dst .nilIface) cs w')
  |r=>o.upon P a (fun a' w'=>Ov P Q rest a' cs w') (fun e a' w'=>Q e a' cs w') r
theorem bR {o:Oper}{a:Act}{K K':Act→World→Prop}{Q':Exit→Act→World→Prop}(hk:∀a w,K a w→K' a w){r:Result Next}(h:o.upon P a K Q' r):o.upon P a K' Q' r:=by
 unfold Oper.upon at h ⊢;split at h
 ·exact hk _ _ h
 ·exact hk _ _ h
 ·exact hk _ _ h
 ·refine Calls.mono h ?_
  intro e w' q
  cases e with
  |returned v=>exact hk _ _ q
  |panicked c=>exact q
  |outgrown=>exact q
 ·exact Rows.mono h (fun v w' q=>hk _ _ q)
 ·exact h
 ·exact h
theorem Ru {ops:Array Oper}:∀(n k:Nat),k+n=ops.size→∀(a:Act) (cs:List Frame) (w:World),Ov P Q (ops.toList.drop k) a cs w→wpOpsS P ops Q (List.range' k n) a cs w
 |0,k,hk,a,cs,w,h=>by
  rw[List.drop_of_length_le (by rw[Array.length_toList];omega)]at h;exact h
 |n+1,k,hk,a,cs,w,h=>by
  have hlt:k<ops.toList.length:=by rw[Array.length_toList];omega
  rw[List.drop_eq_getElem_cons hlt]at h;obtain⟨hg,h⟩:=h;have ho:ops[k]? =some (ops.toList[k]):=by rw[←Array.getElem?_toList,Zf hlt]
  have ih:=Ru (ops:=ops) n (k+1) (by omega);rw[List.range'_succ,wpOpsS,ho];simp only[Region.wanted,hg,if_true];split at h
  ·rename_i w' hr
   rw[hr];dsimp only;split at h
   ·rename_i v cs' hc
    rw[hc];exact ih _ _ _ h
   ·rename_i hc
    rw[hc];exact ih _ _ _ h
  ·rename_i r hn
   split
   ·rename_i w' hr
    exact absurd hr (hn w')
   ·exact bR (fun a w q=>ih _ _ _ q) h
theorem Lb {id:Nat}{ops:Array Oper}{l:List Oper}(hl:ops.toList=l)(h:Ov P Q l a cs w):(Code.region id ops false).wpS P Q a cs w:=by
 apply wpS_region
 rw[List.range_eq_range'];exact Ru ops.size 0 (by omega) a cs w (by rw[List.drop_zero,hl];exact h)
theorem Og {o:Oper}{rest:List Oper}(hg:o.guard=none)(h:∀K':Act→World→Prop,(∀a w,Ov P Q rest a cs w→K' a w)→o.wp P a w K' (fun e a' w'=>Q e a' cs w')):Ov P Q (o::rest) a cs w:=by
 refine⟨hg,?_⟩;have h1:=h _ (fun _ _ q=>q);unfold Oper.wp at h1;split
 ·rename_i w' hr
  rw[hr]at h1;exact h1.elim
 ·exact h1
theorem Yp {o:Oper}{rest:List Oper}(hg:o.guard=none)(hr:(execOp a.eval o).run P w= .ok .recover w){v:Value}{cs':List Frame}(hc:recoverD cs=some (v,cs'))(h:Ov P Q rest (a.put o.dst v) cs' w):Ov P Q (o::rest) a cs w:=by
 refine⟨hg,?_⟩;rw[hr];dsimp only;rw[hc];exact h
theorem Yz {o:Oper}{rest:List Oper}(hg:o.guard=none)(hr:(execOp a.eval o).run P w= .ok .recover w)(hc:recoverD cs=none)(h:Ov P Q rest (a.put o.dst .nilIface) cs w):Ov P Q (o::rest) a cs w:=by
 refine⟨hg,?_⟩;rw[hr];dsimp only;rw[hc];exact h
end
@[go_sem] theorem assert_nil (w:World):(Instr.typeAssert .nilIface 20 110 true).run Zb w= .ok (.tuple #[.agg #[.int .i64 0],.bool false]) w:=by kernel_rfl
@[go_sem] theorem assert_wrong (v:Value) (w:World):(Instr.typeAssert (.iface 110 v) 20 110 true).run Zb w= .ok (.tuple #[v,.bool true]) w:=by kernel_rfl
def Hw(n:Int):Value:= .iface 110 (.agg #[.int .i64 n])
structure VCE (b0 b1 b2 T0 T1 B:Nat)(n x1 x2:Int)(a0 a1 a2 a3 a4:Value)(W:World)(L:Nat→Bool)(z12 z13 z14:Value)(wx:World):Prop where
 ord:L 5=true→∀j,j<5→L j=true
 p4_3:L 4=true→L 3=true
 c0:L 0=true→z12= .agg #[.int .i64 0,.int .i64 0,.int .i64 0,.string ⟨#[]⟩,.slice none 0 0]
 c1:L 1=true→z13= .pointer (some ⟨T0,0,none⟩)
 c2:L 2=true→z14= .int .i64 n
 fr:Below B W wx
 o0:L 3=false→Ac wx b0 [a0,a1,a2,a3,a4] 27
 o0t:L 3=true→Ac wx b0 [.int .i64 0,.int .i64 0,.int .i64 0,.string ⟨#[]⟩,.slice none 0 0] 27
 o1:L 4=false→Ac wx b1 [.int .i64 x1] 28
 o1t:L 4=true→Ac wx b1 [.int .i64 40] 28
 o2:L 5=false→Ac wx b2 [.int .i64 x2] 3
 o2t:L 5=true→Ac wx b2 [.int .i64 n] 3
 wr:Ac wx T0 [.int .i64 n] 110
 nn:Ac wx T1 [.int .i64 0,.int .i64 0,.int .i64 0,.string ⟨#[]⟩,.slice none 0 0] 27
def ICE(b0 b1 b2 T0 T1 B:Nat)(n x1 x2:Int)(a0 a1 a2 a3 a4:Value)(W:World)(q4 q6 q7 q8 q9 q10 q11:Value)(L:Nat→Bool)(a':Act)(w':World):Prop:=
 ∃z12 z13 z14:Value,VCE b0 b1 b2 T0 T1 B n x1 x2 a0 a1 a2 a3 a4 W L z12 z13 z14 w'∧a'=⟨[.pointer (some ⟨b0,0,none⟩),.pointer (some ⟨b1,0,none⟩),.pointer (some ⟨b2,0,none⟩),.pointer (some ⟨T0,0,none⟩),q4,.pointer (some ⟨T1,0,none⟩),q6,q7,q8,q9,q10,q11,z12,z13,z14].toArray,[]⟩
def RCE(b0 b1 b2 T0 T1 B:Nat)(n x1 x2:Int)(a0 a1 a2 a3 a4:Value)(W:World)(q4 q6 q7 q8 q9 q10 q11:Value)(a':Act)(w':World):Prop:=
 (Below B W w'∧Ac w' b0 [.int .i64 0,.int .i64 0,.int .i64 0,.string ⟨#[]⟩,.slice none 0 0] 27∧Ac w' b1 [.int .i64 40] 28∧Ac w' b2 [.int .i64 n] 3)∧a'=⟨[.pointer (some ⟨b0,0,none⟩),.pointer (some ⟨b1,0,none⟩),.pointer (some ⟨b2,0,none⟩),.pointer (some ⟨T0,0,none⟩),q4,.pointer (some ⟨T1,0,none⟩),q6,q7,q8,q9,q10,q11,.agg #[.int .i64 0,.int .i64 0,.int .i64 0,.string ⟨#[]⟩,.slice none 0 0],.pointer (some ⟨T0,0,none⟩),.int .i64 n].toArray,[]⟩
theorem reg_CE(b0 b1 b2 T0 T1 B:Nat)(n x1 x2:Int)(a0 a1 a2 a3 a4:Value)(W:World)(h0:Ac W b0 [a0,a1,a2,a3,a4] 27)(h1:Ac W b1 [.int .i64 x1] 28)(h2:Ac W b2 [.int .i64 x2] 3)(hw:Ac W T0 [.int .i64 n] 110)(hn:Ac W T1 [.int .i64 0,.int .i64 0,.int .i64 0,.string ⟨#[]⟩,.slice none 0 0] 27)(h01:b0<b1)(h12:b1<b2)(h2t:b2<T0)(htt:T0<T1)(hB:B≤b0)(q4 q6 q7 q8 q9 q10 q11 q12 q13 q14:Value)(J K':Act→World→Prop)(hJ:∀a' w',RCE b0 b1 b2 T0 T1 B n x1 x2 a0 a1 a2 a3 a4 W q4 q6 q7 q8 q9 q10 q11 a' w'→J a' w')(hM:∀a' w',Met J a' w'→K' a' w'):
  Code.wp Zb ((Tryz.f57.body.bind (Hj 3)).getD .skip) (Exit.then K' (fun _ _ _=>False)) ⟨[.pointer (some ⟨b0,0,none⟩),.pointer (some ⟨b1,0,none⟩),.pointer (some ⟨b2,0,none⟩),.pointer (some ⟨T0,0,none⟩),q4,.pointer (some ⟨T1,0,none⟩),q6,q7,q8,q9,q10,q11,q12,q13,q14].toArray,[]⟩ W:=by
 have H0:=Za h0;have H1:=Za h1;have H2:=Za h2;have HW:=Za hw;have HN:=Za hn;clear h0 h1 h2 hw hn
 conv=>arg 2;whnf
 (try dsimp only);refine Fc (by kernel_rfl) (by kernel_rfl) (ICE b0 b1 b2 T0 T1 B n x1 x2 a0 a1 a2 a3 a4 W q4 q6 q7 q8 q9 q10 q11) ?_ ?_ ?_
 ·exact⟨q12,q13,q14,⟨(fun h=>by cases h),(fun h=>by cases h),(fun h=>by cases h),(fun h=>by cases h),(fun h=>by cases h),((Zc _ _).drew),(fun _=>H0.out.old (Zc _ _).drew),(fun h=>by cases h),(fun _=>H1.out.old (Zc _ _).drew),(fun h=>by cases h),(fun _=>H2.out.old (Zc _ _).drew),(fun h=>by cases h),(HW.out.old (Zc _ _).drew),(HN.out.old (Zc _ _).drew)⟩,rfl⟩
 ·intro L act wx k hI hk hl hd
  obtain⟨z12,z13,z14,hV,rfl⟩:=hI;have hk:k=0∨k=1∨k=2∨k=3∨k=4∨k=5:=by
   have:k<6:=hk;omega
  rcases hk with rfl|rfl|rfl|rfl|rfl|rfl
  ·have nl:=kf hV.ord hl
   have hn:=hV.nn;have n0:=hn.at 0 _ rfl;have nf0:=hn.fz 0;have n1:=hn.at 1 _ rfl;have nf1:=hn.fz 1;have n2:=hn.at 2 _ rfl;have nf2:=hn.fz 2;have n3:=hn.at 3 _ rfl;have nf3:=hn.fz 3;have n4:=hn.at 4 _ rfl;have nf4:=hn.fz 4;have nlt:=hn.lt;refine Bg _ rfl rfl (fun K' hK=> ?_)
   conv=>arg 2;whnf
   go_wp2_with fail
   exact⟨.agg #[.int .i64 0,.int .i64 0,.int .i64 0,.string ⟨#[]⟩,.slice none 0 0],z13,z14,⟨kl nl,kq hV.p4_3,(fun _=>rfl),kc hV.c1,kc hV.c2,hV.fr,(fun h0=>hV.o0 (kb h0)),kc hV.o0t,(fun h0=>hV.o1 (kb h0)),kc hV.o1t,(fun h0=>hV.o2 (kb h0)),kl nl,hV.wr,hV.nn⟩,rfl⟩
  ·have nl:=kf hV.ord hl
   refine Bg _ rfl rfl (fun K' hK=> ?_)
   conv=>arg 2;whnf
   go_wp2_with fail
   exact⟨z12,.pointer (some ⟨T0,0,none⟩),z14,⟨kl nl,kq hV.p4_3,kc hV.c0,(fun _=>rfl),kc hV.c2,hV.fr,(fun h0=>hV.o0 (kb h0)),kc hV.o0t,(fun h0=>hV.o1 (kb h0)),kc hV.o1t,(fun h0=>hV.o2 (kb h0)),kl nl,hV.wr,hV.nn⟩,rfl⟩
  ·have nl:=kf hV.ord hl
   have d1:L 1=true:=hd _ rfl ⟨1,.data⟩ (by simp) rfl;obtain rfl:=(hV.c1 d1).symm;have hw:=hV.wr;have w0:=hw.at 0 _ rfl;have wf0:=hw.fz 0;have wlt:=hw.lt;refine Bg _ rfl rfl (fun K' hK=> ?_)
   conv=>arg 2;whnf
   go_wp2_with fail
   exact⟨z12,.pointer (some ⟨T0,0,none⟩),.int .i64 n,⟨kl nl,kq hV.p4_3,kc hV.c0,kc hV.c1,(fun _=>rfl),hV.fr,(fun h0=>hV.o0 (kb h0)),kc hV.o0t,(fun h0=>hV.o1 (kb h0)),kc hV.o1t,(fun h0=>hV.o2 (kb h0)),kl nl,hV.wr,hV.nn⟩,rfl⟩
  ·have nl:=kf hV.ord hl
   have d0:L 0=true:=hd _ rfl ⟨0,.data⟩ (by simp) rfl;obtain rfl:=(hV.c0 d0).symm;have ho:=hV.o0 hl;have x0:=ho.at 0 _ rfl;have xf0:=ho.fz 0;have x1:=ho.at 1 _ rfl;have xf1:=ho.fz 1;have x2:=ho.at 2 _ rfl;have xf2:=ho.fz 2;have x3:=ho.at 3 _ rfl;have xf3:=ho.fz 3;have x4:=ho.at 4 _ rfl;have xf4:=ho.fz 4;have xlt:=ho.lt;refine Bg _ rfl rfl (fun K' hK=> ?_)
   conv=>arg 2;whnf
   go_wp2_with fail
   exact⟨.agg #[.int .i64 0,.int .i64 0,.int .i64 0,.string ⟨#[]⟩,.slice none 0 0],z13,z14,⟨kl nl,(fun _=>Bh L 3),kc hV.c0,kc hV.c1,kc hV.c2,(((((hV.fr.setCell (p:=⟨b0,0,none⟩) (show B≤b0 by omega) _).setCell (p:=⟨b0,1,none⟩) (show B≤b0 by omega) _).setCell (p:=⟨b0,2,none⟩) (show B≤b0 by omega) _).setCell (p:=⟨b0,3,none⟩) (show B≤b0 by omega) _).setCell (p:=⟨b0,4,none⟩) (show B≤b0 by omega) _),(ks),(fun _=>(((((ho.set 0 (.int .i64 0)).set 1 (.int .i64 0)).set 2 (.int .i64 0)).set 3 (.string ⟨#[]⟩)).set 4 (.slice none 0 0))),(fun h=>((((((hV.o1 (kb h)).other (by omega) _ _).other (by omega) _ _).other (by omega) _ _).other (by omega) _ _).other (by omega) _ _)),(fun h=>((((((hV.o1t (kb h)).other (by omega) _ _).other (by omega) _ _).other (by omega) _ _).other (by omega) _ _).other (by omega) _ _)),(fun h=>((((((hV.o2 (kb h)).other (by omega) _ _).other (by omega) _ _).other (by omega) _ _).other (by omega) _ _).other (by omega) _ _)),kl nl,(((((hV.wr.other (by omega) _ _).other (by omega) _ _).other (by omega) _ _).other (by omega) _ _).other (by omega) _ _),(((((hV.nn.other (by omega) _ _).other (by omega) _ _).other (by omega) _ _).other (by omega) _ _).other (by omega) _ _)⟩,rfl⟩
  ·have nl:=kf hV.ord hl
   have d3:L 3=true:=hd _ rfl ⟨3,.chain⟩ (by simp) rfl;have ho:=hV.o1 hl;have x0:=ho.at 0 _ rfl;have xf0:=ho.fz 0;have xlt:=ho.lt;refine Bg _ rfl rfl (fun K' hK=> ?_)
   conv=>arg 2;whnf
   go_wp2_with fail
   exact⟨z12,z13,z14,⟨kl nl,(kd (d3)),kc hV.c0,kc hV.c1,kc hV.c2,(hV.fr.setCell (p:=⟨b1,0,none⟩) (show B≤b1 by omega) _),(fun h=>((hV.o0 (kb h)).other (by omega) _ _)),(fun h=>((hV.o0t (kb h)).other (by omega) _ _)),(ks),(fun _=>ho.set 0 (.int .i64 40)),(fun h=>((hV.o2 (kb h)).other (by omega) _ _)),kl nl,(hV.wr.other (by omega) _ _),(hV.nn.other (by omega) _ _)⟩,rfl⟩
  ·have before:∀j,j<5→L j=true:=fun j hj=>by
    have hj:j=0∨j=1∨j=2∨j=3∨j=4:=by omega
    rcases hj with rfl|rfl|rfl|rfl|rfl
    ·exact hd _ rfl ⟨0,.phase⟩ (by simp) rfl
    ·exact hd _ rfl ⟨1,.phase⟩ (by simp) rfl
    ·exact hd _ rfl ⟨2,.data⟩ (by simp) rfl
    ·exact hd _ rfl ⟨3,.phase⟩ (by simp) rfl
    ·exact hd _ rfl ⟨4,.chain⟩ (by simp) rfl
   have d2:L 2=true:=hd _ rfl ⟨2,.data⟩ (by simp) rfl;obtain rfl:=(hV.c2 d2).symm;have d4:L 4=true:=hd _ rfl ⟨4,.chain⟩ (by simp) rfl;have ho:=hV.o2 hl;have x0:=ho.at 0 _ rfl;have xf0:=ho.fz 0;have xlt:=ho.lt;refine Bg _ rfl rfl (fun K' hK=> ?_)
   conv=>arg 2;whnf
   go_wp2_with fail
   exact⟨z12,z13,.int .i64 n,⟨(fun _ j hj=>by rw[Bd L (show j≠5 by omega)];exact before j hj),kq hV.p4_3,kc hV.c0,kc hV.c1,kc hV.c2,(hV.fr.setCell (p:=⟨b2,0,none⟩) (show B≤b2 by omega) _),(fun h=>by rw[Bd L (by decide),before 3 (by decide)]at h;cases h),(fun h=>((hV.o0t (kb h)).other (by omega) _ _)),(fun h=>by rw[Bd L (by decide),before 4 (by decide)]at h;cases h),(fun h=>((hV.o1t (kb h)).other (by omega) _ _)),(ks),(fun _=>ho.set 0 (.int .i64 n)),(hV.wr.other (by omega) _ _),(hV.nn.other (by omega) _ _)⟩,rfl⟩
 ·intro L act wx hI hall
  obtain⟨z12,z13,z14,hV,rfl⟩:=hI;obtain rfl:=(hV.c0 (hall 0 (by decide))).symm;obtain rfl:=(hV.c1 (hall 1 (by decide))).symm;obtain rfl:=(hV.c2 (hall 2 (by decide))).symm;exact hM _ _ (Met.intro (hJ _ _ ⟨⟨hV.fr,hV.o0t (hall 3 (by decide)),hV.o1t (hall 4 (by decide)),hV.o2t (hall 5 (by decide))⟩,rfl⟩))
theorem To(b0 b1 b2:Nat)(w:World):
  CallsD Zb 57 #[.pointer (some ⟨b0,0,none⟩),.pointer (some ⟨b1,0,none⟩),.pointer (some ⟨b2,0,none⟩)] .returning w fun e u' w'=>e= .returned (.tuple #[])∧u'= .returning∧Below w.heap.size w w':=by
 refine callsD_of_wpS Tryz.func57 rfl fun c₀ cs hu=> ?_
 have hfr:(#[Value.pointer (some ⟨b0,0,none⟩),.pointer (some ⟨b1,0,none⟩),.pointer (some ⟨b2,0,none⟩)]++Array.replicate (Tryz.f57.ntmps - (#[Value.pointer (some ⟨b0,0,none⟩),.pointer (some ⟨b1,0,none⟩),.pointer (some ⟨b2,0,none⟩)]:Array Value).size) undef)= #[.pointer (some ⟨b0,0,none⟩),.pointer (some ⟨b1,0,none⟩),.pointer (some ⟨b2,0,none⟩),undef,undef,undef,undef,undef,undef,undef,undef,undef,undef,undef,undef]:=by
  rw[Tryz.ntmps57];rfl
 rw[hfr];clear hfr;apply wpS_seq
 refine Lb rfl ?_;refine Yz rfl ?hr ?hc ?hh
 case hc=>simp only[recoverD,hu]
 case hr=>simp [go_sem]
 case hh=>
 iterate 7
  refine Og rfl (fun K' hK=> ?_);go_wp2_with fail
 show Code.wpS _ _ _ _ _ _
 refine wpS_of_wp ?_;go_wp2_with fail
 refine⟨rfl,.returning,by cases c₀;cases hu;rfl,.tuple #[],by simp [results,Tryz.results57],rfl,rfl,bA⟩
theorem Le(b0 b1 b2:Nat)(n x1 x2:Int)(a0 a1 a2 a3 a4:Value)(older:List PanicEntry)(B:Nat)(w:World)(h0:Ac w b0 [a0,a1,a2,a3,a4] 27)(h1:Ac w b1 [.int .i64 x1] 28)(h2:Ac w b2 [.int .i64 x2] 3)(h01:b0<b1)(h12:b1<b2)(hB:B≤b0):
  CallsD Zb 57 #[.pointer (some ⟨b0,0,none⟩),.pointer (some ⟨b1,0,none⟩),.pointer (some ⟨b2,0,none⟩)] (.panicking ({v:=Hw n,recovered:=false}::older)) w fun e u' w'=>e= .returned (.tuple #[])∧u'= .panicking ({v:=Hw n,recovered:=true}::older)∧Below B w w'∧
   Ac w' b0 [.int .i64 0,.int .i64 0,.int .i64 0,.string ⟨#[]⟩,.slice none 0 0] 27∧Ac w' b1 [.int .i64 40] 28∧Ac w' b2 [.int .i64 n] 3:=by
 refine callsD_of_wpS Tryz.func57 rfl fun c₀ cs hu=> ?_
 have hfr:(#[Value.pointer (some ⟨b0,0,none⟩),.pointer (some ⟨b1,0,none⟩),.pointer (some ⟨b2,0,none⟩)]++Array.replicate (Tryz.f57.ntmps - (#[Value.pointer (some ⟨b0,0,none⟩),.pointer (some ⟨b1,0,none⟩),.pointer (some ⟨b2,0,none⟩)]:Array Value).size) undef)= #[.pointer (some ⟨b0,0,none⟩),.pointer (some ⟨b1,0,none⟩),.pointer (some ⟨b2,0,none⟩),undef,undef,undef,undef,undef,undef,undef,undef,undef,undef,undef,undef]:=by
  rw[Tryz.ntmps57];rfl
 rw[hfr];clear hfr;apply wpS_seq
 refine Lb rfl ?_;refine Yp rfl ?hr (v:=Hw n) (cs':= {c₀ with mode:= .panicking ({v:=Hw n,recovered:=true}::older)}::cs) ?hc ?hh
 case hc=>simp only[recoverD,hu]
 case hr=>simp [go_sem]
 case hh=>
 unfold Hw at*;have H0:=Za h0;have H1:=Za h1;have H2:=Za h2;clear hu h0 h1 h2
 iterate 7
  refine Og rfl (fun K' hK=> ?_);go_wp2_with fail
 show Code.wpS _ _ _ _ _ _
 refine wpS_of_wp ?_;go_upto_region 3 with(fail)
 have hb1:Below w.heap.size w ((w.alloc (.cells #[.int .i64 n] 110)).alloc (.cells #[.int .i64 0,.int .i64 0,.int .i64 0,.string ⟨#[]⟩,.slice none 0 0] 27)):=(bA).alloc (by simp) _;have hw:=(Ze w [.int .i64 n] 110).alloc (.cells #[.int .i64 0,.int .i64 0,.int .i64 0,.string ⟨#[]⟩,.slice none 0 0] 27);have hn:=Ze (w.alloc (.cells #[.int .i64 n] 110)) [.int .i64 0,.int .i64 0,.int .i64 0,.string ⟨#[]⟩,.slice none 0 0] 27;rw[show(w.alloc (.cells #[.int .i64 n] 110)).heap.size=w.heap.size+1 by simp]at hn;have hlt:=H2.out.lt;refine wp_mono (Q:=Exit.then (Met (RCE b0 b1 b2 w.heap.size (w.heap.size+1) B n x1 x2 a0 a1 a2 a3 a4 _ _ _ _ _ _ _ _)) (fun _ _ _=>False)) (reg_CE b0 b1 b2 w.heap.size (w.heap.size+1) B n x1 x2 a0 a1 a2 a3 a4 _ (H0.out.old hb1) (H1.out.old hb1) (H2.out.old hb1) hw hn h01 h12 hlt (Nat.lt_succ_self _) hB _ _ _ _ _ _ _ _ _ _ _ _ (fun _ _ q=>q) (fun _ _ q=>q)) ?_;intro e a' w' hq
 cases e with
 |normal=>
  obtain⟨⟨g0,g1,g2,g3⟩,rfl⟩:=(show RCE b0 b1 b2 w.heap.size (w.heap.size+1) B n x1 x2 a0 a1 a2 a3 a4 _ _ _ _ _ _ _ _ a' w' from hq);exact⟨rfl,_,rfl,.tuple #[],by simp [results,Tryz.results57],rfl,rfl,(hb1.mono (by omega)).trans g0,g1,g2,g3⟩
 |_=>exact False.elim hq
structure VCP (b0 b1 b2 T0 T1 B:Nat)(n x1 x2:Int)(a0 a1:Value)(W:World)(L:Nat→Bool)(z12 z13 z14:Value)(wx:World):Prop where
 ord:L 5=true→∀j,j<5→L j=true
 p4_3:L 4=true→L 3=true
 c0:L 0=true→z12= .agg #[.slice none 0 0,.slice none 0 0]
 c1:L 1=true→z13= .pointer (some ⟨T0,0,none⟩)
 c2:L 2=true→z14= .int .i64 n
 fr:Below B W wx
 o0:L 3=false→Ac wx b0 [a0,a1] 34
 o0t:L 3=true→Ac wx b0 [.slice none 0 0,.slice none 0 0] 34
 o1:L 4=false→Ac wx b1 [.int .i64 x1] 28
 o1t:L 4=true→Ac wx b1 [.int .i64 40] 28
 o2:L 5=false→Ac wx b2 [.int .i64 x2] 3
 o2t:L 5=true→Ac wx b2 [.int .i64 n] 3
 wr:Ac wx T0 [.int .i64 n] 110
 nn:Ac wx T1 [.slice none 0 0,.slice none 0 0] 34
def ICP(b0 b1 b2 T0 T1 B:Nat)(n x1 x2:Int)(a0 a1:Value)(W:World)(q4 q6 q7 q8 q9 q10 q11:Value)(L:Nat→Bool)(a':Act)(w':World):Prop:=
 ∃z12 z13 z14:Value,VCP b0 b1 b2 T0 T1 B n x1 x2 a0 a1 W L z12 z13 z14 w'∧a'=⟨[.pointer (some ⟨b0,0,none⟩),.pointer (some ⟨b1,0,none⟩),.pointer (some ⟨b2,0,none⟩),.pointer (some ⟨T0,0,none⟩),q4,.pointer (some ⟨T1,0,none⟩),q6,q7,q8,q9,q10,q11,z12,z13,z14].toArray,[]⟩
def RCP(b0 b1 b2 T0 T1 B:Nat)(n x1 x2:Int)(a0 a1:Value)(W:World)(q4 q6 q7 q8 q9 q10 q11:Value)(a':Act)(w':World):Prop:=
 (Below B W w'∧Ac w' b0 [.slice none 0 0,.slice none 0 0] 34∧Ac w' b1 [.int .i64 40] 28∧Ac w' b2 [.int .i64 n] 3)∧a'=⟨[.pointer (some ⟨b0,0,none⟩),.pointer (some ⟨b1,0,none⟩),.pointer (some ⟨b2,0,none⟩),.pointer (some ⟨T0,0,none⟩),q4,.pointer (some ⟨T1,0,none⟩),q6,q7,q8,q9,q10,q11,.agg #[.slice none 0 0,.slice none 0 0],.pointer (some ⟨T0,0,none⟩),.int .i64 n].toArray,[]⟩
theorem reg_CP(b0 b1 b2 T0 T1 B:Nat)(n x1 x2:Int)(a0 a1:Value)(W:World)(h0:Ac W b0 [a0,a1] 34)(h1:Ac W b1 [.int .i64 x1] 28)(h2:Ac W b2 [.int .i64 x2] 3)(hw:Ac W T0 [.int .i64 n] 110)(hn:Ac W T1 [.slice none 0 0,.slice none 0 0] 34)(h01:b0<b1)(h12:b1<b2)(h2t:b2<T0)(htt:T0<T1)(hB:B≤b0)(q4 q6 q7 q8 q9 q10 q11 q12 q13 q14:Value)(J K':Act→World→Prop)(hJ:∀a' w',RCP b0 b1 b2 T0 T1 B n x1 x2 a0 a1 W q4 q6 q7 q8 q9 q10 q11 a' w'→J a' w')(hM:∀a' w',Met J a' w'→K' a' w'):
  Code.wp Zb ((Tryz.f63.body.bind (Hj 3)).getD .skip) (Exit.then K' (fun _ _ _=>False)) ⟨[.pointer (some ⟨b0,0,none⟩),.pointer (some ⟨b1,0,none⟩),.pointer (some ⟨b2,0,none⟩),.pointer (some ⟨T0,0,none⟩),q4,.pointer (some ⟨T1,0,none⟩),q6,q7,q8,q9,q10,q11,q12,q13,q14].toArray,[]⟩ W:=by
 have H0:=Za h0;have H1:=Za h1;have H2:=Za h2;have HW:=Za hw;have HN:=Za hn;clear h0 h1 h2 hw hn
 conv=>arg 2;whnf
 (try dsimp only);refine Fc (by kernel_rfl) (by kernel_rfl) (ICP b0 b1 b2 T0 T1 B n x1 x2 a0 a1 W q4 q6 q7 q8 q9 q10 q11) ?_ ?_ ?_
 ·exact⟨q12,q13,q14,⟨(fun h=>by cases h),(fun h=>by cases h),(fun h=>by cases h),(fun h=>by cases h),(fun h=>by cases h),((Zc _ _).drew),(fun _=>H0.out.old (Zc _ _).drew),(fun h=>by cases h),(fun _=>H1.out.old (Zc _ _).drew),(fun h=>by cases h),(fun _=>H2.out.old (Zc _ _).drew),(fun h=>by cases h),(HW.out.old (Zc _ _).drew),(HN.out.old (Zc _ _).drew)⟩,rfl⟩
 ·intro L act wx k hI hk hl hd
  obtain⟨z12,z13,z14,hV,rfl⟩:=hI;have hk:k=0∨k=1∨k=2∨k=3∨k=4∨k=5:=by
   have:k<6:=hk;omega
  rcases hk with rfl|rfl|rfl|rfl|rfl|rfl
  ·have nl:=kf hV.ord hl
   have hn:=hV.nn;have n0:=hn.at 0 _ rfl;have nf0:=hn.fz 0;have n1:=hn.at 1 _ rfl;have nf1:=hn.fz 1;have nlt:=hn.lt;refine Bg _ rfl rfl (fun K' hK=> ?_)
   conv=>arg 2;whnf
   go_wp2_with fail
   exact⟨.agg #[.slice none 0 0,.slice none 0 0],z13,z14,⟨kl nl,kq hV.p4_3,(fun _=>rfl),kc hV.c1,kc hV.c2,hV.fr,(fun h0=>hV.o0 (kb h0)),kc hV.o0t,(fun h0=>hV.o1 (kb h0)),kc hV.o1t,(fun h0=>hV.o2 (kb h0)),kl nl,hV.wr,hV.nn⟩,rfl⟩
  ·have nl:=kf hV.ord hl
   refine Bg _ rfl rfl (fun K' hK=> ?_)
   conv=>arg 2;whnf
   go_wp2_with fail
   exact⟨z12,.pointer (some ⟨T0,0,none⟩),z14,⟨kl nl,kq hV.p4_3,kc hV.c0,(fun _=>rfl),kc hV.c2,hV.fr,(fun h0=>hV.o0 (kb h0)),kc hV.o0t,(fun h0=>hV.o1 (kb h0)),kc hV.o1t,(fun h0=>hV.o2 (kb h0)),kl nl,hV.wr,hV.nn⟩,rfl⟩
  ·have nl:=kf hV.ord hl
   have d1:L 1=true:=hd _ rfl ⟨1,.data⟩ (by simp) rfl;obtain rfl:=(hV.c1 d1).symm;have hw:=hV.wr;have w0:=hw.at 0 _ rfl;have wf0:=hw.fz 0;have wlt:=hw.lt;refine Bg _ rfl rfl (fun K' hK=> ?_)
   conv=>arg 2;whnf
   go_wp2_with fail
   exact⟨z12,.pointer (some ⟨T0,0,none⟩),.int .i64 n,⟨kl nl,kq hV.p4_3,kc hV.c0,kc hV.c1,(fun _=>rfl),hV.fr,(fun h0=>hV.o0 (kb h0)),kc hV.o0t,(fun h0=>hV.o1 (kb h0)),kc hV.o1t,(fun h0=>hV.o2 (kb h0)),kl nl,hV.wr,hV.nn⟩,rfl⟩
  ·have nl:=kf hV.ord hl
   have d0:L 0=true:=hd _ rfl ⟨0,.data⟩ (by simp) rfl;obtain rfl:=(hV.c0 d0).symm;have ho:=hV.o0 hl;have x0:=ho.at 0 _ rfl;have xf0:=ho.fz 0;have x1:=ho.at 1 _ rfl;have xf1:=ho.fz 1;have xlt:=ho.lt;refine Bg _ rfl rfl (fun K' hK=> ?_)
   conv=>arg 2;whnf
   go_wp2_with fail
   exact⟨.agg #[.slice none 0 0,.slice none 0 0],z13,z14,⟨kl nl,(fun _=>Bh L 3),kc hV.c0,kc hV.c1,kc hV.c2,((hV.fr.setCell (p:=⟨b0,0,none⟩) (show B≤b0 by omega) _).setCell (p:=⟨b0,1,none⟩) (show B≤b0 by omega) _),(ks),(fun _=>((ho.set 0 (.slice none 0 0)).set 1 (.slice none 0 0))),(fun h=>(((hV.o1 (kb h)).other (by omega) _ _).other (by omega) _ _)),(fun h=>(((hV.o1t (kb h)).other (by omega) _ _).other (by omega) _ _)),(fun h=>(((hV.o2 (kb h)).other (by omega) _ _).other (by omega) _ _)),kl nl,((hV.wr.other (by omega) _ _).other (by omega) _ _),((hV.nn.other (by omega) _ _).other (by omega) _ _)⟩,rfl⟩
  ·have nl:=kf hV.ord hl
   have d3:L 3=true:=hd _ rfl ⟨3,.chain⟩ (by simp) rfl;have ho:=hV.o1 hl;have x0:=ho.at 0 _ rfl;have xf0:=ho.fz 0;have xlt:=ho.lt;refine Bg _ rfl rfl (fun K' hK=> ?_)
   conv=>arg 2;whnf
   go_wp2_with fail
   exact⟨z12,z13,z14,⟨kl nl,(kd (d3)),kc hV.c0,kc hV.c1,kc hV.c2,(hV.fr.setCell (p:=⟨b1,0,none⟩) (show B≤b1 by omega) _),(fun h=>((hV.o0 (kb h)).other (by omega) _ _)),(fun h=>((hV.o0t (kb h)).other (by omega) _ _)),(ks),(fun _=>ho.set 0 (.int .i64 40)),(fun h=>((hV.o2 (kb h)).other (by omega) _ _)),kl nl,(hV.wr.other (by omega) _ _),(hV.nn.other (by omega) _ _)⟩,rfl⟩
  ·have before:∀j,j<5→L j=true:=fun j hj=>by
    have hj:j=0∨j=1∨j=2∨j=3∨j=4:=by omega
    rcases hj with rfl|rfl|rfl|rfl|rfl
    ·exact hd _ rfl ⟨0,.phase⟩ (by simp) rfl
    ·exact hd _ rfl ⟨1,.phase⟩ (by simp) rfl
    ·exact hd _ rfl ⟨2,.data⟩ (by simp) rfl
    ·exact hd _ rfl ⟨3,.phase⟩ (by simp) rfl
    ·exact hd _ rfl ⟨4,.chain⟩ (by simp) rfl
   have d2:L 2=true:=hd _ rfl ⟨2,.data⟩ (by simp) rfl;obtain rfl:=(hV.c2 d2).symm;have d4:L 4=true:=hd _ rfl ⟨4,.chain⟩ (by simp) rfl;have ho:=hV.o2 hl;have x0:=ho.at 0 _ rfl;have xf0:=ho.fz 0;have xlt:=ho.lt;refine Bg _ rfl rfl (fun K' hK=> ?_)
   conv=>arg 2;whnf
   go_wp2_with fail
   exact⟨z12,z13,.int .i64 n,⟨(fun _ j hj=>by rw[Bd L (show j≠5 by omega)];exact before j hj),kq hV.p4_3,kc hV.c0,kc hV.c1,kc hV.c2,(hV.fr.setCell (p:=⟨b2,0,none⟩) (show B≤b2 by omega) _),(fun h=>by rw[Bd L (by decide),before 3 (by decide)]at h;cases h),(fun h=>((hV.o0t (kb h)).other (by omega) _ _)),(fun h=>by rw[Bd L (by decide),before 4 (by decide)]at h;cases h),(fun h=>((hV.o1t (kb h)).other (by omega) _ _)),(ks),(fun _=>ho.set 0 (.int .i64 n)),(hV.wr.other (by omega) _ _),(hV.nn.other (by omega) _ _)⟩,rfl⟩
 ·intro L act wx hI hall
  obtain⟨z12,z13,z14,hV,rfl⟩:=hI;obtain rfl:=(hV.c0 (hall 0 (by decide))).symm;obtain rfl:=(hV.c1 (hall 1 (by decide))).symm;obtain rfl:=(hV.c2 (hall 2 (by decide))).symm;exact hM _ _ (Met.intro (hJ _ _ ⟨⟨hV.fr,hV.o0t (hall 3 (by decide)),hV.o1t (hall 4 (by decide)),hV.o2t (hall 5 (by decide))⟩,rfl⟩))
theorem Vw(b0 b1 b2:Nat)(w:World):
  CallsD Zb 63 #[.pointer (some ⟨b0,0,none⟩),.pointer (some ⟨b1,0,none⟩),.pointer (some ⟨b2,0,none⟩)] .returning w fun e u' w'=>e= .returned (.tuple #[])∧u'= .returning∧Below w.heap.size w w':=by
 refine callsD_of_wpS Tryz.func63 rfl fun c₀ cs hu=> ?_
 have hfr:(#[Value.pointer (some ⟨b0,0,none⟩),.pointer (some ⟨b1,0,none⟩),.pointer (some ⟨b2,0,none⟩)]++Array.replicate (Tryz.f63.ntmps - (#[Value.pointer (some ⟨b0,0,none⟩),.pointer (some ⟨b1,0,none⟩),.pointer (some ⟨b2,0,none⟩)]:Array Value).size) undef)= #[.pointer (some ⟨b0,0,none⟩),.pointer (some ⟨b1,0,none⟩),.pointer (some ⟨b2,0,none⟩),undef,undef,undef,undef,undef,undef,undef,undef,undef,undef,undef,undef]:=by
  rw[Tryz.ntmps63];rfl
 rw[hfr];clear hfr;apply wpS_seq
 refine Lb rfl ?_;refine Yz rfl ?hr ?hc ?hh
 case hc=>simp only[recoverD,hu]
 case hr=>simp [go_sem]
 case hh=>
 iterate 7
  refine Og rfl (fun K' hK=> ?_);go_wp2_with fail
 show Code.wpS _ _ _ _ _ _
 refine wpS_of_wp ?_;go_wp2_with fail
 refine⟨rfl,.returning,by cases c₀;cases hu;rfl,.tuple #[],by simp [results,Tryz.results63],rfl,rfl,bA⟩
theorem Lj(b0 b1 b2:Nat)(n x1 x2:Int)(a0 a1:Value)(older:List PanicEntry)(B:Nat)(w:World)(h0:Ac w b0 [a0,a1] 34)(h1:Ac w b1 [.int .i64 x1] 28)(h2:Ac w b2 [.int .i64 x2] 3)(h01:b0<b1)(h12:b1<b2)(hB:B≤b0):
  CallsD Zb 63 #[.pointer (some ⟨b0,0,none⟩),.pointer (some ⟨b1,0,none⟩),.pointer (some ⟨b2,0,none⟩)] (.panicking ({v:=Hw n,recovered:=false}::older)) w fun e u' w'=>e= .returned (.tuple #[])∧u'= .panicking ({v:=Hw n,recovered:=true}::older)∧Below B w w'∧
   Ac w' b0 [.slice none 0 0,.slice none 0 0] 34∧Ac w' b1 [.int .i64 40] 28∧Ac w' b2 [.int .i64 n] 3:=by
 refine callsD_of_wpS Tryz.func63 rfl fun c₀ cs hu=> ?_
 have hfr:(#[Value.pointer (some ⟨b0,0,none⟩),.pointer (some ⟨b1,0,none⟩),.pointer (some ⟨b2,0,none⟩)]++Array.replicate (Tryz.f63.ntmps - (#[Value.pointer (some ⟨b0,0,none⟩),.pointer (some ⟨b1,0,none⟩),.pointer (some ⟨b2,0,none⟩)]:Array Value).size) undef)= #[.pointer (some ⟨b0,0,none⟩),.pointer (some ⟨b1,0,none⟩),.pointer (some ⟨b2,0,none⟩),undef,undef,undef,undef,undef,undef,undef,undef,undef,undef,undef,undef]:=by
  rw[Tryz.ntmps63];rfl
 rw[hfr];clear hfr;apply wpS_seq
 refine Lb rfl ?_;refine Yp rfl ?hr (v:=Hw n) (cs':= {c₀ with mode:= .panicking ({v:=Hw n,recovered:=true}::older)}::cs) ?hc ?hh
 case hc=>simp only[recoverD,hu]
 case hr=>simp [go_sem]
 case hh=>
 unfold Hw at*;have H0:=Za h0;have H1:=Za h1;have H2:=Za h2;clear hu h0 h1 h2
 iterate 7
  refine Og rfl (fun K' hK=> ?_);go_wp2_with fail
 show Code.wpS _ _ _ _ _ _
 refine wpS_of_wp ?_;go_upto_region 3 with(fail)
 have hb1:Below w.heap.size w ((w.alloc (.cells #[.int .i64 n] 110)).alloc (.cells #[.slice none 0 0,.slice none 0 0] 34)):=(bA).alloc (by simp) _;have hw:=(Ze w [.int .i64 n] 110).alloc (.cells #[.slice none 0 0,.slice none 0 0] 34);have hn:=Ze (w.alloc (.cells #[.int .i64 n] 110)) [.slice none 0 0,.slice none 0 0] 34;rw[show(w.alloc (.cells #[.int .i64 n] 110)).heap.size=w.heap.size+1 by simp]at hn;have hlt:=H2.out.lt;refine wp_mono (Q:=Exit.then (Met (RCP b0 b1 b2 w.heap.size (w.heap.size+1) B n x1 x2 a0 a1 _ _ _ _ _ _ _ _)) (fun _ _ _=>False)) (reg_CP b0 b1 b2 w.heap.size (w.heap.size+1) B n x1 x2 a0 a1 _ (H0.out.old hb1) (H1.out.old hb1) (H2.out.old hb1) hw hn h01 h12 hlt (Nat.lt_succ_self _) hB _ _ _ _ _ _ _ _ _ _ _ _ (fun _ _ q=>q) (fun _ _ q=>q)) ?_;intro e a' w' hq
 cases e with
 |normal=>
  obtain⟨⟨g0,g1,g2,g3⟩,rfl⟩:=(show RCP b0 b1 b2 w.heap.size (w.heap.size+1) B n x1 x2 a0 a1 _ _ _ _ _ _ _ _ a' w' from hq);exact⟨rfl,_,rfl,.tuple #[],by simp [results,Tryz.results63],rfl,rfl,(hb1.mono (by omega)).trans g0,g1,g2,g3⟩
 |_=>exact False.elim hq
theorem Rq {w:World}{base g cap:Nat}{T:List Tk}(h:En w base T (.slice (some ⟨g,0,none⟩) T.length cap)):∀(l pre:List Tk),T=pre++l→Iq w g (pre.length*4) l
 |[],pre,e=>trivial
 |t::l,pre,e=>by
  have ht:T[pre.length]? =some t:=by rw[e];simp
  have hlt:pre.length<T.length:=by rw[e];simp
  have cell:∀q u,q<4→(Fw t)[q]? =some u→w.cell? ⟨g,pre.length*4+q,none⟩=some u:=by
   intro q u hq hu;have h1:=h.cellAt (pre.length*4+q) (by omega);rw[Ih Fw 4 (fun _=>rfl) T pre.length q t ht hq,hu]at h1;exact h1
  have ih:=Rq h l (pre++[t]) (by rw[e];simp);rw[List.length_append,List.length_singleton,Nat.succ_mul]at ih;exact⟨cell 0 _ (by decide) rfl,cell 1 _ (by decide) rfl,cell 2 _ (by decide) rfl,cell 3 _ (by decide) rfl,ih⟩
theorem Vf {w:World}{base:Nat}{T:List Tk}{v:Value}(h:En w base T v)(h0:0<T.length):∃g cap,v= .slice (some ⟨g,0,none⟩) T.length cap∧Iq w g 0 T∧T.length≤cap∧g<w.heap.size∧base≤g:=by
 have hlt:=World.ownsRow.lt h;rcases h.2 with⟨_,hz⟩|⟨g,cap,cur,rfl,hb,hg,hc,r⟩
 ·omega
 ·have:=Rq h T [] rfl
  exact⟨g,cap,rfl,by simpa using this,hc,(hlt g rfl).2,hb⟩
theorem Ps.under {w:World}{p tb:Nat}{l:List Tk}(h:Ps w p tb l){k:Nat}(hk:k<tb)(i:Nat)(v:Value):Ps (w.setCell ⟨k,i,none⟩ v) p tb l:=by
 obtain⟨o,cap,h⟩:=h;exact⟨o,cap,⟨h.own.other (by have:=h.lt;omega) i v,h.row.keep (Am w (by show ¬k=tb;omega) i v),h.hcap,h.fit,h.lt,h.ends,h.nums⟩⟩
theorem Cj.ymono {D D':Nat→Prop}{w:World}(hD:∀b,D b→D' b){l:List Ar}{v:Value}(h:Cj D w l v):Cj D' w l v:=by
 obtain⟨a,cap,b,off,hv,h1,h2,h3,h4⟩:=h;exact⟨a,cap,b,off,hv,h1,h2,h3.imp id fun h=>⟨h.1,hD _ h.2⟩,h4⟩
theorem Ck.ymono {D D':Nat→Prop}{w:World}(hD:∀b,D b→D' b){l:List Fu}{v:Value}(h:Ck D w l v):Ck D' w l v:=by
 obtain⟨a,cap,b,off,pv,lv,bv,hv,h1,h2,h3,h4⟩:=h;exact⟨a,cap,b,off,pv,lv,bv,hv,h1,h2,h3.imp id fun h=>⟨h.1,hD _ h.2⟩,fun i hi=>⟨(h4 i hi).1,(h4 i hi).2.1.mono hD,(h4 i hi).2.2.1.mono hD,(h4 i hi).2.2.2.mono hD⟩⟩
theorem Cj.yshape {D:Nat→Prop}{w:World}{l:List Ar}{v:Value}(h:Cj D w l v):∃a cap,v= .slice a l.length cap:=by
 obtain⟨a,cap,b,off,hv,_⟩:=h;exact⟨a,cap,hv⟩
theorem Ck.yshape {D:Nat→Prop}{w:World}{l:List Fu}{v:Value}(h:Ck D w l v):∃a cap,v= .slice a l.length cap:=by
 obtain⟨a,cap,b,off,pv,lv,bv,hv,_⟩:=h;exact⟨a,cap,hv⟩
theorem Qb {D:Nat→Prop}(w:World){b:Nat}(hb:¬D b)(c0 c1:Value):Cp D w ((w.setCell ⟨b,0,none⟩ c0).setCell ⟨b,1,none⟩ c1):=
 (Am w hb 0 c0).trans (Am _ hb 1 c1)
def Nu:PR Ex→Ex ×Int ×Int
 | .error n=>(exZ,40,n)
 | .ok (_,[])=>(exZ,40,0)
 | .ok (x,t::_)=>if t.kind=5 then(x,0,0)else(exZ,40,t.line)
def WhE(w:World)(r:Ex ×Int ×Int)(e:Ending)(w':World):Prop:=Below w.heap.size w w'∧∃v,e= .returned (.tuple #[v,.int .i64 r.2.1,.int .i64 r.2.2])∧ExH w.heap.size r.1 v w'
theorem bH(z:Bs)(T:List Tk)(hE:Gh T)(hN:∀t,t∈T→I64 t.num)(hL:T.length≤1000000)(f:Nat)(hf:4*T.length+4≤f)(w:World)(HSC:Hid (∀w1,Below w.heap.size w w1→Calls Zb 20 #[.string (Aa z)] w1 fun e w'=>Below w1.heap.size w1 w'∧∃v,e= .returned (.tuple #[v,.int .i64 0,.int .i64 0])∧En w' w1.heap.size T v)):
  Calls Zb 26 #[.string (Aa z),.func (.func 27) #[] #[]] w (WhE w (Nu (Aq f 1 T))):=by
 have hmf:∀(fn:Fn) (first cap:Array Value) (w:World),(Instr.makeFunc fn first cap).run Zb w= .ok (.func fn first cap) w:=fun _ _ _ _=>rfl
 obtain⟨W,hW⟩:∃W,(((w.alloc (.cells #[.int .i64 0,.int .i64 0,.int .i64 0,.string ⟨#[]⟩,.slice none 0 0] 27)).alloc (.cells #[.int .i64 0] 28)).alloc (.cells #[.int .i64 0] 3))=W:=⟨_,rfl⟩;have hb0:Below w.heap.size w W:=hW ▸ ((bA).alloc (by simp) _).alloc (by simp;omega) _;have hws:W.heap.size=w.heap.size+3:=by rw[←hW];simp
 have h0:Ac W w.heap.size [.int .i64 0,.int .i64 0,.int .i64 0,.string ⟨#[]⟩,.slice none 0 0] 27:=hW ▸ ((Ze w [.int .i64 0,.int .i64 0,.int .i64 0,.string ⟨#[]⟩,.slice none 0 0] 27).alloc _).alloc _;have h1:Ac W (w.heap.size+1) [.int .i64 0] 28:=by
  have:=(Ze (w.alloc (.cells #[.int .i64 0,.int .i64 0,.int .i64 0,.string ⟨#[]⟩,.slice none 0 0] 27)) [.int .i64 0] 28).alloc (.cells #[.int .i64 0] 3);rw[show(w.alloc (.cells #[.int .i64 0,.int .i64 0,.int .i64 0,.string ⟨#[]⟩,.slice none 0 0] 27)).heap.size=w.heap.size+1 by simp]at this;exact hW ▸ this
 have h2:Ac W (w.heap.size+2) [.int .i64 0] 3:=by
  have:=Ze ((w.alloc (.cells #[.int .i64 0,.int .i64 0,.int .i64 0,.string ⟨#[]⟩,.slice none 0 0] 27)).alloc (.cells #[.int .i64 0] 28)) [.int .i64 0] 3;rw[show((w.alloc (.cells #[.int .i64 0,.int .i64 0,.int .i64 0,.string ⟨#[]⟩,.slice none 0 0] 27)).alloc (.cells #[.int .i64 0] 28)).heap.size=w.heap.size+2 by simp]at this;exact hW ▸ this
 have HS:=Za (HSC.out W hb0);have HB0:=Za hb0;have H0:=Za h0;have H1:=Za h1;have H2:=Za h2;have HWS:=Za hws;have HW:=Za hW;obtain⟨R,hR⟩:∃R,Aq f 1 T=R:=⟨_,rfl⟩;rw[hR];have HR:=Za hR;clear hb0 hws h0 h1 h2 hW hR
 go_enter_defers Tryz.func26,Tryz.ntmps26
 go_upto_region 1 with(fail)
 rw[HW.out];rw[show w.heap.size+1+1=w.heap.size+2 from rfl];clear HW;go_wp2_with fail
 refine HS.out.mono ?_;rintro e w1 ⟨hb,v,rfl,ht⟩;have hbw:=HB0.out.trans (hb.mono HB0.out.size);have HB1:=Za hbw;have k1:=H1.out.old hb;have k2:=H2.out.old hb;have HA0:=Za (H0.out.old hb);have HA1:=Za k1;have HA2:=Za k2;have HTK:=Za ht;have x10:=k1.at 0 _ rfl;have x1f:=k1.fz 0;have x20:=k2.at 0 _ rfl;have x2f:=k2.fz 0;have xl1:=k1.lt;have xl2:=k2.lt;clear hb hbw ht k1 k2;go_upto_region 2 with(fail)
 rw[Av x10,Av x20];clear x1f x2f xl1 xl2 x20;obtain⟨g,cap,hv,hrow⟩:=Vf HTK.out (by obtain⟨t,r,rfl⟩:=hE.ne;simp);have HG:Hid (w.heap.size+3≤g):=(HWS.out ▸ hrow.2.2.2:w.heap.size+3≤g);subst hv;have HROW:=Za hrow;clear hrow;go_upto_region 6 with(fail)
 have hba:Below w1.heap.size w1 (w1.alloc (.cells #[.slice (some ⟨g,0,none⟩) T.length cap] 113)):=bA;have hps:Ps (w1.alloc (.cells #[.slice (some ⟨g,0,none⟩) T.length cap] 113)) w1.heap.size g T:=⟨0,cap,Ze w1 [.slice (some ⟨g,0,none⟩) T.length cap] 113,HROW.out.1.keep (Ba hba),HROW.out.2.1,hL,HROW.out.2.2.1,hE,hN⟩;have HPS:=Za hps;have HBB:=Za (HB1.out.alloc HB1.out.size (.cells #[.slice (some ⟨g,0,none⟩) T.length cap] 113));have HC0:=Za (HA0.out.old hba);have HC1:=Za (HA1.out.old hba);have HC2:=Za (HA2.out.old hba);have hlt2:=HA2.out.lt;have HLT:Hid (w.heap.size+2<w1.heap.size):=hlt2;have HP1:Hid (w1.heap.size<(w1.alloc (.cells #[.slice (some ⟨g,0,none⟩) T.length cap] 113)).heap.size):=hps.lt;clear hba hps hlt2 x10 HROW;obtain⟨pb,hpb⟩:∃pb,w1.heap.size=pb:=⟨_,rfl⟩;rw[hpb]at HPS HLT HP1 ⊢;generalize w1.alloc (.cells #[.slice (some ⟨g,0,none⟩) T.length cap] 113)=w4 at*;clear hpb;have HCALL:=Za ((Is f).2.1 T w4 pb g (by omega) HPS.out);rw[HR.out]at HCALL;go_wp2_with fail
 refine HCALL.out.mono ?_;intro e w5 he
 cases R with
 |error n=>
  obtain⟨hf,rfl⟩:=he;have h0:=HC0.out.sfr hf (by have:=HLT.out;omega);have h1:=HC1.out.sfr hf (by have:=HLT.out;omega);have h2:=HC2.out.sfr hf (by have:=HLT.out;omega);have hbf:Below w.heap.size w w5:=HBB.out.trans ((hf.below (Nat.le_of_lt HP1.out)).mono (by have:=HLT.out;omega));have HX0:=Za h0;have HX1:=Za h1;have HX2:=Za h2;have HBF:=Za hbf;clear h0 h1 h2 hbf hf;unfold Ay;go_wp2_with fail
  refine leaves_cons (f:=57) (args:= #[.pointer (some ⟨w.heap.size,0,none⟩),.pointer (some ⟨w.heap.size+1,0,none⟩),.pointer (some ⟨w.heap.size+2,0,none⟩)]) (by simp) (by simp [go_sem]) ?_;refine(Le w.heap.size (w.heap.size+1) (w.heap.size+2) n 0 0 (.int .i64 0) (.int .i64 0) (.int .i64 0) (.string ⟨#[]⟩) (.slice none 0 0) [] w.heap.size w5 HX0.out HX1.out HX2.out (by omega) (by omega) (Zd _)).mono ?_;rintro e u' w'' ⟨rfl,rfl,hb,g0,g1,g2⟩;have hwb:=HBF.out.trans (hb.mono (Zd _));have d0:=g0.at 0 _ rfl;have f0:=g0.fz 0;have d1:=g0.at 1 _ rfl;have f1:=g0.fz 1;have d2:=g0.at 2 _ rfl;have f2:=g0.fz 2;have d3:=g0.at 3 _ rfl;have f3:=g0.fz 3;have d4:=g0.at 4 _ rfl;have f4:=g0.fz 4;have e0:=g1.at 0 _ rfl;have e1:=g1.fz 0;have i0:=g2.at 0 _ rfl;have i1:=g2.fz 0;show ∃v,(results Tryz.f26 _).run Zb w''= .ok v w''∧_
  refine⟨.tuple #[.agg #[.int .i64 0,.int .i64 0,.int .i64 0,.string ⟨#[]⟩,.slice none 0 0],.int .i64 40,.int .i64 n],by simp [results,Tryz.results26,go_sem,d0,d1,d2,d3,d4,e0,i0],hwb,_,rfl,⟨_,rfl,Ag.zero,Dw⟩⟩
 |ok q=>
  obtain⟨x,r⟩:=q;obtain⟨hf,v,rfl,hps,hv⟩:=he;obtain⟨s5,rfl,hx,hn5⟩:=hv;obtain⟨a1,a2,rfl⟩:=hx.shape;have h0:=HC0.out.sfr hf (by have:=HLT.out;omega);have h1:=HC1.out.sfr hf (by have:=HLT.out;omega);have h2:=HC2.out.sfr hf (by have:=HLT.out;omega);have hbf:Below w.heap.size w w5:=HBB.out.trans ((hf.below (Nat.le_of_lt HP1.out)).mono (by have:=HLT.out;omega));have HX0:=Za h0;have HX1:=Za h1;have HX2:=Za h2;have HBF:=Za hbf;have hg:=HG.out;have hw5:w.heap.size+3≤w5.heap.size:=by have:=h2.lt;omega
  have y0:=h0.at 0 _ rfl;have f0:=h0.fz 0;have y1:=h0.at 1 _ rfl;have f1:=h0.fz 1;have y2:=h0.at 2 _ rfl;have f2:=h0.fz 2;have y3:=h0.at 3 _ rfl;have f3:=h0.fz 3;have y4:=h0.at 4 _ rfl;have f4:=h0.fz 4;obtain⟨t,r',rfl⟩:=hps.ends.ne;obtain⟨W6,hW6⟩:∃W6,(((((w5.setCell ⟨w.heap.size,0,none⟩ (.int .i64 x.kind)).setCell ⟨w.heap.size,1,none⟩ (.int .i64 x.op)).setCell ⟨w.heap.size,2,none⟩ (.int .i64 x.n)).setCell ⟨w.heap.size,3,none⟩ (.string (Aa x.name))).setCell ⟨w.heap.size,4,none⟩ (.slice a1 x.args.length a2))=W6:=⟨_,rfl⟩;have kk:Cp (w.heap.size< ·) w5 W6:=hW6 ▸ (Gz w5 (by show ¬w.heap.size<w.heap.size;omega) _ _ _ _ _);have HPS6:=Za (show Ps W6 pb g (t::r')from hW6 ▸ (((((hps.under (by omega) _ _).under (by omega) _ _).under (by omega) _ _).under (by omega) _ _).under (by omega) _ _));have HO0:=Za (show Ac W6 w.heap.size [.int .i64 x.kind,.int .i64 x.op,.int .i64 x.n,.string (Aa x.name),.slice a1 x.args.length a2] 27 from hW6 ▸ (((((h0.set 0 (.int .i64 x.kind)).set 1 (.int .i64 x.op)).set 2 (.int .i64 x.n)).set 3 (.string (Aa x.name))).set 4 (.slice a1 x.args.length a2)));have HO1:=Za (show Ac W6 (w.heap.size+1) [.int .i64 0] 28 from hW6 ▸ (((((h1.other (by omega) _ _).other (by omega) _ _).other (by omega) _ _).other (by omega) _ _).other (by omega) _ _));have HO2:=Za (show Ac W6 (w.heap.size+2) [.int .i64 0] 3 from hW6 ▸ (((((h2.other (by omega) _ _).other (by omega) _ _).other (by omega) _ _).other (by omega) _ _).other (by omega) _ _))
  have HB6:=Za (show Below w.heap.size w W6 from hW6 ▸ (((((hbf.setCell (p:=⟨w.heap.size,0,none⟩) (Zd _) (.int .i64 x.kind)).setCell (p:=⟨w.heap.size,1,none⟩) (Zd _) (.int .i64 x.op)).setCell (p:=⟨w.heap.size,2,none⟩) (Zd _) (.int .i64 x.n)).setCell (p:=⟨w.heap.size,3,none⟩) (Zd _) (.string (Aa x.name))).setCell (p:=⟨w.heap.size,4,none⟩) (Zd _) (.slice a1 x.args.length a2)));have HKK:=Za kk;have HW6:=Za hW6;have HV:=Za (show Ag (w4.heap.size≤ ·) w5 x.args _∧I64 x.n from⟨hx,hn5⟩);clear h0 h1 h2 hps hbf kk hW6 hg hx hn5;go_upto_region 7 with(fail)
  rw[HW6.out];have HN:=Za (Dx pb g t r' W6 HPS6.out);clear y0 f0 y1 f1 y2 f2 y3 f3 y4 f4 HW6;go_wp2_with fail
  refine HN.out.mono ?_;rintro e w7 ⟨rfl,hb7⟩;unfold tkV;have HQ0:=Za (HO0.out.old hb7);have HQ1:=Za (HO1.out.old hb7);have HQ2:=Za (HO2.out.old hb7);have HPS7:=Za (HPS6.out.old hb7);have HB7:=Za (HB6.out.trans (hb7.mono HB6.out.size));have HK7:=Za (HKK.out.trans (Ba hb7));clear hb7
  by_cases hk:t.kind=5
  ·rw[hk]
   have z0:=HQ0.out.at 0 _ rfl;have g0:=HQ0.out.fz 0;have z1:=HQ0.out.at 1 _ rfl;have g1:=HQ0.out.fz 1;have z2:=HQ0.out.at 2 _ rfl;have g2:=HQ0.out.fz 2;have z3:=HQ0.out.at 3 _ rfl;have g3:=HQ0.out.fz 3;have z4:=HQ0.out.at 4 _ rfl;have g4:=HQ0.out.fz 4;have u1:=HQ1.out.at 0 _ rfl;have v1:=HQ1.out.fz 0;have u2:=HQ2.out.at 0 _ rfl;have v2:=HQ2.out.fz 0;clear hmf;go_wp2_with fail
   rw[Av z0,Av z1,Av z2,Av z3,Av z4,Av u1,Av u2];refine leaves_cons (f:=57) (args:= #[.pointer (some ⟨w.heap.size,0,none⟩),.pointer (some ⟨w.heap.size+1,0,none⟩),.pointer (some ⟨w.heap.size+2,0,none⟩)]) (by simp) (by simp [go_sem]) ?_;refine(To w.heap.size (w.heap.size+1) (w.heap.size+2) w7).mono ?_;rintro e u' w'' ⟨rfl,rfl,hb⟩;clear z0 g0 z1 g1 z2 g2 z3 g3 z4 g4 u1 v1 u2 v2;have hwb:=HB7.out.trans (hb.mono HB7.out.size);have g0:=HQ0.out.old hb;have g1:=HQ1.out.old hb;have g2:=HQ2.out.old hb;have d0:=g0.at 0 _ rfl;have f0:=g0.fz 0;have d1:=g0.at 1 _ rfl;have f1:=g0.fz 1;have d2:=g0.at 2 _ rfl;have f2:=g0.fz 2;have d3:=g0.at 3 _ rfl;have f3:=g0.fz 3;have d4:=g0.at 4 _ rfl;have f4:=g0.fz 4;have e0:=g1.at 0 _ rfl;have e1:=g1.fz 0;have i0:=g2.at 0 _ rfl;have i1:=g2.fz 0;show ∃v,(results Tryz.f26 _).run Zb w''= .ok v w''∧_
   refine⟨.tuple #[.agg #[.int .i64 x.kind,.int .i64 x.op,.int .i64 x.n,.string (Aa x.name),.slice a1 x.args.length a2],.int .i64 0,.int .i64 0],by simp [results,Tryz.results26,go_sem,d0,d1,d2,d3,d4,e0,i0],?_⟩;rw[Nu,if_pos hk];exact⟨hwb,_,rfl,⟨_,rfl,(HV.out.1.keep (Kv HK7.out (fun b hb=>by have:=HC2.out.lt;show w.heap.size<b;have:w4.heap.size≤b:=hb;omega))|>.keep (Ba hb)).mono (fun b hb=>by have:=HC2.out.lt;have:w4.heap.size≤b:=hb;show w.heap.size≤b;omega),HV.out.2⟩⟩
  ·have HFL:=Za (Gl pb g t r' w7 HPS7.out)
   go_wp2_with fail
   refine HFL.out.mono ?_;rintro e w8 ⟨rfl,hb8⟩;have h0:=HQ0.out.old hb8;have h1:=HQ1.out.old hb8;have h2:=HQ2.out.old hb8;have HX0:=Za h0;have HX1:=Za h1;have HX2:=Za h2;have HBF:=Za (HB7.out.trans (hb8.mono HB7.out.size));clear h0 h1 h2 hb8;unfold Ay;go_wp2_with fail
   refine leaves_cons (f:=57) (args:= #[.pointer (some ⟨w.heap.size,0,none⟩),.pointer (some ⟨w.heap.size+1,0,none⟩),.pointer (some ⟨w.heap.size+2,0,none⟩)]) (by simp) (by simp [go_sem]) ?_;refine(Le w.heap.size (w.heap.size+1) (w.heap.size+2) t.line 0 0 (.int .i64 x.kind) (.int .i64 x.op) (.int .i64 x.n) (.string (Aa x.name)) (.slice a1 x.args.length a2) [] w.heap.size w8 HX0.out HX1.out HX2.out (by omega) (by omega) (Zd _)).mono ?_;rintro e u' w'' ⟨rfl,rfl,hb,g0,g1,g2⟩;have hwb:=HBF.out.trans (hb.mono (Zd _));have d0:=g0.at 0 _ rfl;have f0:=g0.fz 0;have d1:=g0.at 1 _ rfl;have f1:=g0.fz 1;have d2:=g0.at 2 _ rfl;have f2:=g0.fz 2;have d3:=g0.at 3 _ rfl;have f3:=g0.fz 3;have d4:=g0.at 4 _ rfl;have f4:=g0.fz 4;have e0:=g1.at 0 _ rfl;have e1:=g1.fz 0;have i0:=g2.at 0 _ rfl;have i1:=g2.fz 0;show ∃v,(results Tryz.f26 _).run Zb w''= .ok v w''∧_
   refine⟨.tuple #[.agg #[.int .i64 0,.int .i64 0,.int .i64 0,.string ⟨#[]⟩,.slice none 0 0],.int .i64 40,.int .i64 t.line],by simp [results,Tryz.results26,go_sem,d0,d1,d2,d3,d4,e0,i0],?_⟩;rw[Nu,if_neg hk];exact⟨hwb,_,rfl,⟨_,rfl,Ag.zero,Dw⟩⟩
def Qu:PR Pr→Pr ×Int ×Int
 | .error n=>((⟨[],[]⟩:Pr),40,n)
 | .ok (_,[])=>((⟨[],[]⟩:Pr),40,0)
 | .ok (x,t::_)=>if t.kind=5 then(x,0,0)else((⟨[],[]⟩:Pr),40,t.line)
def WhP(w:World)(r:Pr ×Int ×Int)(e:Ending)(w':World):Prop:=Below w.heap.size w w'∧∃v,e= .returned (.tuple #[v,.int .i64 r.2.1,.int .i64 r.2.2])∧PrH w.heap.size r.1 v w'
theorem Zz(z:Bs)(T:List Tk)(hE:Gh T)(hN:∀t,t∈T→I64 t.num)(hL:T.length≤1000000)(f:Nat)(hf:4*T.length+4≤f)(w:World)(HSC:Hid (∀w1,Below w.heap.size w w1→Calls Zb 20 #[.string (Aa z)] w1 fun e w'=>Below w1.heap.size w1 w'∧∃v,e= .returned (.tuple #[v,.int .i64 0,.int .i64 0])∧En w' w1.heap.size T v)):
  Calls Zb 29 #[.string (Aa z),.func (.func 30) #[] #[]] w (WhP w (Qu (Fj f ⟨[],[]⟩ T))):=by
 have hmf:∀(fn:Fn) (first cap:Array Value) (w:World),(Instr.makeFunc fn first cap).run Zb w= .ok (.func fn first cap) w:=fun _ _ _ _=>rfl
 obtain⟨W,hW⟩:∃W,(((w.alloc (.cells #[.slice none 0 0,.slice none 0 0] 34)).alloc (.cells #[.int .i64 0] 28)).alloc (.cells #[.int .i64 0] 3))=W:=⟨_,rfl⟩;have hb0:Below w.heap.size w W:=hW ▸ ((bA).alloc (by simp) _).alloc (by simp;omega) _;have hws:W.heap.size=w.heap.size+3:=by rw[←hW];simp
 have h0:Ac W w.heap.size [.slice none 0 0,.slice none 0 0] 34:=hW ▸ ((Ze w [.slice none 0 0,.slice none 0 0] 34).alloc _).alloc _;have h1:Ac W (w.heap.size+1) [.int .i64 0] 28:=by
  have:=(Ze (w.alloc (.cells #[.slice none 0 0,.slice none 0 0] 34)) [.int .i64 0] 28).alloc (.cells #[.int .i64 0] 3);rw[show(w.alloc (.cells #[.slice none 0 0,.slice none 0 0] 34)).heap.size=w.heap.size+1 by simp]at this;exact hW ▸ this
 have h2:Ac W (w.heap.size+2) [.int .i64 0] 3:=by
  have:=Ze ((w.alloc (.cells #[.slice none 0 0,.slice none 0 0] 34)).alloc (.cells #[.int .i64 0] 28)) [.int .i64 0] 3;rw[show((w.alloc (.cells #[.slice none 0 0,.slice none 0 0] 34)).alloc (.cells #[.int .i64 0] 28)).heap.size=w.heap.size+2 by simp]at this;exact hW ▸ this
 have HS:=Za (HSC.out W hb0);have HB0:=Za hb0;have H0:=Za h0;have H1:=Za h1;have H2:=Za h2;have HWS:=Za hws;have HW:=Za hW;obtain⟨R,hR⟩:∃R,Fj f ⟨[],[]⟩ T=R:=⟨_,rfl⟩;rw[hR];have HR:=Za hR;clear hb0 hws h0 h1 h2 hW hR
 go_enter_defers Tryz.func29,Tryz.ntmps29
 go_upto_region 1 with(fail)
 rw[HW.out];rw[show w.heap.size+1+1=w.heap.size+2 from rfl];clear HW;go_wp2_with fail
 refine HS.out.mono ?_;rintro e w1 ⟨hb,v,rfl,ht⟩;have hbw:=HB0.out.trans (hb.mono HB0.out.size);have HB1:=Za hbw;have k1:=H1.out.old hb;have k2:=H2.out.old hb;have HA0:=Za (H0.out.old hb);have HA1:=Za k1;have HA2:=Za k2;have HTK:=Za ht;have x10:=k1.at 0 _ rfl;have x1f:=k1.fz 0;have x20:=k2.at 0 _ rfl;have x2f:=k2.fz 0;have xl1:=k1.lt;have xl2:=k2.lt;clear hb hbw ht k1 k2;go_upto_region 2 with(fail)
 rw[Av x10,Av x20];clear x1f x2f xl1 xl2 x20;obtain⟨g,cap,hv,hrow⟩:=Vf HTK.out (by obtain⟨t,r,rfl⟩:=hE.ne;simp);have HG:Hid (w.heap.size+3≤g):=(HWS.out ▸ hrow.2.2.2:w.heap.size+3≤g);subst hv;have HROW:=Za hrow;clear hrow;go_upto_region 6 with(fail)
 have hba:Below w1.heap.size w1 (w1.alloc (.cells #[.slice (some ⟨g,0,none⟩) T.length cap] 113)):=bA;have hps:Ps (w1.alloc (.cells #[.slice (some ⟨g,0,none⟩) T.length cap] 113)) w1.heap.size g T:=⟨0,cap,Ze w1 [.slice (some ⟨g,0,none⟩) T.length cap] 113,HROW.out.1.keep (Ba hba),HROW.out.2.1,hL,HROW.out.2.2.1,hE,hN⟩;have HPS:=Za hps;have HBB:=Za (HB1.out.alloc HB1.out.size (.cells #[.slice (some ⟨g,0,none⟩) T.length cap] 113));have HC0:=Za (HA0.out.old hba);have HC1:=Za (HA1.out.old hba);have HC2:=Za (HA2.out.old hba);have hlt2:=HA2.out.lt;have HLT:Hid (w.heap.size+2<w1.heap.size):=hlt2;have HP1:Hid (w1.heap.size<(w1.alloc (.cells #[.slice (some ⟨g,0,none⟩) T.length cap] 113)).heap.size):=hps.lt;clear hba hps hlt2 x10 HROW;obtain⟨pb,hpb⟩:∃pb,w1.heap.size=pb:=⟨_,rfl⟩;rw[hpb]at HPS HLT HP1 ⊢;generalize w1.alloc (.cells #[.slice (some ⟨g,0,none⟩) T.length cap] 113)=w4 at*;clear hpb;have HCALL:=Za (aN f T w4 pb g (by omega) HPS.out);rw[HR.out]at HCALL;go_wp2_with fail
 refine HCALL.out.mono ?_;intro e w5 he
 cases R with
 |error n=>
  obtain⟨hf,rfl⟩:=he;have h0:=HC0.out.sfr hf (by have:=HLT.out;omega);have h1:=HC1.out.sfr hf (by have:=HLT.out;omega);have h2:=HC2.out.sfr hf (by have:=HLT.out;omega);have hbf:Below w.heap.size w w5:=HBB.out.trans ((hf.below (Nat.le_of_lt HP1.out)).mono (by have:=HLT.out;omega));have HX0:=Za h0;have HX1:=Za h1;have HX2:=Za h2;have HBF:=Za hbf;clear h0 h1 h2 hbf hf;unfold Ay;go_wp2_with fail
  refine leaves_cons (f:=63) (args:= #[.pointer (some ⟨w.heap.size,0,none⟩),.pointer (some ⟨w.heap.size+1,0,none⟩),.pointer (some ⟨w.heap.size+2,0,none⟩)]) (by simp) (by simp [go_sem]) ?_;refine(Lj w.heap.size (w.heap.size+1) (w.heap.size+2) n 0 0 (.slice none 0 0) (.slice none 0 0) [] w.heap.size w5 HX0.out HX1.out HX2.out (by omega) (by omega) (Zd _)).mono ?_;rintro e u' w'' ⟨rfl,rfl,hb,g0,g1,g2⟩;have hwb:=HBF.out.trans (hb.mono (Zd _));have d0:=g0.at 0 _ rfl;have f0:=g0.fz 0;have d1:=g0.at 1 _ rfl;have f1:=g0.fz 1;have e0:=g1.at 0 _ rfl;have e1:=g1.fz 0;have i0:=g2.at 0 _ rfl;have i1:=g2.fz 0;show ∃v,(results Tryz.f29 _).run Zb w''= .ok v w''∧_
  refine⟨.tuple #[.agg #[.slice none 0 0,.slice none 0 0],.int .i64 40,.int .i64 n],by simp [results,Tryz.results29,go_sem,d0,d1,e0,i0],hwb,_,rfl,⟨_,_,rfl,Cj.zero,Ck.zero⟩⟩
 |ok q=>
  obtain⟨x,r⟩:=q;obtain⟨hf,v,rfl,hps,hv⟩:=he;obtain⟨av,fv,rfl,hxa,hxf⟩:=hv;obtain⟨a1,a2,rfl⟩:=hxa.yshape;obtain⟨c1,c2,rfl⟩:=hxf.yshape;have h0:=HC0.out.sfr hf (by have:=HLT.out;omega);have h1:=HC1.out.sfr hf (by have:=HLT.out;omega);have h2:=HC2.out.sfr hf (by have:=HLT.out;omega);have hbf:Below w.heap.size w w5:=HBB.out.trans ((hf.below (Nat.le_of_lt HP1.out)).mono (by have:=HLT.out;omega));have HX0:=Za h0;have HX1:=Za h1;have HX2:=Za h2;have HBF:=Za hbf;have hg:=HG.out;have hw5:w.heap.size+3≤w5.heap.size:=by have:=h2.lt;omega
  have y0:=h0.at 0 _ rfl;have f0:=h0.fz 0;have y1:=h0.at 1 _ rfl;have f1:=h0.fz 1;obtain⟨t,r',rfl⟩:=hps.ends.ne;obtain⟨W6,hW6⟩:∃W6,((w5.setCell ⟨w.heap.size,0,none⟩ (.slice a1 x.arrays.length a2)).setCell ⟨w.heap.size,1,none⟩ (.slice c1 x.funcs.length c2))=W6:=⟨_,rfl⟩;have kk:Cp (w.heap.size< ·) w5 W6:=hW6 ▸ (Qb w5 (by show ¬w.heap.size<w.heap.size;omega) _ _);have HPS6:=Za (show Ps W6 pb g (t::r')from hW6 ▸ ((hps.under (by omega) _ _).under (by omega) _ _));have HO0:=Za (show Ac W6 w.heap.size [.slice a1 x.arrays.length a2,.slice c1 x.funcs.length c2] 34 from hW6 ▸ ((h0.set 0 (.slice a1 x.arrays.length a2)).set 1 (.slice c1 x.funcs.length c2)));have HO1:=Za (show Ac W6 (w.heap.size+1) [.int .i64 0] 28 from hW6 ▸ ((h1.other (by omega) _ _).other (by omega) _ _));have HO2:=Za (show Ac W6 (w.heap.size+2) [.int .i64 0] 3 from hW6 ▸ ((h2.other (by omega) _ _).other (by omega) _ _));have HB6:=Za (show Below w.heap.size w W6 from hW6 ▸ ((hbf.setCell (p:=⟨w.heap.size,0,none⟩) (Zd _) (.slice a1 x.arrays.length a2)).setCell (p:=⟨w.heap.size,1,none⟩) (Zd _) (.slice c1 x.funcs.length c2)));have HKK:=Za kk;have HW6:=Za hW6;have HV:=Za (show Cj (w4.heap.size≤ ·) w5 x.arrays _∧Ck (w4.heap.size≤ ·) w5 x.funcs _ from⟨hxa,hxf⟩);clear h0 h1 h2 hps hbf kk hW6 hg hxa hxf;go_upto_region 7 with(fail)
  rw[HW6.out];have HN:=Za (Dx pb g t r' W6 HPS6.out);clear y0 f0 y1 f1 HW6;go_wp2_with fail
  refine HN.out.mono ?_;rintro e w7 ⟨rfl,hb7⟩;unfold tkV;have HQ0:=Za (HO0.out.old hb7);have HQ1:=Za (HO1.out.old hb7);have HQ2:=Za (HO2.out.old hb7);have HPS7:=Za (HPS6.out.old hb7);have HB7:=Za (HB6.out.trans (hb7.mono HB6.out.size));have HK7:=Za (HKK.out.trans (Ba hb7));clear hb7
  by_cases hk:t.kind=5
  ·rw[hk]
   have z0:=HQ0.out.at 0 _ rfl;have g0:=HQ0.out.fz 0;have z1:=HQ0.out.at 1 _ rfl;have g1:=HQ0.out.fz 1;have u1:=HQ1.out.at 0 _ rfl;have v1:=HQ1.out.fz 0;have u2:=HQ2.out.at 0 _ rfl;have v2:=HQ2.out.fz 0;clear hmf;go_wp2_with fail
   rw[Av z0,Av z1,Av u1,Av u2];refine leaves_cons (f:=63) (args:= #[.pointer (some ⟨w.heap.size,0,none⟩),.pointer (some ⟨w.heap.size+1,0,none⟩),.pointer (some ⟨w.heap.size+2,0,none⟩)]) (by simp) (by simp [go_sem]) ?_;refine(Vw w.heap.size (w.heap.size+1) (w.heap.size+2) w7).mono ?_;rintro e u' w'' ⟨rfl,rfl,hb⟩;clear z0 g0 z1 g1 u1 v1 u2 v2;have hwb:=HB7.out.trans (hb.mono HB7.out.size);have g0:=HQ0.out.old hb;have g1:=HQ1.out.old hb;have g2:=HQ2.out.old hb;have d0:=g0.at 0 _ rfl;have f0:=g0.fz 0;have d1:=g0.at 1 _ rfl;have f1:=g0.fz 1;have e0:=g1.at 0 _ rfl;have e1:=g1.fz 0;have i0:=g2.at 0 _ rfl;have i1:=g2.fz 0;show ∃v,(results Tryz.f29 _).run Zb w''= .ok v w''∧_
   refine⟨.tuple #[.agg #[.slice a1 x.arrays.length a2,.slice c1 x.funcs.length c2],.int .i64 0,.int .i64 0],by simp [results,Tryz.results29,go_sem,d0,d1,e0,i0],?_⟩;rw[Qu,if_pos hk];exact⟨hwb,_,rfl,⟨_,_,rfl,(HV.out.1.keep (Kv HK7.out (fun b hb=>by have:=HC2.out.lt;show w.heap.size<b;have:w4.heap.size≤b:=hb;omega))|>.keep (Ba hb)).ymono (fun b hb=>by have:=HC2.out.lt;have:w4.heap.size≤b:=hb;show w.heap.size≤b;omega),(HV.out.2.keep (Kv HK7.out (fun b hb=>by have:=HC2.out.lt;show w.heap.size<b;have:w4.heap.size≤b:=hb;omega))|>.keep (Ba hb)).ymono (fun b hb=>by have:=HC2.out.lt;have:w4.heap.size≤b:=hb;show w.heap.size≤b;omega)⟩⟩
  ·have HFL:=Za (Gl pb g t r' w7 HPS7.out)
   go_wp2_with fail
   refine HFL.out.mono ?_;rintro e w8 ⟨rfl,hb8⟩;have h0:=HQ0.out.old hb8;have h1:=HQ1.out.old hb8;have h2:=HQ2.out.old hb8;have HX0:=Za h0;have HX1:=Za h1;have HX2:=Za h2;have HBF:=Za (HB7.out.trans (hb8.mono HB7.out.size));clear h0 h1 h2 hb8;unfold Ay;go_wp2_with fail
   refine leaves_cons (f:=63) (args:= #[.pointer (some ⟨w.heap.size,0,none⟩),.pointer (some ⟨w.heap.size+1,0,none⟩),.pointer (some ⟨w.heap.size+2,0,none⟩)]) (by simp) (by simp [go_sem]) ?_;refine(Lj w.heap.size (w.heap.size+1) (w.heap.size+2) t.line 0 0 (.slice a1 x.arrays.length a2) (.slice c1 x.funcs.length c2) [] w.heap.size w8 HX0.out HX1.out HX2.out (by omega) (by omega) (Zd _)).mono ?_;rintro e u' w'' ⟨rfl,rfl,hb,g0,g1,g2⟩;have hwb:=HBF.out.trans (hb.mono (Zd _));have d0:=g0.at 0 _ rfl;have f0:=g0.fz 0;have d1:=g0.at 1 _ rfl;have f1:=g0.fz 1;have e0:=g1.at 0 _ rfl;have e1:=g1.fz 0;have i0:=g2.at 0 _ rfl;have i1:=g2.fz 0;show ∃v,(results Tryz.f29 _).run Zb w''= .ok v w''∧_
   refine⟨.tuple #[.agg #[.slice none 0 0,.slice none 0 0],.int .i64 40,.int .i64 t.line],by simp [results,Tryz.results29,go_sem,d0,d1,e0,i0],?_⟩;rw[Qu,if_neg hk];exact⟨hwb,_,rfl,⟨_,_,rfl,Cj.zero,Ck.zero⟩⟩
theorem Xr(b off n cap:Nat)(k:FuncId)(caps:Array Value)(hk:∀args w,(callFunc k args).run Zb w= .ok (.enter k args) w)(w:World)(c0 c1 c2 c3 c4:Nat→Value)(p:Nat→Bool)(hn:n≤140737488355328)
  (hc:∀i,i<n→w.cell? ⟨b,off+i*5,none⟩=some (c0 i)∧w.cell? ⟨b,off+i*5+1,none⟩=some (c1 i)∧w.cell? ⟨b,off+i*5+2,none⟩=some (c2 i)∧w.cell? ⟨b,off+i*5+3,none⟩=some (c3 i)∧w.cell? ⟨b,off+i*5+4,none⟩=some (c4 i))
  (hf:∀i,i<n→∀w1,Below w.heap.size w w1→Calls Zb k (#[.agg #[c0 i,c1 i,c2 i,c3 i,c4 i]]++caps) w1 fun e w2=>e= .returned (.bool (p i))∧Below w1.heap.size w1 w2):
  Calls Zb 164 #[.slice (some ⟨b,off,none⟩) n cap,.func (.func k) #[] caps] w fun e w'=>e= .returned (.int .i64 (Cy p n))∧Below w.heap.size w w':=by
 have HF:=Za hf;clear hf;have HC:=Za hc;clear hc;have hn1:n<9223372036854775807:=by omega
 clear hn;go_enter Tryz.func164,Tryz.ntmps164
 go_wp2_with fail
 go_loopw [5,8] (fun _ i8 wr=> ∃j:Nat,j≤n∧i8= .int .i64 j∧(∀i,i<j→p i=false)∧Below w.heap.size w wr) (fun _ i8 _=>n - (intOf i8).toNat)
 case atStart=>exact⟨0,Nat.zero_le _,rfl,fun i hi=>by omega,Zc _ _⟩
 case round=>
  obtain⟨j,hj,rfl,hno,hb⟩:=hrel;have HNO:=Za hno;clear hno
  by_cases hlt:j<n
  ·obtain⟨g0,g1,g2,g3,g4⟩:=HC.out j hlt
   have k0:=Ab hb g0;have k1:=Ab hb g1;have k2:=Ab hb g2;have k3:=Ab hb g3;have k4:=Ab hb g4;clear g0 g1 g2 g3 g4;have call:=HF.out j hlt wr hb;have HB:=Za hb;clear hb;have HCALL:=Za call;clear call;go_wp2_with fail
   refine HCALL.out.mono ?_
   cases hp:p j
   ·rintro e w2 ⟨rfl,hb2⟩
    have HP:=Za hp;clear hp;go_wp2_with fail
    go_roundw
    case rel=>exact⟨j+1,by omega,by go_num,fun i hi=>by rcases Zg.1 hi with h|rfl;exact HNO.out i h;exact HP.out,HB.out.trans (hb2.mono HB.out.size)⟩
    case measure=>simp [intOf];omega
   ·rintro e w2 ⟨rfl,hb2⟩
    have HP:=Za hp;clear hp;go_wp2_with fail
    go_ret
    exact⟨Ek (Ke p j HP.out HNO.out n hlt).symm,HB.out.trans (hb2.mono HB.out.size)⟩
  ·have hje:n≤j:=by omega
   have HB:=Za hb;clear hb;go_wp2_with fail
   go_ret
   exact⟨Ek (Gt p n (fun i hi=>HNO.out i (by omega))).symm,HB.out⟩
theorem Tv(a:Option Addr)(cap:Nat)(f:Value)(w:World):
  Calls Zb 164 #[.slice a 0 cap,f] w fun e w'=>e= .returned (.int .i64 (-1))∧Below w.heap.size w w':=by
 go_enter Tryz.func164,Tryz.ntmps164
 go_wp2_with fail
 refine wp_loop_rounds 1 ?_;rw[rounds_succ];go_wp2_with fail
 go_ret
 exact⟨rfl,Zc _ _⟩
theorem Qr(a:Option Addr)(n cap:Nat)(k:FuncId)(caps:Array Value)(hk:∀args w,(callFunc k args).run Zb w= .ok (.enter k args) w)(w:World)(c0 c1 c2 c3 c4:Nat→Value)(p:Nat→Bool)(hn:n≤140737488355328)
  (hc:n=0∨∃b off,a=some ⟨b,off,none⟩∧∀i,i<n→w.cell? ⟨b,off+i*5,none⟩=some (c0 i)∧w.cell? ⟨b,off+i*5+1,none⟩=some (c1 i)∧w.cell? ⟨b,off+i*5+2,none⟩=some (c2 i)∧w.cell? ⟨b,off+i*5+3,none⟩=some (c3 i)∧w.cell? ⟨b,off+i*5+4,none⟩=some (c4 i))
  (hf:∀i,i<n→∀w1,Below w.heap.size w w1→Calls Zb k (#[.agg #[c0 i,c1 i,c2 i,c3 i,c4 i]]++caps) w1 fun e w2=>e= .returned (.bool (p i))∧Below w1.heap.size w1 w2):
  Calls Zb 120 #[.slice a n cap,.func (.func k) #[] caps] w fun e w'=>e= .returned (.bool (Jv p n))∧Below w.heap.size w w':=by
 have H:Hid (Calls Zb 164 #[.slice a n cap,.func (.func k) #[] caps] w fun e w'=>e= .returned (.int .i64 (Cy p n))∧Below w.heap.size w w'):=by
  rcases hc with rfl|⟨b,off,rfl,hc⟩
  ·exact Tv _ _ _ _
  ·exact Xr b off n cap k caps hk w c0 c1 c2 c3 c4 p hn hc hf
 clear hc hf hk hn;have E:Hid (decide (0≤Cy p n)=Jv p n):=Hv p n;generalize Cy p n=r at H E;generalize Jv p n=q at E;go_enter Tryz.func120,Tryz.ntmps120
 go_wp2_with fail
 refine H.out.mono ?_;rintro e w1 ⟨rfl,hb⟩;go_wp2_with fail
 go_ret
 exact⟨Be E.out,hb⟩
theorem We(b off n cap:Nat)(k:FuncId)(caps:Array Value)(hk:∀args w,(callFunc k args).run Zb w= .ok (.enter k args) w)(w:World)(c0 c1 c2 c3 c4:Nat→Value)(p:Nat→Bool)(hn:n≤140737488355328)
  (hc:∀i,i<n→w.cell? ⟨b,off+i*5,none⟩=some (c0 i)∧w.cell? ⟨b,off+i*5+1,none⟩=some (c1 i)∧w.cell? ⟨b,off+i*5+2,none⟩=some (c2 i)∧w.cell? ⟨b,off+i*5+3,none⟩=some (c3 i)∧w.cell? ⟨b,off+i*5+4,none⟩=some (c4 i))
  (hf:∀i,i<n→∀w1,Below w.heap.size w w1→Calls Zb k (#[.agg #[c0 i,c1 i,c2 i,c3 i,c4 i]]++caps) w1 fun e w2=>e= .returned (.bool (p i))∧Below w1.heap.size w1 w2):
  Calls Zb 159 #[.slice (some ⟨b,off,none⟩) n cap,.func (.func k) #[] caps] w fun e w'=>e= .returned (.int .i64 (Cy p n))∧Below w.heap.size w w':=by
 have HF:=Za hf;clear hf;have HC:=Za hc;clear hc;have hn1:n<9223372036854775807:=by omega
 clear hn;go_enter Tryz.func159,Tryz.ntmps159
 go_wp2_with fail
 go_loopw [5,8] (fun _ i8 wr=> ∃j:Nat,j≤n∧i8= .int .i64 j∧(∀i,i<j→p i=false)∧Below w.heap.size w wr) (fun _ i8 _=>n - (intOf i8).toNat)
 case atStart=>exact⟨0,Nat.zero_le _,rfl,fun i hi=>by omega,Zc _ _⟩
 case round=>
  obtain⟨j,hj,rfl,hno,hb⟩:=hrel;have HNO:=Za hno;clear hno
  by_cases hlt:j<n
  ·obtain⟨g0,g1,g2,g3,g4⟩:=HC.out j hlt
   have k0:=Ab hb g0;have k1:=Ab hb g1;have k2:=Ab hb g2;have k3:=Ab hb g3;have k4:=Ab hb g4;clear g0 g1 g2 g3 g4;have call:=HF.out j hlt wr hb;have HB:=Za hb;clear hb;have HCALL:=Za call;clear call;go_wp2_with fail
   refine HCALL.out.mono ?_
   cases hp:p j
   ·rintro e w2 ⟨rfl,hb2⟩
    have HP:=Za hp;clear hp;go_wp2_with fail
    go_roundw
    case rel=>exact⟨j+1,by omega,by go_num,fun i hi=>by rcases Zg.1 hi with h|rfl;exact HNO.out i h;exact HP.out,HB.out.trans (hb2.mono HB.out.size)⟩
    case measure=>simp [intOf];omega
   ·rintro e w2 ⟨rfl,hb2⟩
    have HP:=Za hp;clear hp;go_wp2_with fail
    go_ret
    exact⟨Ek (Ke p j HP.out HNO.out n hlt).symm,HB.out.trans (hb2.mono HB.out.size)⟩
  ·have hje:n≤j:=by omega
   have HB:=Za hb;clear hb;go_wp2_with fail
   go_ret
   exact⟨Ek (Gt p n (fun i hi=>HNO.out i (by omega))).symm,HB.out⟩
theorem Tu(a:Option Addr)(cap:Nat)(f:Value)(w:World):
  Calls Zb 159 #[.slice a 0 cap,f] w fun e w'=>e= .returned (.int .i64 (-1))∧Below w.heap.size w w':=by
 go_enter Tryz.func159,Tryz.ntmps159
 go_wp2_with fail
 refine wp_loop_rounds 1 ?_;rw[rounds_succ];go_wp2_with fail
 go_ret
 exact⟨rfl,Zc _ _⟩
theorem Qv(a:Option Addr)(n cap:Nat)(k:FuncId)(caps:Array Value)(hk:∀args w,(callFunc k args).run Zb w= .ok (.enter k args) w)(w:World)(c0 c1 c2 c3 c4:Nat→Value)(p:Nat→Bool)(hn:n≤140737488355328)
  (hc:n=0∨∃b off,a=some ⟨b,off,none⟩∧∀i,i<n→w.cell? ⟨b,off+i*5,none⟩=some (c0 i)∧w.cell? ⟨b,off+i*5+1,none⟩=some (c1 i)∧w.cell? ⟨b,off+i*5+2,none⟩=some (c2 i)∧w.cell? ⟨b,off+i*5+3,none⟩=some (c3 i)∧w.cell? ⟨b,off+i*5+4,none⟩=some (c4 i))
  (hf:∀i,i<n→∀w1,Below w.heap.size w w1→Calls Zb k (#[.agg #[c0 i,c1 i,c2 i,c3 i,c4 i]]++caps) w1 fun e w2=>e= .returned (.bool (p i))∧Below w1.heap.size w1 w2):
  Calls Zb 113 #[.slice a n cap,.func (.func k) #[] caps] w fun e w'=>e= .returned (.bool (Jv p n))∧Below w.heap.size w w':=by
 have H:Hid (Calls Zb 159 #[.slice a n cap,.func (.func k) #[] caps] w fun e w'=>e= .returned (.int .i64 (Cy p n))∧Below w.heap.size w w'):=by
  rcases hc with rfl|⟨b,off,rfl,hc⟩
  ·exact Tu _ _ _ _
  ·exact We b off n cap k caps hk w c0 c1 c2 c3 c4 p hn hc hf
 clear hc hf hk hn;have E:Hid (decide (0≤Cy p n)=Jv p n):=Hv p n;generalize Cy p n=r at H E;generalize Jv p n=q at E;go_enter Tryz.func113,Tryz.ntmps113
 go_wp2_with fail
 refine H.out.mono ?_;rintro e w1 ⟨rfl,hb⟩;go_wp2_with fail
 go_ret
 exact⟨Be E.out,hb⟩
theorem Ya(b off n cap:Nat)(k:FuncId)(caps:Array Value)(hk:∀args w,(callFunc k args).run Zb w= .ok (.enter k args) w)(w:World)(c0:Nat→Value)(p:Nat→Bool)(hn:n≤140737488355328)
  (hc:∀i,i<n→w.cell? ⟨b,off+i,none⟩=some (c0 i))
  (hf:∀i,i<n→∀w1,Below w.heap.size w w1→Calls Zb k (#[c0 i]++caps) w1 fun e w2=>e= .returned (.bool (p i))∧Below w1.heap.size w1 w2):
  Calls Zb 158 #[.slice (some ⟨b,off,none⟩) n cap,.func (.func k) #[] caps] w fun e w'=>e= .returned (.int .i64 (Cy p n))∧Below w.heap.size w w':=by
 have HF:=Za hf;clear hf;have HC:=Za hc;clear hc;have hn1:n<9223372036854775807:=by omega
 clear hn;go_enter Tryz.func158,Tryz.ntmps158
 go_wp2_with fail
 go_loopw [5,8] (fun _ i8 wr=> ∃j:Nat,j≤n∧i8= .int .i64 j∧(∀i,i<j→p i=false)∧Below w.heap.size w wr) (fun _ i8 _=>n - (intOf i8).toNat)
 case atStart=>exact⟨0,Nat.zero_le _,rfl,fun i hi=>by omega,Zc _ _⟩
 case round=>
  obtain⟨j,hj,rfl,hno,hb⟩:=hrel;have HNO:=Za hno;clear hno
  by_cases hlt:j<n
  ·have g0:=HC.out j hlt
   have k0:=Ab hb g0;clear g0;have call:=HF.out j hlt wr hb;have HB:=Za hb;clear hb;have HCALL:=Za call;clear call;go_wp2_with fail
   refine HCALL.out.mono ?_
   cases hp:p j
   ·rintro e w2 ⟨rfl,hb2⟩
    have HP:=Za hp;clear hp;go_wp2_with fail
    go_roundw
    case rel=>exact⟨j+1,by omega,by go_num,fun i hi=>by rcases Zg.1 hi with h|rfl;exact HNO.out i h;exact HP.out,HB.out.trans (hb2.mono HB.out.size)⟩
    case measure=>simp [intOf];omega
   ·rintro e w2 ⟨rfl,hb2⟩
    have HP:=Za hp;clear hp;go_wp2_with fail
    go_ret
    exact⟨Ek (Ke p j HP.out HNO.out n hlt).symm,HB.out.trans (hb2.mono HB.out.size)⟩
  ·have hje:n≤j:=by omega
   have HB:=Za hb;clear hb;go_wp2_with fail
   go_ret
   exact⟨Ek (Gt p n (fun i hi=>HNO.out i (by omega))).symm,HB.out⟩
theorem Ue(a:Option Addr)(cap:Nat)(f:Value)(w:World):
  Calls Zb 158 #[.slice a 0 cap,f] w fun e w'=>e= .returned (.int .i64 (-1))∧Below w.heap.size w w':=by
 go_enter Tryz.func158,Tryz.ntmps158
 go_wp2_with fail
 refine wp_loop_rounds 1 ?_;rw[rounds_succ];go_wp2_with fail
 go_ret
 exact⟨rfl,Zc _ _⟩
theorem Qo(a:Option Addr)(n cap:Nat)(k:FuncId)(caps:Array Value)(hk:∀args w,(callFunc k args).run Zb w= .ok (.enter k args) w)(w:World)(c0:Nat→Value)(p:Nat→Bool)(hn:n≤140737488355328)
  (hc:n=0∨∃b off,a=some ⟨b,off,none⟩∧∀i,i<n→w.cell? ⟨b,off+i,none⟩=some (c0 i))
  (hf:∀i,i<n→∀w1,Below w.heap.size w w1→Calls Zb k (#[c0 i]++caps) w1 fun e w2=>e= .returned (.bool (p i))∧Below w1.heap.size w1 w2):
  Calls Zb 110 #[.slice a n cap,.func (.func k) #[] caps] w fun e w'=>e= .returned (.bool (Jv p n))∧Below w.heap.size w w':=by
 have H:Hid (Calls Zb 158 #[.slice a n cap,.func (.func k) #[] caps] w fun e w'=>e= .returned (.int .i64 (Cy p n))∧Below w.heap.size w w'):=by
  rcases hc with rfl|⟨b,off,rfl,hc⟩
  ·exact Ue _ _ _ _
  ·exact Ya b off n cap k caps hk w c0 p hn hc hf
 clear hc hf hk hn;have E:Hid (decide (0≤Cy p n)=Jv p n):=Hv p n;generalize Cy p n=r at H E;generalize Jv p n=q at E;go_enter Tryz.func110,Tryz.ntmps110
 go_wp2_with fail
 refine H.out.mono ?_;rintro e w1 ⟨rfl,hb⟩;go_wp2_with fail
 go_ret
 exact⟨Be E.out,hb⟩
theorem Ed {l:List Ex}{i:Nat}(h:i<l.length):Ci l i∈l:=by
 simp only[Ci,List.getD_eq_getElem?_getD,Zf h,Option.getD_some];exact List.getElem_mem h
theorem Uv {l:List Ex}{i:Nat}(h:i<l.length):Ci l i=l[i]:=by
 simp [Ci,Zf h]
theorem cY {l:List St}{i:Nat}(h:i<l.length):Jq l i∈l:=by
 simp only[Jq,List.getD_eq_getElem?_getD,Zf h,Option.getD_some];exact List.getElem_mem h
theorem cZ {l:List St}{i:Nat}(h:i<l.length):Jq l i=l[i]:=by
 simp [Jq,Zf h]
theorem Jf(k:FuncId)(caps:Array Value)(hk:∀args w,(callFunc k args).run Zb w= .ok (.enter k args) w)(l:List Ex)(s:Value)(D:Nat→Prop)(w:World)(h:Ag D w l s)(f:Ex→Bool)
  (hf:∀e s' w1,e∈l→Below w.heap.size w w1→Ag D w1 e.args s'→Calls Zb k (#[exV e s']++caps) w1 fun r w2=>r= .returned (.bool (f e))∧Below w1.heap.size w1 w2):
  Calls Zb 120 #[s,.func (.func k) #[] caps] w fun r w'=>r= .returned (.bool (l.any f))∧Below w.heap.size w w':=by
 cases h with
 |mk _ a cap b off sv hcap hfit ha h0 h1 h2 h3 h4 hs=>
  rw[←Mm f (fun i=>f (Ci l i)) l (fun i hi=>by rw[Uv hi])];refine Qr a l.length cap k caps hk w (fun i=> .int .i64 (Ci l i).kind) (fun i=> .int .i64 (Ci l i).op) (fun i=> .int .i64 (Ci l i).n) (fun i=> .string (Aa (Ci l i).name)) sv (fun i=>f (Ci l i)) (hfit).out ?_ ?_
  ·rcases ha with ha|⟨ha,_⟩
   ·exact .inl ha
   ·exact .inr ⟨b,off,ha,fun i hi=>⟨h0 i hi,h1 i hi,h2 i hi,h3 i hi,h4 i hi⟩⟩
  ·intro i hi w1 hb
   exact hf (Ci l i) (sv i) w1 (Ed hi) hb ((hs i hi).old hb)
abbrev stV(x:St)(a t e:Value):Value:= .agg #[.int .i64 x.kind,.string (Aa x.name),a,t,e]
theorem Sq(k:FuncId)(caps:Array Value)(hk:∀args w,(callFunc k args).run Zb w= .ok (.enter k args) w)(l:List St)(s:Value)(D:Nat→Prop)(w:World)(h:Bn D w l s)(f:St→Bool)
  (hf:∀x a t e w1,x∈l→Below w.heap.size w w1→Ag D w1 x.args a→Bn D w1 x.thn t→Bn D w1 x.els e→Calls Zb k (#[stV x a t e]++caps) w1 fun r w2=>r= .returned (.bool (f x))∧Below w1.heap.size w1 w2):
  Calls Zb 113 #[s,.func (.func k) #[] caps] w fun r w'=>r= .returned (.bool (l.any f))∧Below w.heap.size w w':=by
 cases h with
 |mk _ a cap b off sa st se hcap hfit ha h0 h1 h2 h3 h4 ea et ee=>
  rw[←Mm f (fun i=>f (Jq l i)) l (fun i hi=>by rw[cZ hi])];refine Qv a l.length cap k caps hk w (fun i=> .int .i64 (Jq l i).kind) (fun i=> .string (Aa (Jq l i).name)) sa st se (fun i=>f (Jq l i)) (hfit).out ?_ ?_
  ·rcases ha with ha|⟨ha,_⟩
   ·exact .inl ha
   ·exact .inr ⟨b,off,ha,fun i hi=>⟨h0 i hi,h1 i hi,h2 i hi,h3 i hi,h4 i hi⟩⟩
  ·intro i hi w1 hb
   exact hf (Jq l i) (sa i) (st i) (se i) w1 (cY hi) hb ((ea i hi).old hb) ((et i hi).old hb) ((ee i hi).old hb)
def dJ(m:Nat):Prop:= ∀(D:Nat→Prop) (e:Ex) (s:Value) (w:World),Ag D w e.args s→
 Calls Zb 61 #[exV e s,.int .i64 m] w fun r w'=>r= .returned (.bool (Fq m e))∧Below w.heap.size w w'
theorem deep_fn(m:Nat)(ih:dJ m)(D:Nat→Prop)(e:Ex)(s:Value)(w:World)(h:Ag D w e.args s)(B:Nat)(hB:w.cell? ⟨B,0,none⟩=some (.int .i64 (m+1)))(hm:m≤1000):
  Calls Zb 121 #[exV e s,.pointer (some ⟨B,0,none⟩)] w fun r w'=>r= .returned (.bool (!Fq m e))∧Below w.heap.size w w':=by
 have H:=Za h;clear h;have hBl:B<w.heap.size:=World.block_lt_of_cell? _ _ hB;go_enter Tryz.func121,Tryz.ntmps121
 go_wp2_with fail
 refine(ih D e s _ (H.out.old (bA))).mono ?_;rintro r w1 ⟨rfl,hb⟩;go_wp2_with fail
 go_ret
 exact⟨rfl,(bA).trans (hb.mono (by simp))⟩
theorem Uk:∀m,m≤1000→dJ m
 |0,_=>by
  intro D e s w _;go_enter Tryz.func61,Tryz.ntmps61
  go_wp2_with fail
  go_ret
  exact⟨rfl,(bA).alloc (by simp) _⟩
 |m+1,hm=>by
  intro D e s w h;have ih:=Za (Uk m (by omega));have H:=Za h;clear h;have hm':(0:Int)<(m:Int)+1:=by omega
  go_enter Tryz.func61,Tryz.ntmps61
  go_wp2_with fail
  refine(Jf 121 _ Tryz.call121 e.args s D _ (H.out.old ((bA).alloc (by simp) _)) (fun x=> !Fq m x) ?_).mono ?_
  ·intro x s' w1 _ hb hx
   exact deep_fn m ih.out D x s' w1 hx _ (Ab hb (by simp)) (by omega)
  ·rintro r w1 ⟨rfl,hb⟩
   go_wp2_with fail
   go_ret
   exact⟨Be (by simp [Fq,List.any_eq_not_all_not]),((bA).alloc (by simp) _).trans (hb.mono (by simp;omega))⟩
end Go.Proofs.YtcfpfnoldgnloaaGreatDoor
