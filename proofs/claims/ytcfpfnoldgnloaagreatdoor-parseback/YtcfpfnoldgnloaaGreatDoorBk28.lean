/-
  EqualFunc over expressions, sameExpr.
-/
import Derived.Test.YtcfpfnoldgnloaaGreatDoorBk27
import Derived.Test.YtcfpfnoldgnloaaGreatDoorCards
import Derived.Test.YtcfpfnoldgnloaaGreatDoorTie
set_option linter.unusedVariables false
set_option linter.unusedSimpArgs false
namespace Go.Proofs.YtcfpfnoldgnloaaGreatDoor
open Go.RowKit
set_option maxHeartbeats 20000000
set_option maxRecDepth 100000
open Go.Lib renaming hid→Za
open Go.Proofs.Tryz renaming prog→Zb
open Below renaming refl→Zc
open bM renaming old→Zd
open World renaming cell?_alloc_lt→Ze
open ag renaming old→Zf
open Nat renaming zero_le→Zg,lt_succ_iff_lt_or_eq→Zh
def jY(a:Ex):Prop:= ∀(b:Ex) (D:Nat→Prop) (sa sb:Value) (w:World),aJ D w a.args sa→aJ D w b.args sb→
 Calls Zb 117 #[exV a sa,exV b sb] w fun e w'=>e= .returned (.bool (cU a b))∧Below w.heap.size w w'
theorem nW(la:List Ex)(ih:∀x,x∈la→jY x)(lb:List Ex)(D:Nat→Prop)(va vb:Value)(w:World)(ha:aJ D w la va)(hb:aJ D w lb vb):
  Calls Zb 116 #[va,vb,.func (.func 117) #[] #[]] w fun e w'=>e= .returned (.bool (bP cU la lb))∧Below w.heap.size w w':=by
 obtain⟨a1,a2,rfl⟩:=ha.shape;obtain⟨b1,b2,rfl⟩:=hb.shape;have l63:=ha.fits.lt;have m63:=hb.fits.lt
 by_cases hl:lb.length=la.length
 ·rw[hl]at hb ⊢
  have HA:=Za ha;have HB:=Za hb;have IH:=Za ih;have HL:=Za hl;clear ha hb ih hl m63;go_enter Tryz.func116,Tryz.ntmps116
  go_wp2_with fail
  go_loopw [7,8,9,17] (fun _ _ _ s17 wr=> ∃k:Nat,k≤la.length∧s17= .int .i64 k∧(∀i,i<k→cU (la.getD i Ex.nil) (lb.getD i Ex.nil)=true)∧Below w.heap.size w wr) (fun _ _ _ s17 _=>la.length - (intOf s17).toNat)
  case atStart=>exact⟨0,Zg _,rfl,fun i hi=>by omega,Zc _ _⟩
  case round=>
   obtain⟨k,hk,rfl,hno,hb⟩:=hrel;have HNO:=Za hno;have HBW:=Za hb;have hsz:=hb.size;clear hno hb
   by_cases hlt:k<la.length
   ·obtain⟨xab,xao,xas,rfl,xaD,a0,a1,a2,a3,a4,ah,an⟩:=aJ.cellAt (aJ.old HBW.out HA.out) k hlt
    obtain⟨xbb,xbo,xbs,rfl,xbD,b0,b1,b2,b3,b4,bh,bn⟩:=aJ.cellAt (aJ.old HBW.out HB.out) k (by rw[HL.out];exact hlt);obtain⟨a5,a6,rfl⟩:=ah.shape;obtain⟨b5,b6,rfl⟩:=bh.shape;have al:=World.block_lt_of_cell? _ _ a0;have bl:=World.block_lt_of_cell? _ _ b0;have HAH:=Za ah;have HBH:=Za bh;clear ah bh an bn xaD xbD;have IHX:=Za (IH.out _ (bx hlt));have HKL:=Za hlt;generalize hxe:bI la k=xa at*;generalize hye:bI lb k=xb at*;have HXE:=Za hxe;have HYE:=Za hye;clear hxe hye;generalize hxa:cU xa xb=q;have HXA:Hid (cU (bI la k) (bI lb k)=q):=by show _=_;rw[HXE.out,HYE.out];exact hxa
    have HXB:=Za hxa;clear hxa;have hww:Below wr.heap.size wr ((wr.alloc (.cells #[.int .i64 xa.kind,.int .i64 xa.op,.int .i64 xa.n,.string (aB xa.name),.slice a5 xa.args.length a6] 27)).alloc (.cells #[.int .i64 xb.kind,.int .i64 xb.op,.int .i64 xb.n,.string (aB xb.name),.slice b5 xb.args.length b6] 27)):=(bA).alloc (by simp) _;have HAH2:=Za (HAH.out.old hww);have HBH2:=Za (HBH.out.old hww);have HWW:=Za (HBW.out.trans (hww.mono hsz));clear hww;go_wp2_with fail
    refine(IHX.out _ D _ _ _ HAH2.out HBH2.out).mono ?_;rw[HXB.out]
    cases q
    ·rintro r w2 ⟨rfl,hb2⟩
     have HB2:=Za (HWW.out.trans (hb2.mono (by simp;omega)));clear hb2 a0 a1 a2 a3 a4 b0 b1 b2 b3 b4;go_wp2_with fail
     go_ret
     exact⟨aT (eJ cU Ex.nil la lb k HL.out.symm HKL.out HXA.out).symm,HB2.out⟩
    ·rintro r w2 ⟨rfl,hb2⟩
     have HB2:=Za (HWW.out.trans (hb2.mono (by simp;omega)));clear hb2 a0 a1 a2 a3 a4 b0 b1 b2 b3 b4;go_wp2_with fail
     go_roundw
     case rel=>exact⟨k+1,by omega,by go_num,fun i hi=>by rcases Zh.1 hi with h|rfl;exact HNO.out i h;exact HXA.out,HB2.out⟩
     case measure=>simp [intOf];omega
   ·go_wp2_with fail
    go_ret
    exact⟨aT (ei cU Ex.nil la lb HL.out.symm (fun i hi=>HNO.out i (by omega))).symm,HBW.out⟩
 ·have hne:((la.length:Int) !=(lb.length:Int))=true:=by rw[bne_iff_ne];omega
  have E:Hid (bP cU la lb=false):=fR _ _ _ (by omega);clear ha hb ih hl;go_enter Tryz.func116,Tryz.ntmps116
  go_wp2_with fail
  go_ret
  exact⟨aT E.out.symm,Zc _ _⟩
theorem oh(a:Ex)(ih:∀x,x∈a.args→jY x):jY a:=by
 intro b D sa sb w ha hb;obtain⟨a1,a2,rfl⟩:=ha.shape;obtain⟨b1,b2,rfl⟩:=hb.shape;have EQ:=Za (nW a.args ih);obtain⟨k,o,n,nm,us⟩:=a;obtain⟨k',o',n',nm',bs⟩:=b;have HA:=Za ha;have HB:=Za hb;have E:Hid (cU (.mk k o n nm us) (.mk k' o' n' nm' bs)=(k==k' && o==o' && n==n' && nm==nm' && bP cU us bs)):=by show _=_;rw[cU,hZ]
 clear ha hb ih;show Calls _ _ #[.agg #[.int .i64 k,.int .i64 o,.int .i64 n,.string (aB nm),.slice a1 us.length a2],.agg #[.int .i64 k',.int .i64 o',.int .i64 n',.string (aB nm'),.slice b1 bs.length b2]] _ _
 rw[E.out];go_enter Tryz.func117,Tryz.ntmps117
 go_wp2_with fail
 ·refine(EQ.out bs D (.slice a1 us.length a2) (.slice b1 bs.length b2) _ ?h1 ?h2).mono ?_
  case h1=>exact aJ.old ((bA).alloc (by simp) _) HA.out
  case h2=>exact aJ.old ((bA).alloc (by simp) _) HB.out
  rintro r w1 ⟨rfl,hb⟩;go_wp2_with fail
  go_ret
  exact⟨aT (by simp [*,Ex.args,St.args,St.thn,St.els]),((bA).alloc (by simp) _).trans (hb.mono (by simp;omega))⟩
 all_goals
  go_ret
  refine⟨aT ?_,(bA).alloc (by simp) _⟩;simp [*]
theorem lE:∀(n:Nat) (e:Ex),SizeOf.sizeOf e≤n→jY e
 |0,e,h=>by cases e;simp at h
 |n+1,e,h=>oh e fun x hx=>lE n x (by have:=Ex.size_lt hx;omega)
theorem p7(e:Ex):jY e:=lE _ e (Nat.le_refl _)
theorem vQ(la lb:List Ex)(D:Nat→Prop)(va vb:Value)(w:World)(ha:aJ D w la va)(hb:aJ D w lb vb):
  Calls Zb 116 #[va,vb,.func (.func 117) #[] #[]] w fun e w'=>e= .returned (.bool (ci la lb))∧Below w.heap.size w w':=by
 rw[hZ];exact nW la (fun x _=>p7 x) lb D va vb w ha hb
def jf(x:St):Prop:= ∀(y:St) (D:Nat→Prop) (a t e a' t' e':Value) (w:World),aJ D w x.args a→aR D w x.thn t→aR D w x.els e→aJ D w y.args a'→aR D w y.thn t'→aR D w y.els e'→
 Calls Zb 56 #[stV x a t e,stV y a' t' e'] w fun e w'=>e= .returned (.bool (dm x y))∧Below w.heap.size w w'
theorem kL(la:List St)(ih:∀x,x∈la→jf x)(lb:List St)(D:Nat→Prop)(va vb:Value)(w:World)(ha:aR D w la va)(hb:aR D w lb vb):
  Calls Zb 55 #[va,vb,.func (.func 56) #[] #[]] w fun e w'=>e= .returned (.bool (bP dm la lb))∧Below w.heap.size w w':=by
 obtain⟨a1,a2,rfl⟩:=ha.shape;obtain⟨b1,b2,rfl⟩:=hb.shape;have l63:=ha.fits.lt;have m63:=hb.fits.lt
 by_cases hl:lb.length=la.length
 ·rw[hl]at hb ⊢
  have HA:=Za ha;have HB:=Za hb;have IH:=Za ih;have HL:=Za hl;clear ha hb ih hl m63;go_enter Tryz.func55,Tryz.ntmps55
  go_wp2_with fail
  go_loopw [7,8,9,17] (fun _ _ _ s17 wr=> ∃k:Nat,k≤la.length∧s17= .int .i64 k∧(∀i,i<k→dm (la.getD i St.nil) (lb.getD i St.nil)=true)∧Below w.heap.size w wr) (fun _ _ _ s17 _=>la.length - (intOf s17).toNat)
  case atStart=>exact⟨0,Zg _,rfl,fun i hi=>by omega,Zc _ _⟩
  case round=>
   obtain⟨k,hk,rfl,hno,hb⟩:=hrel;have HNO:=Za hno;have HBW:=Za hb;have hsz:=hb.size;clear hno hb
   by_cases hlt:k<la.length
   ·obtain⟨xab,xao,a7,a8,a9,rfl,xaD,al,a0,a1,a2,a3,a4,ah,at',ae⟩:=aR.cellAt (aR.old HBW.out HA.out) k hlt
    obtain⟨xbb,xbo,b7,b8,b9,rfl,xbD,bl,b0,b1,b2,b3,b4,bh,bt,be⟩:=aR.cellAt (aR.old HBW.out HB.out) k (by rw[HL.out];exact hlt);obtain⟨a51,a52,rfl⟩:=ah.shape;obtain⟨b51,b52,rfl⟩:=bh.shape;obtain⟨a61,a62,rfl⟩:=aR.shape at';obtain⟨b61,b62,rfl⟩:=aR.shape bt;obtain⟨a71,a72,rfl⟩:=aR.shape ae;obtain⟨b71,b72,rfl⟩:=aR.shape be;have HAH:=Za ah;have HBH:=Za bh;have HAT:=Za at';have HBT:=Za bt;have HAE:=Za ae;have HBE:=Za be;clear ah bh at' bt ae be xaD xbD;have IHX:=Za (IH.out _ (nD hlt));have HKL:=Za hlt;generalize hxe:ez la k=xa at*;generalize hye:ez lb k=xb at*;have HXE:=Za hxe;have HYE:=Za hye;clear hxe hye;generalize hxa:dm xa xb=q;have HXA:Hid (dm (ez la k) (ez lb k)=q):=by show _=_;rw[HXE.out,HYE.out];exact hxa
    have HXB:=Za hxa;clear hxa;have hww:Below wr.heap.size wr ((wr.alloc (.cells #[.int .i64 xa.kind,.string (aB xa.name),.slice a51 xa.args.length a52,.slice a61 xa.thn.length a62,.slice a71 xa.els.length a72] 60)).alloc (.cells #[.int .i64 xb.kind,.string (aB xb.name),.slice b51 xb.args.length b52,.slice b61 xb.thn.length b62,.slice b71 xb.els.length b72] 60)):=(bA).alloc (by simp) _;have HAH2:=Za (HAH.out.old hww);have HBH2:=Za (HBH.out.old hww);have HAT2:=Za (HAT.out.old hww);have HBT2:=Za (HBT.out.old hww);have HAE2:=Za (HAE.out.old hww);have HBE2:=Za (HBE.out.old hww);have HWW:=Za (HBW.out.trans (hww.mono hsz));clear hww;go_wp2_with fail
    refine(IHX.out _ D _ _ _ _ _ _ _ HAH2.out HAT2.out HAE2.out HBH2.out HBT2.out HBE2.out).mono ?_;rw[HXB.out]
    cases q
    ·rintro r w2 ⟨rfl,hb2⟩
     have HB2:=Za (HWW.out.trans (hb2.mono (by simp;omega)));clear hb2 a0 a1 a2 a3 a4 b0 b1 b2 b3 b4;go_wp2_with fail
     go_ret
     exact⟨aT (eJ dm St.nil la lb k HL.out.symm HKL.out HXA.out).symm,HB2.out⟩
    ·rintro r w2 ⟨rfl,hb2⟩
     have HB2:=Za (HWW.out.trans (hb2.mono (by simp;omega)));clear hb2 a0 a1 a2 a3 a4 b0 b1 b2 b3 b4;go_wp2_with fail
     go_roundw
     case rel=>exact⟨k+1,by omega,by go_num,fun i hi=>by rcases Zh.1 hi with h|rfl;exact HNO.out i h;exact HXA.out,HB2.out⟩
     case measure=>simp [intOf];omega
   ·go_wp2_with fail
    go_ret
    exact⟨aT (ei dm St.nil la lb HL.out.symm (fun i hi=>HNO.out i (by omega))).symm,HBW.out⟩
 ·have hne:((la.length:Int) !=(lb.length:Int))=true:=by rw[bne_iff_ne];omega
  have E:Hid (bP dm la lb=false):=fR _ _ _ (by omega);clear ha hb ih hl;go_enter Tryz.func55,Tryz.ntmps55
  go_wp2_with fail
  go_ret
  exact⟨aT E.out.symm,Zc _ _⟩
theorem od(x:St)(iht:∀y,y∈x.thn→jf y)(ihe:∀y,y∈x.els→jf y):jf x:=by
 intro y D sa st se sb ut ue w ha ht he hb ht' he';obtain⟨a1,a2,rfl⟩:=ha.shape;obtain⟨t1,t2,rfl⟩:=ht.shape;obtain⟨e1,e2,rfl⟩:=he.shape;obtain⟨b1,b2,rfl⟩:=hb.shape;obtain⟨u1,u2,rfl⟩:=ht'.shape;obtain⟨v1,v2,rfl⟩:=he'.shape;have EQT:=Za (kL x.thn iht);have EQE:=Za (kL x.els ihe);obtain⟨k,nm,us,tt,ee⟩:=x;obtain⟨k',nm',vs,tt',ee'⟩:=y;have HA:=Za ha;have HT:=Za ht;have HE:=Za he;have HA':=Za hb;have HT':=Za ht';have HE':=Za he';have E:Hid (dm (.mk k nm us tt ee) (.mk k' nm' vs tt' ee')=(k==k' && nm==nm' && ci us vs && bP dm tt tt' && bP dm ee ee')):=by show _=_;rw[dm,iI,iI]
 clear ha ht he hb ht' he' iht ihe;show Calls _ _ #[.agg #[.int .i64 k,.string (aB nm),.slice a1 us.length a2,.slice t1 tt.length t2,.slice e1 ee.length e2],.agg #[.int .i64 k',.string (aB nm'),.slice b1 vs.length b2,.slice u1 tt'.length u2,.slice v1 ee'.length v2]] _ _
 rw[E.out];go_enter Tryz.func56,Tryz.ntmps56
 go_wp2_with fail
 ·have HBW:=Za (((Zc w.heap.size w).alloc (Nat.le_refl _) (.cells #[.int .i64 k',.string (aB nm'),.slice a1 us.length a2,.slice t1 tt.length t2,.slice e1 ee.length e2] 60)).alloc (by simp) (.cells #[.int .i64 k',.string (aB nm'),.slice b1 vs.length b2,.slice u1 tt'.length u2,.slice v1 ee'.length v2] 60))
  refine(vQ us vs D (.slice a1 us.length a2) (.slice b1 vs.length b2) _ ?h1 ?h2).mono ?_
  case h1=>exact aJ.old ((bA).alloc (by simp) _) HA.out
  case h2=>exact aJ.old ((bA).alloc (by simp) _) HA'.out
  rintro r w1 ⟨rfl,hb1⟩;have hz:w.heap.size+1<w1.heap.size:=by have:=hb1.size;simp at this;omega
  have g3:w1.cell? ⟨w.heap.size,3,none⟩=some (.slice t1 tt.length t2):=aE hb1 (by simp [Ze]);have g4:w1.cell? ⟨w.heap.size,4,none⟩=some (.slice e1 ee.length e2):=aE hb1 (by simp [Ze]);have k3:w1.cell? ⟨w.heap.size+1,3,none⟩=some (.slice u1 tt'.length u2):=aE hb1 (by simp [Ze]);have k4:w1.cell? ⟨w.heap.size+1,4,none⟩=some (.slice v1 ee'.length v2):=aE hb1 (by simp [Ze]);have hbw:Below w.heap.size w w1:=((bA).alloc (by simp) _).trans (hb1.mono (by simp;omega));have HBW1:=Za hbw;clear hb1 hbw HBW
  cases qa:ci us vs
  ·have QA:=Za qa;clear qa
   go_wp2_with fail
   go_ret
   exact⟨aT (by simp [*,QA.out]),HBW1.out⟩
  have QA:=Za qa;clear qa;go_wp2_with fail
  refine(EQT.out tt' D (.slice t1 tt.length t2) (.slice u1 tt'.length u2) _ (HT.out.old HBW1.out) (HT'.out.old HBW1.out)).mono ?_;rintro r w2 ⟨rfl,hb2⟩;have l4:=aE hb2 g4;have m4:=aE hb2 k4;have HBW2:=Za (HBW1.out.trans (hb2.mono (by omega)));have hs2:=hb2.size;clear hb2 g3 g4 k3 k4;have ET:bP dm (St.mk k' nm' us tt ee).thn tt'=bP dm tt tt':=rfl
  first
   |rw[ET]
   |rw[show bP dm (St.mk k nm us tt ee).thn tt'=bP dm tt tt' from rfl]
  clear ET
  cases qt:bP dm tt tt'
  ·have QT:=Za qt;clear qt
   go_wp2_with fail
   go_ret
   exact⟨aT (by simp [*,QA.out,QT.out]),HBW2.out⟩
  have QT:=Za qt;clear qt;go_wp2_with fail
  refine(EQE.out ee' D (.slice e1 ee.length e2) (.slice v1 ee'.length v2) _ (HE.out.old HBW2.out) (HE'.out.old HBW2.out)).mono ?_;rintro r w3 ⟨rfl,hb3⟩;have HBW3:=Za (HBW2.out.trans (hb3.mono (by omega)));clear hb3 l4 m4;go_wp2_with fail
  go_ret
  exact⟨aT (by simp [*,QA.out,QT.out,St.els]),HBW3.out⟩
 all_goals
  go_ret
  refine⟨aT ?_,(bA).alloc (by simp) _⟩;simp [*]
theorem St.thn_lt {x y:St}(h:y∈x.thn):SizeOf.sizeOf y<SizeOf.sizeOf x:=by
 cases x with
 |mk k nm us t e=>have:=List.sizeOf_lt_of_mem (show y∈t from h);simp only[St.mk.sizeOf_spec];omega
theorem St.els_lt {x y:St}(h:y∈x.els):SizeOf.sizeOf y<SizeOf.sizeOf x:=by
 cases x with
 |mk k nm us t e=>have:=List.sizeOf_lt_of_mem (show y∈e from h);simp only[St.mk.sizeOf_spec];omega
theorem ik:∀(n:Nat) (x:St),SizeOf.sizeOf x≤n→jf x
 |0,x,h=>by cases x;simp at h
 |n+1,x,h=>od x (fun y hy=>ik n y (by have:=St.thn_lt hy;omega)) (fun y hy=>ik n y (by have:=St.els_lt hy;omega))
theorem vI(la lb:List St)(D:Nat→Prop)(va vb:Value)(w:World)(ha:aR D w la va)(hb:aR D w lb vb):
  Calls Zb 55 #[va,vb,.func (.func 56) #[] #[]] w fun e w'=>e= .returned (.bool (eL la lb))∧Below w.heap.size w w':=by
 rw[iI];exact kL la (fun x _=>ik _ x (Nat.le_refl _)) lb D va vb w ha hb
theorem Below.drewN' {n k:Nat}{w w1:World}(h:Below n w w1):Below n w (w1.drewN k):=⟨h.os,h.tape,h.output,h.size,h.block⟩
theorem nX(la lb:List Bs)(D:Nat→Prop)(va vb:Value)(w:World)(ha:ag D w la va)(hb:ag D w lb vb):
  Calls Zb 54 #[va,vb] w fun e w'=>e= .returned (.bool (en la lb))∧Below w.heap.size w w':=by
 rw[nN];obtain⟨a1,a2,rfl⟩:=ha.shape;obtain⟨b1,b2,rfl⟩:=hb.shape;have l63:=ha.fits.lt;have m63:=hb.fits.lt
 by_cases hl:lb.length=la.length
 ·rw[hl]at hb ⊢
  have HA:=Za ha;have HB:=Za hb;have HL:=Za hl;clear ha hb hl m63;go_enter Tryz.func54,Tryz.ntmps54
  go_wp2_with fail
  go_loopw [5,13] (fun _ s13 wr=> ∃k:Nat,k≤la.length∧s13= .int .i64 k∧(∀i,i<k→(la.getD i []==lb.getD i [])=true)∧Below w.heap.size w wr) (fun _ s13 _=>la.length - (intOf s13).toNat)
  case atStart=>exact⟨0,Zg _,rfl,fun i hi=>by omega,Zc _ _⟩
  case round=>
   obtain⟨k,hk,rfl,hno,hb⟩:=hrel;have HNO:=Za hno;have HBW:=Za hb;have hsz:=hb.size;clear hno hb
   by_cases hlt:k<la.length
   ·obtain⟨ab,ao,rfl,aD,al,ac⟩:=iX (Zf HBW.out HA.out) k hlt
    obtain⟨bb,bo,rfl,bD,bl,bc⟩:=iX (Zf HBW.out HB.out) k (by rw[HL.out];exact hlt);have HKL:=Za hlt;clear aD bD;generalize hxe:la.getD k []=xa at*;generalize hye:lb.getD k []=xb at*;have HXE:=Za hxe;have HYE:=Za hye;clear hxe hye
    cases q:(xa==xb)
    ·have HQ:=Za q
     go_wp2_with fail
     go_quiet (fail)
     go_wp2_with fail
     all_goals
      go_ret
      exact⟨aT (eJ (fun x y=>x==y) [] la lb k HL.out.symm HKL.out (by rw[HXE.out,HYE.out];exact HQ.out)).symm,Below.drewN' HBW.out⟩
    ·have hq:xa=xb:=by simpa using q
     subst hq;clear q;go_wp2_with fail
     go_quiet (fail)
     go_wp2_with fail
     go_roundw
     case rel=>exact⟨k+1,by omega,by go_num,fun i hi=>by rcases Zh.1 hi with h|rfl;exact HNO.out i h;rw[HXE.out,HYE.out];simp,Below.drewN' HBW.out⟩
     case measure=>simp [intOf];omega
   ·go_wp2_with fail
    go_ret
    exact⟨aT (ei (fun x y=>x==y) [] la lb HL.out.symm (fun i hi=>HNO.out i (by omega))).symm,HBW.out⟩
 ·have hne:((la.length:Int) !=(lb.length:Int))=true:=by rw[bne_iff_ne];omega
  have E:Hid (bP (fun x y=>x==y) la lb=false):=fR _ _ _ (by omega);clear ha hb hl;go_enter Tryz.func54,Tryz.ntmps54
  go_wp2_with fail
  go_ret
  exact⟨aT E.out.symm,Zc _ _⟩
theorem wO(la lb:List Ar)(D:Nat→Prop)(va vb:Value)(w:World)(ha:bK D w la va)(hb:bK D w lb vb):
  Calls Zb 51 #[va,vb] w fun e w'=>e= .returned (.bool (eT la lb))∧Below w.heap.size w w':=by
 rw[mX];obtain⟨a1,a2,rfl⟩:=ha.shape;obtain⟨b1,b2,rfl⟩:=hb.shape;have l63:=ha.fits.lt;have m63:=hb.fits.lt
 by_cases hl:lb.length=la.length
 ·rw[hl]at hb ⊢
  have HA:=Za ha;have HB:=Za hb;have HL:=Za hl;clear ha hb hl m63;go_enter Tryz.func51,Tryz.ntmps51
  go_wp2_with fail
  go_loopw [5,13] (fun _ s13 wr=> ∃k:Nat,k≤la.length∧s13= .int .i64 k∧(∀i,i<k→gX (la.getD i Ar.nil) (lb.getD i Ar.nil)=true)∧Below w.heap.size w wr) (fun _ s13 _=>la.length - (intOf s13).toNat)
  case atStart=>exact⟨0,Zg _,rfl,fun i hi=>by omega,Zc _ _⟩
  case round=>
   obtain⟨k,hk,rfl,hno,hb⟩:=hrel;have HNO:=Za hno;have HBW:=Za hb;have hsz:=hb.size;clear hno hb
   by_cases hlt:k<la.length
   ·obtain⟨ab,ao,rfl,aD,al,a0,a1⟩:=bK.cellAt (bK.old HBW.out HA.out) k hlt
    obtain⟨bb,bo,rfl,bD,bl,b0,b1⟩:=bK.cellAt (bK.old HBW.out HB.out) k (by rw[HL.out];exact hlt);have HKL:=Za hlt;clear aD bD;generalize hxe:gV la k=xa at*;generalize hye:gV lb k=xb at*;have HXE:=Za hxe;have HYE:=Za hye;clear hxe hye;obtain⟨n1,s1⟩:=xa;obtain⟨n2,s2⟩:=xb;dsimp only at a0 a1 b0 b1
    cases q:(n1==n2)<;>cases q2:(s1==s2)
    case true.true=>
     have hq:n1=n2:=by simpa using q
     have hq2:s1=s2:=by simpa using q2
     subst hq hq2;clear q q2;go_wp2_with fail
     go_quiet (fail)
     go_wp2_with fail
     go_roundw
     case rel=>exact⟨k+1,by omega,by go_num,fun i hi=>by rcases Zh.1 hi with h|rfl;exact HNO.out i h;(show gX (gV la _) (gV lb _)=true;rw[HXE.out,HYE.out];simp [gX]),Below.drewN' HBW.out⟩
     case measure=>simp [intOf];omega
    all_goals
     have HQ:Hid (gX (gV la k) (gV lb k)=false):=by show _=_;rw[HXE.out,HYE.out];simp [gX,q,q2]
     go_wp2_with fail
     go_quiet (fail)
     go_wp2_with fail
     all_goals
      go_ret
      exact⟨aT (eJ gX Ar.nil la lb k HL.out.symm HKL.out HQ.out).symm,Below.drewN' HBW.out⟩
   ·go_wp2_with fail
    go_ret
    exact⟨aT (ei gX Ar.nil la lb HL.out.symm (fun i hi=>HNO.out i (by omega))).symm,HBW.out⟩
 ·have hne:((la.length:Int) !=(lb.length:Int))=true:=by rw[bne_iff_ne];omega
  have E:Hid (bP gX la lb=false):=fR _ _ _ (by omega);clear ha hb hl;go_enter Tryz.func51,Tryz.ntmps51
  go_wp2_with fail
  go_ret
  exact⟨aT E.out.symm,Zc _ _⟩
def sH(x:Fu):Prop:= ∀(y:Fu) (D:Nat→Prop) (a t e a' t' e':Value) (w:World),ag D w x.params a→ag D w x.locals t→aR D w x.body e→ag D w y.params a'→ag D w y.locals t'→aR D w y.body e'→
 Calls Zb 53 #[fuV x a t e,fuV y a' t' e'] w fun e w'=>e= .returned (.bool (fQ x y))∧Below w.heap.size w w'
theorem tm(x:Fu):sH x:=by
 intro y D sa st se sb ut ue w ha ht he hb ht' he';obtain⟨a1,a2,rfl⟩:=ha.shape;obtain⟨t1,t2,rfl⟩:=ht.shape;obtain⟨e1,e2,rfl⟩:=he.shape;obtain⟨b1,b2,rfl⟩:=hb.shape;obtain⟨u1,u2,rfl⟩:=ht'.shape;obtain⟨v1,v2,rfl⟩:=he'.shape;obtain⟨nm,us,tt,ee⟩:=x;obtain⟨nm',vs,tt',ee'⟩:=y;have HA:=Za ha;have HT:=Za ht;have HE:=Za he;have HA':=Za hb;have HT':=Za ht';have HE':=Za he';have E:Hid (fQ ⟨nm,us,tt,ee⟩ ⟨nm',vs,tt',ee'⟩=(nm==nm' && en us vs && en tt tt' && eL ee ee')):=by show _=_;unfold fQ;rfl
 clear ha ht he hb ht' he';show Calls _ _ #[.agg #[.string (aB nm),.slice a1 us.length a2,.slice t1 tt.length t2,.slice e1 ee.length e2],.agg #[.string (aB nm'),.slice b1 vs.length b2,.slice u1 tt'.length u2,.slice v1 ee'.length v2]] _ _
 rw[E.out];go_enter Tryz.func53,Tryz.ntmps53
 go_wp2_with fail
 ·refine(nX us vs D (.slice a1 us.length a2) (.slice b1 vs.length b2) _ ?h1 ?h2).mono ?_
  case h1=>exact Zf ((bA).alloc (by simp) _) HA.out
  case h2=>exact Zf ((bA).alloc (by simp) _) HA'.out
  rintro r w1 ⟨rfl,hb1⟩;have hz:w.heap.size+1<w1.heap.size:=by have:=hb1.size;simp at this;omega
  have g3:w1.cell? ⟨w.heap.size,2,none⟩=some (.slice t1 tt.length t2):=aE hb1 (by simp [Ze]);have g4:w1.cell? ⟨w.heap.size,3,none⟩=some (.slice e1 ee.length e2):=aE hb1 (by simp [Ze]);have k3:w1.cell? ⟨w.heap.size+1,2,none⟩=some (.slice u1 tt'.length u2):=aE hb1 (by simp [Ze]);have k4:w1.cell? ⟨w.heap.size+1,3,none⟩=some (.slice v1 ee'.length v2):=aE hb1 (by simp [Ze]);have hbw:Below w.heap.size w w1:=((bA).alloc (by simp) _).trans (hb1.mono (by simp;omega));have HBW1:=Za hbw;clear hb1 hbw
  cases qa:en us vs
  ·have QA:=Za qa;clear qa
   go_wp2_with fail
   go_ret
   exact⟨aT (by simp [*,QA.out]),HBW1.out⟩
  have QA:=Za qa;clear qa;go_wp2_with fail
  refine(nX tt tt' D (.slice t1 tt.length t2) (.slice u1 tt'.length u2) _ (Zf HBW1.out HT.out) (Zf HBW1.out HT'.out)).mono ?_;rintro r w2 ⟨rfl,hb2⟩;have l4:=aE hb2 g4;have m4:=aE hb2 k4;have HBW2:=Za (HBW1.out.trans (hb2.mono (by omega)));have hs2:=hb2.size;clear hb2 g3 g4 k3 k4
  cases qt:en tt tt'
  ·have QT:=Za qt;clear qt
   go_wp2_with fail
   go_ret
   exact⟨aT (by simp [*,QA.out,QT.out]),HBW2.out⟩
  have QT:=Za qt;clear qt;go_wp2_with fail
  refine(vI ee ee' D (.slice e1 ee.length e2) (.slice v1 ee'.length v2) _ (HE.out.old HBW2.out) (HE'.out.old HBW2.out)).mono ?_;rintro r w3 ⟨rfl,hb3⟩;have HBW3:=Za (HBW2.out.trans (hb3.mono (by omega)));clear hb3 l4 m4;go_wp2_with fail
  go_ret
  exact⟨aT (by simp [*,QA.out,QT.out]),HBW3.out⟩
 all_goals
  go_ret
  refine⟨aT ?_,(bA).alloc (by simp) _⟩;simp [*]
theorem uF(la:List Fu)(ih:∀x,x∈la→sH x)(lb:List Fu)(D:Nat→Prop)(va vb:Value)(w:World)(ha:bM D w la va)(hb:bM D w lb vb):
  Calls Zb 52 #[va,vb,.func (.func 53) #[] #[]] w fun e w'=>e= .returned (.bool (bP fQ la lb))∧Below w.heap.size w w':=by
 obtain⟨a1,a2,rfl⟩:=ha.shape;obtain⟨b1,b2,rfl⟩:=hb.shape;have l63:=ha.fits.lt;have m63:=hb.fits.lt
 by_cases hl:lb.length=la.length
 ·rw[hl]at hb ⊢
  have HA:=Za ha;have HB:=Za hb;have IH:=Za ih;have HL:=Za hl;clear ha hb ih hl m63;go_enter Tryz.func52,Tryz.ntmps52
  go_wp2_with fail
  go_loopw [7,8,9,17] (fun _ _ _ s17 wr=> ∃k:Nat,k≤la.length∧s17= .int .i64 k∧(∀i,i<k→fQ (la.getD i Fu.nil) (lb.getD i Fu.nil)=true)∧Below w.heap.size w wr) (fun _ _ _ s17 _=>la.length - (intOf s17).toNat)
  case atStart=>exact⟨0,Zg _,rfl,fun i hi=>by omega,Zc _ _⟩
  case round=>
   obtain⟨k,hk,rfl,hno,hb⟩:=hrel;have HNO:=Za hno;have HBW:=Za hb;have hsz:=hb.size;clear hno hb
   by_cases hlt:k<la.length
   ·obtain⟨xab,xao,a7,a8,a9,rfl,xaD,al,a0,a1,a2,a3,ap,av,ah⟩:=bM.cellAt (Zd HBW.out HA.out) k hlt
    obtain⟨xbb,xbo,b7,b8,b9,rfl,xbD,bl,b0,b1,b2,b3,bp,bv,bh⟩:=bM.cellAt (Zd HBW.out HB.out) k (by rw[HL.out];exact hlt);obtain⟨a51,a52,rfl⟩:=ap.shape;obtain⟨b51,b52,rfl⟩:=bp.shape;obtain⟨a61,a62,rfl⟩:=av.shape;obtain⟨b61,b62,rfl⟩:=bv.shape;obtain⟨a71,a72,rfl⟩:=ah.shape;obtain⟨b71,b72,rfl⟩:=bh.shape;have HAH:=Za ap;have HBH:=Za bp;have HAT:=Za av;have HBT:=Za bv;have HAE:=Za ah;have HBE:=Za bh;clear ap bp av bv ah bh xaD xbD;have IHX:=Za (IH.out _ (lH hlt));have HKL:=Za hlt;generalize hxe:cZ la k=xa at*;generalize hye:cZ lb k=xb at*;have HXE:=Za hxe;have HYE:=Za hye;clear hxe hye;generalize hxa:fQ xa xb=q;have HXA:Hid (fQ (cZ la k) (cZ lb k)=q):=by show _=_;rw[HXE.out,HYE.out];exact hxa
    have HXB:=Za hxa;clear hxa;have hww:Below wr.heap.size wr ((wr.alloc (.cells #[.string (aB xa.name),.slice a51 xa.params.length a52,.slice a61 xa.locals.length a62,.slice a71 xa.body.length a72] 58)).alloc (.cells #[.string (aB xb.name),.slice b51 xb.params.length b52,.slice b61 xb.locals.length b62,.slice b71 xb.body.length b72] 58)):=(bA).alloc (by simp) _;have HAH2:=Za (Zf hww HAH.out);have HBH2:=Za (Zf hww HBH.out);have HAT2:=Za (Zf hww HAT.out);have HBT2:=Za (Zf hww HBT.out);have HAE2:=Za (HAE.out.old hww);have HBE2:=Za (HBE.out.old hww);have HWW:=Za (HBW.out.trans (hww.mono hsz));clear hww;go_wp2_with fail
    refine(IHX.out _ D _ _ _ _ _ _ _ HAH2.out HAT2.out HAE2.out HBH2.out HBT2.out HBE2.out).mono ?_;rw[HXB.out]
    cases q
    ·rintro r w2 ⟨rfl,hb2⟩
     have HB2:=Za (HWW.out.trans (hb2.mono (by simp;omega)));clear hb2 a0 a1 a2 a3 b0 b1 b2 b3;go_wp2_with fail
     go_ret
     exact⟨aT (eJ fQ Fu.nil la lb k HL.out.symm HKL.out HXA.out).symm,HB2.out⟩
    ·rintro r w2 ⟨rfl,hb2⟩
     have HB2:=Za (HWW.out.trans (hb2.mono (by simp;omega)));clear hb2 a0 a1 a2 a3 b0 b1 b2 b3;go_wp2_with fail
     go_roundw
     case rel=>exact⟨k+1,by omega,by go_num,fun i hi=>by rcases Zh.1 hi with h|rfl;exact HNO.out i h;exact HXA.out,HB2.out⟩
     case measure=>simp [intOf];omega
   ·go_wp2_with fail
    go_ret
    exact⟨aT (ei fQ Fu.nil la lb HL.out.symm (fun i hi=>HNO.out i (by omega))).symm,HBW.out⟩
 ·have hne:((la.length:Int) !=(lb.length:Int))=true:=by rw[bne_iff_ne];omega
  have E:Hid (bP fQ la lb=false):=fR _ _ _ (by omega);clear ha hb ih hl;go_enter Tryz.func52,Tryz.ntmps52
  go_wp2_with fail
  go_ret
  exact⟨aT E.out.symm,Zc _ _⟩
theorem yU(p q:Pr)(D:Nat→Prop)(sa sf ta tf:Value)(w:World)(ha:bK D w p.arrays sa)(hf:bM D w p.funcs sf)(ha':bK D w q.arrays ta)(hf':bM D w q.funcs tf):
  Calls Zb 25 #[.agg #[sa,sf],.agg #[ta,tf]] w fun r w'=>r= .returned (.bool (nw p q))∧Below w.heap.size w w':=by
 obtain⟨a1,a2,rfl⟩:=ha.shape;obtain⟨f1,f2,rfl⟩:=hf.shape;obtain⟨b1,b2,rfl⟩:=ha'.shape;obtain⟨g1,g2,rfl⟩:=hf'.shape;have HA:=Za ha;have HF:=Za hf;have HA':=Za ha';have HF':=Za hf';have E:Hid (nw p q=(eT p.arrays q.arrays && bP fQ p.funcs q.funcs)):=by show _=_;unfold nw;rw[mQ]
 clear ha hf ha' hf';rw[E.out];go_enter Tryz.func25,Tryz.ntmps25
 go_wp2_with fail
 refine(wO p.arrays q.arrays D (.slice a1 p.arrays.length a2) (.slice b1 q.arrays.length b2) _ ?h1 ?h2).mono ?_
 case h1=>exact bK.old ((bA).alloc (by simp) _) HA.out
 case h2=>exact bK.old ((bA).alloc (by simp) _) HA'.out
 rintro r w1 ⟨rfl,hb1⟩;have hz:w.heap.size+1<w1.heap.size:=by have:=hb1.size;simp at this;omega
 have g3:w1.cell? ⟨w.heap.size,1,none⟩=some (.slice f1 p.funcs.length f2):=aE hb1 (by simp [Ze]);have k3:w1.cell? ⟨w.heap.size+1,1,none⟩=some (.slice g1 q.funcs.length g2):=aE hb1 (by simp [Ze]);have hbw:Below w.heap.size w w1:=((bA).alloc (by simp) _).trans (hb1.mono (by simp;omega));have HBW1:=Za hbw;clear hb1 hbw
 cases qa:eT p.arrays q.arrays
 ·have QA:=Za qa;clear qa
  go_wp2_with fail
  go_ret
  exact⟨aT (by simp [QA.out]),HBW1.out⟩
 have QA:=Za qa;clear qa;go_wp2_with fail
 refine(uF p.funcs (fun x _=>tm x) q.funcs D (.slice f1 p.funcs.length f2) (.slice g1 q.funcs.length g2) _ (Zd HBW1.out HF.out) (Zd HBW1.out HF'.out)).mono ?_;rintro r w2 ⟨rfl,hb2⟩;have HBW2:=Za (HBW1.out.trans (hb2.mono (by omega)));clear hb2 g3 k3;go_wp2_with fail
 go_ret
 exact⟨aT (by simp [QA.out]),HBW2.out⟩
def m7(la:List Ex):Prop:= ∀(lb:List Ex) (D:Nat→Prop) (va vb:Value) (w:World),aJ D w la va→aJ D w lb vb→
 Calls Zb 17 #[va,vb] w fun e w'=>e= .returned (.bool (ci la lb))∧∃n,w'=w.drewN n
theorem aJ.drewN {D:Nat→Prop}{w:World}{l:List Ex}{v:Value}(h:aJ D w l v)(n:Nat):aJ D (w.drewN n) l v:=aJ.keep (w:=w) (w':=w.drewN n) (fun _ _ _ _ hx=>hx) h
theorem qT(x y:Ex):cU x y=(x.kind==y.kind && x.op==y.op && x.n==y.n && x.name==y.name && ci x.args y.args):=by
 cases x;cases y;rw[cU];rfl
theorem vP(x y:Ex):(cU x y=false∧(x.kind !=y.kind)=true)∨(cU x y=false∧(x.kind !=y.kind)=false∧(x.op !=y.op)=true)∨(cU x y=false∧(x.kind !=y.kind)=false∧(x.op !=y.op)=false∧(x.n !=y.n)=true)
  ∨(cU x y=false∧(x.kind !=y.kind)=false∧(x.op !=y.op)=false∧(x.n !=y.n)=false∧(x.name==y.name)=false)
  ∨(cU x y=false∧(x.kind !=y.kind)=false∧(x.op !=y.op)=false∧(x.n !=y.n)=false∧(x.name==y.name)=true∧ci x.args y.args=false)
  ∨(cU x y=true∧(x.kind !=y.kind)=false∧(x.op !=y.op)=false∧(x.n !=y.n)=false∧(x.name==y.name)=true∧ci x.args y.args=true):=by
 rw[qT];simp only[bne]
 cases x.kind==y.kind<;>cases x.op==y.op<;>cases x.n==y.n<;>cases x.name==y.name<;>cases ci x.args y.args<;>simp
theorem zK(la:List Ex)(ih:∀x,x∈la→m7 x.args):m7 la:=by
 intro lb D va vb w ha hb;obtain⟨a1,a2,rfl⟩:=ha.shape;obtain⟨b1,b2,rfl⟩:=hb.shape;have l63:=ha.fits.lt;have m63:=hb.fits.lt;rw[hZ]
 by_cases hl:lb.length=la.length
 ·rw[hl]at hb ⊢
  have HA:=Za ha;have HB:=Za hb;have IH:=Za ih;have HL:=Za hl;clear ha hb ih hl m63;go_enter Tryz.func17,Tryz.ntmps17
  go_wp2_with fail
  go_loopw [5] (fun s5 wr=> ∃k:Nat,k≤la.length∧s5= .int .i64 k∧(∀i,i<k→cU (la.getD i Ex.nil) (lb.getD i Ex.nil)=true)∧∃n,wr=w.drewN n) (fun s5 _=>la.length - (intOf s5).toNat)
  case atStart=>exact⟨0,Zg _,rfl,fun i hi=>by omega,0,rfl⟩
  case round=>
   obtain⟨k,hk,rfl,hno,hn⟩:=hrel;have HNO:=Za hno;have HN:=Za hn;have HAW:Hid (aJ D wr la (.slice a1 la.length a2)):=by obtain⟨n,rfl⟩:=hn;exact HA.out.drewN n
   have HBW:Hid (aJ D wr lb (.slice b1 la.length b2)):=by obtain⟨n,rfl⟩:=hn;exact HB.out.drewN n
   clear hno hn
   by_cases hlt:k<la.length
   ·obtain⟨xab,xao,xas,rfl,xaD,a0,a1,a2,a3,a4,ah,an⟩:=aJ.cellAt HAW.out k hlt
    obtain⟨xbb,xbo,xbs,rfl,xbD,b0,b1,b2,b3,b4,bh,bn⟩:=aJ.cellAt HBW.out k (by rw[HL.out];exact hlt);obtain⟨a5,a6,rfl⟩:=ah.shape;obtain⟨b5,b6,rfl⟩:=bh.shape;have HAH:=Za ah;have HBH:=Za bh;clear ah bh an bn xaD xbD HAW HBW;have IHX:=Za (IH.out _ (bx hlt));have HKL:=Za hlt;have hc:=vP (bI la k) (bI lb k);generalize hxe:bI la k=xa at*;generalize hye:bI lb k=xb at*;have HXE:=Za hxe;have HYE:=Za hye;clear hxe hye;have HC:=Za hc;clear hc;have i0:(0:Int)≤(k:Int):=by omega
    have i1:(k:Int)<(la.length:Int):=by omega
    have HCALL:Hid (∀m,Calls Zb 17 #[.slice a5 xa.args.length a6,.slice b5 xb.args.length b6] (wr.drewN m) fun e w'=>e= .returned (.bool (ci xa.args xb.args))∧∃n,w'=(wr.drewN m).drewN n):=fun m=>IHX.out _ D _ _ _ (HAH.out.drewN m) (HBH.out.drewN m)
    generalize ci xa.args xb.args=qq at*;go_wp2_with fail
    go_quiet ((go_at_call 17;exact Calls.quiet_of (HCALL.out _)))
    have HC2:=Za HC.out;rcases HC2.out with⟨e,h1⟩|⟨e,h1,h2⟩|⟨e,h1,h2,h3⟩|⟨e,h1,h2,h3,h4⟩|⟨e,h1,h2,h3,h4,rfl⟩|⟨e,h1,h2,h3,h4,rfl⟩
    all_goals
     have HE:Hid (cU (bI la k) (bI lb k)=cU xa xb):=by show _=_;rw[HXE.out,HYE.out]
     have HE2:=Za e;clear HC HC2 e;go_wp2_with fail
     go_quiet (fail)
     go_wp2_with fail
    iterate 5
     ·go_ret
      obtain⟨n0,hn0⟩:=HN.out;exact⟨aT (eJ cU Ex.nil la lb k HL.out.symm HKL.out (HE.out.trans HE2.out)).symm,_,by rw[hn0,World.drewN_drewN,World.drewN_drewN]⟩
    ·go_roundw
     case rel=>exact⟨k+1,by omega,by go_num,fun i hi=>by rcases Zh.1 hi with h|rfl;exact HNO.out i h;exact HE.out.trans HE2.out,by obtain⟨n0,hn0⟩:=HN.out;exact⟨_,by rw[hn0,World.drewN_drewN]⟩⟩
     case measure=>simp [intOf];omega
   ·go_wp2_with fail
    go_ret
    exact⟨aT (ei cU Ex.nil la lb HL.out.symm (fun i hi=>HNO.out i (by omega))).symm,HN.out⟩
 ·have hne:((la.length:Int) !=(lb.length:Int))=true:=by rw[bne_iff_ne];omega
  have E:Hid (bP cU la lb=false):=fR _ _ _ (by omega);clear ha hb ih hl;go_enter Tryz.func17,Tryz.ntmps17
  go_wp2_with fail
  go_ret
  exact⟨aT E.out.symm,0,rfl⟩
theorem ur:∀(n:Nat) (l:List Ex),SizeOf.sizeOf l≤n→m7 l
 |0,l,h=>by cases l<;>simp at h
 |n+1,l,h=>zK l fun x hx=>ur n x.args (by
  have h1:=List.sizeOf_lt_of_mem hx
  cases x with
  |mk k o m nm args=>show SizeOf.sizeOf args≤n;simp at h1;omega)
theorem ref_any(l:List Ex):m7 l:=ur _ l (Nat.le_refl _)
theorem vu(raw0:List Int)(rv:Value)(free:Bool)(w:World)(hr:ep (· <w.heap.size) w raw0 rv)(hl:fT w):
  Calls Zb 10 #[rv,.bool free] w fun e w'=>e= .returned (.bool true)∧Below w.heap.size w w':=by
 have HL:=Za hl;have HRA:=Za hr;clear hl hr;go_enter Tryz.func10,Tryz.ntmps10
 go_wp2_with fail
 refine(ub w HL.out).mono ?_;rintro e w1 ⟨rfl,hb1⟩;have HB1:=Za hb1;have HR1:=Za (ep.old hb1 HRA.out);have HL1:=Za (HL.out.old hb1);clear hb1 HRA;go_wp2_with fail
 refine(xV raw0 free rv w1 HR1.out).mono ?_;rintro e w2 ⟨va,vf,ds,rfl,hb2,ha2,hds,hd3,hf2⟩;have pr:=jb raw0 free;have pl:br (dQ (gJ raw0 free)).length:=by have h1:=wP raw0 free;have h2:=yH;show _≤_;omega
 have pn:=vn (p:=gJ raw0 free) (kw raw0 free).2.2;generalize gJ raw0 free=p at*;have hO2:=jL.of ha2 hds hd3 hf2;have hpa:=hO2.ars;have hpf:=hO2.fus;obtain⟨a1,a2,rfl⟩:=hpa.yshape;obtain⟨f1,f2,rfl⟩:=hpf.yshape;have hal:Below w2.heap.size w2 (w2.alloc (.cells #[.slice a1 p.arrays.length a2,.slice f1 p.funcs.length f2] 34)):=bA;have hbb:=hb2.trans (hal.mono hb2.size);have HB3:=Za (HB1.out.trans (hbb.mono HB1.out.size));have HL3:=Za (HL1.out.old hbb);have HR3:=Za (ep.old hbb HR1.out);have HOP:=Za (aG.new w2 [.slice a1 p.arrays.length a2,.slice f1 p.funcs.length f2] 34);have hz:w2.heap.size≤(w2.alloc (.cells #[.slice a1 p.arrays.length a2,.slice f1 p.funcs.length f2] 34)).heap.size:=by simp
 have HPA:=Za ((hpa.old hal).mono (D':=(· <(w2.alloc (.cells #[.slice a1 p.arrays.length a2,.slice f1 p.funcs.length f2] 34)).heap.size)) (fun b hb=>Nat.lt_of_lt_of_le hb hz));have HPF:=Za ((Zd hal hpf).mono (D':=(· <(w2.alloc (.cells #[.slice a1 p.arrays.length a2,.slice f1 p.funcs.length f2] 34)).heap.size)) (fun b hb=>Nat.lt_of_lt_of_le hb hz));have PR:=Za pr;have PL:=Za pl;have PN:=Za pn;clear hb2 ha2 hds hd3 hf2 hO2 hpa hpf hal hbb hz pr pl pn HB1 HL1 HR1;go_upto_region 3 with(fail)
 generalize w2.alloc (.cells #[.slice a1 p.arrays.length a2,.slice f1 p.funcs.length f2] 34)=w3 at*;generalize w2.heap.size=pb at*;have p0:=HOP.out.at 0 _ rfl;have p1:=HOP.out.at 1 _ rfl;go_wp2_with fail
 refine(tT p _ _ w3 HL3.out.lt HL3.out.pow HPA.out HPF.out PR.out PN.out PL.out).mono ?_;rintro e w4 ⟨rfl,hb4⟩;have HB4:=Za (HB3.out.trans (hb4.mono HB3.out.size));have HL4:=Za (HL3.out.old hb4);have HR4:=Za (ep.old hb4 HR3.out);have HOP4:=Za (HOP.out.old hb4);have HPA4:=Za ((HPA.out.old hb4).mono (D':=fun _=>True) (fun _ _=>trivial));have HPF4:=Za ((Zd hb4 HPF.out).mono (D':=fun _=>True) (fun _ _=>trivial));clear hb4 HB3 HL3 HR3 HOP HPA HPF PL PN p0 p1;have hS:Hid ((aB (dQ p)).size=(dQ p).length):=by show(dQ p).toArray.size=_;simp
 have HPS:Hid (∀w,(dQ p).length≤20000→fT w→Calls Zb 14 #[.string (aB (dQ p))] w fun e w'=>Below w.heap.size w w'∧∃aa ac fa fc,e= .returned (.tuple #[.agg #[.slice aa p.arrays.length ac,.slice fa p.funcs.length fc],.int .i64 0,.int .i64 0])∧bK (fun _=>True) w' p.arrays (.slice aa p.arrays.length ac)∧bM (fun _=>True) w' p.funcs (.slice fa p.funcs.length fc)):=Za fun w h hl=>ps_good PR.out HPF4.out h w hl
 generalize aB (dQ p)=S at*;go_wp2_with fail
 refine(vh raw0 rv w4 HR4.out).mono ?_;rintro e w5 ⟨v,rfl,hb5,hx,hn5⟩;have hr:=oN raw0;have hlen:=oV raw0;clear HR4;generalize iR raw0=X at*;obtain⟨sa,sc,rfl⟩:=hx.shape;have hwx:=tk X (by unfold cR at hr;exact((Bool.and_eq_true _ _).mp hr).2);have h64:N64 X:=by
  have ha:=hx.n64;obtain⟨k,o,n,nm,args⟩:=X;exact .mk k o n nm args hn5 ha
 have hal:Below w5.heap.size w5 (w5.alloc (.cells #[.int .i64 X.kind,.int .i64 X.op,.int .i64 X.n,.string (aB X.name),.slice sa X.args.length sc] 27)):=bA;have hbb:=hb5.trans (hal.mono hb5.size);have HO:=Za (aG.new w5 [.int .i64 X.kind,.int .i64 X.op,.int .i64 X.n,.string (aB X.name),.slice sa X.args.length sc] 27);have HB6:=Za (HB4.out.trans (hbb.mono HB4.out.size));have HL6:=Za (HL4.out.old hbb);have HOP6:=Za (HOP4.out.old hbb);have HPA6:=Za (HPA4.out.old hbb);have HPF6:=Za (Zd hbb HPF4.out);have hz:w5.heap.size≤(w5.alloc (.cells #[.int .i64 X.kind,.int .i64 X.op,.int .i64 X.n,.string (aB X.name),.slice sa X.args.length sc] 27)).heap.size:=by simp
 have HX6:=Za ((hx.strong.keep (aw hal)).mono (D':=(· <(w5.alloc (.cells #[.int .i64 X.kind,.int .i64 X.op,.int .i64 X.n,.string (aB X.name),.slice sa X.args.length sc] 27)).heap.size)) (fun b hb=>Nat.lt_of_lt_of_le hb.2 hz));have HR:=Za hr;have HWX:=Za hwx;have H64:=Za h64;have HN2:=Za hn5;have HLN:=Za hlen;clear hb5 hal hbb hz hx hn5 hr hwx h64 hlen HB4 HL4 HOP4 HPA4 HPF4;go_upto_region 5 with(fail)
 generalize w5.alloc (.cells #[.int .i64 X.kind,.int .i64 X.op,.int .i64 X.n,.string (aB X.name),.slice sa X.args.length sc] 27)=w6 at*;generalize w5.heap.size=xb at*;have x0:=HO.out.at 0 _ rfl;have x1:=HO.out.at 1 _ rfl;have x2:=HO.out.at 2 _ rfl;have x3:=HO.out.at 3 _ rfl;have x4:=HO.out.at 4 _ rfl;have hfit:br (aK X).length:=by have:=HLN.out;show _≤_;omega
 have HF:=Za hfit;clear hfit;go_wp2_with fail
 refine(oL X _ w6 HL6.out.lt HL6.out.pow HX6.out HN2.out HR.out HF.out).mono ?_;rintro e w7 ⟨rfl,hb7⟩;have HB7:=Za (HB6.out.trans (hb7.mono HB6.out.size));have HL7:=Za (HL6.out.old hb7);have HO7:=Za (HO.out.old hb7);have HOP7:=Za (HOP6.out.old hb7);have HPA7:=Za (HPA6.out.old hb7);have HPF7:=Za (Zd hb7 HPF6.out);have HX7:=Za ((HX6.out.old hb7).mono (D':=fun _=>True) (fun _ _=>trivial));have HPG:Hid (Calls Zb 13 #[.string (aB (aK X))] w7 fun e w'=>Below w7.heap.size w7 w'∧∃sa sc,e= .returned (.tuple #[.agg #[.int .i64 X.kind,.int .i64 X.op,.int .i64 X.n,.string (aB X.name),.slice sa X.args.length sc],.int .i64 0,.int .i64 0])∧aJ (w7.heap.size≤ ·) w' X.args (.slice sa X.args.length sc)):=pn_good HR.out HWX.out H64.out 0 (by have:=HLN.out;show(aK X).length≤20000;omega) w7 HL7.out;clear hb7 HB6 HL6 HO HOP6 HPA6 HPF6 HX6 HF x0 x1 x2 x3 x4 HR HWX H64 HLN;generalize aB (aK X)=SX at*;go_wp2_with fail
 refine HPG.out.mono ?_;rintro e w8 ⟨hb8,ya,yc,rfl,hy8⟩;have hal:Below w8.heap.size w8 (w8.alloc (.cells #[.int .i64 X.kind,.int .i64 X.op,.int .i64 X.n,.string (aB X.name),.slice ya X.args.length yc] 27)):=bA;have hbb:=hb8.trans (hal.mono hb8.size);have HB9:=Za (HB7.out.trans (hbb.mono HB7.out.size));have HL9:=Za (HL7.out.old hbb);have HO9:=Za (HO7.out.old hbb);have HOP9:=Za (HOP7.out.old hbb);have HPA9:=Za (HPA7.out.old hbb);have HPF9:=Za (Zd hbb HPF7.out);have HX9:=Za (HX7.out.old hbb);have HOY:=Za (aG.new w8 [.int .i64 X.kind,.int .i64 X.op,.int .i64 X.n,.string (aB X.name),.slice ya X.args.length yc] 27);have HY:=Za ((hy8.old hal).mono (D':=fun _=>True) (fun _ _=>trivial));clear hb8 hal hbb hy8 HPG HB7 HL7 HO7 HOP7 HPA7 HPF7 HX7;go_upto_region 9 with(fail)
 generalize w8.alloc (.cells #[.int .i64 X.kind,.int .i64 X.op,.int .i64 X.n,.string (aB X.name),.slice ya X.args.length yc] 27)=Y at*;generalize w8.heap.size=yb at*;have x0:=HO9.out.at 0 _ rfl;have x1:=HO9.out.at 1 _ rfl;have x2:=HO9.out.at 2 _ rfl;have x3:=HO9.out.at 3 _ rfl;have x4:=HO9.out.at 4 _ rfl;have y0:=HOY.out.at 0 _ rfl;have y1:=HOY.out.at 1 _ rfl;have y2:=HOY.out.at 2 _ rfl;have y3:=HOY.out.at 3 _ rfl;have y4:=HOY.out.at 4 _ rfl;have ul:=HO9.out.lt;have xl:=HOY.out.lt;have hm1:=cN.new Y (aj X (.slice sa X.args.length sc)) 27;have hbn:Below Y.heap.size Y ((Y.alloc (.cells (aj X (.slice sa X.args.length sc)).toArray 27)).alloc (.cells (aj X (.slice ya X.args.length yc)).toArray 27)):=(bA).alloc (by simp) _;have hm2:=cN.new (Y.alloc (.cells (aj X (.slice sa X.args.length sc)).toArray 27)) (aj X (.slice ya X.args.length yc)) 27;have hbo:=(Zc (Y.alloc (.cells (aj X (.slice sa X.args.length sc)).toArray 27)).heap.size (Y.alloc (.cells (aj X (.slice sa X.args.length sc)).toArray 27))).alloc (Nat.le_refl _) (.cells (aj X (.slice ya X.args.length yc)).toArray 27);rw[show(Y.alloc (.cells (aj X (.slice sa X.args.length sc)).toArray 27)).heap.size=Y.heap.size+1 by simp]at hm2;have HD1:=Za (aJ.one (D:=fun _=>True) X _ trivial (hm1.below hbo) ((HX9.out.old hbn).mono (fun _ _=>trivial)) HN2.out);have HE1:=Za (aJ.one (D:=fun _=>True) X _ trivial hm2 ((HY.out.old hbn).mono (fun _ _=>trivial)) HN2.out);have HBN:=Za (HB9.out.trans (hbn.mono HB9.out.size))
 have HLN:=Za (HL9.out.old hbn);have HOPN:=Za (HOP9.out.old hbn);have HPAN:=Za (HPA9.out.old hbn);have HPFN:=Za (Zd hbn HPF9.out);clear hm1 hm2 hbn hbo HX9 HY HB9 HO9 HOY HL9 HOP9 HPA9 HPF9;go_wp2_with fail
 refine(ref_any [X] [X] (fun _=>True) _ _ _ HD1.out HE1.out).mono ?_;rw[(hU [X] [X]).2 rfl];rintro e w11 ⟨rfl,m,rfl⟩;have hbd:=fun U:World=>sK (Zc U.heap.size U) m
 have HBX:=Za (sK HBN.out m);have HLX:=Za (HLN.out.old (hbd _));have HOPX:=Za (HOPN.out.old (hbd _));have HPAX:=Za (HPAN.out.old (hbd _));have HPFX:=Za (Zd (hbd _) HPFN.out);clear hbd HD1 HE1 x0 x1 x2 x3 x4 y0 y1 y2 y3 y4 ul xl HBN HLN HOPN HPAN HPFN;generalize World.drewN _ m=Z at*;have hsz:=hS.out
 by_cases hgt:S.size≤20000
 ·have hle:¬((S.size:Int)>20000):=by omega
  have hlt':¬((20000:Int)<(S.size:Int)):=by omega
  have hl20:(dQ p).length≤20000:=by omega
  have HQ:=Za (HPS.out Z hl20 HLX.out);clear hsz hl20 hgt HPS;go_wp2_with fail
  refine HQ.out.mono ?_;rintro e w12 ⟨hb12,qa,qc,ga,gc,rfl,hqa,hqf⟩;have hal:Below w12.heap.size w12 (w12.alloc (.cells #[.slice qa p.arrays.length qc,.slice ga p.funcs.length gc] 34)):=bA;have hbb:=hb12.trans (hal.mono hb12.size);have HBY:=Za (HBX.out.trans (hbb.mono HBX.out.size));have HOPY:=Za (HOPX.out.old hbb);have HPAY:=Za (HPAX.out.old hbb);have HPFY:=Za (Zd hbb HPFX.out);have HQA:=Za (hqa.old hal);have HQF:=Za (Zd hal hqf);have HOQ:=Za (aG.new w12 [.slice qa p.arrays.length qc,.slice ga p.funcs.length gc] 34);clear hb12 hal hbb hqa hqf HQ HOPX HPAX HPFX HBX HLX;go_upto_region 14 with(fail)
  generalize w12.alloc (.cells #[.slice qa p.arrays.length qc,.slice ga p.funcs.length gc] 34)=V at*;generalize w12.heap.size=qb at*;have p0:=HOPY.out.at 0 _ rfl;have p1:=HOPY.out.at 1 _ rfl;have q0:=HOQ.out.at 0 _ rfl;have q1:=HOQ.out.at 1 _ rfl;have HS:=Za (yU p p (fun _=>True) _ _ _ _ V HPAY.out HPFY.out HQA.out HQF.out);clear HPAY HPFY HQA HQF HOPY HOQ;go_wp2_with fail
  refine HS.out.mono ?_;rw[(uB p p).2 rfl];rintro e w13 ⟨rfl,hb13⟩;have HB13:=Za (HBY.out.trans (hb13.mono HBY.out.size));clear hb13 HS p0 p1 q0 q1;go_wp2_with fail
  go_ret
  exact⟨rfl,HB13.out⟩
 ·have hle:((S.size:Int)>20000):=by omega
  have hlt':((20000:Int)<(S.size:Int)):=by omega
  clear hsz hgt HPS;go_wp2_with fail
  go_ret
  exact⟨rfl,HBX.out⟩
end Go.Proofs.YtcfpfnoldgnloaaGreatDoor
namespace Go.Proofs.YtcfpfnoldgnloaaGreatDoor.wParseBack
open Go.ChangeShapes Go.WideShapes Go.ChangeAt Go.RowKit
set_option maxRecDepth 100000
theorem own:ownKnob Tryz.prog.godebug=none:=by kernel_rfl
theorem zE(H:Type)(enc:TypeId ×Value→H)(W:World)(base:Nat)(args:Array Value)(ds gs:List (DataW H))(before:List MemPlace)
  (hval:∀(j:Nat) t v,Tryz.f10.params[j]? =some t→args[j]? =some v→Value.okWide Tryz.prog W .any base t v)
  (hW:DataW.Whole enc Tryz.prog Tryz.f10.params.toList Rows.parseBackSpec.vars false W args.toList ds gs before) (hsz:(DataW.weightsEach Tryz.prog (Tryz.f10.params.toList++(OpenSpec.ofChange Rows.parseBackSpec).bare.plain.varTypes Tryz.prog) (ds++gs)).all (· ≤reachBytes)=true) (hL:laidMetH Tryz.prog Rows.parseBackRow.laid W) (hsh:W.ShapedOpen Tryz.prog):
  Calls Tryz.prog 10 args W fun e W'=> ∃v,e= .returned v∧Rows.parseBackSpec.post enc Tryz.prog Tryz.f10 false true false false W args v W':=by
 have hT:=zlib_of hL hsh;have hW':=hW;obtain⟨p,q,hA0,hV,rfl,hfz,hnd⟩:=hW;have hA:DataW.TrodAll enc Tryz.prog W 0 (fun _=>true) true Tryz.f10.params.toList args.toList ds p:=hA0;rw[Tryz.params10]at hA hval hsz;obtain⟨x0,vs0,d0,ds0,p0,q0,hargs,rfl,rfl,h0,r0⟩:=trodAll_cons hA;obtain⟨x1,vs1,d1,ds1,p1,q1,e1,rfl,rfl,h1,r1⟩:=trodAll_cons r0;obtain⟨rfl,rfl,rfl⟩:=trodAll_nil r1;subst e1;obtain rfl:args= #[x0,x1]:=by cases args;simp_all
 obtain⟨rfl,rfl⟩:=trodVars_none hV;obtain⟨raw0,hraw0,again0⟩:=yT (hval 0 38 x0 rfl rfl) h0;obtain⟨b1,rfl,rfl,rfl⟩:=open_bool Tryz.underlying4 (hval 1 4 x1 rfl rfl) h1;clear hA0;refine(vu raw0 x0 b1 W hraw0 hT).mono fun e W' ⟨he,hb⟩=> ?_
 subst he;exact⟨_,rfl,uN (pa:=(p0++([]++[]))) (pv:=[]) hW' (fun _ _ _=>trodAll_cons_mk (shut_bool Tryz.underlying4 _) trodAll_mk0) (fun sp hsp=>trodAll_cons_mk (again0 W' sp true hb (fun q hq=>hsp q (by simp [hq]))) (trodAll_cons_mk (shut_bool Tryz.underlying4 _) (trodAll_mk0))) (fun _ _=>rfl) rfl
  hb (ok_one (by kernel_rfl) rfl (okWide_bool_mk Tryz.underlying4 _))⟩
def tab1:DataW Unit→List Value
 | .lit (.int k n)=>[.int k n]
 | .agg l=>l.map fun| .lit (.int k n)=>Value.int k n|_=>undef
 |_=>[undef]
def yD:DataW Unit→Array Value
 | .agg l=>(l.flatMap tab1).toArray
 |_=> #[]
def m5:DataW Unit→Value
 | .iface _ (.ptr (.agg [.lit (.string b)]))=> .string ⟨b.toArray⟩
 |_=>undef
noncomputable def lowB:Nat:=(World.holding Tryz.prog default ⟨#[],#[],[]⟩).heap.size
noncomputable def lg (os:Os):World:=
 let h0:=(World.holding Tryz.prog os ⟨#[.cells #[m5 Rows.laid_strconv_ErrRange] 234,.cells #[m5 Rows.laid_strconv_ErrSyntax] 234],#[],[]⟩).heap
 let lay (g:Nat) (d:DataW Unit) (h:Array Obj):Array Obj:=h.modify g fun
  | .cells _ t frozen=> .cells (yD d) t frozen
  |o=>o
 let err (g:Nat) (b:Nat) (h:Array Obj):Array Obj:=h.modify g fun
  | .cells _ t frozen=> .cells #[.iface 232 (.pointer (some ⟨b,0,none⟩))] t frozen
  |o=>o
 {World.holding Tryz.prog os ⟨#[.cells #[m5 Rows.laid_strconv_ErrRange] 234,.cells #[m5 Rows.laid_strconv_ErrSyntax] 234],#[],[]⟩with heap:=lay 6 Rows.laid_math_bits_deBruijn32tab (lay 7 Rows.laid_math_bits_deBruijn64tab (lay 3 Rows.laid_internal_strconv_uint64pow10 (lay 2 Rows.laid_unicode_utf8_acceptRanges (lay 1 Rows.laid_unicode_utf8_first (err 5 lowB (err 4 (lowB+1) h0))))))}
theorem xM(os:Os):laidMet Tryz.prog Rows.parseBackRow.laid ((lg os).forCall (fun _ _=>0) ⟨#[],#[.slice none 0 0,.bool false],[]⟩).memory:=
 laidMet_of_run' 8 (by kernel_rfl) (by kernel_rfl)
theorem reads(os:Os){H:Type}(enc:TypeId ×Value→H):∃places,DataW.whole enc Tryz.prog ((lg os).forCall (fun _ _=>0) ⟨#[],#[.slice none 0 0,.bool false],[]⟩).memory Tryz.f10.params.toList Rows.parseBackSpec.vars false ((#[.slice none 0 0,.bool false]:Array Value).toList) 8=some ([.nil,.lit (.bool false)],[],places):=
 ⟨[],by kernel_rfl⟩
theorem lifted(os:Os)(started:os.Started)(H:Type)(enc:TypeId ×Value→H)(F:Stop.Interp):
  ReturnsInHanded {} Tryz.checked os 10 .any ((OpenSpec.ofChange Rows.parseBackSpec).preRow enc Tryz.prog Tryz.f10 Rows.parseBackRow.domain false Rows.parseBackRow.laid) (((OpenSpec.ofChange Rows.parseBackSpec).at F).post enc Tryz.prog Tryz.f10 false true false false):=by
 obtain⟨places,hx⟩:=reads os enc;refine returnsInHanded_of_row (C:=Tryz.checked) (s:=OpenSpec.ofChange Rows.parseBackSpec) own started (by kernel_rfl) Tryz.func10
  (witness_row_at (enc:=enc) (C:=Tryz.checked) false (lg os) #[.slice none 0 0,.bool false] rfl (by kernel_rfl) (by kernel_rfl) (by kernel_rfl)
   (OpenSpec.preRow_of_cond 8 hx (by kernel_rfl) (fun k hk=>by cases hk) (by kernel_rfl) (xM os))) ?_
 intro W base args ds gs before hval hW _ _ hsz hL hsh _;exact zE H enc W base args ds gs before hval hW hsz hL hsh
theorem said:Rows.ParseBackSaid:=
 OpenClaim.holds_of_cond 10 Tryz.f10 rfl rfl rfl rfl rfl rfl rfl ⟨rfl,rfl,rfl,rfl,rfl⟩ rfl rfl rfl rfl rfl (by kernel_rfl) Tryz.func10 (by kernel_rfl)
  (of_decide_eq_true (by kernel_rfl)) (by unfold Func.isWrapper;first|(rw[if_pos (by decide+kernel)];kernel_rfl)|(rw[if_neg (by decide+kernel)];exact⟨rfl,rfl⟩))
  (fun os started H enc _ F=>by rw[OpenClaim.pre_eq_preRow];exact lifted os started H enc F)
theorem plain(f:FuncId)(fn:Func)(hf:Tryz.pinned.checked.prog.funcNamed "counterproof/counterprooflaw04.ParseBack" =some f)(hfn:Tryz.pinned.checked.prog.funcs[f]? =some fn):
  true=Tryz.pinned.checked.prog.looks []∧∀(j:Nat) t,fn.params[j]? =some t→Tryz.pinned.checked.prog.wantsStandIn t=false:=by
 obtain rfl:f=10:=Option.some.inj ((show Tryz.prog.funcNamed "counterproof/counterprooflaw04.ParseBack" =some 10 by kernel_rfl).symm.trans hf)|>.symm;obtain rfl:fn=Tryz.f10:=(Option.some.inj (Tryz.func10.symm.trans hfn)).symm;refine⟨by kernel_rfl,fun j t ht=> ?_⟩;rw[Tryz.params10]at ht;have hm:=Array.mem_of_getElem? ht;simp only[List.mem_toArray,List.mem_cons,List.not_mem_nil,or_false]at hm;rcases hm with rfl|rfl
 ·exact(show Tryz.prog.wantsStandIn 38=false by kernel_rfl)
 ·exact(show Tryz.prog.wantsStandIn 4=false by kernel_rfl)
end Go.Proofs.YtcfpfnoldgnloaaGreatDoor.wParseBack
namespace Go.Proofs.YtcfpfnoldgnloaaGreatDoor
theorem parseBack_card:Rows.ParseBackCardSaid:=
 Claim7.holds_tied_plain_at .later [] _ _ _ _ wParseBack.said (fun _ h=>by cases h) (by kernel_rfl) (fun _ h=>by cases h) parseBack_row_tie rfl ⟨rfl,rfl⟩ (by kernel_rfl) rfl wParseBack.plain (by kernel_rfl)
#print axioms parseBack_card
end Go.Proofs.YtcfpfnoldgnloaaGreatDoor
