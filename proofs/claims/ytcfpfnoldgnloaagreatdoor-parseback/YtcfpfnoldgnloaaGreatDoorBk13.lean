/-
  Expr, Parse: whole, then Right.
-/
import Derived.Test.YtcfpfnoldgnloaaGreatDoorBk12
set_option linter.unusedVariables false
set_option linter.unusedSimpArgs false
namespace Go.Proofs.YtcfpfnoldgnloaaGreatDoor
open Go.RowKit
set_option maxHeartbeats 20000000
set_option maxRecDepth 100000
open Go.Lib renaming hid→Za,hasPrefix→Zc
open Nat renaming le_refl→Zb,le_of_lt→Zi
open List renaming length_append→Zd,cons_append→Zf,isPrefixOf→Zh,cons_ne_nil→Zj,mem_cons_self→Zk
open Go.Proofs.Tryz renaming prog→Ze
open aG renaming new→Zg
def lD:Ex ×Int ×Int→Ex ×Int ×Int
 |(x,e,n)=>if e=0∧cR x=false then(exZ,41,1)else(x,e,n)
theorem topE_of(z:Bs)(w:World)(r:Ex ×Int ×Int)(HSC:Hid (∀w1,Below w.heap.size w w1→Calls Ze 26 #[.string (aB z),.func (.func 27) #[] #[]] w1 (WhE w1 r))):
  Calls Ze 13 #[.string (aB z)] w (WhE w (lD r)):=by
 obtain⟨x,e0,n0⟩:=r;obtain⟨W,hW⟩:∃W,w.alloc (.cells #[.int .i64 0,.int .i64 0,.int .i64 0,.string ⟨#[]⟩,.slice none 0 0] 27)=W:=⟨_,rfl⟩;have hb0:Below w.heap.size w W:=hW ▸ bA;have h0:aG W w.heap.size [.int .i64 0,.int .i64 0,.int .i64 0,.string ⟨#[]⟩,.slice none 0 0] 27:=hW ▸ Zg w [.int .i64 0,.int .i64 0,.int .i64 0,.string ⟨#[]⟩,.slice none 0 0] 27;have HS:=Za (HSC.out W hb0);have HB0:=Za hb0;have H0:=Za h0;have HW:=Za hW;clear hb0 h0 hW;go_enter Tryz.func13,Tryz.ntmps13
 go_upto_region 1 with(fail)
 rw[HW.out];clear HW;go_wp2_with fail
 refine HS.out.mono ?_;rintro e w1 ⟨hb,v,rfl,hv⟩;dsimp only at hv;obtain⟨s5,rfl,hx,hn5⟩:=hv;obtain⟨a1,a2,rfl⟩:=hx.shape;have HB1:=Za (HB0.out.trans (hb.mono HB0.out.size));have HLT:Hid (w.heap.size<w1.heap.size):=(H0.out.old hb).lt;have HA0:=Za (H0.out.old hb);have HT:=Za (show aJ (w.heap.size< ·) w1 x.args _∧I64 x.n from⟨hx.mono (fun b hb=>by have:=HB0.out.size;have h2:=H0.out.lt;have:W.heap.size≤b:=hb;show w.heap.size<b;omega),hn5⟩);clear hb hx hn5 HS HSC HB0 H0;go_upto_region 2 with(fail)
 have HN:=Za (Zg w1 [.int .i64 x.kind,.int .i64 x.op,.int .i64 x.n,.string (aB x.name),.slice a1 x.args.length a2] 27);have HA1:=Za (HA0.out.alloc (.cells #[.int .i64 x.kind,.int .i64 x.op,.int .i64 x.n,.string (aB x.name),.slice a1 x.args.length a2] 27));have HB2:=Za (HB1.out.alloc HB1.out.size (.cells #[.int .i64 x.kind,.int .i64 x.op,.int .i64 x.n,.string (aB x.name),.slice a1 x.args.length a2] 27));have hal:Below w1.heap.size w1 (w1.alloc (.cells #[.int .i64 x.kind,.int .i64 x.op,.int .i64 x.n,.string (aB x.name),.slice a1 x.args.length a2] 27)):=bA;have HT2:=Za (show aJ (w.heap.size< ·) _ x.args _∧I64 x.n from⟨(HT.out.1).keep (aw hal),HT.out.2⟩);clear hal HT HB1 HA0;generalize w1.alloc (.cells #[.int .i64 x.kind,.int .i64 x.op,.int .i64 x.n,.string (aB x.name),.slice a1 x.args.length a2] 27)=w2 at*;obtain⟨b2,hb2⟩:∃b2,w1.heap.size=b2:=⟨_,rfl⟩;rw[hb2]at HLT HN ⊢;clear hb2;have y0:=HN.out.at 0 _ rfl;have f0:=HN.out.fz 0;have y1:=HN.out.at 1 _ rfl;have f1:=HN.out.fz 1;have y2:=HN.out.at 2 _ rfl;have f2:=HN.out.fz 2;have y3:=HN.out.at 3 _ rfl;have f3:=HN.out.fz 3;have y4:=HN.out.at 4 _ rfl;have f4:=HN.out.fz 4;have o0:=HA1.out.at 0 _ rfl;have q0:=HA1.out.fz 0;have o1:=HA1.out.at 1 _ rfl;have q1:=HA1.out.fz 1;have o2:=HA1.out.at 2 _ rfl;have q2:=HA1.out.fz 2;have o3:=HA1.out.at 3 _ rfl;have q3:=HA1.out.fz 3;have o4:=HA1.out.at 4 _ rfl;have q4:=HA1.out.fz 4
 by_cases he:e0=0
 ·subst he
  go_wp2_with fail
  refine(iN x (w.heap.size< ·) _ _ HT2.out.1).mono ?_;rintro e w3 ⟨rfl,hb3⟩;have HN3:=Za (HN.out.old hb3);have HA3:=Za (HA1.out.old hb3);have HB3:=Za (HB2.out.trans (hb3.mono HB2.out.size));have HT3:=Za (show aJ (w.heap.size< ·) w3 x.args _∧I64 x.n from⟨(HT2.out.1).keep (aw hb3),HT2.out.2⟩);clear hb3 y0 f0 o0 q0 y1 f1 o1 q1 y2 f2 o2 q2 y3 f3 o3 q3 y4 f4 o4 q4;have y0:=HN3.out.at 0 _ rfl;have f0:=HN3.out.fz 0;have y1:=HN3.out.at 1 _ rfl;have f1:=HN3.out.fz 1;have y2:=HN3.out.at 2 _ rfl;have f2:=HN3.out.fz 2;have y3:=HN3.out.at 3 _ rfl;have f3:=HN3.out.fz 3;have y4:=HN3.out.at 4 _ rfl;have f4:=HN3.out.fz 4;have o0:=HA3.out.at 0 _ rfl;have q0:=HA3.out.fz 0;have o1:=HA3.out.at 1 _ rfl;have q1:=HA3.out.fz 1;have o2:=HA3.out.at 2 _ rfl;have q2:=HA3.out.fz 2;have o3:=HA3.out.at 3 _ rfl;have q3:=HA3.out.fz 3;have o4:=HA3.out.at 4 _ rfl;have q4:=HA3.out.fz 4
  cases hr:cR x
  ·go_wp2_with fail
   have hs:=(((((HA3.out.set 0 (.int .i64 0)).set 1 (.int .i64 0)).set 2 (.int .i64 0)).set 3 (.string ⟨#[]⟩)).set 4 (.slice none 0 0));have s0:=hs.at 0 _ rfl;have s1:=hs.at 1 _ rfl;have s2:=hs.at 2 _ rfl;have s3:=hs.at 3 _ rfl;have s4:=hs.at 4 _ rfl;exact bodyPost_ret (v:= .tuple #[.agg #[.int .i64 0,.int .i64 0,.int .i64 0,.string ⟨#[]⟩,.slice none 0 0],.int .i64 41,.int .i64 1]) (by simp [results,Tryz.results13,go_sem,s0,s1,s2,s3,s4]) rfl (by
    rw[show lD (x,0,n0)=(exZ,41,1)by simp [lD,hr]];exact⟨(((((HB3.out.setCell (p:=⟨w.heap.size,0,none⟩) (Zb _) (.int .i64 0)).setCell (p:=⟨w.heap.size,1,none⟩) (Zb _) (.int .i64 0)).setCell (p:=⟨w.heap.size,2,none⟩) (Zb _) (.int .i64 0)).setCell (p:=⟨w.heap.size,3,none⟩) (Zb _) (.string ⟨#[]⟩)).setCell (p:=⟨w.heap.size,4,none⟩) (Zb _) (.slice none 0 0)),_,rfl,⟨_,rfl,aJ.zero,dz⟩⟩)
  ·go_wp2_with fail
   have hs:=(((((HA3.out.set 0 (.int .i64 x.kind)).set 1 (.int .i64 x.op)).set 2 (.int .i64 x.n)).set 3 (.string (aB x.name))).set 4 (.slice a1 x.args.length a2));have s0:=hs.at 0 _ rfl;have s1:=hs.at 1 _ rfl;have s2:=hs.at 2 _ rfl;have s3:=hs.at 3 _ rfl;have s4:=hs.at 4 _ rfl;exact bodyPost_ret (v:= .tuple #[.agg #[.int .i64 x.kind,.int .i64 x.op,.int .i64 x.n,.string (aB x.name),.slice a1 x.args.length a2],.int .i64 0,.int .i64 n0]) (by simp [results,Tryz.results13,go_sem,s0,s1,s2,s3,s4]) rfl (by
    rw[show lD (x,0,n0)=(x,0,n0)by simp [lD,hr]];exact⟨(((((HB3.out.setCell (p:=⟨w.heap.size,0,none⟩) (Zb _) (.int .i64 x.kind)).setCell (p:=⟨w.heap.size,1,none⟩) (Zb _) (.int .i64 x.op)).setCell (p:=⟨w.heap.size,2,none⟩) (Zb _) (.int .i64 x.n)).setCell (p:=⟨w.heap.size,3,none⟩) (Zb _) (.string (aB x.name))).setCell (p:=⟨w.heap.size,4,none⟩) (Zb _) (.slice a1 x.args.length a2)),_,rfl,⟨_,rfl,((HT3.out.1).keep (gW _ (by show ¬w.heap.size<w.heap.size;omega) _ _ _ _ _)).mono (fun b hb=>Zi hb),HT3.out.2⟩⟩)
 ·have HA3:=HA1;have HN3:=HN;have HB3:=HB2
  go_wp2_with fail
  have hs:=(((((HA3.out.set 0 (.int .i64 x.kind)).set 1 (.int .i64 x.op)).set 2 (.int .i64 x.n)).set 3 (.string (aB x.name))).set 4 (.slice a1 x.args.length a2));have s0:=hs.at 0 _ rfl;have s1:=hs.at 1 _ rfl;have s2:=hs.at 2 _ rfl;have s3:=hs.at 3 _ rfl;have s4:=hs.at 4 _ rfl;exact bodyPost_ret (v:= .tuple #[.agg #[.int .i64 x.kind,.int .i64 x.op,.int .i64 x.n,.string (aB x.name),.slice a1 x.args.length a2],.int .i64 e0,.int .i64 n0]) (by simp [results,Tryz.results13,go_sem,s0,s1,s2,s3,s4]) rfl (by
   rw[show lD (x,e0,n0)=(x,e0,n0)by simp [lD,he]];exact⟨(((((HB3.out.setCell (p:=⟨w.heap.size,0,none⟩) (Zb _) (.int .i64 x.kind)).setCell (p:=⟨w.heap.size,1,none⟩) (Zb _) (.int .i64 x.op)).setCell (p:=⟨w.heap.size,2,none⟩) (Zb _) (.int .i64 x.n)).setCell (p:=⟨w.heap.size,3,none⟩) (Zb _) (.string (aB x.name))).setCell (p:=⟨w.heap.size,4,none⟩) (Zb _) (.slice a1 x.args.length a2)),_,rfl,⟨_,rfl,((HT2.out.1).keep (gW _ (by show ¬w.heap.size<w.heap.size;omega) _ _ _ _ _)).mono (fun b hb=>Zi hb),HT2.out.2⟩⟩)
def jy:Pr ×Int ×Int→Pr ×Int ×Int
 |(x,e,n)=>if e=0∧dS x=false then((⟨[],[]⟩:Pr),41,1)else(x,e,n)
theorem topP_of(z:Bs)(w:World)(r:Pr ×Int ×Int)(HSC:Hid (∀w1,Below w.heap.size w w1→Calls Ze 29 #[.string (aB z),.func (.func 30) #[] #[]] w1 (WhP w1 r))):
  Calls Ze 14 #[.string (aB z)] w (WhP w (jy r)):=by
 obtain⟨x,e0,n0⟩:=r;obtain⟨W,hW⟩:∃W,w.alloc (.cells #[.slice none 0 0,.slice none 0 0] 34)=W:=⟨_,rfl⟩;have hb0:Below w.heap.size w W:=hW ▸ bA;have h0:aG W w.heap.size [.slice none 0 0,.slice none 0 0] 34:=hW ▸ Zg w [.slice none 0 0,.slice none 0 0] 34;have HS:=Za (HSC.out W hb0);have HB0:=Za hb0;have H0:=Za h0;have HW:=Za hW;clear hb0 h0 hW;go_enter Tryz.func14,Tryz.ntmps14
 go_upto_region 1 with(fail)
 rw[HW.out];clear HW;go_wp2_with fail
 refine HS.out.mono ?_;rintro e w1 ⟨hb,v,rfl,hv⟩;dsimp only at hv;obtain⟨av,fv,rfl,hxa,hxf⟩:=hv;obtain⟨a1,a2,rfl⟩:=hxa.yshape;obtain⟨c1,c2,rfl⟩:=hxf.yshape;have HB1:=Za (HB0.out.trans (hb.mono HB0.out.size));have HLT:Hid (w.heap.size<w1.heap.size):=(H0.out.old hb).lt;have HA0:=Za (H0.out.old hb);have HT:=Za (show bK (w.heap.size< ·) w1 x.arrays _∧bM (w.heap.size< ·) w1 x.funcs _ from⟨hxa.ymono (fun b hb=>by have:=HB0.out.size;have h2:=H0.out.lt;have:W.heap.size≤b:=hb;show w.heap.size<b;omega),hxf.ymono (fun b hb=>by have:=HB0.out.size;have h2:=H0.out.lt;have:W.heap.size≤b:=hb;show w.heap.size<b;omega)⟩);clear hb hxa hxf HS HSC HB0 H0;go_upto_region 2 with(fail)
 have HN:=Za (Zg w1 [.slice a1 x.arrays.length a2,.slice c1 x.funcs.length c2] 34);have HA1:=Za (HA0.out.alloc (.cells #[.slice a1 x.arrays.length a2,.slice c1 x.funcs.length c2] 34));have HB2:=Za (HB1.out.alloc HB1.out.size (.cells #[.slice a1 x.arrays.length a2,.slice c1 x.funcs.length c2] 34));have hal:Below w1.heap.size w1 (w1.alloc (.cells #[.slice a1 x.arrays.length a2,.slice c1 x.funcs.length c2] 34)):=bA;have HT2:=Za (show bK (w.heap.size< ·) _ x.arrays _∧bM (w.heap.size< ·) _ x.funcs _ from⟨(HT.out.1).keep (aw hal),(HT.out.2).keep (aw hal)⟩);clear hal HT HB1 HA0;generalize w1.alloc (.cells #[.slice a1 x.arrays.length a2,.slice c1 x.funcs.length c2] 34)=w2 at*;obtain⟨b2,hb2⟩:∃b2,w1.heap.size=b2:=⟨_,rfl⟩;rw[hb2]at HLT HN ⊢;clear hb2;have y0:=HN.out.at 0 _ rfl;have f0:=HN.out.fz 0;have y1:=HN.out.at 1 _ rfl;have f1:=HN.out.fz 1;have o0:=HA1.out.at 0 _ rfl;have q0:=HA1.out.fz 0;have o1:=HA1.out.at 1 _ rfl;have q1:=HA1.out.fz 1
 by_cases he:e0=0
 ·subst he
  go_wp2_with fail
  refine(ph x (w.heap.size< ·) _ _ _ HT2.out.1 HT2.out.2).mono ?_;rintro e w3 ⟨rfl,hb3⟩;have HN3:=Za (HN.out.old hb3);have HA3:=Za (HA1.out.old hb3);have HB3:=Za (HB2.out.trans (hb3.mono HB2.out.size));have HT3:=Za (show bK (w.heap.size< ·) w3 x.arrays _∧bM (w.heap.size< ·) w3 x.funcs _ from⟨(HT2.out.1).keep (aw hb3),(HT2.out.2).keep (aw hb3)⟩);clear hb3 y0 f0 o0 q0 y1 f1 o1 q1;have y0:=HN3.out.at 0 _ rfl;have f0:=HN3.out.fz 0;have y1:=HN3.out.at 1 _ rfl;have f1:=HN3.out.fz 1;have o0:=HA3.out.at 0 _ rfl;have q0:=HA3.out.fz 0;have o1:=HA3.out.at 1 _ rfl;have q1:=HA3.out.fz 1
  cases hr:dS x
  ·go_wp2_with fail
   have hs:=((HA3.out.set 0 (.slice none 0 0)).set 1 (.slice none 0 0));have s0:=hs.at 0 _ rfl;have s1:=hs.at 1 _ rfl;exact bodyPost_ret (v:= .tuple #[.agg #[.slice none 0 0,.slice none 0 0],.int .i64 41,.int .i64 1]) (by simp [results,Tryz.results14,go_sem,s0,s1]) rfl (by
    rw[show jy (x,0,n0)=((⟨[],[]⟩:Pr),41,1)by simp [jy,hr]];exact⟨((HB3.out.setCell (p:=⟨w.heap.size,0,none⟩) (Zb _) (.slice none 0 0)).setCell (p:=⟨w.heap.size,1,none⟩) (Zb _) (.slice none 0 0)),_,rfl,⟨_,_,rfl,bK.zero,bM.zero⟩⟩)
  ·go_wp2_with fail
   have hs:=((HA3.out.set 0 (.slice a1 x.arrays.length a2)).set 1 (.slice c1 x.funcs.length c2));have s0:=hs.at 0 _ rfl;have s1:=hs.at 1 _ rfl;exact bodyPost_ret (v:= .tuple #[.agg #[.slice a1 x.arrays.length a2,.slice c1 x.funcs.length c2],.int .i64 0,.int .i64 n0]) (by simp [results,Tryz.results14,go_sem,s0,s1]) rfl (by
    rw[show jy (x,0,n0)=(x,0,n0)by simp [jy,hr]];exact⟨((HB3.out.setCell (p:=⟨w.heap.size,0,none⟩) (Zb _) (.slice a1 x.arrays.length a2)).setCell (p:=⟨w.heap.size,1,none⟩) (Zb _) (.slice c1 x.funcs.length c2)),_,rfl,⟨_,_,rfl,((HT3.out.1).keep (oK _ (by show ¬w.heap.size<w.heap.size;omega) _ _)).ymono (fun b hb=>Zi hb),((HT3.out.2).keep (oK _ (by show ¬w.heap.size<w.heap.size;omega) _ _)).ymono (fun b hb=>Zi hb)⟩⟩)
 ·have HA3:=HA1;have HN3:=HN;have HB3:=HB2
  go_wp2_with fail
  have hs:=((HA3.out.set 0 (.slice a1 x.arrays.length a2)).set 1 (.slice c1 x.funcs.length c2));have s0:=hs.at 0 _ rfl;have s1:=hs.at 1 _ rfl;exact bodyPost_ret (v:= .tuple #[.agg #[.slice a1 x.arrays.length a2,.slice c1 x.funcs.length c2],.int .i64 e0,.int .i64 n0]) (by simp [results,Tryz.results14,go_sem,s0,s1]) rfl (by
   rw[show jy (x,e0,n0)=(x,e0,n0)by simp [jy,he]];exact⟨((HB3.out.setCell (p:=⟨w.heap.size,0,none⟩) (Zb _) (.slice a1 x.arrays.length a2)).setCell (p:=⟨w.heap.size,1,none⟩) (Zb _) (.slice c1 x.funcs.length c2)),_,rfl,⟨_,_,rfl,((HT2.out.1).keep (oK _ (by show ¬w.heap.size<w.heap.size;omega) _ _)).ymono (fun b hb=>Zi hb),((HT2.out.2).keep (oK _ (by show ¬w.heap.size<w.heap.size;omega) _ _)).ymono (fun b hb=>Zi hb)⟩⟩)
def aL(b0:Bs)(l:List (Bs ×Bs)):Bs:=b0++l.flatMap (fun p=>p.1++p.2)
def bU(l:Bs):Nat:=l.count 10
def dT(c:UInt8):Bool:=c==32||c==9||c==10||c==13
structure yq (c:Bs):Prop where
 pre:∃r,c=47::47::r
 nofeed:(10:UInt8) ∉ c
 valid:Lib.validD c=true
 mark:Lib.contains c [239,191,189]=false
structure jK (b0:Bs)(l:List (Bs ×Bs)):Prop where
 blank:∀c,c∈b0→dT c=true
 comm:∀p,p∈l→yq p.1∧(∀c,c∈p.2→dT c=true)∧∃r,p.2=10::r
theorem kF {c:UInt8}(h:dT c=true):c.toNat<128∧fe (c.toNat:Nat)=true:=by
 simp only[dT,Bool.or_eq_true,beq_iff_eq]at h;rcases h with((rfl|rfl)|rfl)|rfl<;>exact⟨by decide,by decide⟩
theorem y6(c:Bs)(s:Bs)(h:(10:UInt8) ∉ c):Lib.index (c++10::s) [10]=(c.length:Int):=by
 induction c with
 |nil=>simp [Lib.index]
 |cons x c ih=>
  have hx:x≠10:=fun e=>h (by rw[e];exact Zk)
  have i:=ih (fun hm=>h (List.mem_cons_of_mem _ hm));rw[Zf,Lib.index];have hp:([10]:List UInt8).isPrefixOf (x::(c++10::s))=false:=by
   simp [Zh];exact fun e=>hx e.symm
  rw[hp,i];have:((c.length:Int)== -1)=false:=by rw[beq_eq_false_iff_ne];omega
  rw[this];simp
theorem cut_at(c s:Bs)(h:(10:UInt8) ∉ c):Lib.cut (c++10::s) [10]=(c,s,true):=by
 unfold Lib.cut;rw[y6 c s h,if_pos (by omega)];simp
theorem gap_len(b0:Bs)(c b:Bs)(l:List (Bs ×Bs)):aL b0 ((c,b)::l)=b0++(c++aL b l):=by
 unfold aL;simp
theorem oz(a b:Bs):bU (a++b)=bU a+bU b:=List.count_append
theorem ym(c:Bs)(h:(10:UInt8) ∉ c):bU c=0:=List.count_eq_zero.2 h
theorem ii(a b:Bs)(n:Nat)(hn:n=(a++b).length):(aB (a++b)).extract a.length n=aB b:=by
 subst hn;apply ByteArray.ext
 rw[ByteArray.data_extract];simp [aB]
theorem yW(b0:Bs)(l:List (Bs ×Bs))(r:Bs)(hg:jK b0 l)(hr:eu fe r)(hp:Zc r [47,47]=false)(hz:(aL b0 l++r).length≤1000000)(w:World)(hl:fT w):
  Calls Ze 40 #[.string (aB (aL b0 l++r))] w fun e w'=>e= .returned (.tuple #[.string (aB r),.int .i64 (bU (aL b0 l)),.bool true])∧Below w.heap.size w w':=by
 have HGP:=Za hg;have HR:=Za hr;have HP:=Za hp;have HL:=Za hl;have HZ:=Za hz;obtain⟨T,hT⟩:∃T,bU (aL b0 l)=T:=⟨_,rfl⟩;rw[hT];have hT2:T≤1000000:=by
  rw[←hT];unfold bU;have:=List.count_le_length (a:=(10:UInt8)) (l:=aL b0 l);rw[Zd]at hz;omega
 have HTT:=Za hT;clear hg hr hp hl hz hT;go_enter Tryz.func40,Tryz.ntmps40
 go_wp2_with fail
 go_loopw [0,3] (fun s0 s3 wr=> ∃(b1:Bs) (l1:List (Bs ×Bs)) (n:Nat),s0= .string (aB (aL b1 l1++r))∧s3= .int .i64 n∧jK b1 l1∧n+bU (aL b1 l1)=T∧(aL b1 l1++r).length≤1000000∧l1.length≤l.length∧Below w.heap.size w wr) (fun s0 _ _=>match s0 with| .string s=>s.size|_=>0)
 case atStart=>exact⟨b0,l,0,rfl,rfl,HGP.out,by rw[HTT.out];omega,HZ.out,Zb _,Below.refl _ _⟩
 case round=>
  obtain⟨b1,l1,n,rfl,rfl,hg1,hn,hz1,hll,hb⟩:=hrel;have HL1:=Za (HL.out.old hb);have HB:=Za hb;have HG1:=Za hg1;have nI:(n:Int)≤1000000:=by omega
  have nJ:(0:Int)≤(n:Int):=by omega
  have HN:=Za hn
  cases l1 with
  |nil=>
   have e1:aL b1 []=b1:=by simp [aL]
   rw[e1]at hn hz1 ⊢;have HN:=Za hn;have HR1:=Za (fun w1=>o7 b1 r (fun c hc=>kF (hg1.blank c hc)) HR.out w1);have HX1:=Za (fL b1 r);have hl1:(b1.length:Int)≤((b1++r).length:Int):=by rw[Zd];omega
   have hl2:b1.length≤(b1++r).length:=by rw[Zd];omega
   have HZ1:=Za hz1;clear hg1 hb hn hz1 e1;go_wp2_with fail
   refine(HR1.out _).mono ?_;rintro e w1 ⟨rfl,hb1⟩;have HB1:=Za (HB.out.trans (hb1.mono HB.out.size));have HL2:=Za (HL1.out.old hb1);clear hb1;go_wp2_with fail
   rw[HX1.out];refine(Tryz.strings_Count_one (aB b1) 10 w1).mono ?_;rintro e w2 ⟨he,hw2⟩;have he2:e= .returned (.int .i64 (bU b1:Int)):=he;subst he2;obtain rfl:w1=w2:=hw2.symm;clear he;have fI:(n:Int)+(bU b1:Int)≤1000000:=by have:=HN.out;omega
   have fJ:(0:Int)≤(bU b1:Int):=by omega
   go_wp2_with fail
   have hxd:=ii b1 r _ rfl
   first|rw[hxd]|(simp only[Zd]at hxd;rw[hxd])
   clear hxd;refine(Tryz.strings_HasPrefix (aB (r)) (aB [47,47]) w1).mono ?_;rintro e w2 ⟨he,hw2⟩;have he2:e= .returned (.bool false):=by rw[he];show Ending.returned (.bool (Zc r [47,47]))=_;rw[HP.out]
   subst he2;obtain rfl:w1=w2:=hw2.symm;clear he;go_wp2_with fail
   go_ret3
   exact⟨by rw[show(T:Int)=(n:Int)+(bU b1:Int)from by have:=HN.out;omega];rfl,HB1.out⟩
  |cons p l1=>
   obtain⟨c,b2⟩:=p;obtain⟨hco,hb2,b3,hb3⟩:=hg1.comm _ Zk;have hb3:b2=10::b3:=hb3;have hco:yq c:=hco;obtain⟨c3,hc3⟩:=hco.pre;have e1:=gap_len b1 c b2 l1;have e2:aL b1 ((c,b2)::l1)++r=b1++(c++(aL b2 l1++r)):=by rw[e1];simp
   rw[e2]at hz1 ⊢;have hfe:bU (aL b1 ((c,b2)::l1))=bU b1+bU (aL b2 l1):=by rw[e1,oz,oz,ym c hco.nofeed];omega
   rw[hfe]at hn;have hg2:jK b2 l1:=⟨hb2,fun p hp=>hg1.comm p (List.mem_cons_of_mem _ hp)⟩;have hes:eu fe (c++(aL b2 l1++r)):= .inr ⟨47,47::(c3++(aL b2 l1++r)),by rw[hc3];rfl,by decide,by decide⟩;have hcut:Lib.cut (c++(aL b2 l1++r)) [10]=(c,(aL b2 l1++r).drop 1,true):=by
    have:aL b2 l1++r=10::(b3++(l1.flatMap (fun p=>p.1++p.2)++r)):=by unfold aL;rw[hb3];simp
    rw[this,cut_at c _ hco.nofeed];rfl
   have hpre:Zc (c++(aL b2 l1++r)) [47,47]=true:=by rw[hc3];simp [Zc]
   have HPR:=Za hpre;have hz2:(c++(aL b2 l1++r)).length≤1000000:=by rw[Zd]at hz1;omega
   have HCM:=Za (fun w1 h=>rM c (aL b2 l1++r) hcut hco.valid hco.mark hz2 w1 h);have HR1:=Za (fun w1=>o7 b1 (c++(aL b2 l1++r)) (fun x hx=>kF (hg1.blank x hx)) hes w1);have HX1:=Za (fL b1 (c++(aL b2 l1++r)));have hl1:(b1.length:Int)≤((b1++(c++(aL b2 l1++r))).length:Int):=by rw[Zd];omega
   have hl2:b1.length≤(b1++(c++(aL b2 l1++r))).length:=by rw[Zd];omega
   have hl3:(c.length:Int)≤((c++(aL b2 l1++r)).length:Int):=by rw[Zd];omega
   have hl4:c.length≤(c++(aL b2 l1++r)).length:=by rw[Zd];omega
   have HG2:=Za hg2;have HN2:=Za hn;have HZ2:Hid ((aL b2 l1++r).length≤1000000):=by show _≤_;rw[Zd]at hz2;omega
   have HME:Hid ((aL b2 l1++r).length<(b1++(c++(aL b2 l1++r))).length):=by
    show _<_;rw[hc3];simp only[Zd,List.length_cons];omega
   have HLL:Hid (l1.length≤l.length):=by show _≤_;rw[List.length_cons]at hll;omega
   clear hg1 hb hn hz1 e1 e2 hfe hg2 hes hcut hpre hz2 hco hb2 hb3 hc3 hll HN;have HX2:=Za (ii b1 (c++(aL b2 l1++r)));have HX3:=Za (ii c (aL b2 l1++r));have HREL:=Za (show ∃q,aL b2 l1++r=q from⟨_,rfl⟩);obtain⟨q,hq⟩:=HREL.out;have HQ:=Za hq;clear HREL;rw[hq]at HX2 HX3 HX1 HPR HCM HR1 hl1 hl2 hl3 hl4 HZ2 HME ⊢;clear hq;obtain⟨u,hu⟩:∃u,c++q=u:=⟨_,rfl⟩;rw[hu]at HX2 HX3 HX1 HPR HCM HR1 hl1 hl2 hl3 hl4 HME ⊢;clear hu;go_wp2_with fail
   refine(HR1.out _).mono ?_;rintro e w1 ⟨rfl,hb1⟩;have HB1:=Za (HB.out.trans (hb1.mono HB.out.size));have HL2:=Za (HL1.out.old hb1);clear hb1;go_wp2_with fail
   rw[HX1.out];refine(Tryz.strings_Count_one (aB b1) 10 w1).mono ?_;rintro e w2 ⟨he,hw2⟩;have he2:e= .returned (.int .i64 (bU b1:Int)):=he;subst he2;obtain rfl:w1=w2:=hw2.symm;clear he;have fI:(n:Int)+(bU b1:Int)≤1000000:=by have:=HN2.out;omega
   have fJ:(0:Int)≤(bU b1:Int):=by omega
   go_wp2_with fail
   have hxd:=HX2.out _ rfl
   first|rw[hxd]|(simp only[Zd]at hxd;rw[hxd])
   clear hxd;refine(Tryz.strings_HasPrefix (aB u) (aB [47,47]) w1).mono ?_;rintro e w2 ⟨he,hw2⟩;have he2:e= .returned (.bool true):=by rw[he];show Ending.returned (.bool (Zc u [47,47]))=_;rw[HPR.out]
   subst he2;obtain rfl:w1=w2:=hw2.symm;clear he;go_wp2_with fail
   refine(HCM.out _ HL2.out).mono ?_;rintro e w2 ⟨rfl,hb2⟩;have HB2:=Za (HB1.out.trans (hb2.mono HB1.out.size));clear hb2;go_wp2_with fail
   have hxd:=HX3.out _ rfl
   first|rw[hxd]|(simp only[Zd]at hxd;rw[hxd])
   clear hxd;go_roundw
   case rel=>exact⟨b2,l1,n+bU b1,by rw[HQ.out],by go_num,HG2.out,by have:=HN2.out;omega,by rw[HQ.out];exact HZ2.out,HLL.out,HB2.out⟩
   case measure=>exact HME.out
theorem ext_one(a:UInt8)(b:Bs)(n:Nat)(hn:n=(a::b).length):(aB (a::b)).extract 1 n=aB b:=ii [a] b n hn
theorem zB(a:UInt8)(b c:Bs)(m n:Nat)(hm:m=1+b.length)(hn:n=(a::(b++c)).length):(aB (a::(b++c))).extract m n=aB c:=by
 have:m=(a::b).length:=by rw[hm,List.length_cons];omega
 rw[this];exact ii (a::b) c n hn
theorem xQ(a z:UInt8)(b c:Bs)(m:Nat)(hm:m=b.length+2):(aB (a::(b++z::c))).extract 0 m=aB (a::(b++[z])):=by
 subst hm;have h:=fL (a::(b++[z])) c;simpa using h
theorem sm(r:Nat)(x rest:Bs)(hr1:32≤r)(hr2:r≠39)(hr3:r≠92)(hr4:r≠65533)(hr5:r≤1114111)(hx:x.length≤4)(hd:Lib.decodeGo (aB (x++39::rest))=(r,x.length))(hz:(39::(x++39::rest)).length≤1000000)(w:World)(hl:fT w):
  Calls Ze 93 #[.string (aB (39::(x++39::rest)))] w fun e w'=>e= .returned (.tuple #[eQ 3 (39::(x++[39])) r 0,.bool true])∧Below w.heap.size w w':=by
 have q1:((r:Int)==39)=false:=by rw[beq_eq_false_iff_ne];omega
 have q2:((r:Int)==92)=false:=by rw[beq_eq_false_iff_ne];omega
 have q3:((r:Int)==65533)=false:=by rw[beq_eq_false_iff_ne];omega
 have q4:(32:Int)≤(r:Int):=by omega
 have q6:¬((r:Int)<32):=by omega
 have q7:decide ((r:Int)<32)=false:=decide_eq_false q6;have q5:(r:Int)≤1114111:=by omega
 have xI:(x.length:Int)≤4:=by omega
 have xJ:(0:Int)≤(x.length:Int):=by omega
 have hL:(39::(x++39::rest)).length=x.length+2+rest.length:=by simp;omega
 have HX1:=Za (ext_one 39 (x++39::rest));have HX2:=Za (zB 39 x (39::rest));have HX3:=Za (xQ 39 39 x rest);have HP:=Za (show Zc (39::rest) [39]=true by simp [Zc]);have HD:=Za hd;have HL:=Za hl;have HZ:=Za hz;have HLE:=Za hL;have HO:=Za (Zg w [.int .i64 0,.string ⟨#[]⟩,.int .i64 0,.int .i64 0] 50);have HB0:=Za ((Below.refl w.heap.size w).alloc (Zb _) (.cells #[.int .i64 0,.string ⟨#[]⟩,.int .i64 0,.int .i64 0] 50));have l1:x.length+2≤(39::(x++39::rest)).length:=by omega
 have l2:(x.length:Int)+2≤((39::(x++39::rest)).length:Int):=by omega
 have l3:1≤(39::(x++39::rest)).length:=by omega
 have l4:(1:Int)≤((39::(x++39::rest)).length:Int):=by omega
 clear hd hl hz hL hr2 hr3 hr4;obtain⟨s,hs⟩:∃s,39::(x++39::rest)=s:=⟨_,rfl⟩;obtain⟨u,hu⟩:∃u,x++39::rest=u:=⟨_,rfl⟩;obtain⟨v,hv⟩:∃v,(39::rest:Bs)=v:=⟨_,rfl⟩;obtain⟨k,hk⟩:∃k,(39::(x++[39]):Bs)=k:=⟨_,rfl⟩;rw[hs]at HX1 HX2 HX3 HZ HLE l1 l2 l3 l4 ⊢;rw[hu]at HX1 HD;rw[hv]at HX2 HP;rw[hk]at HX3 ⊢;clear hs hu hv hk;go_enter Tryz.func93,Tryz.ntmps93
 go_wp2_with fail
 rw[HX1.out _ rfl];refine(Tryz.utf8_DecodeRuneInString (aB u) _ (HL.out.old HB0.out).utf).mono ?_;rw[HD.out];rintro e w1 ⟨rfl,hb1⟩;have HO1:=Za (HO.out.old hb1);have HB1:=Za (HB0.out.trans (hb1.mono HB0.out.size));clear hb1;go_wp2_with fail
 rw[HX2.out _ _ rfl rfl];refine(Tryz.strings_HasPrefix (aB v) (aB [39]) w1).mono ?_;rintro e w2 ⟨he,hw2⟩;have he2:e= .returned (.bool true):=by rw[he];show Ending.returned (.bool (Zc v [39]))=_;rw[HP.out]
 subst he2;obtain rfl:w1=w2:=hw2.symm;clear he;have g0:=HO1.out.at 0 _ rfl;have f0:=HO1.out.fz 0;have g1:=HO1.out.at 1 _ rfl;have f1:=HO1.out.fz 1;have g2:=HO1.out.at 2 _ rfl;have f2:=HO1.out.fz 2;have g3:=HO1.out.at 3 _ rfl;have f3:=HO1.out.fz 3;have gl:=HO1.out.lt;have hx3:=HX3.out _ rfl;go_wp2_with fail
 have HS:=Za ((((HO1.out.set 0 (.int .i64 3)).set 1 (.string (aB k))).set 2 (.int .i64 r)).set 3 (.int .i64 0));have e0:=HS.out.at 0 _ rfl;have e1:=HS.out.at 1 _ rfl;have e2:=HS.out.at 2 _ rfl;have e3:=HS.out.at 3 _ rfl;exact bodyPost_ret (v:= .tuple #[eQ 3 k r 0,.bool true]) (by simp [results,Tryz.results93,go_sem,eQ,e0,e1,e2,e3]) rfl ⟨rfl,r7 w _ HB1.out _ _ _ _⟩
inductive gQ:Bs→Int→Int→Prop
 |name (x:Bs) (hx:aY x=true) (hk:fm x=false) (c:UInt8) (t:Bs) (hc:x=c::t) (hl:bi c=true) (ha:∀c,c∈x→c.toNat<128∧gO (c.toNat:Nat)=true):gQ x 1 0
 |word (x:Bs) (hk:fm x=true) (c:UInt8) (t:Bs) (hc:x=c::t) (hl:bi c=true) (ha:∀c,c∈x→c.toNat<128∧gO (c.toNat:Nat)=true):gQ x 2 0
 |num (u:Nat) (hu:(Lib.decDigits u).length≤19) (hi:u≤9223372036854775807) (c:UInt8) (t:Bs) (hc:Lib.decDigits u=c::t) (hd:cF c=true):gQ (Lib.decDigits u) 3 u
 |quote (r:Nat) (x:Bs) (hr1:32≤r) (hr2:r≠39) (hr3:r≠92) (hr4:r≠65533) (hr5:r≤1114111) (hx:x.length≤4) (hd:∀rest,Lib.decodeGo (aB (x++39::rest))=(r,x.length)):gQ (39::(x++[39])) 3 r
 |sign (x:Bs) (hs:g9 x=true) (c:UInt8) (t:Bs) (hc:x=c::t) (h7:c.toNat<128) (hn:bi c=false∧cF c=false∧c≠39):gQ x 4 0
theorem fX {c:UInt8}(h:bi c=true):c.toNat<128:=by
 simp [bi,UInt8.le_iff_toNat_le]at h
 by_cases e:c=95
 ·rw[e];decide
 ·simp only[e,false_or,or_false]at h
  omega
theorem jV {c:UInt8}(h:cF c=true):c.toNat<128:=by
 simp [cF,UInt8.le_iff_toNat_le]at h;omega
theorem vk {x:Bs}{k n:Int}(h:gQ x k n)(b:UInt8)(r:Bs)(hb:dT b=true)(hz:(x++b::r).length≤1000000)(w:World)(hl:fT w):
  Calls Ze 41 #[.string (aB (x++b::r))] w fun e w'=>e= .returned (.tuple #[eQ k x n 0,.bool true])∧Below w.heap.size w w':=by
 have hbl:=kF hb;have hbc:b=32∨b=9∨b=10∨b=13:=by
  simp only[dT,Bool.or_eq_true,beq_iff_eq]at hb;rcases hb with((h|h)|h)|h<;>simp [h]
 have hw:eu gO (b::r):= .inr ⟨b,r,rfl,hbl.1,by rcases hbc with rfl|rfl|rfl|rfl<;>decide⟩;have hd:eu da (b::r):= .inr ⟨b,r,rfl,hbl.1,by rcases hbc with rfl|rfl|rfl|rfl<;>decide⟩
 cases h with
 |name x hx hk c t hc hll ha=>
  have hT:=fun w1 (_:Below w.heap.size w w1)=>pT x (b::r) ha hw hk hx w1
  rw[hc]at hT ⊢;exact iw c (t++b::r) hll (fX hll) 1 (c::t) 0 w hT
 |word x hk c t hc hll ha=>
  have hT:=fun w1 (_:Below w.heap.size w w1)=>ox x (b::r) ha hw hk w1
  rw[hc]at hT ⊢;exact iw c (t++b::r) hll (fX hll) 2 (c::t) 0 w hT
 |num u hu hi c t hc hdd=>
  have hT:=fun w1 (hb1:Below w.heap.size w w1)=>mc u (b::r) hu hi hd w1 (hl.old hb1).lt (hl.old hb1).pow
  rw[hc]at hT ⊢;exact lN c (t++b::r) hdd (jV hdd) 3 (c::t) u w hT
 |quote q y hr1 hr2 hr3 hr4 hr5 hx hdq=>
  have e:39::(y++[39])++b::r=39::(y++39::(b::r)):=by simp
  rw[e]at hz ⊢;exact rF 39 (y++39::(b::r)) rfl (by decide) 3 (39::(y++[39])) q w (fun w1 hb1=>sm q y (b::r) hr1 hr2 hr3 hr4 hr5 hx (hdq _) hz w1 (hl.old hb1))
 |sign x hs c t hc h7 hn=>
  have hT:=fun w1 (_:Below w.heap.size w w1)=>lZ x (b::r) hs (fun _=>⟨b,r,rfl,by rcases hbc with rfl|rfl|rfl|rfl<;>decide,by rcases hbc with rfl|rfl|rfl|rfl<;>decide,by rcases hbc with rfl|rfl|rfl|rfl<;>decide⟩) w1
  rw[hc]at hT ⊢;exact jE c (t++b::r) hn h7 4 (c::t) 0 w hT
structure It where
 x:Bs
 k:Int
 n:Int
 b:Bs
 l:List (Bs ×Bs)
def It.gap(i:It):Bs:=aL i.b i.l
structure ItOk (i:It):Prop where
 tok:gQ i.x i.k i.n
 gap:jK i.b i.l
 head:∃c t,i.b=c::t
def bm(l:List It):Bs:=l.flatMap (fun i=>i.x++i.gap)
def jv(line:Nat):List It→List Tk
 |[]=>[]
 |i::l=>⟨i.k,i.x,i.n,line⟩::jv (line+bU i.gap) l
theorem jR(i:It)(l:List It):bm (i::l)=i.x++(i.gap++bm l):=by
 unfold bm;simp
theorem rI(line:Nat)(l:List It):(jv line l).length=l.length:=by
 induction l generalizing line with
 |nil=>rfl
 |cons i l ih=>simp [jv,ih]
theorem ItOk.blank {i:It}(h:ItOk i)(r:Bs):∃c t,i.gap++r=c::t∧dT c=true:=by
 obtain⟨c,t,e⟩:=h.head;refine⟨c,t++(i.l.flatMap (fun p=>p.1++p.2)++r),?_,h.gap.blank c (by rw[e];exact Zk)⟩;unfold It.gap aL;rw[e];simp
theorem xw(c:UInt8)(h:c.toNat≠32∧c.toNat≠9∧c.toNat≠10∧c.toNat≠13):fe (c.toNat:Nat)=false:=by
 obtain⟨h1,h2,h3,h4⟩:=h;unfold fe;have g1:((c.toNat:Int)==32)=false:=by rw[beq_eq_false_iff_ne];omega
 have g2:((c.toNat:Int)==9)=false:=by rw[beq_eq_false_iff_ne];omega
 have g3:((c.toNat:Int)==10)=false:=by rw[beq_eq_false_iff_ne];omega
 have g4:((c.toNat:Int)==13)=false:=by rw[beq_eq_false_iff_ne];omega
 simp [g1,g2,g3,g4]
 try omega
theorem mE {c:UInt8}(h:bi c=true):65≤c.toNat:=by
 simp [bi,UInt8.le_iff_toNat_le]at h
 by_cases e:c=95
 ·rw[e];decide
 ·simp only[e,false_or,or_false]at h
  omega
theorem rT {c:UInt8}(h:cF c=true):48≤c.toNat:=by
 simp [cF,UInt8.le_iff_toNat_le]at h;omega
theorem kQ {c:UInt8}{t:Bs}(h7:c.toNat<128)(h:c.toNat≠32∧c.toNat≠9∧c.toNat≠10∧c.toNat≠13):eu fe (c::t):= .inr ⟨c,t,rfl,h7,xw c h⟩
theorem gQ.ends {x:Bs}{k n:Int}(h:gQ x k n)(r:Bs):eu fe (x++r):=by
 cases h with
 |name x hx hk c t hc hl ha=>rw[hc];have:=mE hl;exact kQ (fX hl) (by omega)
 |word x hk c t hc hl ha=>rw[hc];have:=mE hl;exact kQ (fX hl) (by omega)
 |num u hu hi c t hc hd=>rw[hc];have:=rT hd;exact kQ (jV hd) (by omega)
 |quote q y=>exact kQ (c:=39) (t:=y++[39]++r) (by decide) (by decide)
 |sign x hs c t hc h7 hn=>
  rcases ej hs with rfl|rfl|rfl|rfl|rfl|rfl|rfl|rfl|rfl|rfl|rfl|rfl|rfl|rfl|rfl|rfl|rfl|rfl|rfl|rfl|rfl|rfl|rfl|rfl|rfl|rfl|rfl<;>(rw[Zf];exact kQ (by decide) (by decide))
theorem gQ.noComment {x:Bs}{k n:Int}(h:gQ x k n)(b:UInt8)(hb:dT b=true)(r:Bs):Zc (x++b::r) [47,47]=false:=by
 have hne:b≠47:=by rintro rfl;simp [dT]at hb
 have key:∀(c:UInt8) (t:Bs),c≠47→Zc (c::t) [47,47]=false:=fun c t hc=>by
  have h1:((47:UInt8)==c)=false:=by rw[beq_eq_false_iff_ne];exact fun e=>hc e.symm
  show([47,47]:List UInt8).isPrefixOf (c::t)=false
  rw[Zh,h1];rfl
 have key2:∀(t:Bs),Zc (47::b::t) [47,47]=false:=fun t=>by
  have h1:((47:UInt8)==b)=false:=by rw[beq_eq_false_iff_ne];exact fun e=>hne e.symm
  show([47,47]:List UInt8).isPrefixOf (47::b::t)=false
  rw[Zh,Zh,h1];rfl
 cases h with
 |name x hx hk c t hc hl ha=>rw[hc,Zf];exact key _ _ (by rintro rfl;simp [bi]at hl)
 |word x hk c t hc hl ha=>rw[hc,Zf];exact key _ _ (by rintro rfl;simp [bi]at hl)
 |num u hu hi c t hc hd=>rw[hc,Zf];exact key _ _ (by rintro rfl;simp [cF]at hd)
 |quote q y=>exact key 39 (y++[39]++b::r) (by decide)
 |sign x hs c t hc h7 hn=>
  rcases ej hs with rfl|rfl|rfl|rfl|rfl|rfl|rfl|rfl|rfl|rfl|rfl|rfl|rfl|rfl|rfl|rfl|rfl|rfl|rfl|rfl|rfl|rfl|rfl|rfl|rfl|rfl|rfl<;>first|(rw[Zf];exact key _ _ (by decide))|exact key2 r
theorem ij {w w':World}{base size n:Nat}{e:TypeId}{v:Value}{xs:List Value}(h:w.ownsRow base e size v n xs)(hb:Below w.heap.size w w'):w'.ownsRow base e size v n xs:=by
 refine⟨h.1,?_⟩;rcases h.2 with hn|⟨g,cap,cur,rfl,hg,hh,r⟩
 ·exact .inl hn
 ·refine .inr ⟨g,cap,cur,rfl,hg,?_,r⟩
  rw[hb.block g (by
   rcases Nat.lt_or_ge g w.heap.size with h'|h'
   ·exact h'
   ·simp [Array.getElem?_eq_none h']at hh)]
  exact hh
theorem jX {w:World}{base size n:Nat}{e:TypeId}{v:Value}{xs:List Value}(h:w.ownsRow base e size v n xs){k:Nat}(hk:v.ownBlock≠some k)(i:Nat)(x:Value):(w.setCell ⟨k,i,none⟩ x).ownsRow base e size v n xs:=by
 refine⟨h.1,?_⟩;rcases h.2 with hn|⟨g,cap,cur,rfl,hg,hh,r⟩
 ·exact .inl hn
 ·refine .inr ⟨g,cap,cur,rfl,hg,?_,r⟩
  rw[Below.heap_setCell _ _ _ _ (by rintro rfl;exact hk rfl)];exact hh
theorem tN {w:World}{base size n:Nat}{e:TypeId}{v:Value}{xs:List Value}(h:w.ownsRow base e size v n xs):(v= .slice none 0 0∧n=0)∨∃g cap,v= .slice (some ⟨g,0,none⟩) n cap:=by
 rcases h.2 with h'|⟨g,cap,cur,rfl,_⟩
 ·exact .inl h'
 ·exact .inr ⟨g,cap,rfl⟩
theorem uC {w:World}{base size n:Nat}{e:TypeId}{v:Value}{xs:List Value}(h:w.ownsRow base e size v n xs):∃a cap,v= .slice a n cap:=by
 rcases tN h with⟨rfl,rfl⟩|⟨g,cap,rfl⟩
 ·exact⟨none,0,rfl⟩
 ·exact⟨_,_,rfl⟩
theorem mM {B:Nat}{a w w':World}(h:Below B a w){row:Option Nat}(hg:w.grownBy w' row)(hr:∀k,row=some k→B≤k)(hB:B≤w.heap.size):Below B a w':=
 ⟨hg.os.trans h.os,hg.tape.trans h.tape,hg.output.trans h.output,Nat.le_trans h.size hg.size,fun k hk=>(hg.block k (Nat.lt_of_lt_of_le hk hB) (fun e=>by have:=hr k e.symm;omega)).trans (h.block k hk)⟩
theorem eM {B:Nat}{a w:World}(h:Below B a w){k:Nat}(hk:B≤k)(i:Nat)(v:Value):Below B a (w.setCell ⟨k,i,none⟩ v):=h.setCell (p:=⟨k,i,none⟩) hk v
theorem aG.grow {w w':World}{b:Nat}{cs:List Value}{T:TypeId}(h:aG w b cs T){row:Option Nat}(hg:w.grownBy w' row)(hr:row≠some b):aG w' b cs T:=(hg.block b h.lt (fun e=>hr e.symm)).trans h
theorem aG.news {w:World}{b:Nat}{cs:List Value}{T:TypeId}(h:aG w b cs T):∀j u,cs[j]? =some u→w.cell? ((⟨b,0,none⟩:Addr).add j)=some u:=by
 intro j u hu;have h2:(⟨b,0,none⟩:Addr).add j=⟨b,j,none⟩:=by unfold Addr.add;split<;>simp_all
 rw[h2];exact h.at j u hu
def tQ(w:World)(l:List Int)(v:Value):Prop:=
 ∃a cap b off,v= .slice a l.length cap∧(l.length=0∨a=some ⟨b,off,none⟩)∧l.length≤9223372036854775807∧
  ∀i,i<l.length→w.cell? ⟨b,off+i,none⟩=some (.int .i64 (l.getD i 0))∧I64 (l.getD i 0)
theorem tQ.old {w w':World}{l:List Int}{v:Value}(h:tQ w l v)(hb:Below w.heap.size w w'):tQ w' l v:=by
 obtain⟨a,cap,b,off,h1,h2,h3,h4⟩:=h;exact⟨a,cap,b,off,h1,h2,h3,fun i hi=>⟨aE hb (h4 i hi).1,(h4 i hi).2⟩⟩
theorem tQ.slice {w:World}{l:List Int}{v:Value}(h:tQ w l v):∃a cap,v= .slice a l.length cap:=by
 obtain⟨a,cap,b,off,h1,_⟩:=h;exact⟨a,cap,h1⟩
theorem tQ.at {w:World}{l:List Int}{a:Option Addr}{n cap:Nat}(h:tQ w l (.slice a n cap))(i:Nat)(hi:i<l.length):∃b off,a=some ⟨b,off,none⟩∧b<w.heap.size∧w.cell? ⟨b,off+i,none⟩=some (.int .i64 (l.getD i 0))∧I64 (l.getD i 0):=by
 obtain⟨a',cap',b,off,h1,h2,h3,h4⟩:=h
 cases h1
 rcases h2 with h2|h2
 ·omega
 ·exact⟨b,off,h2,World.block_lt_of_cell? _ _ (h4 i hi).1,(h4 i hi).1,(h4 i hi).2⟩
def np(w:World)(l:List (Int ×Int))(v:Value):Prop:=
 ∃a cap b off,v= .slice a l.length cap∧(l.length=0∨a=some ⟨b,off,none⟩)∧l.length≤9223372036854775807∧
  ∀i,i<l.length→w.cell? ⟨b,off+i*2,none⟩=some (.int .i64 (l.getD i (0,0)).1)∧w.cell? ⟨b,off+i*2+1,none⟩=some (.int .i64 (l.getD i (0,0)).2)∧I64 (l.getD i (0,0)).1∧I64 (l.getD i (0,0)).2
theorem np.old {w w':World}{l:List (Int ×Int)}{v:Value}(h:np w l v)(hb:Below w.heap.size w w'):np w' l v:=by
 obtain⟨a,cap,b,off,h1,h2,h3,h4⟩:=h;exact⟨a,cap,b,off,h1,h2,h3,fun i hi=>⟨aE hb (h4 i hi).1,aE hb (h4 i hi).2.1,(h4 i hi).2.2⟩⟩
theorem np.slice {w:World}{l:List (Int ×Int)}{v:Value}(h:np w l v):∃a cap,v= .slice a l.length cap:=by
 obtain⟨a,cap,b,off,h1,_⟩:=h;exact⟨a,cap,h1⟩
theorem np.at {w:World}{l:List (Int ×Int)}{a:Option Addr}{n cap:Nat}(h:np w l (.slice a n cap))(i:Nat)(hi:i<l.length):∃b off,a=some ⟨b,off,none⟩∧b<w.heap.size∧w.cell? ⟨b,off+i*2,none⟩=some (.int .i64 (l.getD i (0,0)).1)∧w.cell? ⟨b,off+i*2+1,none⟩=some (.int .i64 (l.getD i (0,0)).2)∧I64 (l.getD i (0,0)).1∧I64 (l.getD i (0,0)).2:=by
 obtain⟨a',cap',b,off,h1,h2,h3,h4⟩:=h
 cases h1
 rcases h2 with h2|h2
 ·omega
 ·exact⟨b,off,h2,World.block_lt_of_cell? _ _ (h4 i hi).1,h4 i hi⟩
structure x8 (x:Bs)(k n:Int)(rest:Bs):Prop where
 ends:eu fe (x++rest)
 nocomm:Zc (x++rest) [47,47]=false
 ne:x≠[]
 call:∀w,(x++rest).length≤1000000→fT w→Calls Ze 41 #[.string (aB (x++rest))] w fun e w'=>e= .returned (.tuple #[eQ k x n 0,.bool true])∧Below w.heap.size w w'
theorem gQ.ne {x:Bs}{k n:Int}(h:gQ x k n):x≠[]:=by
 cases h with
 |name x hx hk c t hc hl ha=>rw[hc];exact Zj _ _
 |word x hk c t hc hl ha=>rw[hc];exact Zj _ _
 |num u hu hi c t hc hd=>rw[hc];exact Zj _ _
 |quote q y=>exact Zj _ _
 |sign x hs c t hc h7 hn=>rw[hc];exact Zj _ _
theorem gQ.at {x:Bs}{k n:Int}(h:gQ x k n)(b:UInt8)(r:Bs)(hb:dT b=true):x8 x k n (b::r):=
 ⟨h.ends _,h.noComment b hb r,h.ne,fun w hz hl=>vk h b r hb hz w hl⟩
def ie(z:Bs):List It→Prop
 |[]=>True
 |i::l=>x8 i.x i.k i.n (i.gap++(bm l++z))∧jK i.b i.l∧ie z l
theorem ie.of(z:Bs):∀(l:List It),(∀i,i∈l→ItOk i)→ie z l
 |[],_=>trivial
 |i::l,h=>by
  have hi:=h i Zk;obtain⟨c,t,e,hc⟩:=hi.blank (bm l++z);refine⟨?_,hi.gap,ie.of z l (fun j hj=>h j (List.mem_cons_of_mem _ hj))⟩;rw[e];exact hi.tok.at c t hc
def sD(line:Nat):List It→Nat
 |[]=>line
 |i::l=>sD (line+bU i.gap) l
structure tB (ok:Bool)(z:Bs):Prop where
 ends:eu fe z
 nocomm:Zc z [47,47]=false
 nil:ok=true→z=[]
 bad:ok=false→z≠[]∧∀w,fT w→Calls Ze 41 #[.string (aB z)] w fun e w'=>e= .returned (.tuple #[eQ 0 [] 0 0,.bool false])∧Below w.heap.size w w'
theorem ie.front {ok:Bool}{z:Bs}(hz:tB ok z){l:List It}(h:ie z l):eu fe (bm l++z)∧Zc (bm l++z) [47,47]=false:=by
 cases l with
 |nil=>exact⟨hz.ends,hz.nocomm⟩
 |cons i l=>
  have e:bm (i::l)++z=i.x++(i.gap++(bm l++z)):=by rw[jR];simp
  rw[e];exact⟨h.1.ends,h.1.nocomm⟩
def xU(ok:Bool)(w:World)(L:List Tk)(line:Nat)(e:Ending)(w':World):Prop:=
 Below w.heap.size w w'∧(if ok=true then ∃v,e= .returned (.tuple #[v,.int .i64 0,.int .i64 0])∧e7 w' w.heap.size (L++[⟨5,[],0,line⟩]) v else e= .returned (.tuple #[.slice none 0 0,.int .i64 20,.int .i64 line]))
theorem yA(l:Bs):bU l≤l.length:=List.count_le_length
theorem xH(ok:Bool)(z:Bs)(hz:tB ok z)(b0:Bs)(l0:List (Bs ×Bs))(hg:jK b0 l0)(li0:List It)(hi:ie z li0)(hlen:(aL b0 l0++(bm li0++z)).length≤20000)(w:World)(hl:fT w):
  Calls Ze 20 #[.string (aB (aL b0 l0++(bm li0++z)))] w (xU ok w (jv (1+bU (aL b0 l0)) li0) (sD (1+bU (aL b0 l0)) li0)):=by
 obtain⟨ALL,hall⟩:∃A,jv (1+bU (aL b0 l0)) li0=A:=⟨_,rfl⟩;obtain⟨END,hend⟩:∃A,sD (1+bU (aL b0 l0)) li0=A:=⟨_,rfl⟩;rw[hall,hend];obtain⟨q,hq⟩:∃q,aL b0 l0++(bm li0++z)=q:=⟨_,rfl⟩;rw[hq]at hlen ⊢;have HQ:=Za hq;have HZ:=Za hz;have HG:=Za hg;have HI:=Za hi;have HL:=Za hl;have HALL:=Za hall;have HEND:=Za hend;have hlenI:(q.length:Int)≤20000:=by omega
 obtain⟨i0,hi0,hz0,hz1,hz2⟩:=info_parts infoTk;have HI0:=Za hi0;have HZ0:=Za hz0;have HZ1:=Za hz1;have HZ2:=Za hz2;clear hi0 hz0 hz1 hz2 hq hz hg hi hl hall hend;go_enter Tryz.func20,Tryz.ntmps20
 go_wp2_with fail
 go_loopw [0,2,5] (fun s0 s2 s5 wr=> ∃(b1:Bs) (l1:List (Bs ×Bs)) (n:Nat) (li:List It) (done:List Tk) (q1:Bs),s0= .string (aB q1)∧s5= .int .i64 n∧q1=aL b1 l1++(bm li++z)∧e7 wr w.heap.size done s2∧jK b1 l1∧ie z li∧done++jv (n+bU (aL b1 l1)) li=ALL∧sD (n+bU (aL b1 l1)) li=END∧done.length+q1.length≤20000∧n+q1.length≤20001∧Below w.heap.size w wr) (fun s0 _ _ _=>match s0 with| .string s=>s.size|_=>0)
 case atStart=>exact⟨b0,l0,1,li0,[],q,rfl,rfl,HQ.out.symm,e7.zero _ _,HG.out,HI.out,HALL.out,HEND.out,by simpa using hlen,by omega,Below.refl _ _⟩
 case round=>
  obtain⟨b1,l1,n,li,done,q1,rfl,rfl,hq1,hown,hg1,hi1,hall,hend,hdl,hnl,hb⟩:=hrel;obtain⟨oa,oc,rfl⟩:=uC hown;have HL1:=Za (HL.out.old hb);have HB:=Za hb;obtain⟨f1,f2⟩:=hi1.front HZ.out;have HSK:Hid (∀w1,fT w1→Calls Ze 40 #[.string (aB q1)] w1 fun e w'=>e= .returned (.tuple #[.string (aB (bm li++z)),.int .i64 (bU (aL b1 l1)),.bool true])∧Below w1.heap.size w1 w'):=by
   intro w1 h1;rw[hq1];exact yW b1 l1 (bm li++z) hg1 f1 f2 (by rw[←hq1];omega) w1 h1
  have hfe:bU (aL b1 l1)+(bm li++z).length≤q1.length:=by
   have:=yA (aL b1 l1);have e:=congrArg List.length hq1;rw[Zd]at e;omega
  have HOWN:=Za hown;have HOB:Hid (∀k,(Value.slice oa done.length oc).ownBlock=some k→w.heap.size≤k∧k<wr.heap.size):=fun k e=>hown.ge e
  clear f1 f2 hq1 hown hg1 hb;obtain⟨F,hF⟩:∃F,bU (aL b1 l1)=F:=⟨_,rfl⟩;rw[hF]at HSK hfe hall hend;clear hF;have nI:(n:Int)+(F:Int)≤1000000:=by omega
  have nJ:(0:Int)≤(n:Int)+(F:Int):=by omega
  have hN:(n:Int)+(F:Int)=((n+F:Nat):Int):=by omega
  have HN:=Za hN;clear hN
  cases li with
  |nil=>
   have er:bm []++z=z:=by simp [bm]
   rw[er]at HSK hfe;clear er;have hall':done=ALL:=by rw[←hall];simp [jv]
   have hend':n+F=END:=hend;have HA:=Za hall';have HE:=Za hend';have hbad:=HZ.out.bad;have hnil:=HZ.out.nil;clear hall hend hall' hend' hi1
   cases ok with
   |true=>
    have hz0:=hnil rfl;subst hz0;clear hbad hnil;go_wp2_with fail
    refine(HSK.out _ HL1.out).mono ?_;rintro e w1 ⟨rfl,hb1⟩;have HB1:=Za (HB.out.trans (hb1.mono HB.out.size));have HOWN1:=Za (ij HOWN.out hb1);have hsz1:=hb1.size;have hbA:Below w1.heap.size w1 (w1.alloc (.cells #[.int .i64 5,.string ⟨#[]⟩,.int .i64 0,.int .i64 ((n:Int)+(F:Int))] 50)):=bA;have HOWN2:=Za (ij HOWN1.out hbA);have HB2:=Za (HB1.out.trans (hbA.mono HB1.out.size));have HNEW:=Za (Zg w1 [.int .i64 5,.string ⟨#[]⟩,.int .i64 0,.int .i64 ((n:Int)+(F:Int))] 50);clear hb1 hbA;go_wp2_with (at_builtin;(refine wpList_append_lies (P:=Ze) _ rfl _ _ 46 rfl w.heap.size 50 i0 _ 4 40 Tryz.underlying46 HI0.out HZ0.out HZ1.out HZ2.out rfl (by decide) (.slice oa done.length oc) done.length (done.flatMap fo) rfl HOWN2.out ⟨w1.heap.size,0,none⟩ 1 1 (fo ⟨5,[],0,(n:Int)+(F:Int)⟩) rfl rfl HNEW.out.news (mL _) (by decide) (by unfold maxLen;omega) (by omega) (by have:=HB2.out.size;exact this) _ rfl ?_;intro g cap w11 hown hgrow hat hlt11;have HB11:=Za (mM HB2.out hgrow (fun k e=>(HOB.out k e).1) HB2.out.size);have HS:=Za (e7.snoc ⟨5,[],0,(n:Int)+(F:Int)⟩ hown);clear hown hgrow hat))
    go_ret3
    refine⟨HB11.out,?_⟩;rw[if_pos rfl];refine⟨_,rfl,?_⟩;have hs:=HS.out;rw[HN.out,HE.out]at hs;rw[HA.out]at hs;rw[←HA.out]at hs ⊢;exact hs
   |false=>
    obtain⟨hz0,hbc⟩:=hbad rfl;have hze:z.isEmpty=false:=by simpa using hz0
    have HBC:=Za hbc;clear hbad hnil hz0 hbc;go_wp2_with fail
    refine(HSK.out _ HL1.out).mono ?_;rintro e w1 ⟨rfl,hb1⟩;have HB1:=Za (HB.out.trans (hb1.mono HB.out.size));have HL2:=Za (HL1.out.old hb1);have HO:=Za (Zg w1 [.int .i64 0,.string ⟨#[]⟩,.int .i64 0,.int .i64 0] 50);have hbA:Below w1.heap.size w1 (w1.alloc (.cells #[.int .i64 0,.string ⟨#[]⟩,.int .i64 0,.int .i64 0] 50)):=bA;have HL3:=Za (HL2.out.old hbA);have HB2:=Za (HB1.out.trans (hbA.mono HB1.out.size));have hge:w.heap.size≤w1.heap.size:=HB1.out.size;clear hb1 hbA;go_wp2_with fail
    refine(HBC.out _ HL3.out).mono ?_;rintro e w3 ⟨rfl,hb3⟩;unfold eQ;have HO3:=Za (HO.out.old hb3);have HB3:=Za (HB2.out.trans (hb3.mono HB2.out.size));clear hb3;have q0:=HO3.out.at 0 _ rfl;have f0:=HO3.out.fz 0;have q1:=HO3.out.at 1 _ rfl;have f1:=HO3.out.fz 1;have q2:=HO3.out.at 2 _ rfl;have f2:=HO3.out.fz 2;have q3:=HO3.out.at 3 _ rfl;have f3:=HO3.out.fz 3;have ql:=HO3.out.lt;go_wp2_with fail
    go_ret3
    refine⟨eM (eM (eM (eM HB3.out hge _ _) hge _ _) hge _ _) hge _ _,?_⟩;rw[if_neg (by decide),HN.out,HE.out];rfl
  |cons i l=>
   obtain⟨htk,hgi,hil⟩:=hi1;have hr:bm (i::l)++z=i.x++(i.gap++(bm l++z)):=by rw[jR];simp
   rw[hr]at HSK hfe;clear hr;have hall':(done++[⟨i.k,i.x,i.n,((n+F:Nat):Int)⟩])++jv (n+F+bU (aL i.b i.l)) l=ALL:=by rw[←hall];simp [jv,It.gap]
   have hend':sD (n+F+bU (aL i.b i.l)) l=END:=hend;have HA:=Za hall';have HE:=Za hend';have HGI:=Za hgi;have HIL:=Za hil;have hxne:=htk.ne;have hzl:(i.x++(i.gap++(bm l++z))).length≤1000000:=by omega
   have HTK:Hid (∀w1,fT w1→Calls Ze 41 #[.string (aB (i.x++(i.gap++(bm l++z))))] w1 fun e w'=>e= .returned (.tuple #[eQ i.k i.x i.n 0,.bool true])∧Below w1.heap.size w1 w'):=fun w1 h1=>htk.call w1 hzl h1
   clear hall hend hall' hend' hgi hil htk hzl;have hxp:0<i.x.length:=List.length_pos_iff.2 hxne;obtain⟨q',hq'⟩:∃q',i.gap++(bm l++z)=q':=⟨_,rfl⟩;have HQ':=Za hq';rw[hq']at HSK hfe HTK;clear hq' hxne;have HXD:=Za (ii i.x q');have hrl:(i.x++q').length=i.x.length+q'.length:=Zd;have hre:(i.x++q').isEmpty=false:=by
    cases hx:i.x with
    |nil=>rw[hx]at hxp;simp at hxp
    |cons c t=>rfl
   obtain⟨r,hr⟩:∃r,i.x++q'=r:=⟨_,rfl⟩;rw[hr]at HSK hfe HTK HXD hrl hre;clear hr;obtain⟨xx,hxx⟩:∃xx,i.x=xx:=⟨_,rfl⟩;rw[hxx]at HXD hrl hxp HTK HA;obtain⟨kk,hkk⟩:∃kk,i.k=kk:=⟨_,rfl⟩;obtain⟨nn,hnn⟩:∃nn,i.n=nn:=⟨_,rfl⟩;rw[hkk,hnn]at HTK HA;clear hxx hkk hnn;have hx1:(xx.length:Int)≤(r.length:Int):=by omega
   have hx2:xx.length≤r.length:=by omega
   go_wp2_with fail
   refine(HSK.out _ HL1.out).mono ?_;rintro e w1 ⟨rfl,hb1⟩;have HB1:=Za (HB.out.trans (hb1.mono HB.out.size));have HL2:=Za (HL1.out.old hb1);have HOWN1:=Za (ij HOWN.out hb1);have hsz1:=hb1.size;have HO:=Za (Zg w1 [.int .i64 0,.string ⟨#[]⟩,.int .i64 0,.int .i64 0] 50);have hbA:Below w1.heap.size w1 (w1.alloc (.cells #[.int .i64 0,.string ⟨#[]⟩,.int .i64 0,.int .i64 0] 50)):=bA;have HL3:=Za (HL2.out.old hbA);have HB2:=Za (HB1.out.trans (hbA.mono HB1.out.size));have HOWN2:=Za (ij HOWN1.out hbA);have hge:w.heap.size≤w1.heap.size:=HB1.out.size;clear hb1 hbA;go_wp2_with fail
   refine(HTK.out _ HL3.out).mono ?_;rintro e w3 ⟨rfl,hb3⟩;unfold eQ;have HO3:=Za (HO.out.old hb3);have HB3:=Za (HB2.out.trans (hb3.mono HB2.out.size));have HOWN3:=Za (ij HOWN2.out hb3);clear hb3;have q0:=HO3.out.at 0 _ rfl;have f0:=HO3.out.fz 0;have q1:=HO3.out.at 1 _ rfl;have f1:=HO3.out.fz 1;have q2:=HO3.out.at 2 _ rfl;have f2:=HO3.out.fz 2;have q3:=HO3.out.at 3 _ rfl;have f3:=HO3.out.fz 3;have ql:=HO3.out.lt;go_upto_region 14 with(fail)
   have HS:=Za (((((HO3.out.set 0 (.int .i64 kk)).set 1 (.string (aB xx))).set 2 (.int .i64 nn)).set 3 (.int .i64 0)).set 3 (.int .i64 ((n:Int)+(F:Int))));have HBS:=Za (eM (eM (eM (eM (eM HB3.out hge 0 (.int .i64 kk)) hge 1 (.string (aB xx))) hge 2 (.int .i64 nn)) hge 3 (.int .i64 0)) hge 3 (.int .i64 ((n:Int)+(F:Int))));have hbo:(Value.slice oa done.length oc).ownBlock≠some w1.heap.size:=fun e=>by have:=(HOB.out _ e).2;omega
   have HBO:=Za hbo;have HOS:=Za (jX (jX (jX (jX (jX HOWN3.out hbo 0 (.int .i64 kk)) hbo 1 (.string (aB xx))) hbo 2 (.int .i64 nn)) hbo 3 (.int .i64 0)) hbo 3 (.int .i64 ((n:Int)+(F:Int))));obtain⟨W,hW⟩:∃W,(((((w3.setCell ⟨w1.heap.size,0,none⟩ (.int .i64 kk)).setCell ⟨w1.heap.size,1,none⟩ (.string (aB xx))).setCell ⟨w1.heap.size,2,none⟩ (.int .i64 nn)).setCell ⟨w1.heap.size,3,none⟩ (.int .i64 0)).setCell ⟨w1.heap.size,3,none⟩ (.int .i64 ((n:Int)+(F:Int))))=W:=⟨_,rfl⟩;rw[hW]at HS HBS HOS ⊢;clear hW q0 f0 q1 f1 q2 f2 q3 f3 ql hbo;have hbA:Below W.heap.size W (W.alloc (.cells #[.int .i64 kk,.string (aB xx),.int .i64 nn,.int .i64 ((n:Int)+(F:Int))] 50)):=bA;have HS2:=Za (HS.out.old hbA);have HB5:=Za (HBS.out.trans (hbA.mono HBS.out.size));have HOWN5:=Za (ij HOS.out hbA);have HNEW:=Za (Zg W [.int .i64 kk,.string (aB xx),.int .i64 nn,.int .i64 ((n:Int)+(F:Int))] 50);have c0:=HS.out.at 0 _ rfl;have c1:=HS.out.at 1 _ rfl;have c2:=HS.out.at 2 _ rfl;have c3:=HS.out.at 3 _ rfl;have cl:=HS.out.lt;clear hbA;go_wp2_with (at_builtin;(refine wpList_append_lies (P:=Ze) _ rfl _ _ 46 rfl w.heap.size 50 i0 _ 4 40 Tryz.underlying46 HI0.out HZ0.out HZ1.out HZ2.out rfl (by decide) (.slice oa done.length oc) done.length (done.flatMap fo) rfl HOWN5.out ⟨W.heap.size,0,none⟩ 1 1 (fo ⟨kk,xx,nn,(n:Int)+(F:Int)⟩) rfl rfl HNEW.out.news (mL _) (by decide) (by unfold maxLen;omega) (by omega) (by have:=HB5.out.size;exact this) _ rfl ?_;intro g cap w11 hown hgrow hat hlt11;have HB11:=Za (mM HB5.out hgrow (fun k e=>(HOB.out k e).1) HB5.out.size);have HS11:=Za (e7.snoc ⟨kk,xx,nn,(n:Int)+(F:Int)⟩ hown);have y1:=(HS2.out.grow hgrow HBO.out).at 1 _ rfl;have yl:=(HS2.out.grow hgrow HBO.out).lt;clear hown hgrow hat))
   have hxd:=HXD.out _ hrl.symm;rw[hxd];go_roundw
   case rel=>
    refine⟨i.b,i.l,n+F,l,done++[⟨kk,xx,nn,((n+F:Nat):Int)⟩],q',rfl,by rw[←HN.out],HQ'.out.symm,?_,HGI.out,HIL.out,HA.out,HE.out,by rw[Zd,List.length_singleton];omega,by omega,HB11.out⟩;have hs:=HS11.out;rw[HN.out]at hs;exact hs
   case measure=>show q'.length<q1.length;omega
theorem vJ(a:Bs)(ha:g9 a=true)(hl:a.length=1)(w:World):
  Calls Ze 94 #[.string (aB a)] w fun e w'=>e= .returned (.tuple #[eQ 4 a 0 0,.bool true])∧Below w.heap.size w w':=by
 have hx1:(aB a).extract 0 1=aB a:=by
  have:=fL a [];rw[hl,List.append_nil]at this;exact this
 have hz1:a.length=1:=hl;have hm:min (2:Int) (a.length:Int)=1:=by omega
 have hzI:(a.length:Int)=1:=by omega
 rcases ej ha with rfl|rfl|rfl|rfl|rfl|rfl|rfl|rfl|rfl|rfl|rfl|rfl|rfl|rfl|rfl|rfl|rfl|rfl|rfl|rfl|rfl|rfl|rfl|rfl|rfl|rfl|rfl
 iterate 6 (simp at hl)
 all_goals
  clear ha hl hz1 hzI hm;have hm:min (2:Int) 1=1:=by decide
  go_enter Tryz.func94,Tryz.ntmps94
  go_wp2_with fail
  refine wp_loop_rounds 1 ?_;rw[rounds_succ];go_wp2_with fail
  exact bodyPost_ret (v:= .tuple #[eQ 4 _ 0 0,.bool true]) (by simp [results,Tryz.results94,go_sem,eQ]) rfl ⟨rfl,bA⟩
def iz(k:Int):Bs→Bool
 |[]=>true
 |c::_=>decide (c.toNat<128) && (if k=4 then !(c==61) && !(c==60) && !(c==62) && !(c==47)else if k=3 then !(da (c.toNat:Nat))else !(gO (c.toNat:Nat)))
theorem gQ.noComm {x:Bs}{k n:Int}(h:gQ x k n){r:Bs}(hs:iz k r=true):Zc (x++r) [47,47]=false:=by
 have key:∀(c:UInt8) (t:Bs),c≠47→Zc (c::t) [47,47]=false:=fun c t hc=>by
  have h1:((47:UInt8)==c)=false:=by rw[beq_eq_false_iff_ne];exact fun e=>hc e.symm
  show([47,47]:List UInt8).isPrefixOf (c::t)=false
  rw[Zh,h1];rfl
 cases h with
 |name x hx hk c t hc hl ha=>rw[hc,Zf];exact key _ _ (by rintro rfl;simp [bi]at hl)
 |word x hk c t hc hl ha=>rw[hc,Zf];exact key _ _ (by rintro rfl;simp [bi]at hl)
 |num u hu hi c t hc hd=>rw[hc,Zf];exact key _ _ (by rintro rfl;simp [cF]at hd)
 |quote q y=>exact key 39 (y++[39]++r) (by decide)
 |sign x hs' c t hc h7 hn=>
  have key2:Zc ([47]++r) [47,47]=false:=by
   cases r with
   |nil=>rfl
   |cons b r=>
    have hne:b≠47:=by rintro rfl;simp [iz]at hs
    have h1:((47:UInt8)==b)=false:=by rw[beq_eq_false_iff_ne];exact fun e=>hne e.symm
    show([47,47]:List UInt8).isPrefixOf (47::b::r)=false
    rw[Zh,Zh,h1];rfl
  rcases ej hs' with rfl|rfl|rfl|rfl|rfl|rfl|rfl|rfl|rfl|rfl|rfl|rfl|rfl|rfl|rfl|rfl|rfl|rfl|rfl|rfl|rfl|rfl|rfl|rfl|rfl|rfl|rfl<;>first|exact key2|(rw[Zf];exact key _ _ (by decide))
theorem sd {x:Bs}{k n:Int}(h:gQ x k n)(hq:k=3→∀r,x≠39::r){r:Bs}(hs:iz k r=true):x8 x k n r:=by
 refine⟨h.ends _,h.noComm hs,h.ne,fun w hz hl=> ?_⟩;have hw:k=1∨k=2→eu gO r:=by
  intro hk
  cases r with
  |nil=>exact .inl rfl
  |cons c r=>
   rcases hk with rfl|rfl<;>simp [iz]at hs<;>exact .inr ⟨c,r,rfl,hs.1,hs.2⟩
 have hd:k=3→eu da r:=by
  rintro rfl
  cases r with
  |nil=>exact .inl rfl
  |cons c r=>simp [iz]at hs;exact .inr ⟨c,r,rfl,hs.1,hs.2⟩
 cases h with
 |name x hx hk c t hc hll ha=>
  have hT:=fun w1 (_:Below w.heap.size w w1)=>pT x r ha (hw (.inl rfl)) hk hx w1
  rw[hc]at hT ⊢;exact iw c (t++r) hll (fX hll) 1 (c::t) 0 w hT
 |word x hk c t hc hll ha=>
  have hT:=fun w1 (_:Below w.heap.size w w1)=>ox x r ha (hw (.inr rfl)) hk w1
  rw[hc]at hT ⊢;exact iw c (t++r) hll (fX hll) 2 (c::t) 0 w hT
 |num u hu hi c t hc hdd=>
  have hT:=fun w1 (hb1:Below w.heap.size w w1)=>mc u r hu hi (hd rfl) w1 (hl.old hb1).lt (hl.old hb1).pow
  rw[hc]at hT ⊢;exact lN c (t++r) hdd (jV hdd) 3 (c::t) u w hT
 |quote q y hr1 hr2 hr3 hr4 hr5 hx hdq=>exact absurd rfl (hq rfl (y++[39]))
 |sign x hs' c t hc h7 hn=>
  cases r with
  |nil=>
   rw[List.append_nil]at hz ⊢
   by_cases h1:x.length=1
   ·have hT:=fun w1 (_:Below w.heap.size w w1)=>vJ x hs' h1 w1
    rw[hc]at hT ⊢;exact jE c t hn h7 4 (c::t) 0 w hT
   ·have hT:=fun w1 (_:Below w.heap.size w w1)=>lZ x [] hs' (fun e=>absurd e h1) w1
    rw[List.append_nil]at hT;rw[hc]at hT ⊢;exact jE c t hn h7 4 (c::t) 0 w hT
  |cons b r=>
   have hT:=fun w1 (_:Below w.heap.size w w1)=>lZ x (b::r) hs' (fun _=>⟨b,r,rfl,by simp [iz]at hs;simp [hs],by simp [iz]at hs;simp [hs],by simp [iz]at hs;simp [hs]⟩) w1
   rw[hc]at hT ⊢;exact jE c (t++b::r) hn h7 4 (c::t) 0 w hT
end Go.Proofs.YtcfpfnoldgnloaaGreatDoor
