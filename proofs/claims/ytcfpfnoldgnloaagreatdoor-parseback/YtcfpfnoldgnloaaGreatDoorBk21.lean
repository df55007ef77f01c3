/-
  ParseBack: for every input the law returns true, and its arguments read afterwards as before: the row, the card. Condition: the tables that the row lists are laid as the program's text lays them.
-/
import Derived.Test.YtcfpfnoldgnloaaGreatDoorBk20
import Derived.Test.YtcfpfnoldgnloaaGreatDoorBk09
import Derived.Test.YtcfpfnoldgnloaaGreatDoorCards
import Derived.Test.YtcfpfnoldgnloaaGreatDoorTie
set_option linter.unusedVariables false
set_option linter.unusedSimpArgs false
namespace Go.Proofs.YtcfpfnoldgnloaaGreatDoor
open Go.RowKit
set_option maxHeartbeats 20000000
set_option maxRecDepth 100000
open Go.Lib renaming hid→Za
open Bn renaming old→Zb
def Ve(la:List Ex):Prop:= ∀(lb:List Ex) (D:Nat→Prop) (va vb:Value) (w:World),Ag D w la va→Ag D w lb vb→
 Calls Tryz.prog 17 #[va,vb] w fun e w'=>e= .returned (.bool (Du la lb))∧∃n,w'=w.drewN n
theorem Ag.drewN {D:Nat→Prop}{w:World}{l:List Ex}{v:Value}(h:Ag D w l v)(n:Nat):Ag D (w.drewN n) l v:=Ag.keep (w:=w) (w':=w.drewN n) (fun _ _ _ _ hx=>hx) h
theorem cH(x y:Ex):Dm x y=(x.kind==y.kind && x.op==y.op && x.n==y.n && x.name==y.name && Du x.args y.args):=by
 cases x;cases y;rw[Dm];rfl
theorem lG(x y:Ex):(Dm x y=false∧(x.kind !=y.kind)=true)∨(Dm x y=false∧(x.kind !=y.kind)=false∧(x.op !=y.op)=true)∨(Dm x y=false∧(x.kind !=y.kind)=false∧(x.op !=y.op)=false∧(x.n !=y.n)=true)
  ∨(Dm x y=false∧(x.kind !=y.kind)=false∧(x.op !=y.op)=false∧(x.n !=y.n)=false∧(x.name==y.name)=false)
  ∨(Dm x y=false∧(x.kind !=y.kind)=false∧(x.op !=y.op)=false∧(x.n !=y.n)=false∧(x.name==y.name)=true∧Du x.args y.args=false)
  ∨(Dm x y=true∧(x.kind !=y.kind)=false∧(x.op !=y.op)=false∧(x.n !=y.n)=false∧(x.name==y.name)=true∧Du x.args y.args=true):=by
 rw[cH];simp only[bne]
 cases x.kind==y.kind<;>cases x.op==y.op<;>cases x.n==y.n<;>cases x.name==y.name<;>cases Du x.args y.args<;>simp
theorem qK(la:List Ex)(ih:∀x,x∈la→Ve x.args):Ve la:=by
 intro lb D va vb w ha hb;obtain⟨a1,a2,rfl⟩:=ha.shape;obtain⟨b1,b2,rfl⟩:=hb.shape;have l63:=ha.fits.lt;have m63:=hb.fits.lt;rw[Mb]
 by_cases hl:lb.length=la.length
 ·rw[hl]at hb ⊢
  have HA:=Za ha;have HB:=Za hb;have IH:=Za ih;have HL:=Za hl;clear ha hb ih hl m63;go_enter Tryz.func17,Tryz.ntmps17
  go_wp2_with fail
  go_loopw [5] (fun s5 wr=> ∃k:Nat,k≤la.length∧s5= .int .i64 k∧(∀i,i<k→Dm (la.getD i Ex.nil) (lb.getD i Ex.nil)=true)∧∃n,wr=w.drewN n) (fun s5 _=>la.length - (intOf s5).toNat)
  case atStart=>exact⟨0,Nat.zero_le _,rfl,fun i hi=>by omega,0,rfl⟩
  case round=>
   obtain⟨k,hk,rfl,hno,hn⟩:=hrel;have HNO:=Za hno;have HN:=Za hn;have HAW:Hid (Ag D wr la (.slice a1 la.length a2)):=by obtain⟨n,rfl⟩:=hn;exact HA.out.drewN n
   have HBW:Hid (Ag D wr lb (.slice b1 la.length b2)):=by obtain⟨n,rfl⟩:=hn;exact HB.out.drewN n
   clear hno hn
   by_cases hlt:k<la.length
   ·obtain⟨xab,xao,xas,rfl,xaD,a0,a1,a2,a3,a4,ah,an⟩:=Ag.cellAt HAW.out k hlt
    obtain⟨xbb,xbo,xbs,rfl,xbD,b0,b1,b2,b3,b4,bh,bn⟩:=Ag.cellAt HBW.out k (by rw[HL.out];exact hlt);obtain⟨a5,a6,rfl⟩:=ah.shape;obtain⟨b5,b6,rfl⟩:=bh.shape;have HAH:=Za ah;have HBH:=Za bh;clear ah bh an bn xaD xbD HAW HBW;have IHX:=Za (IH.out _ (Cs hlt));have HKL:=Za hlt;have hc:=lG (Bw la k) (Bw lb k);generalize hxe:Bw la k=xa at*;generalize hye:Bw lb k=xb at*;have HXE:=Za hxe;have HYE:=Za hye;clear hxe hye;have HC:=Za hc;clear hc;have i0:(0:Int)≤(k:Int):=by omega
    have i1:(k:Int)<(la.length:Int):=by omega
    have HCALL:Hid (∀m,Calls Tryz.prog 17 #[.slice a5 xa.args.length a6,.slice b5 xb.args.length b6] (wr.drewN m) fun e w'=>e= .returned (.bool (Du xa.args xb.args))∧∃n,w'=(wr.drewN m).drewN n):=fun m=>IHX.out _ D _ _ _ (HAH.out.drewN m) (HBH.out.drewN m)
    generalize Du xa.args xb.args=qq at*;go_wp2_with fail
    go_quiet ((go_at_call 17;exact Calls.quiet_of (HCALL.out _)))
    have HC2:=Za HC.out;rcases HC2.out with⟨e,h1⟩|⟨e,h1,h2⟩|⟨e,h1,h2,h3⟩|⟨e,h1,h2,h3,h4⟩|⟨e,h1,h2,h3,h4,rfl⟩|⟨e,h1,h2,h3,h4,rfl⟩
    all_goals
     have HE:Hid (Dm (Bw la k) (Bw lb k)=Dm xa xb):=by show _=_;rw[HXE.out,HYE.out]
     have HE2:=Za e;clear HC HC2 e;go_wp2_with fail
     go_quiet (fail)
     go_wp2_with fail
    iterate 5
     ·go_ret
      obtain⟨n0,hn0⟩:=HN.out;exact⟨Ao (Gq Dm Ex.nil la lb k HL.out.symm HKL.out (HE.out.trans HE2.out)).symm,_,by rw[hn0,World.drewN_drewN,World.drewN_drewN]⟩
    ·go_roundw
     case rel=>exact⟨k+1,by omega,by go_num,fun i hi=>by rcases Nat.lt_succ_iff_lt_or_eq.1 hi with h|rfl;exact HNO.out i h;exact HE.out.trans HE2.out,by obtain⟨n0,hn0⟩:=HN.out;exact⟨_,by rw[hn0,World.drewN_drewN]⟩⟩
     case measure=>simp [intOf];omega
   ·go_wp2_with fail
    go_ret
    exact⟨Ao (Hu Dm Ex.nil la lb HL.out.symm (fun i hi=>HNO.out i (by omega))).symm,HN.out⟩
 ·have hne:((la.length:Int) !=(lb.length:Int))=true:=by rw[bne_iff_ne];omega
  have E:Hid (Bz Dm la lb=false):=Iu _ _ _ (by omega);clear ha hb ih hl;go_enter Tryz.func17,Tryz.ntmps17
  go_wp2_with fail
  go_ret
  exact⟨Ao E.out.symm,0,rfl⟩
theorem kU:∀(n:Nat) (l:List Ex),SizeOf.sizeOf l≤n→Ve l
 |0,l,h=>by cases l<;>simp at h
 |n+1,l,h=>qK l fun x hx=>kU n x.args (by
  have h1:=List.sizeOf_lt_of_mem hx
  cases x with
  |mk k o m nm args=>show SizeOf.sizeOf args≤n;simp at h1;omega)
theorem ref_any(l:List Ex):Ve l:=kU _ l (Nat.le_refl _)
theorem nY(raw0:List Int)(rv:Value)(free:Bool)(w:World)(hr:Hq (· <w.heap.size) w raw0 rv)(hl:Io w):
  Calls Tryz.prog 10 #[rv,.bool free] w fun e w'=>e= .returned (.bool true)∧Below w.heap.size w w':=by
 have HL:=Za hl;have HRA:=Za hr;clear hl hr;go_enter Tryz.func10,Tryz.ntmps10
 go_wp2_with fail
 refine(iZ w HL.out).mono ?_;rintro e w1 ⟨rfl,hb1⟩;have HB1:=Za hb1;have HR1:=Za (Hq.old hb1 HRA.out);have HL1:=Za (HL.out.old hb1);clear hb1 HRA;go_wp2_with fail
 refine(pJ raw0 free rv w1 HR1.out).mono ?_;rintro e w2 ⟨va,vf,ds,rfl,hb2,ha2,hds,hd3,hf2⟩;have pr:=Nz raw0 free;have pl:Cp (Ey (Kr raw0 free)).length:=by have h1:=mT raw0 free;have h2:=sO;show _≤_;omega
 have pn:=mR (p:=Kr raw0 free) (Rm raw0 free).2.2;generalize Kr raw0 free=p at*;have hO2:=Ou.of ha2 hds hd3 hf2;have hpa:=hO2.ars;have hpf:=hO2.fus;obtain⟨a1,a2,rfl⟩:=hpa.yshape;obtain⟨f1,f2,rfl⟩:=hpf.yshape;have hal:Below w2.heap.size w2 (w2.alloc (.cells #[.slice a1 p.arrays.length a2,.slice f1 p.funcs.length f2] 34)):=bA;have hbb:=hb2.trans (hal.mono hb2.size);have HB3:=Za (HB1.out.trans (hbb.mono HB1.out.size));have HL3:=Za (HL1.out.old hbb);have HR3:=Za (Hq.old hbb HR1.out);have HOP:=Za (Ae.new w2 [.slice a1 p.arrays.length a2,.slice f1 p.funcs.length f2] 34);have hz:w2.heap.size≤(w2.alloc (.cells #[.slice a1 p.arrays.length a2,.slice f1 p.funcs.length f2] 34)).heap.size:=by simp
 have HPA:=Za ((hpa.old hal).mono (D':=(· <(w2.alloc (.cells #[.slice a1 p.arrays.length a2,.slice f1 p.funcs.length f2] 34)).heap.size)) (fun b hb=>Nat.lt_of_lt_of_le hb hz));have HPF:=Za ((Zb hal hpf).mono (D':=(· <(w2.alloc (.cells #[.slice a1 p.arrays.length a2,.slice f1 p.funcs.length f2] 34)).heap.size)) (fun b hb=>Nat.lt_of_lt_of_le hb hz));have PR:=Za pr;have PL:=Za pl;have PN:=Za pn;clear hb2 ha2 hds hd3 hf2 hO2 hpa hpf hal hbb hz pr pl pn HB1 HL1 HR1;go_upto_region 3 with(fail)
 generalize w2.alloc (.cells #[.slice a1 p.arrays.length a2,.slice f1 p.funcs.length f2] 34)=w3 at*;generalize w2.heap.size=pb at*;have p0:=HOP.out.at 0 _ rfl;have p1:=HOP.out.at 1 _ rfl;go_wp2_with fail
 refine(jP p _ _ w3 HL3.out.lt HL3.out.pow HPA.out HPF.out PR.out PN.out PL.out).mono ?_;rintro e w4 ⟨rfl,hb4⟩;have HB4:=Za (HB3.out.trans (hb4.mono HB3.out.size));have HL4:=Za (HL3.out.old hb4);have HR4:=Za (Hq.old hb4 HR3.out);have HOP4:=Za (HOP.out.old hb4);have HPA4:=Za ((HPA.out.old hb4).mono (D':=fun _=>True) (fun _ _=>trivial));have HPF4:=Za ((Zb hb4 HPF.out).mono (D':=fun _=>True) (fun _ _=>trivial));clear hb4 HB3 HL3 HR3 HOP HPA HPF PL PN p0 p1;have hS:Hid ((Aa (Ey p)).size=(Ey p).length):=by show(Ey p).toArray.size=_;simp
 have HPS:Hid (∀w,(Ey p).length≤20000→Io w→Calls Tryz.prog 14 #[.string (Aa (Ey p))] w fun e w'=>Below w.heap.size w w'∧∃aa ac fa fc,e= .returned (.tuple #[.agg #[.slice aa p.arrays.length ac,.slice fa p.funcs.length fc],.int .i64 0,.int .i64 0])∧Bt (fun _=>True) w' p.arrays (.slice aa p.arrays.length ac)∧Bn (fun _=>True) w' p.funcs (.slice fa p.funcs.length fc)):=Za fun w h hl=>ps_good PR.out HPF4.out h w hl
 generalize Aa (Ey p)=S at*;go_wp2_with fail
 refine(lE raw0 rv w4 HR4.out).mono ?_;rintro e w5 ⟨v,rfl,hb5,hx,hn5⟩;have hr:=Wm raw0;have hlen:=Xo raw0;clear HR4;generalize Mt raw0=X at*;obtain⟨sa,sc,rfl⟩:=hx.shape;have hwx:=jT X (by unfold Cz at hr;exact((Bool.and_eq_true _ _).mp hr).2);have h64:N64 X:=by
  have ha:=hx.n64;obtain⟨k,o,n,nm,args⟩:=X;exact .mk k o n nm args hn5 ha
 have hal:Below w5.heap.size w5 (w5.alloc (.cells #[.int .i64 X.kind,.int .i64 X.op,.int .i64 X.n,.string (Aa X.name),.slice sa X.args.length sc] 27)):=bA;have hbb:=hb5.trans (hal.mono hb5.size);have HO:=Za (Ae.new w5 [.int .i64 X.kind,.int .i64 X.op,.int .i64 X.n,.string (Aa X.name),.slice sa X.args.length sc] 27);have HB6:=Za (HB4.out.trans (hbb.mono HB4.out.size));have HL6:=Za (HL4.out.old hbb);have HOP6:=Za (HOP4.out.old hbb);have HPA6:=Za (HPA4.out.old hbb);have HPF6:=Za (Zb hbb HPF4.out);have hz:w5.heap.size≤(w5.alloc (.cells #[.int .i64 X.kind,.int .i64 X.op,.int .i64 X.n,.string (Aa X.name),.slice sa X.args.length sc] 27)).heap.size:=by simp
 have HX6:=Za ((hx.strong.keep (Bh hal)).mono (D':=(· <(w5.alloc (.cells #[.int .i64 X.kind,.int .i64 X.op,.int .i64 X.n,.string (Aa X.name),.slice sa X.args.length sc] 27)).heap.size)) (fun b hb=>Nat.lt_of_lt_of_le hb.2 hz));have HR:=Za hr;have HWX:=Za hwx;have H64:=Za h64;have HN2:=Za hn5;have HLN:=Za hlen;clear hb5 hal hbb hz hx hn5 hr hwx h64 hlen HB4 HL4 HOP4 HPA4 HPF4;go_upto_region 5 with(fail)
 generalize w5.alloc (.cells #[.int .i64 X.kind,.int .i64 X.op,.int .i64 X.n,.string (Aa X.name),.slice sa X.args.length sc] 27)=w6 at*;generalize w5.heap.size=xb at*;have x0:=HO.out.at 0 _ rfl;have x1:=HO.out.at 1 _ rfl;have x2:=HO.out.at 2 _ rfl;have x3:=HO.out.at 3 _ rfl;have x4:=HO.out.at 4 _ rfl;have hfit:Cp (Ah X).length:=by have:=HLN.out;show _≤_;omega
 have HF:=Za hfit;clear hfit;go_wp2_with fail
 refine(Vm X _ w6 HL6.out.lt HL6.out.pow HX6.out HN2.out HR.out HF.out).mono ?_;rintro e w7 ⟨rfl,hb7⟩;have HB7:=Za (HB6.out.trans (hb7.mono HB6.out.size));have HL7:=Za (HL6.out.old hb7);have HO7:=Za (HO.out.old hb7);have HOP7:=Za (HOP6.out.old hb7);have HPA7:=Za (HPA6.out.old hb7);have HPF7:=Za (Zb hb7 HPF6.out);have HX7:=Za ((HX6.out.old hb7).mono (D':=fun _=>True) (fun _ _=>trivial));have HPG:Hid (Calls Tryz.prog 13 #[.string (Aa (Ah X))] w7 fun e w'=>Below w7.heap.size w7 w'∧∃sa sc,e= .returned (.tuple #[.agg #[.int .i64 X.kind,.int .i64 X.op,.int .i64 X.n,.string (Aa X.name),.slice sa X.args.length sc],.int .i64 0,.int .i64 0])∧Ag (w7.heap.size≤ ·) w' X.args (.slice sa X.args.length sc)):=pn_good HR.out HWX.out H64.out 0 (by have:=HLN.out;show(Ah X).length≤20000;omega) w7 HL7.out;clear hb7 HB6 HL6 HO HOP6 HPA6 HPF6 HX6 HF x0 x1 x2 x3 x4 HR HWX H64 HLN;generalize Aa (Ah X)=SX at*;go_wp2_with fail
 refine HPG.out.mono ?_;rintro e w8 ⟨hb8,ya,yc,rfl,hy8⟩;have hal:Below w8.heap.size w8 (w8.alloc (.cells #[.int .i64 X.kind,.int .i64 X.op,.int .i64 X.n,.string (Aa X.name),.slice ya X.args.length yc] 27)):=bA;have hbb:=hb8.trans (hal.mono hb8.size);have HB9:=Za (HB7.out.trans (hbb.mono HB7.out.size));have HL9:=Za (HL7.out.old hbb);have HO9:=Za (HO7.out.old hbb);have HOP9:=Za (HOP7.out.old hbb);have HPA9:=Za (HPA7.out.old hbb);have HPF9:=Za (Zb hbb HPF7.out);have HX9:=Za (HX7.out.old hbb);have HOY:=Za (Ae.new w8 [.int .i64 X.kind,.int .i64 X.op,.int .i64 X.n,.string (Aa X.name),.slice ya X.args.length yc] 27);have HY:=Za ((hy8.old hal).mono (D':=fun _=>True) (fun _ _=>trivial));clear hb8 hal hbb hy8 HPG HB7 HL7 HO7 HOP7 HPA7 HPF7 HX7;go_upto_region 9 with(fail)
 generalize w8.alloc (.cells #[.int .i64 X.kind,.int .i64 X.op,.int .i64 X.n,.string (Aa X.name),.slice ya X.args.length yc] 27)=Y at*;generalize w8.heap.size=yb at*;have x0:=HO9.out.at 0 _ rfl;have x1:=HO9.out.at 1 _ rfl;have x2:=HO9.out.at 2 _ rfl;have x3:=HO9.out.at 3 _ rfl;have x4:=HO9.out.at 4 _ rfl;have y0:=HOY.out.at 0 _ rfl;have y1:=HOY.out.at 1 _ rfl;have y2:=HOY.out.at 2 _ rfl;have y3:=HOY.out.at 3 _ rfl;have y4:=HOY.out.at 4 _ rfl;have ul:=HO9.out.lt;have xl:=HOY.out.lt;have hm1:=Dh.new Y (Bb X (.slice sa X.args.length sc)) 27;have hbn:Below Y.heap.size Y ((Y.alloc (.cells (Bb X (.slice sa X.args.length sc)).toArray 27)).alloc (.cells (Bb X (.slice ya X.args.length yc)).toArray 27)):=(bA).alloc (by simp) _;have hm2:=Dh.new (Y.alloc (.cells (Bb X (.slice sa X.args.length sc)).toArray 27)) (Bb X (.slice ya X.args.length yc)) 27;have hbo:=(Below.refl (Y.alloc (.cells (Bb X (.slice sa X.args.length sc)).toArray 27)).heap.size (Y.alloc (.cells (Bb X (.slice sa X.args.length sc)).toArray 27))).alloc (Nat.le_refl _) (.cells (Bb X (.slice ya X.args.length yc)).toArray 27);rw[show(Y.alloc (.cells (Bb X (.slice sa X.args.length sc)).toArray 27)).heap.size=Y.heap.size+1 by simp]at hm2;have HD1:=Za (Ag.one (D:=fun _=>True) X _ trivial (hm1.below hbo) ((HX9.out.old hbn).mono (fun _ _=>trivial)) HN2.out);have HE1:=Za (Ag.one (D:=fun _=>True) X _ trivial hm2 ((HY.out.old hbn).mono (fun _ _=>trivial)) HN2.out);have HBN:=Za (HB9.out.trans (hbn.mono HB9.out.size))
 have HLN:=Za (HL9.out.old hbn);have HOPN:=Za (HOP9.out.old hbn);have HPAN:=Za (HPA9.out.old hbn);have HPFN:=Za (Zb hbn HPF9.out);clear hm1 hm2 hbn hbo HX9 HY HB9 HO9 HOY HL9 HOP9 HPA9 HPF9;go_wp2_with fail
 refine(ref_any [X] [X] (fun _=>True) _ _ _ HD1.out HE1.out).mono ?_;rw[(Mc [X] [X]).2 rfl];rintro e w11 ⟨rfl,m,rfl⟩;have hbd:=fun U:World=>cU (Below.refl U.heap.size U) m
 have HBX:=Za (cU HBN.out m);have HLX:=Za (HLN.out.old (hbd _));have HOPX:=Za (HOPN.out.old (hbd _));have HPAX:=Za (HPAN.out.old (hbd _));have HPFX:=Za (Zb (hbd _) HPFN.out);clear hbd HD1 HE1 x0 x1 x2 x3 x4 y0 y1 y2 y3 y4 ul xl HBN HLN HOPN HPAN HPFN;generalize World.drewN _ m=Z at*;have hsz:=hS.out
 by_cases hgt:S.size≤20000
 ·have hle:¬((S.size:Int)>20000):=by omega
  have hlt':¬((20000:Int)<(S.size:Int)):=by omega
  have hl20:(Ey p).length≤20000:=by omega
  have HQ:=Za (HPS.out Z hl20 HLX.out);clear hsz hl20 hgt HPS;go_wp2_with fail
  refine HQ.out.mono ?_;rintro e w12 ⟨hb12,qa,qc,ga,gc,rfl,hqa,hqf⟩;have hal:Below w12.heap.size w12 (w12.alloc (.cells #[.slice qa p.arrays.length qc,.slice ga p.funcs.length gc] 34)):=bA;have hbb:=hb12.trans (hal.mono hb12.size);have HBY:=Za (HBX.out.trans (hbb.mono HBX.out.size));have HOPY:=Za (HOPX.out.old hbb);have HPAY:=Za (HPAX.out.old hbb);have HPFY:=Za (Zb hbb HPFX.out);have HQA:=Za (hqa.old hal);have HQF:=Za (Zb hal hqf);have HOQ:=Za (Ae.new w12 [.slice qa p.arrays.length qc,.slice ga p.funcs.length gc] 34);clear hb12 hal hbb hqa hqf HQ HOPX HPAX HPFX HBX HLX;go_upto_region 14 with(fail)
  generalize w12.alloc (.cells #[.slice qa p.arrays.length qc,.slice ga p.funcs.length gc] 34)=V at*;generalize w12.heap.size=qb at*;have p0:=HOPY.out.at 0 _ rfl;have p1:=HOPY.out.at 1 _ rfl;have q0:=HOQ.out.at 0 _ rfl;have q1:=HOQ.out.at 1 _ rfl;have HS:=Za (pH p p (fun _=>True) _ _ _ _ V HPAY.out HPFY.out HQA.out HQF.out);clear HPAY HPFY HQA HQF HOPY HOQ;go_wp2_with fail
  refine HS.out.mono ?_;rw[(gB p p).2 rfl];rintro e w13 ⟨rfl,hb13⟩;have HB13:=Za (HBY.out.trans (hb13.mono HBY.out.size));clear hb13 HS p0 p1 q0 q1;go_wp2_with fail
  go_ret
  exact⟨rfl,HB13.out⟩
 ·have hle:((S.size:Int)>20000):=by omega
  have hlt':((20000:Int)<(S.size:Int)):=by omega
  clear hsz hgt HPS;go_wp2_with fail
  go_ret
  exact⟨rfl,HBX.out⟩
end Go.Proofs.YtcfpfnoldgnloaaGreatDoor
namespace Go.Proofs.YtcfpfnoldgnloaaGreatDoor.wParseBack
open Go.ChangeShapes Go.WideShapes Go.ChangeAt Go.RowKit
set_option maxRecDepth 100000
theorem own:ownKnob Tryz.prog.godebug=none:=by kernel_rfl
theorem rD(H:Type)(enc:TypeId ×Value→H)(W:World)(base:Nat)(args:Array Value)(ds gs:List (DataW H))(before:List MemPlace)
  (hval:∀(j:Nat) t v,Tryz.f10.params[j]? =some t→args[j]? =some v→Value.okWide Tryz.prog W .any base t v)
  (hW:DataW.Whole enc Tryz.prog Tryz.f10.params.toList Rows.parseBackSpec.vars false W args.toList ds gs before) (hsz:(DataW.weightsEach Tryz.prog (Tryz.f10.params.toList++(OpenSpec.ofChange Rows.parseBackSpec).bare.plain.varTypes Tryz.prog) (ds++gs)).all (· ≤reachBytes)=true) (hL:laidMetH Tryz.prog Rows.parseBackRow.laid W) (hsh:W.ShapedOpen Tryz.prog):
  Calls Tryz.prog 10 args W fun e W'=> ∃v,e= .returned v∧Rows.parseBackSpec.post enc Tryz.prog Tryz.f10 false true false false W args v W':=by
 have hT:=zlib_of hL hsh;have hW':=hW;obtain⟨p,q,hA0,hV,rfl,hfz,hnd⟩:=hW;have hA:DataW.TrodAll enc Tryz.prog W 0 (fun _=>true) true Tryz.f10.params.toList args.toList ds p:=hA0;rw[Tryz.params10]at hA hval hsz;obtain⟨x0,vs0,d0,ds0,p0,q0,hargs,rfl,rfl,h0,r0⟩:=trodAll_cons hA;obtain⟨x1,vs1,d1,ds1,p1,q1,e1,rfl,rfl,h1,r1⟩:=trodAll_cons r0;obtain⟨rfl,rfl,rfl⟩:=trodAll_nil r1;subst e1;obtain rfl:args= #[x0,x1]:=by cases args;simp_all
 obtain⟨rfl,rfl⟩:=trodVars_none hV;obtain⟨raw0,hraw0,again0⟩:=qG (hval 0 38 x0 rfl rfl) h0;obtain⟨b1,rfl,rfl,rfl⟩:=open_bool Tryz.underlying4 (hval 1 4 x1 rfl rfl) h1;clear hA0;refine(nY raw0 x0 b1 W hraw0 hT).mono fun e W' ⟨he,hb⟩=> ?_
 subst he;exact⟨_,rfl,iL (pa:=(p0++([]++[]))) (pv:=[]) hW' (fun _ _ _=>trodAll_cons_mk (shut_bool Tryz.underlying4 _) trodAll_mk0) (fun sp hsp=>trodAll_cons_mk (again0 W' sp true hb (fun q hq=>hsp q (by simp [hq]))) (trodAll_cons_mk (shut_bool Tryz.underlying4 _) (trodAll_mk0))) (fun _ _=>rfl) rfl
  hb (ok_one (by kernel_rfl) rfl (okWide_bool_mk Tryz.underlying4 _))⟩
def tab1:DataW Unit→List Value
 | .lit (.int k n)=>[.int k n]
 | .agg l=>l.map fun| .lit (.int k n)=>Value.int k n|_=>undef
 |_=>[undef]
def pA:DataW Unit→Array Value
 | .agg l=>(l.flatMap tab1).toArray
 |_=> #[]
def Uz:DataW Unit→Value
 | .iface _ (.ptr (.agg [.lit (.string b)]))=> .string ⟨b.toArray⟩
 |_=>undef
noncomputable def lowB:Nat:=(World.holding Tryz.prog default ⟨#[],#[],[]⟩).heap.size
noncomputable def Tg (os:Os):World:=
 let h0:=(World.holding Tryz.prog os ⟨#[.cells #[Uz Rows.laid_strconv_ErrRange] 234,.cells #[Uz Rows.laid_strconv_ErrSyntax] 234],#[],[]⟩).heap
 let lay (g:Nat) (d:DataW Unit) (h:Array Obj):Array Obj:=h.modify g fun
  | .cells _ t frozen=> .cells (pA d) t frozen
  |o=>o
 let err (g:Nat) (b:Nat) (h:Array Obj):Array Obj:=h.modify g fun
  | .cells _ t frozen=> .cells #[.iface 232 (.pointer (some ⟨b,0,none⟩))] t frozen
  |o=>o
 {World.holding Tryz.prog os ⟨#[.cells #[Uz Rows.laid_strconv_ErrRange] 234,.cells #[Uz Rows.laid_strconv_ErrSyntax] 234],#[],[]⟩with heap:=lay 6 Rows.laid_math_bits_deBruijn32tab (lay 7 Rows.laid_math_bits_deBruijn64tab (lay 3 Rows.laid_internal_strconv_uint64pow10 (lay 2 Rows.laid_unicode_utf8_acceptRanges (lay 1 Rows.laid_unicode_utf8_first (err 5 lowB (err 4 (lowB+1) h0))))))}
theorem sH(os:Os):laidMet Tryz.prog Rows.parseBackRow.laid ((Tg os).forCall (fun _ _=>0) ⟨#[],#[.slice none 0 0,.bool false],[]⟩).memory:=
 laidMet_of_run' 8 (by kernel_rfl) (by kernel_rfl)
theorem reads(os:Os){H:Type}(enc:TypeId ×Value→H):∃places,DataW.whole enc Tryz.prog ((Tg os).forCall (fun _ _=>0) ⟨#[],#[.slice none 0 0,.bool false],[]⟩).memory Tryz.f10.params.toList Rows.parseBackSpec.vars false ((#[.slice none 0 0,.bool false]:Array Value).toList) 8=some ([.nil,.lit (.bool false)],[],places):=
 ⟨[],by kernel_rfl⟩
theorem lifted(os:Os)(started:os.Started)(H:Type)(enc:TypeId ×Value→H)(F:Stop.Interp):
  ReturnsInHanded {} Tryz.checked os 10 .any ((OpenSpec.ofChange Rows.parseBackSpec).preRow enc Tryz.prog Tryz.f10 Rows.parseBackRow.domain false Rows.parseBackRow.laid) (((OpenSpec.ofChange Rows.parseBackSpec).at F).post enc Tryz.prog Tryz.f10 false true false false):=by
 obtain⟨places,hx⟩:=reads os enc;refine returnsInHanded_of_row (C:=Tryz.checked) (s:=OpenSpec.ofChange Rows.parseBackSpec) own started (by kernel_rfl) Tryz.func10
  (witness_row_at (enc:=enc) (C:=Tryz.checked) false (Tg os) #[.slice none 0 0,.bool false] rfl (by kernel_rfl) (by kernel_rfl) (by kernel_rfl)
   (OpenSpec.preRow_of_cond 8 hx (by kernel_rfl) (fun k hk=>by cases hk) (by kernel_rfl) (sH os))) ?_
 intro W base args ds gs before hval hW _ _ hsz hL hsh _;exact rD H enc W base args ds gs before hval hW hsz hL hsh
theorem said:Rows.ParseBackSaid:=
 OpenClaim.holds_of_cond 10 Tryz.f10 rfl rfl rfl rfl rfl rfl rfl ⟨rfl,rfl,rfl,rfl,rfl⟩ rfl rfl rfl rfl rfl (by kernel_rfl) Tryz.func10 (by kernel_rfl)
  (of_decide_eq_true (by kernel_rfl)) (by unfold Func.isWrapper;first|(rw[if_pos (by decide+kernel)];kernel_rfl)|(rw[if_neg (by decide+kernel)];exact⟨rfl,rfl⟩))
  (fun os started H enc _ F=>by rw[OpenClaim.pre_eq_preRow];exact lifted os started H enc F)
theorem plain(f:FuncId)(fn:Func)(hf:Tryz.pinned.checked.prog.funcNamed "counterproof/counterprooflaw04.ParseBack" =some f)(hfn:Tryz.pinned.checked.prog.funcs[f]? =some fn):
  true=Tryz.pinned.checked.prog.looks []∧∀(j:Nat) t,fn.params[j]? =some t→Tryz.pinned.checked.prog.wantsStandIn t=false:=by
 obtain rfl:f=10:=Option.some.inj ((show Tryz.prog.funcNamed "counterproof/counterprooflaw04.ParseBack" =some 10 by kernel_rfl).symm.trans hf)|>.symm;obtain rfl:fn=Tryz.f10:=(Option.some.inj (Tryz.func10.symm.trans hfn)).symm;refine⟨by kernel_rfl,fun j t ht=> ?_⟩;rw[Tryz.params10]at ht;have hm:=Array.mem_of_getElem? ht;simp only[List.mem_toArray,List.mem_cons,List.not_mem_nil,or_false]at hm;rcases hm with rfl|rfl
 ·exact(show Tryz.prog.wantsStandIn 38=false by kernel_rfl)
 ·exact(show Tryz.prog.wantsStandIn 4=false by kernel_rfl)
end Go.Proofs.YtcfpfnoldgnloaaGreatDoor.wParseBack
namespace Go.Proofs.YtcfpfnoldgnloaaGreatDoor
theorem parseBack_card:Rows.ParseBackCardSaid:=
 Claim7.holds_tied_plain_at .later [] _ _ _ _ wParseBack.said (fun _ h=>by cases h) (by kernel_rfl) (fun _ h=>by cases h) parseBack_row_tie rfl ⟨rfl,rfl⟩ (by kernel_rfl) rfl wParseBack.plain (by kernel_rfl)
#print axioms parseBack_card
end Go.Proofs.YtcfpfnoldgnloaaGreatDoor
