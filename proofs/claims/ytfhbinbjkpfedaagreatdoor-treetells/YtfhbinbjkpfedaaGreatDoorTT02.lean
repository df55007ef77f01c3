/-
  scope.expr and scope.call, at every depth. Conditions: the source and the scope lie in memory as the types say.
-/
import Derived.Test.YtfhbinbjkpfedaaGreatDoorTT01
import Derived.Deep.AppendLies
set_option linter.unusedVariables false
set_option linter.unusedSimpArgs false
namespace Go.Proofs.YtfhbinbjkpfedaaGreatDoor
open Go.RowKit Go.Proofs.Tryz
set_option maxHeartbeats 20000000
set_option maxRecDepth 100000
open Go.Lib renaming hid→Za
open Go.Proofs.Tryz renaming prog→Zb,results27→Zf
open SFr renaming of_below→Zc
open Nat renaming le_trans→Zd
open Al renaming new→Ze
open World renaming cell?_of_block→Zg,block_lt_of_cell?→Zh
theorem aC {d s:Nat}{raw:List Int}{sc:Sc}{v1:Option Addr}{v2:Nat}{a1:Option Addr}{a2:Nat}{f1:Option Addr}{f2:Nat}{ga:Nat}{k:Int}{w w2:World}(hd:2≤d)(h:GeH d s raw sc v1 v2 a1 a2 f1 f2 ga k w w2)(hT:7≤k∨(k=5∧sc.hasArrays=false)∨(k=6∧sc.hasFuncs=false))(ih:Hh (d-1)):GeG d s raw sc v1 v2 a1 a2 f1 f2 k w w2 (Eg sc raw (Az sc raw (d-1)) k ga):=by
 obtain⟨hd1,lv,la,lf,hsl,hsc,hS2,hF2,hR2,hC2,g0,g1⟩:=h;have HSC:=Za hsc;have HS2:=Za hS2;have HF2:=Za hF2;have HR2:=Za hR2;have HC2:=Za hC2;have HZ:Hid (w.heap.size+1≠s):=by show _≠_;omega
 have HY:Hid (w.heap.size≠s):=by show _≠_;omega
 have hsx:s<w.heap.size+1:=by omega
 have hge:w.heap.size≤w.heap.size+1:=by omega
 have hd0:(0:Int)≤(d:Int):=by omega
 have hdI:(2:Int)≤(d:Int):=by omega
 have hdM:(d:Int)≤1000:=by omega
 clear hsc hS2 hF2 hR2 hC2;have E:Eg sc raw (Az sc raw (d-1)) k ga=(.mk 4 (1+(Ad raw ga 16).1) 0 [] [(Az sc raw (d-1) (Ad raw ga 16).2).1,(Az sc raw (d-1) (Az sc raw (d-1) (Ad raw ga 16).2).2).1],(Az sc raw (d-1) (Az sc raw (d-1) (Ad raw ga 16).2).2).2):=by
  unfold Eg;rw[if_neg (by omega),if_neg (by omega),if_neg (by omega),if_neg (by omega),if_neg (by rintro⟨h1,h2⟩;rcases hT with h|⟨h,h'⟩|⟨h,h'⟩<;>first|omega|(rw[h']at h2;cases h2)),if_neg (by rintro⟨h1,h2⟩;rcases hT with h|⟨h,h'⟩|⟨h,h'⟩<;>first|omega|(rw[h']at h2;cases h2))]
 rw[E];clear E;have HN:Hid (∀w1,As w1 s raw ga→Calls Zb 24 #[.pointer (some ⟨s,0,none⟩),.int .i64 16] w1 (Dr w1 s raw (.int .i64 (Ad raw ga 16).1) (Ad raw ga 16).2)):=fun w1 h1=>Bn s raw ga 16 w1 h1 (by decide) (by decide)
 have qr:=Ak raw ga 16 (by decide);generalize Ad raw ga 16=q at*;obtain⟨q,qa⟩:=q;dsimp only at*;have HDM:Hid (((d-1:Nat):Int)=(d:Int)-1):=by show _=_;omega
 have HIH:Hid (∀w1 b,As w1 s raw b→Ec s w1 sc (.slice v1 sc.vars.length v2) (.slice a1 sc.arrays.length a2) (.slice f1 sc.funcs.length f2)→Calls Zb 27 #[scV sc (.slice v1 sc.vars.length v2) (.slice a1 sc.arrays.length a2) (.slice f1 sc.funcs.length f2),.pointer (some ⟨s,0,none⟩),.int .i64 ((d:Int)-1)] w1 (El w1 s raw (Az sc raw (d-1) b))):=fun w1 b h1 h2=>by have q:=ih s raw b sc _ _ _ w1 h1 h2;rw[HDM.o]at q;exact q
 obtain⟨q0,q1⟩:=qr;unfold GeG;intros
 conv=>arg 2;whnf
 rcases hT with h7|⟨rfl,hA⟩|⟨rfl,hA⟩
 ·have t1:(k==1)=false:=beq_eq_false_iff_ne.2 (by omega)
  have t2:(k==2)=false:=beq_eq_false_iff_ne.2 (by omega);have t3:(k==3)=false:=beq_eq_false_iff_ne.2 (by omega);have t4:(k==4)=false:=beq_eq_false_iff_ne.2 (by omega);have t5:(k==5)=false:=beq_eq_false_iff_ne.2 (by omega);have t6:(k==6)=false:=beq_eq_false_iff_ne.2 (by omega);have b0:=HC2.o.at 0 _ rfl;have b1:=HC2.o.at 1 _ rfl;have b2:=HC2.o.at 2 _ rfl;have b3:=HC2.o.at 3 _ rfl;have b4:=HC2.o.at 4 _ rfl;go_wp2_with fail
  refine(HN.o _ HS2.o).mono ?_;rintro r w3 ⟨rfl,hs3,hf3⟩;have HS3:=Za hs3;have HF3:=Za (HF2.o.trans hf3);have HR3:=Za (HR2.o.sfr hf3 HZ.o);have HC3:=Za (HC2.o.sfr hf3 HY.o);clear hs3 hf3;clear b0 b1 b2 b3 b4;have b0:=HC3.o.at 0 _ rfl;have b1:=HC3.o.at 1 _ rfl;have b2:=HC3.o.at 2 _ rfl;have b3:=HC3.o.at 3 _ rfl;have b4:=HC3.o.at 4 _ rfl;go_wp2_with fail
  refine(HIH.o _ qa HS3.o (HSC.o.sfr HF3.o)).mono ?_;generalize Az sc raw (d-1) qa=x at*;obtain⟨x,xa⟩:=x;rintro r w4 ⟨xv,rfl,hs4,hf4,hx4,hn4⟩;obtain⟨xs,xc,rfl⟩:=hx4.shape;dsimp only at hs4 hx4 hn4 ⊢;have HS4:=Za hs4;have HF4:=Za (HF3.o.trans hf4);have HR4:=Za (HR3.o.sfr hf4 HZ.o);have HC4:=Za (HC3.o.sfr hf4 HY.o);have hg4:w.heap.size+2≤w3.heap.size:=by have:=HR3.o.lt;omega
  have Hx:=Za (hx4.mono (D':=(w.heap.size+2≤ ·)) (fun b h=>Zd hg4 h));have HNx:=Za hn4;have HFJ4:=Za hf4;clear hs4 hf4 hx4 hn4;clear b0 b1 b2 b3 b4;have hw5:Below w4.heap.size w4 (w4.alloc (.cells #[.int .i64 x.kind,.int .i64 x.op,.int .i64 x.n,.string (Aa x.name),.slice xs x.args.length xc] 31)):=bA;have HS5:=Za (HS4.o.old hw5);have HF5:=Za (HF4.o.trans (Zc hw5));have HR5:=Za (HR4.o.old hw5);have HC5:=Za (HC4.o.old hw5);have HP5:=Za (Ze w4 [.int .i64 x.kind,.int .i64 x.op,.int .i64 x.n,.string (Aa x.name),.slice xs x.args.length xc] 31);have Hx5:=Za (Hx.out.old hw5);have hz5:w4.heap.size≠s:=by have:=HS4.o.lt;omega
  have hu5:w4.heap.size<(w4.alloc (.cells #[.int .i64 x.kind,.int .i64 x.op,.int .i64 x.n,.string (Aa x.name),.slice xs x.args.length xc] 31)).heap.size:=by simp
  clear hw5;have b0:=HC5.o.at 0 _ rfl;have b1:=HC5.o.at 1 _ rfl;have b2:=HC5.o.at 2 _ rfl;have b3:=HC5.o.at 3 _ rfl;have b4:=HC5.o.at 4 _ rfl;go_wp2_with fail
  generalize w4.alloc (.cells #[.int .i64 x.kind,.int .i64 x.op,.int .i64 x.n,.string (Aa x.name),.slice xs x.args.length xc] 31)=w5 at*;refine(HIH.o _ xa HS5.o (HSC.o.sfr HF5.o)).mono ?_;generalize Az sc raw (d-1) xa=y at*;obtain⟨y,ya⟩:=y;rintro r w6 ⟨yv,rfl,hs6,hf6,hx6,hn6⟩;obtain⟨ys,yc,rfl⟩:=hx6.shape;dsimp only at hs6 hx6 hn6 ⊢;have HS6:=Za hs6;have HF6:=Za (HF5.o.trans hf6);have HR6:=Za (HR5.o.sfr hf6 HZ.o);have HC6:=Za (HC5.o.sfr hf6 HY.o);have hg6:w.heap.size+2≤w5.heap.size:=by have:=HR5.o.lt;omega
  have Hy:=Za (hx6.mono (D':=(w.heap.size+2≤ ·)) (fun b h=>Zd hg6 h));have HNy:=Za hn6;have HFJ6:=Za hf6;clear hs6 hf6 hx6 hn6;clear b0 b1 b2 b3 b4;have HP6:=Za (HP5.o.sfr HFJ6.o hz5);have hxk:Fe (w.heap.size+2≤ ·) w5 w6:=HFJ6.o.fresh (by omega);have Hx6:=Za (Hx5.out.keep hxk);clear hxk;have hw7:Below w6.heap.size w6 (w6.alloc (.cells #[.int .i64 y.kind,.int .i64 y.op,.int .i64 y.n,.string (Aa y.name),.slice ys y.args.length yc] 31)):=bA;have HS7:=Za (HS6.o.old hw7);have HF7:=Za (HF6.o.trans (Zc hw7));have HR7:=Za (HR6.o.old hw7);have HC7:=Za (HC6.o.old hw7);have HQ7:=Za (Ze w6 [.int .i64 y.kind,.int .i64 y.op,.int .i64 y.n,.string (Aa y.name),.slice ys y.args.length yc] 31);have Hy7:=Za (Hy.out.old hw7);have hz7:w6.heap.size≠s:=by have:=HS6.o.lt;omega
  have hu7:w6.heap.size<(w6.alloc (.cells #[.int .i64 y.kind,.int .i64 y.op,.int .i64 y.n,.string (Aa y.name),.slice ys y.args.length yc] 31)).heap.size:=by simp
  clear hw7;have hw7:Below w6.heap.size w6 (w6.alloc (.cells #[.int .i64 y.kind,.int .i64 y.op,.int .i64 y.n,.string (Aa y.name),.slice ys y.args.length yc] 31)):=bA;have Hx7:=Za (Hx6.out.old hw7);have HP7:=Za (HP6.o.old hw7);clear hw7;have p0:=HP7.o.at 0 _ rfl;have p1:=HP7.o.at 1 _ rfl;have p2:=HP7.o.at 2 _ rfl;have p3:=HP7.o.at 3 _ rfl;have p4:=HP7.o.at 4 _ rfl;have hB:w.heap.size+1<w.heap.size+2:=by omega
  have hw8:Below (w6.alloc (.cells #[.int .i64 y.kind,.int .i64 y.op,.int .i64 y.n,.string (Aa y.name),.slice ys y.args.length yc] 31)).heap.size (w6.alloc (.cells #[.int .i64 y.kind,.int .i64 y.op,.int .i64 y.n,.string (Aa y.name),.slice ys y.args.length yc] 31)) ((w6.alloc (.cells #[.int .i64 y.kind,.int .i64 y.op,.int .i64 y.n,.string (Aa y.name),.slice ys y.args.length yc] 31)).alloc (.cells #[.int .i64 x.kind,.int .i64 x.op,.int .i64 x.n,.string (Aa x.name),.slice xs x.args.length xc,.int .i64 y.kind,.int .i64 y.op,.int .i64 y.n,.string (Aa y.name),.slice ys y.args.length yc] 31)):=bA;have HS8:=Za (HS7.o.old hw8);have HF8:=Za (HF7.o.trans (Zc hw8));have HR8:=Za (HR7.o.old hw8);have HC8:=Za (HC7.o.old hw8);have hrow:=Bx.new (w6.alloc (.cells #[.int .i64 y.kind,.int .i64 y.op,.int .i64 y.n,.string (Aa y.name),.slice ys y.args.length yc] 31)) (Aq x (.slice xs x.args.length xc)++Aq y (.slice ys y.args.length yc)) 31;rw[show(w6.alloc (.cells #[.int .i64 y.kind,.int .i64 y.op,.int .i64 y.n,.string (Aa y.name),.slice ys y.args.length yc] 31)).heap.size=w6.heap.size+1 by simp]at hrow;have hrow:Bx ((w6.alloc (.cells #[.int .i64 y.kind,.int .i64 y.op,.int .i64 y.n,.string (Aa y.name),.slice ys y.args.length yc] 31)).alloc (.cells #[.int .i64 x.kind,.int .i64 x.op,.int .i64 x.n,.string (Aa x.name),.slice xs x.args.length xc,.int .i64 y.kind,.int .i64 y.op,.int .i64 y.n,.string (Aa y.name),.slice ys y.args.length yc] 31)) (w6.heap.size+1) 0 (Aq x (.slice xs x.args.length xc)++Aq y (.slice ys y.args.length yc)):=hrow
  have hlt:=HR6.o.lt;have HX8:Hid (Aj (w.heap.size+2≤ ·) ((w6.alloc (.cells #[.int .i64 y.kind,.int .i64 y.op,.int .i64 y.n,.string (Aa y.name),.slice ys y.args.length yc] 31)).alloc (.cells #[.int .i64 x.kind,.int .i64 x.op,.int .i64 x.n,.string (Aa x.name),.slice xs x.args.length xc,.int .i64 y.kind,.int .i64 y.op,.int .i64 y.n,.string (Aa y.name),.slice ys y.args.length yc] 31)) [x,y] (.slice (some ⟨w6.heap.size+1,0,none⟩) 2 2)):=.two x y _ _ (by show _≤_;omega) hrow (Hx7.out.old hw8) HNx.o (Hy7.out.old hw8) HNy.o;clear hw8 hrow hlt;have x0:=HR8.o.at 0 _ rfl;have x1:=HR8.o.at 1 _ rfl;have x2:=HR8.o.at 2 _ rfl;have x3:=HR8.o.at 3 _ rfl;have x4:=HR8.o.at 4 _ rfl;have fx0:=HR8.o.fz 0;have fx1:=HR8.o.fz 1;have fx2:=HR8.o.fz 2;have fx3:=HR8.o.fz 3;have fx4:=HR8.o.fz 4;have HRE:=Za (((((HR8.o.set 0 (.int .i64 4)).set 1 (.int .i64 (1+q))).set 2 (.int .i64 0)).set 3 (.string ⟨#[]⟩)).set 4 (.slice (some ⟨w6.heap.size+1,0,none⟩) 2 2));have HSE:=Za (((((HS8.o.other hsx 0 (.int .i64 4)).other hsx 1 (.int .i64 (1+q))).other hsx 2 (.int .i64 0)).other hsx 3 (.string ⟨#[]⟩)).other hsx 4 (.slice (some ⟨w6.heap.size+1,0,none⟩) 2 2));have HFE:=Za (((((HF8.o.setNew hge 0 (.int .i64 4)).setNew hge 1 (.int .i64 (1+q))).setNew hge 2 (.int .i64 0)).setNew hge 3 (.string ⟨#[]⟩)).setNew hge 4 (.slice (some ⟨w6.heap.size+1,0,none⟩) 2 2));go_wp2_with fail
  have d0:=HRE.o.at 0 _ rfl;have d1:=HRE.o.at 1 _ rfl;have d2:=HRE.o.at 2 _ rfl;have d3:=HRE.o.at 3 _ rfl;have d4:=HRE.o.at 4 _ rfl;exact bodyPost_ret (v:=.agg #[.int .i64 4,.int .i64 (1+q),.int .i64 0,.string ⟨#[]⟩,.slice (some ⟨w6.heap.size+1,0,none⟩) 2 2]) (by simp [results,Zf,go_sem,d0,d1,d2,d3,d4]) rfl ⟨.slice (some ⟨w6.heap.size+1,0,none⟩) 2 2,rfl,HSE.o,HFE.o,((((((HX8.o.keep (Bi _ hB 0 _)).keep (Bi _ hB 1 _)).keep (Bi _ hB 2 _)).keep (Bi _ hB 3 _)).keep (Bi _ hB 4 _)).mono (fun b h=>(Zd (by omega) h:w.heap.size≤b))),(Dw ⟨by show _≤(0:Int);decide,by show(0:Int)≤_;decide⟩)⟩
 ·skip
  have b0:=HC2.o.at 0 _ rfl;have b1:=HC2.o.at 1 _ rfl;have b2:=HC2.o.at 2 _ rfl;have b3:=HC2.o.at 3 _ rfl;have b4:=HC2.o.at 4 _ rfl;go_wp2_with fail
  refine(HN.o _ HS2.o).mono ?_;rintro r w3 ⟨rfl,hs3,hf3⟩;have HS3:=Za hs3;have HF3:=Za (HF2.o.trans hf3);have HR3:=Za (HR2.o.sfr hf3 HZ.o);have HC3:=Za (HC2.o.sfr hf3 HY.o);clear hs3 hf3;clear b0 b1 b2 b3 b4;have b0:=HC3.o.at 0 _ rfl;have b1:=HC3.o.at 1 _ rfl;have b2:=HC3.o.at 2 _ rfl;have b3:=HC3.o.at 3 _ rfl;have b4:=HC3.o.at 4 _ rfl;go_wp2_with fail
  refine(HIH.o _ qa HS3.o (HSC.o.sfr HF3.o)).mono ?_;generalize Az sc raw (d-1) qa=x at*;obtain⟨x,xa⟩:=x;rintro r w4 ⟨xv,rfl,hs4,hf4,hx4,hn4⟩;obtain⟨xs,xc,rfl⟩:=hx4.shape;dsimp only at hs4 hx4 hn4 ⊢;have HS4:=Za hs4;have HF4:=Za (HF3.o.trans hf4);have HR4:=Za (HR3.o.sfr hf4 HZ.o);have HC4:=Za (HC3.o.sfr hf4 HY.o);have hg4:w.heap.size+2≤w3.heap.size:=by have:=HR3.o.lt;omega
  have Hx:=Za (hx4.mono (D':=(w.heap.size+2≤ ·)) (fun b h=>Zd hg4 h));have HNx:=Za hn4;have HFJ4:=Za hf4;clear hs4 hf4 hx4 hn4;clear b0 b1 b2 b3 b4;have hw5:Below w4.heap.size w4 (w4.alloc (.cells #[.int .i64 x.kind,.int .i64 x.op,.int .i64 x.n,.string (Aa x.name),.slice xs x.args.length xc] 31)):=bA;have HS5:=Za (HS4.o.old hw5);have HF5:=Za (HF4.o.trans (Zc hw5));have HR5:=Za (HR4.o.old hw5);have HC5:=Za (HC4.o.old hw5);have HP5:=Za (Ze w4 [.int .i64 x.kind,.int .i64 x.op,.int .i64 x.n,.string (Aa x.name),.slice xs x.args.length xc] 31);have Hx5:=Za (Hx.out.old hw5);have hz5:w4.heap.size≠s:=by have:=HS4.o.lt;omega
  have hu5:w4.heap.size<(w4.alloc (.cells #[.int .i64 x.kind,.int .i64 x.op,.int .i64 x.n,.string (Aa x.name),.slice xs x.args.length xc] 31)).heap.size:=by simp
  clear hw5;have b0:=HC5.o.at 0 _ rfl;have b1:=HC5.o.at 1 _ rfl;have b2:=HC5.o.at 2 _ rfl;have b3:=HC5.o.at 3 _ rfl;have b4:=HC5.o.at 4 _ rfl;go_wp2_with fail
  generalize w4.alloc (.cells #[.int .i64 x.kind,.int .i64 x.op,.int .i64 x.n,.string (Aa x.name),.slice xs x.args.length xc] 31)=w5 at*;refine(HIH.o _ xa HS5.o (HSC.o.sfr HF5.o)).mono ?_;generalize Az sc raw (d-1) xa=y at*;obtain⟨y,ya⟩:=y;rintro r w6 ⟨yv,rfl,hs6,hf6,hx6,hn6⟩;obtain⟨ys,yc,rfl⟩:=hx6.shape;dsimp only at hs6 hx6 hn6 ⊢;have HS6:=Za hs6;have HF6:=Za (HF5.o.trans hf6);have HR6:=Za (HR5.o.sfr hf6 HZ.o);have HC6:=Za (HC5.o.sfr hf6 HY.o);have hg6:w.heap.size+2≤w5.heap.size:=by have:=HR5.o.lt;omega
  have Hy:=Za (hx6.mono (D':=(w.heap.size+2≤ ·)) (fun b h=>Zd hg6 h));have HNy:=Za hn6;have HFJ6:=Za hf6;clear hs6 hf6 hx6 hn6;clear b0 b1 b2 b3 b4;have HP6:=Za (HP5.o.sfr HFJ6.o hz5);have hxk:Fe (w.heap.size+2≤ ·) w5 w6:=HFJ6.o.fresh (by omega);have Hx6:=Za (Hx5.out.keep hxk);clear hxk;have hw7:Below w6.heap.size w6 (w6.alloc (.cells #[.int .i64 y.kind,.int .i64 y.op,.int .i64 y.n,.string (Aa y.name),.slice ys y.args.length yc] 31)):=bA;have HS7:=Za (HS6.o.old hw7);have HF7:=Za (HF6.o.trans (Zc hw7));have HR7:=Za (HR6.o.old hw7);have HC7:=Za (HC6.o.old hw7);have HQ7:=Za (Ze w6 [.int .i64 y.kind,.int .i64 y.op,.int .i64 y.n,.string (Aa y.name),.slice ys y.args.length yc] 31);have Hy7:=Za (Hy.out.old hw7);have hz7:w6.heap.size≠s:=by have:=HS6.o.lt;omega
  have hu7:w6.heap.size<(w6.alloc (.cells #[.int .i64 y.kind,.int .i64 y.op,.int .i64 y.n,.string (Aa y.name),.slice ys y.args.length yc] 31)).heap.size:=by simp
  clear hw7;have hw7:Below w6.heap.size w6 (w6.alloc (.cells #[.int .i64 y.kind,.int .i64 y.op,.int .i64 y.n,.string (Aa y.name),.slice ys y.args.length yc] 31)):=bA;have Hx7:=Za (Hx6.out.old hw7);have HP7:=Za (HP6.o.old hw7);clear hw7;have p0:=HP7.o.at 0 _ rfl;have p1:=HP7.o.at 1 _ rfl;have p2:=HP7.o.at 2 _ rfl;have p3:=HP7.o.at 3 _ rfl;have p4:=HP7.o.at 4 _ rfl;have hB:w.heap.size+1<w.heap.size+2:=by omega
  have hw8:Below (w6.alloc (.cells #[.int .i64 y.kind,.int .i64 y.op,.int .i64 y.n,.string (Aa y.name),.slice ys y.args.length yc] 31)).heap.size (w6.alloc (.cells #[.int .i64 y.kind,.int .i64 y.op,.int .i64 y.n,.string (Aa y.name),.slice ys y.args.length yc] 31)) ((w6.alloc (.cells #[.int .i64 y.kind,.int .i64 y.op,.int .i64 y.n,.string (Aa y.name),.slice ys y.args.length yc] 31)).alloc (.cells #[.int .i64 x.kind,.int .i64 x.op,.int .i64 x.n,.string (Aa x.name),.slice xs x.args.length xc,.int .i64 y.kind,.int .i64 y.op,.int .i64 y.n,.string (Aa y.name),.slice ys y.args.length yc] 31)):=bA;have HS8:=Za (HS7.o.old hw8);have HF8:=Za (HF7.o.trans (Zc hw8));have HR8:=Za (HR7.o.old hw8);have HC8:=Za (HC7.o.old hw8);have hrow:=Bx.new (w6.alloc (.cells #[.int .i64 y.kind,.int .i64 y.op,.int .i64 y.n,.string (Aa y.name),.slice ys y.args.length yc] 31)) (Aq x (.slice xs x.args.length xc)++Aq y (.slice ys y.args.length yc)) 31;rw[show(w6.alloc (.cells #[.int .i64 y.kind,.int .i64 y.op,.int .i64 y.n,.string (Aa y.name),.slice ys y.args.length yc] 31)).heap.size=w6.heap.size+1 by simp]at hrow;have hrow:Bx ((w6.alloc (.cells #[.int .i64 y.kind,.int .i64 y.op,.int .i64 y.n,.string (Aa y.name),.slice ys y.args.length yc] 31)).alloc (.cells #[.int .i64 x.kind,.int .i64 x.op,.int .i64 x.n,.string (Aa x.name),.slice xs x.args.length xc,.int .i64 y.kind,.int .i64 y.op,.int .i64 y.n,.string (Aa y.name),.slice ys y.args.length yc] 31)) (w6.heap.size+1) 0 (Aq x (.slice xs x.args.length xc)++Aq y (.slice ys y.args.length yc)):=hrow
  have hlt:=HR6.o.lt;have HX8:Hid (Aj (w.heap.size+2≤ ·) ((w6.alloc (.cells #[.int .i64 y.kind,.int .i64 y.op,.int .i64 y.n,.string (Aa y.name),.slice ys y.args.length yc] 31)).alloc (.cells #[.int .i64 x.kind,.int .i64 x.op,.int .i64 x.n,.string (Aa x.name),.slice xs x.args.length xc,.int .i64 y.kind,.int .i64 y.op,.int .i64 y.n,.string (Aa y.name),.slice ys y.args.length yc] 31)) [x,y] (.slice (some ⟨w6.heap.size+1,0,none⟩) 2 2)):=.two x y _ _ (by show _≤_;omega) hrow (Hx7.out.old hw8) HNx.o (Hy7.out.old hw8) HNy.o;clear hw8 hrow hlt;have x0:=HR8.o.at 0 _ rfl;have x1:=HR8.o.at 1 _ rfl;have x2:=HR8.o.at 2 _ rfl;have x3:=HR8.o.at 3 _ rfl;have x4:=HR8.o.at 4 _ rfl;have fx0:=HR8.o.fz 0;have fx1:=HR8.o.fz 1;have fx2:=HR8.o.fz 2;have fx3:=HR8.o.fz 3;have fx4:=HR8.o.fz 4;have HRE:=Za (((((HR8.o.set 0 (.int .i64 4)).set 1 (.int .i64 (1+q))).set 2 (.int .i64 0)).set 3 (.string ⟨#[]⟩)).set 4 (.slice (some ⟨w6.heap.size+1,0,none⟩) 2 2));have HSE:=Za (((((HS8.o.other hsx 0 (.int .i64 4)).other hsx 1 (.int .i64 (1+q))).other hsx 2 (.int .i64 0)).other hsx 3 (.string ⟨#[]⟩)).other hsx 4 (.slice (some ⟨w6.heap.size+1,0,none⟩) 2 2));have HFE:=Za (((((HF8.o.setNew hge 0 (.int .i64 4)).setNew hge 1 (.int .i64 (1+q))).setNew hge 2 (.int .i64 0)).setNew hge 3 (.string ⟨#[]⟩)).setNew hge 4 (.slice (some ⟨w6.heap.size+1,0,none⟩) 2 2));go_wp2_with fail
  have d0:=HRE.o.at 0 _ rfl;have d1:=HRE.o.at 1 _ rfl;have d2:=HRE.o.at 2 _ rfl;have d3:=HRE.o.at 3 _ rfl;have d4:=HRE.o.at 4 _ rfl;exact bodyPost_ret (v:=.agg #[.int .i64 4,.int .i64 (1+q),.int .i64 0,.string ⟨#[]⟩,.slice (some ⟨w6.heap.size+1,0,none⟩) 2 2]) (by simp [results,Zf,go_sem,d0,d1,d2,d3,d4]) rfl ⟨.slice (some ⟨w6.heap.size+1,0,none⟩) 2 2,rfl,HSE.o,HFE.o,((((((HX8.o.keep (Bi _ hB 0 _)).keep (Bi _ hB 1 _)).keep (Bi _ hB 2 _)).keep (Bi _ hB 3 _)).keep (Bi _ hB 4 _)).mono (fun b h=>(Zd (by omega) h:w.heap.size≤b))),(Dw ⟨by show _≤(0:Int);decide,by show(0:Int)≤_;decide⟩)⟩
 ·skip
  have b0:=HC2.o.at 0 _ rfl;have b1:=HC2.o.at 1 _ rfl;have b2:=HC2.o.at 2 _ rfl;have b3:=HC2.o.at 3 _ rfl;have b4:=HC2.o.at 4 _ rfl;go_wp2_with fail
  refine(HN.o _ HS2.o).mono ?_;rintro r w3 ⟨rfl,hs3,hf3⟩;have HS3:=Za hs3;have HF3:=Za (HF2.o.trans hf3);have HR3:=Za (HR2.o.sfr hf3 HZ.o);have HC3:=Za (HC2.o.sfr hf3 HY.o);clear hs3 hf3;clear b0 b1 b2 b3 b4;have b0:=HC3.o.at 0 _ rfl;have b1:=HC3.o.at 1 _ rfl;have b2:=HC3.o.at 2 _ rfl;have b3:=HC3.o.at 3 _ rfl;have b4:=HC3.o.at 4 _ rfl;go_wp2_with fail
  refine(HIH.o _ qa HS3.o (HSC.o.sfr HF3.o)).mono ?_;generalize Az sc raw (d-1) qa=x at*;obtain⟨x,xa⟩:=x;rintro r w4 ⟨xv,rfl,hs4,hf4,hx4,hn4⟩;obtain⟨xs,xc,rfl⟩:=hx4.shape;dsimp only at hs4 hx4 hn4 ⊢;have HS4:=Za hs4;have HF4:=Za (HF3.o.trans hf4);have HR4:=Za (HR3.o.sfr hf4 HZ.o);have HC4:=Za (HC3.o.sfr hf4 HY.o);have hg4:w.heap.size+2≤w3.heap.size:=by have:=HR3.o.lt;omega
  have Hx:=Za (hx4.mono (D':=(w.heap.size+2≤ ·)) (fun b h=>Zd hg4 h));have HNx:=Za hn4;have HFJ4:=Za hf4;clear hs4 hf4 hx4 hn4;clear b0 b1 b2 b3 b4;have hw5:Below w4.heap.size w4 (w4.alloc (.cells #[.int .i64 x.kind,.int .i64 x.op,.int .i64 x.n,.string (Aa x.name),.slice xs x.args.length xc] 31)):=bA;have HS5:=Za (HS4.o.old hw5);have HF5:=Za (HF4.o.trans (Zc hw5));have HR5:=Za (HR4.o.old hw5);have HC5:=Za (HC4.o.old hw5);have HP5:=Za (Ze w4 [.int .i64 x.kind,.int .i64 x.op,.int .i64 x.n,.string (Aa x.name),.slice xs x.args.length xc] 31);have Hx5:=Za (Hx.out.old hw5);have hz5:w4.heap.size≠s:=by have:=HS4.o.lt;omega
  have hu5:w4.heap.size<(w4.alloc (.cells #[.int .i64 x.kind,.int .i64 x.op,.int .i64 x.n,.string (Aa x.name),.slice xs x.args.length xc] 31)).heap.size:=by simp
  clear hw5;have b0:=HC5.o.at 0 _ rfl;have b1:=HC5.o.at 1 _ rfl;have b2:=HC5.o.at 2 _ rfl;have b3:=HC5.o.at 3 _ rfl;have b4:=HC5.o.at 4 _ rfl;go_wp2_with fail
  generalize w4.alloc (.cells #[.int .i64 x.kind,.int .i64 x.op,.int .i64 x.n,.string (Aa x.name),.slice xs x.args.length xc] 31)=w5 at*;refine(HIH.o _ xa HS5.o (HSC.o.sfr HF5.o)).mono ?_;generalize Az sc raw (d-1) xa=y at*;obtain⟨y,ya⟩:=y;rintro r w6 ⟨yv,rfl,hs6,hf6,hx6,hn6⟩;obtain⟨ys,yc,rfl⟩:=hx6.shape;dsimp only at hs6 hx6 hn6 ⊢;have HS6:=Za hs6;have HF6:=Za (HF5.o.trans hf6);have HR6:=Za (HR5.o.sfr hf6 HZ.o);have HC6:=Za (HC5.o.sfr hf6 HY.o);have hg6:w.heap.size+2≤w5.heap.size:=by have:=HR5.o.lt;omega
  have Hy:=Za (hx6.mono (D':=(w.heap.size+2≤ ·)) (fun b h=>Zd hg6 h));have HNy:=Za hn6;have HFJ6:=Za hf6;clear hs6 hf6 hx6 hn6;clear b0 b1 b2 b3 b4;have HP6:=Za (HP5.o.sfr HFJ6.o hz5);have hxk:Fe (w.heap.size+2≤ ·) w5 w6:=HFJ6.o.fresh (by omega);have Hx6:=Za (Hx5.out.keep hxk);clear hxk;have hw7:Below w6.heap.size w6 (w6.alloc (.cells #[.int .i64 y.kind,.int .i64 y.op,.int .i64 y.n,.string (Aa y.name),.slice ys y.args.length yc] 31)):=bA;have HS7:=Za (HS6.o.old hw7);have HF7:=Za (HF6.o.trans (Zc hw7));have HR7:=Za (HR6.o.old hw7);have HC7:=Za (HC6.o.old hw7);have HQ7:=Za (Ze w6 [.int .i64 y.kind,.int .i64 y.op,.int .i64 y.n,.string (Aa y.name),.slice ys y.args.length yc] 31);have Hy7:=Za (Hy.out.old hw7);have hz7:w6.heap.size≠s:=by have:=HS6.o.lt;omega
  have hu7:w6.heap.size<(w6.alloc (.cells #[.int .i64 y.kind,.int .i64 y.op,.int .i64 y.n,.string (Aa y.name),.slice ys y.args.length yc] 31)).heap.size:=by simp
  clear hw7;have hw7:Below w6.heap.size w6 (w6.alloc (.cells #[.int .i64 y.kind,.int .i64 y.op,.int .i64 y.n,.string (Aa y.name),.slice ys y.args.length yc] 31)):=bA;have Hx7:=Za (Hx6.out.old hw7);have HP7:=Za (HP6.o.old hw7);clear hw7;have p0:=HP7.o.at 0 _ rfl;have p1:=HP7.o.at 1 _ rfl;have p2:=HP7.o.at 2 _ rfl;have p3:=HP7.o.at 3 _ rfl;have p4:=HP7.o.at 4 _ rfl;have hB:w.heap.size+1<w.heap.size+2:=by omega
  have hw8:Below (w6.alloc (.cells #[.int .i64 y.kind,.int .i64 y.op,.int .i64 y.n,.string (Aa y.name),.slice ys y.args.length yc] 31)).heap.size (w6.alloc (.cells #[.int .i64 y.kind,.int .i64 y.op,.int .i64 y.n,.string (Aa y.name),.slice ys y.args.length yc] 31)) ((w6.alloc (.cells #[.int .i64 y.kind,.int .i64 y.op,.int .i64 y.n,.string (Aa y.name),.slice ys y.args.length yc] 31)).alloc (.cells #[.int .i64 x.kind,.int .i64 x.op,.int .i64 x.n,.string (Aa x.name),.slice xs x.args.length xc,.int .i64 y.kind,.int .i64 y.op,.int .i64 y.n,.string (Aa y.name),.slice ys y.args.length yc] 31)):=bA;have HS8:=Za (HS7.o.old hw8);have HF8:=Za (HF7.o.trans (Zc hw8));have HR8:=Za (HR7.o.old hw8);have HC8:=Za (HC7.o.old hw8);have hrow:=Bx.new (w6.alloc (.cells #[.int .i64 y.kind,.int .i64 y.op,.int .i64 y.n,.string (Aa y.name),.slice ys y.args.length yc] 31)) (Aq x (.slice xs x.args.length xc)++Aq y (.slice ys y.args.length yc)) 31;rw[show(w6.alloc (.cells #[.int .i64 y.kind,.int .i64 y.op,.int .i64 y.n,.string (Aa y.name),.slice ys y.args.length yc] 31)).heap.size=w6.heap.size+1 by simp]at hrow;have hrow:Bx ((w6.alloc (.cells #[.int .i64 y.kind,.int .i64 y.op,.int .i64 y.n,.string (Aa y.name),.slice ys y.args.length yc] 31)).alloc (.cells #[.int .i64 x.kind,.int .i64 x.op,.int .i64 x.n,.string (Aa x.name),.slice xs x.args.length xc,.int .i64 y.kind,.int .i64 y.op,.int .i64 y.n,.string (Aa y.name),.slice ys y.args.length yc] 31)) (w6.heap.size+1) 0 (Aq x (.slice xs x.args.length xc)++Aq y (.slice ys y.args.length yc)):=hrow
  have hlt:=HR6.o.lt;have HX8:Hid (Aj (w.heap.size+2≤ ·) ((w6.alloc (.cells #[.int .i64 y.kind,.int .i64 y.op,.int .i64 y.n,.string (Aa y.name),.slice ys y.args.length yc] 31)).alloc (.cells #[.int .i64 x.kind,.int .i64 x.op,.int .i64 x.n,.string (Aa x.name),.slice xs x.args.length xc,.int .i64 y.kind,.int .i64 y.op,.int .i64 y.n,.string (Aa y.name),.slice ys y.args.length yc] 31)) [x,y] (.slice (some ⟨w6.heap.size+1,0,none⟩) 2 2)):=.two x y _ _ (by show _≤_;omega) hrow (Hx7.out.old hw8) HNx.o (Hy7.out.old hw8) HNy.o;clear hw8 hrow hlt;have x0:=HR8.o.at 0 _ rfl;have x1:=HR8.o.at 1 _ rfl;have x2:=HR8.o.at 2 _ rfl;have x3:=HR8.o.at 3 _ rfl;have x4:=HR8.o.at 4 _ rfl;have fx0:=HR8.o.fz 0;have fx1:=HR8.o.fz 1;have fx2:=HR8.o.fz 2;have fx3:=HR8.o.fz 3;have fx4:=HR8.o.fz 4;have HRE:=Za (((((HR8.o.set 0 (.int .i64 4)).set 1 (.int .i64 (1+q))).set 2 (.int .i64 0)).set 3 (.string ⟨#[]⟩)).set 4 (.slice (some ⟨w6.heap.size+1,0,none⟩) 2 2));have HSE:=Za (((((HS8.o.other hsx 0 (.int .i64 4)).other hsx 1 (.int .i64 (1+q))).other hsx 2 (.int .i64 0)).other hsx 3 (.string ⟨#[]⟩)).other hsx 4 (.slice (some ⟨w6.heap.size+1,0,none⟩) 2 2));have HFE:=Za (((((HF8.o.setNew hge 0 (.int .i64 4)).setNew hge 1 (.int .i64 (1+q))).setNew hge 2 (.int .i64 0)).setNew hge 3 (.string ⟨#[]⟩)).setNew hge 4 (.slice (some ⟨w6.heap.size+1,0,none⟩) 2 2));go_wp2_with fail
  have d0:=HRE.o.at 0 _ rfl;have d1:=HRE.o.at 1 _ rfl;have d2:=HRE.o.at 2 _ rfl;have d3:=HRE.o.at 3 _ rfl;have d4:=HRE.o.at 4 _ rfl;exact bodyPost_ret (v:=.agg #[.int .i64 4,.int .i64 (1+q),.int .i64 0,.string ⟨#[]⟩,.slice (some ⟨w6.heap.size+1,0,none⟩) 2 2]) (by simp [results,Zf,go_sem,d0,d1,d2,d3,d4]) rfl ⟨.slice (some ⟨w6.heap.size+1,0,none⟩) 2 2,rfl,HSE.o,HFE.o,((((((HX8.o.keep (Bi _ hB 0 _)).keep (Bi _ hB 1 _)).keep (Bi _ hB 2 _)).keep (Bi _ hB 3 _)).keep (Bi _ hB 4 _)).mono (fun b h=>(Zd (by omega) h:w.heap.size≤b))),(Dw ⟨by show _≤(0:Int);decide,by show(0:Int)≤_;decide⟩)⟩
def Nc(d:Nat):Prop:= ∀(s:Nat) (raw:List Int) (a:Nat) (sc:Sc) (vv av fv:Value) (w:World),As w s raw a→Ec s w sc vv av fv→
 Calls Zb 62 #[scV sc vv av fv,.pointer (some ⟨s,0,none⟩),.int .i64 d] w (El w s raw (Gw sc raw (Az sc raw (d-1)) a))
theorem ge_call {d s:Nat}{raw:List Int}{sc:Sc}{v1:Option Addr}{v2:Nat}{a1:Option Addr}{a2:Nat}{f1:Option Addr}{f2:Nat}{ga:Nat}{k:Int}{w w2:World}(hd:2≤d)(h:GeH d s raw sc v1 v2 a1 a2 f1 f2 ga k w w2)(hk:k=6)(hA:sc.hasFuncs=true)(ic:Nc d):GeG d s raw sc v1 v2 a1 a2 f1 f2 k w w2 (Eg sc raw (Az sc raw (d-1)) k ga):=by
 obtain⟨hd1,lv,la,lf,hsl,hsc,hS2,hF2,hR2,hC2,g0,g1⟩:=h;have HSC:=Za hsc;have HS2:=Za hS2;have HF2:=Za hF2;have HR2:=Za hR2;have HC2:=Za hC2;have HZ:Hid (w.heap.size+1≠s):=by show _≠_;omega
 have HY:Hid (w.heap.size≠s):=by show _≠_;omega
 have hsx:s<w.heap.size+1:=by omega
 have hge:w.heap.size≤w.heap.size+1:=by omega
 have hd0:(0:Int)≤(d:Int):=by omega
 have hdI:(2:Int)≤(d:Int):=by omega
 have hdM:(d:Int)≤1000:=by omega
 clear hsc hS2 hF2 hR2 hC2;have E:Eg sc raw (Az sc raw (d-1)) k ga=Gw sc raw (Az sc raw (d-1)) ga:=by unfold Eg;rw[if_neg (by omega),if_neg (by omega),if_neg (by omega),if_neg (by omega),if_neg (by omega),if_pos ⟨hk,hA⟩]
 rw[E];clear E;have HN:Hid (∀w1,As w1 s raw ga→Ec s w1 sc (.slice v1 sc.vars.length v2) (.slice a1 sc.arrays.length a2) (.slice f1 sc.funcs.length f2)→Calls Zb 62 #[scV sc (.slice v1 sc.vars.length v2) (.slice a1 sc.arrays.length a2) (.slice f1 sc.funcs.length f2),.pointer (some ⟨s,0,none⟩),.int .i64 (d:Int)] w1 (El w1 s raw (Gw sc raw (Az sc raw (d-1)) ga))):=fun w1 h1 h2=>ic s raw ga sc _ _ _ w1 h1 h2
 generalize Gw sc raw (Az sc raw (d-1)) ga=x at*;obtain⟨x,xa⟩:=x;unfold GeG;intros
 conv=>arg 2;whnf
 subst hk;have b0:=HC2.o.at 0 _ rfl;have b1:=HC2.o.at 1 _ rfl;have b2:=HC2.o.at 2 _ rfl;have b3:=HC2.o.at 3 _ rfl;have b4:=HC2.o.at 4 _ rfl;go_wp2_with fail
 refine(HN.o _ HS2.o (HSC.o.sfr HF2.o)).mono ?_;rintro r w3 ⟨xv,rfl,hs3,hf3,hx3,hn3⟩;obtain⟨xs,xc,rfl⟩:=hx3.shape;dsimp only at hs3 hx3 hn3 ⊢;have HS3:=Za hs3;have HF3:=Za (HF2.o.trans hf3);have HR3:=Za (HR2.o.sfr hf3 HZ.o);have hg3:w.heap.size+2≤w2.heap.size:=by have:=HR2.o.lt;omega
 have Hx:=Za (hx3.mono (D':=(w.heap.size+2≤ ·)) (fun b h=>Zd hg3 h));have HNx:=Za hn3;have hB:w.heap.size+1<w.heap.size+2:=by omega
 clear hs3 hf3 hx3 hn3 b0 b1 b2 b3 b4;have x0:=HR3.o.at 0 _ rfl;have x1:=HR3.o.at 1 _ rfl;have x2:=HR3.o.at 2 _ rfl;have x3:=HR3.o.at 3 _ rfl;have x4:=HR3.o.at 4 _ rfl;have fx0:=HR3.o.fz 0;have fx1:=HR3.o.fz 1;have fx2:=HR3.o.fz 2;have fx3:=HR3.o.fz 3;have fx4:=HR3.o.fz 4;have HRE:=Za (((((HR3.o.set 0 (.int .i64 x.kind)).set 1 (.int .i64 x.op)).set 2 (.int .i64 x.n)).set 3 (.string (Aa x.name))).set 4 (.slice xs x.args.length xc));have HSE:=Za (((((HS3.o.other hsx 0 (.int .i64 x.kind)).other hsx 1 (.int .i64 x.op)).other hsx 2 (.int .i64 x.n)).other hsx 3 (.string (Aa x.name))).other hsx 4 (.slice xs x.args.length xc));have HFE:=Za (((((HF3.o.setNew hge 0 (.int .i64 x.kind)).setNew hge 1 (.int .i64 x.op)).setNew hge 2 (.int .i64 x.n)).setNew hge 3 (.string (Aa x.name))).setNew hge 4 (.slice xs x.args.length xc));go_wp2_with fail
 have d0:=HRE.o.at 0 _ rfl;have d1:=HRE.o.at 1 _ rfl;have d2:=HRE.o.at 2 _ rfl;have d3:=HRE.o.at 3 _ rfl;have d4:=HRE.o.at 4 _ rfl;exact bodyPost_ret (v:=.agg #[.int .i64 x.kind,.int .i64 x.op,.int .i64 x.n,.string (Aa x.name),.slice xs x.args.length xc]) (by simp [results,Zf,go_sem,d0,d1,d2,d3,d4]) rfl ⟨.slice xs x.args.length xc,rfl,HSE.o,HFE.o,((((((Hx.out.keep (Bi _ hB 0 _)).keep (Bi _ hB 1 _)).keep (Bi _ hB 2 _)).keep (Bi _ hB 3 _)).keep (Bi _ hB 4 _)).mono (fun b h=>(Zd (by omega) h:w.heap.size≤b))),HNx.o⟩
theorem Xp(m:Int)(h:0≤m):0≤m.tmod 63∧m.tmod 63≤64:=by
 rw[Int.tmod_eq_emod_of_nonneg h];omega
theorem Te(m:Int)(h:0≤m):IntKind.i64.wrap (2 ^ (m.tmod 63).toNat)=Ei m 6:=by
 rw[Int.tmod_eq_emod_of_nonneg h];have h1:(m % 63).toNat≤62:=by omega
 have h3:Ei m 6=2 ^ (m % 63).toNat:=rfl;rw[h3];generalize (m % 63).toNat=e at*;have h4:(2:Nat) ^ e≤2 ^ 62:=Nat.pow_le_pow_right (by decide) h1;have h5:((2:Int) ^ e)=((2 ^ e:Nat):Int):=by simp
 have h6:(2:Nat) ^ 62=4611686018427387904:=by decide
 rw[h5];generalize 2 ^ e=z at*;exact IntWalk.i64_in _ (by omega)
theorem Ly(m j:Int)(h:0≤m∧m<1000):I64 (Ei m j):=by
 have:=Kz m j h;exact⟨by omega,by omega⟩
theorem cU(m:Int)(h:0≤m)(h1:m<1000):IntKind.i64.wrap (m*m)=m*m:=by
 have a:0≤m*m:=Int.mul_nonneg h h;have b:m*m≤999*999:=Int.mul_le_mul (by omega) (by omega) (by omega) (by omega);exact IntWalk.i64_in _ (by omega)
theorem gI(m j:Int)(h:0≤j)(h1:j<8):([Value.int .i64 0,Value.int .i64 1,Value.int .i64 2,Value.int .i64 3,Value.int .i64 m,Value.int .i64 (m*m),Value.int .i64 (Ei m 6),Value.int .i64 9223372036854775807]:List Value)[j.toNat]'(by simp;omega)=.int .i64 (Ei m j):=by
 have:j=0∨j=1∨j=2∨j=3∨j=4∨j=5∨j=6∨j=7:=by omega
 rcases this with rfl|rfl|rfl|rfl|rfl|rfl|rfl|rfl<;>rfl
theorem ge_num3 {d s:Nat}{raw:List Int}{sc:Sc}{v1:Option Addr}{v2:Nat}{a1:Option Addr}{a2:Nat}{f1:Option Addr}{f2:Nat}{ga:Nat}{k:Int}{w w2:World}(h:GeH d s raw sc v1 v2 a1 a2 f1 f2 ga k w w2)(hk:k=3)(hq:¬(Ad raw ga 3).1=2):GeG d s raw sc v1 v2 a1 a2 f1 f2 k w w2 (Eg sc raw (Az sc raw (d-1)) k ga):=by
 obtain⟨hd1,lv,la,lf,hsl,hsc,hS2,hF2,hR2,hC2,g0,g1⟩:=h;have HSC:=Za hsc;have HS2:=Za hS2;have HF2:=Za hF2;have HR2:=Za hR2;have HC2:=Za hC2;have HZ:Hid (w.heap.size+1≠s):=by show _≠_;omega
 have HY:Hid (w.heap.size≠s):=by show _≠_;omega
 have hsx:s<w.heap.size+1:=by omega
 have hge:w.heap.size≤w.heap.size+1:=by omega
 have hd0:(0:Int)≤(d:Int):=by omega
 have hdM:(d:Int)≤1000:=by omega
 clear hsc hS2 hF2 hR2 hC2;have E:Eg sc raw (Az sc raw (d-1)) k ga=(.mk 1 0 (Ei (Ad raw (Ad raw ga 3).2 1000).1 (Ad raw (Ad raw (Ad raw ga 3).2 1000).2 8).1) [] [],(Ad raw (Ad raw (Ad raw ga 3).2 1000).2 8).2):=by
  unfold Eg;rw[if_neg (by rintro⟨h1,h2⟩;omega),if_neg (fun h=>hq h.2),if_pos (by omega)];rw[if_pos hk]
 rw[E];clear E;have HN:Hid (∀w1,As w1 s raw ga→Calls Zb 24 #[.pointer (some ⟨s,0,none⟩),.int .i64 3] w1 (Dr w1 s raw (.int .i64 (Ad raw ga 3).1) (Ad raw ga 3).2)):=fun w1 h1=>Bn s raw ga 3 w1 h1 (by decide) (by decide)
 have qr:=Ak raw ga 3 (by decide);generalize Ad raw ga 3=q at*;obtain⟨q,qa⟩:=q;dsimp only at*;have hqb:(q==2)=false:=beq_eq_false_iff_ne.2 hq;clear hq;have HM:Hid (∀w1,As w1 s raw qa→Calls Zb 24 #[.pointer (some ⟨s,0,none⟩),.int .i64 1000] w1 (Dr w1 s raw (.int .i64 (Ad raw qa 1000).1) (Ad raw qa 1000).2)):=fun w1 h1=>Bn s raw qa 1000 w1 h1 (by decide) (by decide)
 have mr:=Ak raw qa 1000 (by decide);generalize Ad raw qa 1000=m at*;obtain⟨m,ma⟩:=m;dsimp only at*;have HJ:Hid (∀w1,As w1 s raw ma→Calls Zb 24 #[.pointer (some ⟨s,0,none⟩),.int .i64 8] w1 (Dr w1 s raw (.int .i64 (Ad raw ma 8).1) (Ad raw ma 8).2)):=fun w1 h1=>Bn s raw ma 8 w1 h1 (by decide) (by decide)
 have jr:=Ak raw ma 8 (by decide);generalize Ad raw ma 8=j at*;obtain⟨j,ja⟩:=j;dsimp only at*;obtain⟨m0,m1⟩:=mr;obtain⟨j0,j1⟩:=jr;have HSH:=Te m m0;obtain⟨mt0,mt1⟩:=Xp m m0;have HMM:=cU m m0 m1;have HLJ:=gI m j j0 j1;unfold GeG;intros
 conv=>arg 2;whnf
 subst hk;go_wp2_with fail
 refine(HN.o _ HS2.o).mono ?_;rintro r w3 ⟨rfl,hs3,hf3⟩;have HS3:=Za hs3;have HF3:=Za (HF2.o.trans hf3);have HR3:=Za (HR2.o.sfr hf3 HZ.o);have HC3:=Za (HC2.o.sfr hf3 HY.o);clear hs3 hf3;go_wp2_with fail
 refine(HM.o _ HS3.o).mono ?_;rintro r w5 ⟨rfl,hs5,hf5⟩;have HS5:=Za hs5;have HF5:=Za (HF3.o.trans hf5);have HR5:=Za (HR3.o.sfr hf5 HZ.o);clear hs5 hf5;have x0:=HR5.o.at 0 _ rfl;have x1:=HR5.o.at 1 _ rfl;have x2:=HR5.o.at 2 _ rfl;have x3:=HR5.o.at 3 _ rfl;have x4:=HR5.o.at 4 _ rfl;have fx0:=HR5.o.fz 0;have fx1:=HR5.o.fz 1;have fx2:=HR5.o.fz 2;have fx3:=HR5.o.fz 3;have fx4:=HR5.o.fz 4;have hX5:=HR5.o.lt;go_wp2_with fail
 have hdr:Below w5.heap.size w5 w5.drew:=(Below.refl _ _).drew;have HSd:=Za (HS5.o.old hdr);have HFd:=Za (HF5.o.trans (Zc hdr));have HRd:=Za (HR5.o.old hdr);have hs5l:=HS5.o.lt;have hs5n:w5.heap.size≠s:=by omega
 have hj8:j.toNat<8:=by omega
 clear hdr x0 x1 x2 x3 x4 fx0 fx1 fx2 fx3 fx4
 go_region_with (first
  |(go_at_call 24;refine(HJ.o _ (by first|exact HSd.o|exact HSd.o.alloc _)).mono ?_;rintro r w6 ⟨he,hs6,hf6⟩;subst he;have hc:∀b o,b<_→b≠s→w6.cell? ⟨b,o,none⟩=_:=fun b o h hn=>Zg (a:=⟨b,o,none⟩) (hf6.block b h hn);have HS6:=Za hs6;have HF6:Hid (SFr s w w6):=(by first|exact HFd.o.trans hf6|exact(HFd.o.trans (SFr.alloc _)).trans hf6);have hR6:Al w6 (w.heap.size+1) _ _:=(by first|exact HRd.o.sfr hf6 HZ.o|exact(HRd.o.alloc _).sfr hf6 HZ.o);have HR6:=Za hR6;have x0:=hR6.at 0 _ rfl;have x1:=hR6.at 1 _ rfl;have x2:=hR6.at 2 _ rfl;have x3:=hR6.at 3 _ rfl;have x4:=hR6.at 4 _ rfl;have fx0:=hR6.fz 0;have fx1:=hR6.fz 1;have fx2:=hR6.fz 2;have fx3:=hR6.fz 3;have fx4:=hR6.fz 4;have hX6:=hR6.lt;have hz6:=hf6.size;clear hs6 hf6 hR6))
 ·have HRE:=Za (((((HR6.o.set 0 (.int .i64 1)).set 1 (.int .i64 0)).set 2 (.int .i64 (Ei m j))).set 3 (.string ⟨#[]⟩)).set 4 (.slice none 0 0))
  have HSE:=Za (((((HS6.o.other hsx 0 (.int .i64 1)).other hsx 1 (.int .i64 0)).other hsx 2 (.int .i64 (Ei m j))).other hsx 3 (.string ⟨#[]⟩)).other hsx 4 (.slice none 0 0));have HFE:=Za (((((HF6.o.setNew hge 0 (.int .i64 1)).setNew hge 1 (.int .i64 0)).setNew hge 2 (.int .i64 (Ei m j))).setNew hge 3 (.string ⟨#[]⟩)).setNew hge 4 (.slice none 0 0));go_wp2_with fail
  have d0:=HRE.o.at 0 _ rfl;have d1:=HRE.o.at 1 _ rfl;have d2:=HRE.o.at 2 _ rfl;have d3:=HRE.o.at 3 _ rfl;have d4:=HRE.o.at 4 _ rfl;exact bodyPost_ret (v:=.agg #[.int .i64 1,.int .i64 0,.int .i64 (Ei m j),.string ⟨#[]⟩,.slice none 0 0]) (by simp [results,Zf,go_sem,d0,d1,d2,d3,d4]) rfl ⟨.slice none 0 0,rfl,HSE.o,HFE.o,Aj.zero,Ly m j ⟨m0,m1⟩⟩
 ·have HRE:=Za ((((((HR6.o.set 0 (.int .i64 1)).set 1 (.int .i64 0)).set 2 (.int .i64 (Ei m j))).set 3 (.string ⟨#[]⟩)).set 4 (.slice none 0 0)).alloc (.cells #[.int .i64 0,.int .i64 1,.int .i64 2,.int .i64 3,.int .i64 m,.int .i64 (m*m),.int .i64 (Ei m 6),.int .i64 9223372036854775807] 3))
  have HSE:=Za ((((((HS6.o.other hsx 0 (.int .i64 1)).other hsx 1 (.int .i64 0)).other hsx 2 (.int .i64 (Ei m j))).other hsx 3 (.string ⟨#[]⟩)).other hsx 4 (.slice none 0 0)).alloc (.cells #[.int .i64 0,.int .i64 1,.int .i64 2,.int .i64 3,.int .i64 m,.int .i64 (m*m),.int .i64 (Ei m 6),.int .i64 9223372036854775807] 3));have HFE:=Za ((((((HF6.o.setNew hge 0 (.int .i64 1)).setNew hge 1 (.int .i64 0)).setNew hge 2 (.int .i64 (Ei m j))).setNew hge 3 (.string ⟨#[]⟩)).setNew hge 4 (.slice none 0 0)).trans (SFr.alloc (.cells #[.int .i64 0,.int .i64 1,.int .i64 2,.int .i64 3,.int .i64 m,.int .i64 (m*m),.int .i64 (Ei m 6),.int .i64 9223372036854775807] 3)));go_wp2_with fail
  have d0:=HRE.o.at 0 _ rfl;have d1:=HRE.o.at 1 _ rfl;have d2:=HRE.o.at 2 _ rfl;have d3:=HRE.o.at 3 _ rfl;have d4:=HRE.o.at 4 _ rfl;exact bodyPost_ret (v:=.agg #[.int .i64 1,.int .i64 0,.int .i64 (Ei m j),.string ⟨#[]⟩,.slice none 0 0]) (by simp [results,Zf,go_sem,d0,d1,d2,d3,d4]) rfl ⟨.slice none 0 0,rfl,HSE.o,HFE.o,Aj.zero,Ly m j ⟨m0,m1⟩⟩
theorem cH {d s:Nat}{raw:List Int}{sc:Sc}{v1:Option Addr}{v2:Nat}{a1:Option Addr}{a2:Nat}{f1:Option Addr}{f2:Nat}{ga:Nat}{k:Int}{w w2:World}(h:GeH d s raw sc v1 v2 a1 a2 f1 f2 ga k w w2)(hN:k=0∨((k=1∨k=2)∧sc.hasVars=false)):GeG d s raw sc v1 v2 a1 a2 f1 f2 k w w2 (Eg sc raw (Az sc raw (d-1)) k ga):=by
 obtain⟨hd1,lv,la,lf,hsl,hsc,hS2,hF2,hR2,hC2,g0,g1⟩:=h;have HSC:=Za hsc;have HS2:=Za hS2;have HF2:=Za hF2;have HR2:=Za hR2;have HC2:=Za hC2;have HZ:Hid (w.heap.size+1≠s):=by show _≠_;omega
 have HY:Hid (w.heap.size≠s):=by show _≠_;omega
 have hsx:s<w.heap.size+1:=by omega
 have hge:w.heap.size≤w.heap.size+1:=by omega
 have hd0:(0:Int)≤(d:Int):=by omega
 have hdM:(d:Int)≤1000:=by omega
 clear hsc hS2 hF2 hR2 hC2;have E:Eg sc raw (Az sc raw (d-1)) k ga=(.mk 1 0 (Ei (Ad raw ga 1000).1 (Ad raw (Ad raw ga 1000).2 8).1) [] [],(Ad raw (Ad raw ga 1000).2 8).2):=by
  unfold Eg;rw[if_neg (by rintro⟨h1,h2⟩;rcases hN with h|⟨h,h'⟩<;>first|omega|(rw[h']at h2;cases h2)),if_neg (by omega),if_pos (by omega)];rw[if_neg (show ¬k=3 by omega)]
 rw[E];clear E;have HM:Hid (∀w1,As w1 s raw ga→Calls Zb 24 #[.pointer (some ⟨s,0,none⟩),.int .i64 1000] w1 (Dr w1 s raw (.int .i64 (Ad raw ga 1000).1) (Ad raw ga 1000).2)):=fun w1 h1=>Bn s raw ga 1000 w1 h1 (by decide) (by decide)
 have mr:=Ak raw ga 1000 (by decide);generalize Ad raw ga 1000=m at*;obtain⟨m,ma⟩:=m;dsimp only at*;have HJ:Hid (∀w1,As w1 s raw ma→Calls Zb 24 #[.pointer (some ⟨s,0,none⟩),.int .i64 8] w1 (Dr w1 s raw (.int .i64 (Ad raw ma 8).1) (Ad raw ma 8).2)):=fun w1 h1=>Bn s raw ma 8 w1 h1 (by decide) (by decide)
 have jr:=Ak raw ma 8 (by decide);generalize Ad raw ma 8=j at*;obtain⟨j,ja⟩:=j;dsimp only at*;obtain⟨m0,m1⟩:=mr;obtain⟨j0,j1⟩:=jr;have HSH:=Te m m0;obtain⟨mt0,mt1⟩:=Xp m m0;have HMM:=cU m m0 m1;have HLJ:=gI m j j0 j1;unfold GeG;intros
 conv=>arg 2;whnf
 rcases hN with rfl|⟨rfl|rfl,hV⟩
 all_goals
  go_wp2_with fail
  refine(HM.o _ HS2.o).mono ?_;rintro r w5 ⟨rfl,hs5,hf5⟩;have HS5:=Za hs5;have HF5:=Za (HF2.o.trans hf5);have HR5:=Za (HR2.o.sfr hf5 HZ.o);clear hs5 hf5;have x0:=HR5.o.at 0 _ rfl;have x1:=HR5.o.at 1 _ rfl;have x2:=HR5.o.at 2 _ rfl;have x3:=HR5.o.at 3 _ rfl;have x4:=HR5.o.at 4 _ rfl;have fx0:=HR5.o.fz 0;have fx1:=HR5.o.fz 1;have fx2:=HR5.o.fz 2;have fx3:=HR5.o.fz 3;have fx4:=HR5.o.fz 4;have hX5:=HR5.o.lt;go_wp2_with fail
  have hdr:Below w5.heap.size w5 w5.drew:=(Below.refl _ _).drew;have HSd:=Za (HS5.o.old hdr);have HFd:=Za (HF5.o.trans (Zc hdr));have HRd:=Za (HR5.o.old hdr);have hs5l:=HS5.o.lt;have hs5n:w5.heap.size≠s:=by omega
  have hj8:j.toNat<8:=by omega
  clear hdr x0 x1 x2 x3 x4 fx0 fx1 fx2 fx3 fx4
  go_region_with (first
   |(go_at_call 24;refine(HJ.o _ (by first|exact HSd.o|exact HSd.o.alloc _)).mono ?_;rintro r w6 ⟨he,hs6,hf6⟩;subst he;have hc:∀b o,b<_→b≠s→w6.cell? ⟨b,o,none⟩=_:=fun b o h hn=>Zg (a:=⟨b,o,none⟩) (hf6.block b h hn);have HS6:=Za hs6;have HF6:Hid (SFr s w w6):=(by first|exact HFd.o.trans hf6|exact(HFd.o.trans (SFr.alloc _)).trans hf6);have hR6:Al w6 (w.heap.size+1) _ _:=(by first|exact HRd.o.sfr hf6 HZ.o|exact(HRd.o.alloc _).sfr hf6 HZ.o);have HR6:=Za hR6;have x0:=hR6.at 0 _ rfl;have x1:=hR6.at 1 _ rfl;have x2:=hR6.at 2 _ rfl;have x3:=hR6.at 3 _ rfl;have x4:=hR6.at 4 _ rfl;have fx0:=hR6.fz 0;have fx1:=hR6.fz 1;have fx2:=hR6.fz 2;have fx3:=hR6.fz 3;have fx4:=hR6.fz 4;have hX6:=hR6.lt;have hz6:=hf6.size;clear hs6 hf6 hR6))
  ·have HRE:=Za (((((HR6.o.set 0 (.int .i64 1)).set 1 (.int .i64 0)).set 2 (.int .i64 (Ei m j))).set 3 (.string ⟨#[]⟩)).set 4 (.slice none 0 0))
   have HSE:=Za (((((HS6.o.other hsx 0 (.int .i64 1)).other hsx 1 (.int .i64 0)).other hsx 2 (.int .i64 (Ei m j))).other hsx 3 (.string ⟨#[]⟩)).other hsx 4 (.slice none 0 0));have HFE:=Za (((((HF6.o.setNew hge 0 (.int .i64 1)).setNew hge 1 (.int .i64 0)).setNew hge 2 (.int .i64 (Ei m j))).setNew hge 3 (.string ⟨#[]⟩)).setNew hge 4 (.slice none 0 0));go_wp2_with fail
   have d0:=HRE.o.at 0 _ rfl;have d1:=HRE.o.at 1 _ rfl;have d2:=HRE.o.at 2 _ rfl;have d3:=HRE.o.at 3 _ rfl;have d4:=HRE.o.at 4 _ rfl;exact bodyPost_ret (v:=.agg #[.int .i64 1,.int .i64 0,.int .i64 (Ei m j),.string ⟨#[]⟩,.slice none 0 0]) (by simp [results,Zf,go_sem,d0,d1,d2,d3,d4]) rfl ⟨.slice none 0 0,rfl,HSE.o,HFE.o,Aj.zero,Ly m j ⟨m0,m1⟩⟩
  ·have HRE:=Za ((((((HR6.o.set 0 (.int .i64 1)).set 1 (.int .i64 0)).set 2 (.int .i64 (Ei m j))).set 3 (.string ⟨#[]⟩)).set 4 (.slice none 0 0)).alloc (.cells #[.int .i64 0,.int .i64 1,.int .i64 2,.int .i64 3,.int .i64 m,.int .i64 (m*m),.int .i64 (Ei m 6),.int .i64 9223372036854775807] 3))
   have HSE:=Za ((((((HS6.o.other hsx 0 (.int .i64 1)).other hsx 1 (.int .i64 0)).other hsx 2 (.int .i64 (Ei m j))).other hsx 3 (.string ⟨#[]⟩)).other hsx 4 (.slice none 0 0)).alloc (.cells #[.int .i64 0,.int .i64 1,.int .i64 2,.int .i64 3,.int .i64 m,.int .i64 (m*m),.int .i64 (Ei m 6),.int .i64 9223372036854775807] 3));have HFE:=Za ((((((HF6.o.setNew hge 0 (.int .i64 1)).setNew hge 1 (.int .i64 0)).setNew hge 2 (.int .i64 (Ei m j))).setNew hge 3 (.string ⟨#[]⟩)).setNew hge 4 (.slice none 0 0)).trans (SFr.alloc (.cells #[.int .i64 0,.int .i64 1,.int .i64 2,.int .i64 3,.int .i64 m,.int .i64 (m*m),.int .i64 (Ei m 6),.int .i64 9223372036854775807] 3)));go_wp2_with fail
   have d0:=HRE.o.at 0 _ rfl;have d1:=HRE.o.at 1 _ rfl;have d2:=HRE.o.at 2 _ rfl;have d3:=HRE.o.at 3 _ rfl;have d4:=HRE.o.at 4 _ rfl;exact bodyPost_ret (v:=.agg #[.int .i64 1,.int .i64 0,.int .i64 (Ei m j),.string ⟨#[]⟩,.slice none 0 0]) (by simp [results,Zf,go_sem,d0,d1,d2,d3,d4]) rfl ⟨.slice none 0 0,rfl,HSE.o,HFE.o,Aj.zero,Ly m j ⟨m0,m1⟩⟩
theorem Tl(d:Nat)(hd1:d≤1000)(ih:2≤d→Hh (d-1))(ic:2≤d→Nc d):Hh d:=by
 intro s raw a sc vv av fv w hs hsc;rw[fT];unfold gTop;generalize hk:gK raw d a=k;obtain⟨v1,v2,rfl⟩:=hsc.vars.shape;obtain⟨a1,a2,rfl⟩:=hsc.arrays.shape;obtain⟨f1,f2,rfl⟩:=hsc.funcs.shape;refine ge_pre hd1 hs hsc hk fun w2 H=>?_
 have hl:d<2→k<4:=fun hd=>by rw[←hk];exact Uc raw d a hd
 have g0:=H.g0;have h4:k=0∨k=1∨k=2∨k=3∨k=4∨k=5∨k=6∨7≤k:=by omega
 have h2:4≤k→2≤d:=fun h=>by
  rcases Nat.lt_or_ge d 2 with hd|hd
  ·have:=hl hd;omega
  ·exact hd
 rcases h4 with h|h|h|h|h|h|h|h
 ·exact cH H (.inl h)
 ·cases hv:sc.hasVars
  ·exact cH H (.inr ⟨.inl h,hv⟩)
  ·exact iF H (.inl h) hv
 ·cases hv:sc.hasVars
  ·exact cH H (.inr ⟨.inr h,hv⟩)
  ·exact iF H (.inr h) hv
 ·by_cases hq:(Ad raw (Ad raw a 12).2 3).1=2
  ·exact ge_read H h hq
  ·exact ge_num3 H h hq
 ·have hd:=h2 (by omega)
  exact ge_one hd H h (ih hd)
 ·have hd:=h2 (by omega)
  cases hA:sc.hasArrays
  ·exact aC hd H (.inr (.inl ⟨h,hA⟩)) (ih hd)
  ·exact kM hd H h hA (ih hd)
 ·have hd:=h2 (by omega)
  cases hA:sc.hasFuncs
  ·exact aC hd H (.inr (.inr ⟨h,hA⟩)) (ih hd)
  ·exact ge_call hd H h hA (ic hd)
 ·have hd:=h2 (by omega)
  exact aC hd H (.inl h) (ih hd)
theorem Aj.strong {D:Nat→Prop}{w:World}{l:List Ex}{v:Value}(h:Aj D w l v):Aj (fun b=>D b∧b<w.heap.size) w l v:=by
 induction h with
 |mk l a cap b off sv hcap hfit ha h0 h1 h2 h3 h4 _ hn ih=>
  refine .mk l a cap b off sv hcap hfit ?_ h0 h1 h2 h3 h4 ih hn;rcases ha with ha|⟨ha,hD⟩
  ·exact .inl ha
  ·rcases Nat.eq_zero_or_pos l.length with hz|hz
   ·exact .inl hz
   ·exact .inr ⟨ha,hD,Zh _ _ (h0 0 hz)⟩
def Dk(ps:List (Ex ×Value)):List Value:=ps.flatMap fun p=>Aq p.1 p.2
theorem Mr:∀ps,(Dk ps).length=ps.length*5
 |[]=>rfl
 |p::ps=>by
  have:=Mr ps;unfold Dk at*;simp only[List.flatMap_cons,List.length_append,List.length_cons];rw[this];simp [Aq];omega
theorem Oi:∀(ps:List (Ex ×Value)) (i q:Nat) (p:Ex ×Value),ps[i]? =some p→q<5→(Dk ps)[i*5+q]? =(Aq p.1 p.2)[q]?
 |[],i,q,p,h,_=>by simp at h
 |x::ps,0,q,p,h,hq=>by
  simp at h;subst h;unfold Dk;rw[List.flatMap_cons,List.getElem?_append_left (by simp [Aq];omega)];simp
 |x::ps,i+1,q,p,h,hq=>by
  simp at h;have:=Oi ps i q p h hq;unfold Dk at*;rw[List.flatMap_cons,List.getElem?_append_right (by simp [Aq];omega)];rw[←this];congr 1;simp [Aq];omega
theorem Yt(a c:List (Ex ×Value)):Dk (a++c)=Dk a++Dk c:=by unfold Dk;rw[List.flatMap_append]
def Dt(w:World)(base:Nat)(ps:List (Ex ×Value))(v:Value):Prop:=
 w.ownsRow base 31 5 v ps.length (Dk ps)∧∀p,p∈ps→Aj (fun b=>base≤b∧v.ownBlock≠some b) w p.1.args p.2∧I64 p.1.n
theorem Dt.zero(w:World)(base:Nat):Dt w base [] (.slice none 0 0):=⟨⟨rfl,.inl ⟨rfl,rfl⟩⟩,fun p hp=>by cases hp⟩
theorem Dt.keep {w w':World}{base:Nat}{ps:List (Ex ×Value)}{v:Value}(h:Dt w base ps v)(hk:∀k,k<w.heap.size→base≤k→w'.heap[k]? =w.heap[k]?):Dt w' base ps v:=by
 refine⟨⟨h.1.1,?_⟩,fun p hp=>⟨(h.2 p hp).1.keep (fun b off x hb hx=>by rw[Zg (w:=w) (hk b (Zh _ _ hx) hb.1)];exact hx),(h.2 p hp).2⟩⟩;rcases h.1.2 with hn|⟨g,cap,cur,rfl,hb,hg,r⟩
 ·exact .inl hn
 ·refine .inr ⟨g,cap,cur,rfl,hb,?_,r⟩
  rw[hk g (by
   rcases Nat.lt_or_ge g w.heap.size with h'|h'
   ·exact h'
   ·simp [Array.getElem?_eq_none h']at hg) hb]
  exact hg
theorem Dt.exs {w:World}{base:Nat}{ps:List (Ex ×Value)}{v:Value}(h:Dt w base ps v)(hf:Ci ps.length):Aj (base≤ ·) w (ps.map (·.1)) v:=by
 have hl:(ps.map (·.1)).length=ps.length:=List.length_map _;rcases h.1.2 with⟨rfl,h0⟩|⟨g,cap,cur,rfl,hb,hg,hc,hm,hs,ht⟩
 ·have:ps=[]:=List.length_eq_zero_iff.1 h0
  subst this;exact Aj.zero
 ·have cell:∀i q p u,ps[i]? =some p→q<5→(Aq p.1 p.2)[q]? =some u→w.cell? ⟨g,0+i*5+q,none⟩=some u:=by
   intro i q p u hp hq hu;have h1:=h.1.cells (g:=g) rfl (i*5+q) u (by rw[Oi ps i q p hp hq];exact hu);have h2:(⟨g,0,none⟩:Addr).add (i*5+q)=⟨g,0+i*5+q,none⟩:=by unfold Addr.add;split<;>simp_all<;>omega
   rwa[h2]at h1
  have get:∀i,i<(ps.map (·.1)).length→∃p,ps[i]? =some p∧Ao (ps.map (·.1)) i=p.1∧p∈ps:=by
   intro i hi;rw[hl]at hi;refine⟨ps[i],List.getElem?_eq_getElem hi,?_,List.getElem_mem hi⟩;simp [Ao,List.getElem?_eq_getElem hi]
  have e:=Aj.mk (D:=(base≤ ·)) (w:=w) (ps.map (·.1)) (some ⟨g,0,none⟩) cap g 0 (fun i=>(ps.getD i (Ex.nil,undef)).2) (by rw[hl];exact hc) (by rw[hl];exact hf) (.inr ⟨rfl,hb⟩);rw[hl]at e;have sv:∀i p,ps[i]? =some p→(ps.getD i (Ex.nil,undef)).2=p.2:=fun i p hp=>by rw[List.getD_eq_getElem?_getD,hp];rfl
  have gp:∀i,i<ps.length→∃p,ps[i]? =some p∧Ao (ps.map (·.1)) i=p.1∧p∈ps:=fun i hi=>get i (by rw[hl];exact hi)
  refine e (fun i hi=>?_) (fun i hi=>?_) (fun i hi=>?_) (fun i hi=>?_) (fun i hi=>?_) (fun i hi=>?_) (fun i hi=>?_)
  all_goals
   obtain⟨p,hp,hx,hm⟩:=gp i hi
   try rw[hx]
   try rw[sv i p hp]
  ·exact cell i 0 p _ hp (by omega) rfl
  ·exact cell i 1 p _ hp (by omega) rfl
  ·exact cell i 2 p _ hp (by omega) rfl
  ·exact cell i 3 p _ hp (by omega) rfl
  ·exact cell i 4 p _ hp (by omega) rfl
  ·exact(h.2 p hm).1.mono (fun b hb=>hb.1)
  ·exact(h.2 p hm).2
theorem Dt.snoc {w w':World}{base:Nat}{ps:List (Ex ×Value)}{v:Value}(h:Dt w base ps v)(x:Ex)(xv:Value)(hx:Aj (fun b=>base≤b∧v.ownBlock≠some b) w x.args xv)(hn:I64 x.n){g cap:Nat}
  (hown:w'.ownsRow base 31 5 (.slice (some ⟨g,0,none⟩) (ps.length+1) cap) (ps.length+1) (Dk ps++Aq x xv)) (hgrow:w.grownBy w' v.ownBlock) (hg:v.ownBlock=some g∨g=w.heap.size):
  Dt w' base (ps++[(x,xv)]) (.slice (some ⟨g,0,none⟩) (ps.length+1) cap):=by
 have hl:(ps++[(x,xv)]).length=ps.length+1:=by simp
 have hfl:Dk (ps++[(x,xv)])=Dk ps++Aq x xv:=by rw[Yt];simp [Dk]
 have keep:∀(l:List Ex) (u:Value),Aj (fun b=>base≤b∧v.ownBlock≠some b) w l u→Aj (fun b=>base≤b∧(Value.slice (some ⟨g,0,none⟩) (ps.length+1) cap).ownBlock≠some b) w' l u:=by
  intro l u hu;have h1:Aj (fun b=>(base≤b∧v.ownBlock≠some b)∧b<w.heap.size) w l u:=hu.strong;have h2:Aj (fun b=>(base≤b∧v.ownBlock≠some b)∧b<w.heap.size) w' l u:=h1.keep (fun b off y hb hy=>hgrow.cell hy (fun e=>hb.1.2 e.symm));refine h2.mono (fun b hb=>⟨hb.1.1,?_⟩);show some g≠some b
  intro e
  cases e
  rcases hg with hg|hg
  ·exact hb.1.2 hg
  ·omega
 refine⟨by rw[hl,hfl];exact hown,fun p hp=>?_⟩;rcases List.mem_append.1 hp with hp|hp
 ·exact⟨keep _ _ (h.2 p hp).1,(h.2 p hp).2⟩
 ·rw[List.mem_singleton.1 hp];exact⟨keep _ _ hx,hn⟩
theorem As.low {w w':World}{s:Nat}{raw:List Int}{a:Nat}(h:As w s raw a)(hk:∀k,k≤s→w'.heap[k]? =w.heap[k]?):As w' s raw a:=by
 obtain⟨u,h1,h2,h3⟩:=h;refine⟨u,(hk s (Nat.le_refl _)).trans h1,h2.keep (fun b off x hb hx=>?_),h3⟩;rw[Zg (w:=w) (hk b (Nat.le_of_lt hb))];exact hx
theorem Al.low {w w':World}{b:Nat}{cs:List Value}{T:TypeId}(h:Al w b cs T)(hk:w'.heap[b]? =w.heap[b]?):Al w' b cs T:=hk.trans h
theorem SFr.grow {s:Nat}{w w1 w':World}{row:Option Nat}(h:SFr s w w1)(hg:w1.grownBy w' row)(hr:∀k,row=some k→w.heap.size≤k):SFr s w w':=
 ⟨hg.os.trans h.os,hg.tape.trans h.tape,hg.output.trans h.output,Zd h.size hg.size,fun k hk hs=>(hg.block k (Nat.lt_of_lt_of_le hk h.size) (fun e=>by have:=hr k e.symm;omega)).trans (h.block k hk hs)⟩
theorem Dt.shape {w:World}{base:Nat}{ps:List (Ex ×Value)}{v:Value}(h:Dt w base ps v):∃a cap,v=.slice a ps.length cap:=by
 rcases h.1.2 with⟨rfl,h0⟩|⟨g,cap,cur,rfl,_⟩
 ·exact⟨none,0,by rw[h0]⟩
 ·exact⟨_,_,rfl⟩
theorem Dt.ge {w:World}{base:Nat}{ps:List (Ex ×Value)}{v:Value}(h:Dt w base ps v){k:Nat}(hk:v.ownBlock=some k):base≤k∧k<w.heap.size:=h.1.lt k hk
def CallInv(w:World)(s:Nat)(raw:List Int)(g:Nat→Ex ×Nat)(a0:Nat)(scs:List Value)(nm:Value)(k:Nat)(wr:World):Prop:=
 ∃ps v,ps.map (·.1)=(Gf g k a0).1∧As wr s raw (Gf g k a0).2∧SFr s w wr∧Al wr w.heap.size scs 62∧Al wr (w.heap.size+1) [.int .i64 0,.int .i64 0,.int .i64 0,.string ⟨#[]⟩,.slice none 0 0] 31∧
  Al wr (w.heap.size+2) [.int .i64 5,.int .i64 0,.int .i64 0,nm,v] 31∧Dt wr (w.heap.size+3) ps v
theorem Ew {w:World}{b:Nat}{cs:List Value}(h:Bx w b 0 cs):∀j u,cs[j]? =some u→w.cell? ((⟨b,0,none⟩:Addr).add j)=some u:=by
 intro j u hu;have h2:(⟨b,0,none⟩:Addr).add j=⟨b,j,none⟩:=by unfold Addr.add;split<;>simp_all
 rw[h2];exact h.at j u hu
theorem Mq(x:Ex)(a:Option Addr)(n c:Nat):∀u,u∈Aq x (.slice a n c)→u.oneCell'=true:=by
 intro u hu;simp only[Aq,List.mem_cons,List.not_mem_nil,or_false]at hu;rcases hu with rfl|rfl|rfl|rfl|rfl<;>rfl
theorem gO(w:World)(A B C:List Value)(TA TB TC:TypeId):Below w.heap.size w (((w.alloc (.cells A.toArray TA)).alloc (.cells B.toArray TB)).alloc (.cells C.toArray TC))∧Al (((w.alloc (.cells A.toArray TA)).alloc (.cells B.toArray TB)).alloc (.cells C.toArray TC)) w.heap.size A TA∧
  Al (((w.alloc (.cells A.toArray TA)).alloc (.cells B.toArray TB)).alloc (.cells C.toArray TC)) (w.heap.size+1) B TB∧Al (((w.alloc (.cells A.toArray TA)).alloc (.cells B.toArray TB)).alloc (.cells C.toArray TC)) (w.heap.size+2) C TC:=by
 have h1:=Ze w A TA;have h2:=Ze (w.alloc (.cells A.toArray TA)) B TB;have h3:=Ze ((w.alloc (.cells A.toArray TA)).alloc (.cells B.toArray TB)) C TC;rw[show(w.alloc (.cells A.toArray TA)).heap.size=w.heap.size+1 by simp]at h2;rw[show((w.alloc (.cells A.toArray TA)).alloc (.cells B.toArray TB)).heap.size=w.heap.size+2 by simp]at h3;exact⟨((bA).alloc (by simp) _).alloc (by simp;omega) _,(h1.alloc _).alloc _,h2.alloc _,h3⟩
def cS:Code→Option Code
 |.seq (.seq a (.cond o c d)) b=>some b
 |.seq a b=>cS b
 |_=>none
noncomputable def iU:Code:=(Tryz.f62.body.bind cS).getD .skip
theorem Sz {d s:Nat}(hd:2≤d)(hd1:d≤1000){raw:List Int}{sc:Sc}{v1 a1 f1:Option Addr}{v2 a2 f2 fn:Nat}{fb:Bool}{w w5:World}{c a0:Nat}{nm:Bs}(hsl:s<w.heap.size)(hsc:Ec s w sc (.slice v1 sc.vars.length v2) (.slice a1 sc.arrays.length a2) (.slice f1 fn f2))
  (hih:∀w1 b,As w1 s raw b→Ec s w1 sc (.slice v1 sc.vars.length v2) (.slice a1 sc.arrays.length a2) (.slice f1 fn f2)→Calls Zb 27 #[.agg #[.slice v1 sc.vars.length v2,.slice a1 sc.arrays.length a2,.slice f1 fn f2,.bool fb,.bool sc.loop],.pointer (some ⟨s,0,none⟩),.int .i64 ((d:Int)-1)] w1 (El w1 s raw (Az sc raw (d-1) b)))
  (hc6:c≤1000000) (hs5:As w5 s raw a0) (hf5:SFr s w w5) (hC5:Al w5 w.heap.size [.slice v1 sc.vars.length v2,.slice a1 sc.arrays.length a2,.slice f1 fn f2,.bool fb,.bool sc.loop] 62) (hR5:Al w5 (w.heap.size+1) [.int .i64 0,.int .i64 0,.int .i64 0,.string ⟨#[]⟩,.slice none 0 0] 31) (hE5:Al w5 (w.heap.size+2) [.int .i64 5,.int .i64 0,.int .i64 0,.string (Aa nm),.slice none 0 0] 31):
  ∀q4 q5 q9 q10 q11 q12 q13 q14 q15 q16 q17 q18 q19 q20 q21 q22 q23 q24 q25 q26 q27 q28 q29 q30 q31 q32 q33 q34 q35 q36 q37 q38 q39 q40 q41 q42 q43 q44 q45 q46 q47 q48 q49 q50 q51 q52 q53 q54 q55 q56:Value,Code.wp Zb iU (bodyPost Zb Tryz.f62 (El w s raw (.mk 5 0 0 nm (Gf (Az sc raw (d-1)) c a0).1,(Gf (Az sc raw (d-1)) c a0).2))) ⟨[.agg #[.slice v1 sc.vars.length v2,.slice a1 sc.arrays.length a2,.slice f1 fn f2,.bool fb,.bool sc.loop],.pointer (some ⟨s,0,none⟩),.int .i64 d,.pointer (some ⟨w.heap.size,0,none⟩),q4,q5,.pointer (some ⟨w.heap.size+1,0,none⟩),.pointer (some ⟨w.heap.size+1+1,0,none⟩),.int .i64 c,q9,q10,q11,q12,q13,q14,q15,q16,q17,q18,q19,q20,q21,q22,q23,q24,q25,q26,q27,q28,q29,q30,q31,q32,q33,q34,q35,q36,q37,q38,q39,q40,q41,q42,q43,q44,q45,q46,q47,q48,q49,q50,q51,q52,q53,q54,q55,q56].toArray,[]⟩ w5:=by
 intros;have HSC:=Za hsc;have HIH:=Za hih;have HS5:=Za hs5;have HF5:=Za hf5;have HC5:=Za hC5;have HR5:=Za hR5;have HE5:=Za hE5;have HZ:Hid (w.heap.size+1≠s):=by show _≠_;omega
 have HY:Hid (w.heap.size≠s):=by show _≠_;omega
 have HX:Hid (w.heap.size+2≠s):=by show _≠_;omega
 have hd0:(2:Int)≤(d:Int):=by omega
 have hdM:(d:Int)≤1000:=by omega
 have hsx:s<w.heap.size+2:=by omega
 have hge:w.heap.size≤w.heap.size+2:=by omega
 clear hsc hih hs5 hf5 hC5 hR5 hE5
 conv=>arg 2;whnf
 go_wp2_with fail
 go_loopw [10] (fun q wr=> ∃k:Nat,k≤c∧q=.int .i64 k∧CallInv w s raw (Az sc raw (d-1)) a0 [.slice v1 sc.vars.length v2,.slice a1 sc.arrays.length a2,.slice f1 fn f2,.bool fb,.bool sc.loop] (.string (Aa nm)) k wr) (fun q _=>c-(intOf q).toNat)
 case atStart=>exact⟨0,Nat.zero_le _,rfl,[],_,rfl,HS5.o,HF5.o,HC5.o,HR5.o,HE5.o,Dt.zero _ _⟩
 case round=>
  obtain⟨k,hk,rfl,hinv⟩:=hrel;obtain⟨ps,v,hps,hsr,hfr,hC,hR,hE,hO⟩:=hinv;obtain⟨va,vc,rfl⟩:=hO.shape;have HPS:=Za hps;have HSK:=Za hsr;have HFK:=Za hfr;have HCK:=Za hC;have HRK:=Za hR;have HEK:=Za hE;have HOK:=Za hO;clear hps hsr hfr hC hR hE hO;have b0:=HCK.o.at 0 _ rfl;have b1:=HCK.o.at 1 _ rfl;have b2:=HCK.o.at 2 _ rfl;have b3:=HCK.o.at 3 _ rfl;have b4:=HCK.o.at 4 _ rfl;have e0:=HEK.o.at 0 _ rfl;have e1:=HEK.o.at 1 _ rfl;have e2:=HEK.o.at 2 _ rfl;have e3:=HEK.o.at 3 _ rfl;have e4:=HEK.o.at 4 _ rfl;have fe4:=HEK.o.fz 4;have hE2:=HEK.o.lt
  by_cases hlt:k<c
  ·have hlen:Hid (ps.length≤1000000):=by show _≤_;have h1:=congrArg List.length HPS.o;rw[List.length_map,Gt]at h1;omega
   have hnx:Gf (Az sc raw (d-1)) (k+1) a0=((Gf (Az sc raw (d-1)) k a0).1++[(Az sc raw (d-1) (Gf (Az sc raw (d-1)) k a0).2).1],(Az sc raw (d-1) (Gf (Az sc raw (d-1)) k a0).2).2):=rfl;have HNX:=Za hnx;clear hnx;have HCL:=Za (fun w1 h1 h2=>HIH.o w1 (Gf (Az sc raw (d-1)) k a0).2 h1 h2);generalize Az sc raw (d-1) (Gf (Az sc raw (d-1)) k a0).2=x at*;obtain⟨x,xa⟩:=x;generalize Gf (Az sc raw (d-1)) k a0=mk at HPS HSK HNX HCL;obtain⟨lk,bk⟩:=mk;dsimp only at HPS HSK HNX HCL;have hdr:Below wr.heap.size wr wr.drew:=(Below.refl _ _).drew;have HSd:=Za (HSK.o.old hdr);have HFd:=Za (HFK.o.trans (Zc hdr));have HCd:=Za (HCK.o.old hdr);have HRd:=Za (HRK.o.old hdr);have HEd:=Za (HEK.o.old hdr);have HOd:=Za (HOK.o.keep (w':=wr.drew) (fun _ _ _=>rfl));clear hdr;obtain⟨i0,hi0,hz0,hz1,hz2⟩:=info_parts Lh;have hE3:w.heap.size+3≤wr.heap.size:=by omega
   have hwd:IntKind.i64.wrap ((d:Int)-1)=(d:Int)-1:=IntWalk.i64_in _ (by omega);go_wp2_with fail
   go_region_law (first
    |((try go_simp);go_at_call 27;refine(HCL.o _ HSd.o (HSC.o.sfr HFd.o)).mono ?_;rintro r w6 ⟨xv,he,hs6,hf6,hx6,hn6⟩;obtain⟨xs,xc,hxv⟩:=hx6.shape;subst hxv;subst he;have hc:∀b o,b<_→b≠s→w6.cell? ⟨b,o,none⟩=_:=fun b o h hn=>Zg (a:=⟨b,o,none⟩) (hf6.block b h hn);have HS6:=Za hs6;have HF6:=Za (HFd.o.trans hf6);have HC6:=Za (HCd.o.sfr hf6 HY.o);have HR6:=Za (HRd.o.sfr hf6 HZ.o);have HE6:=Za (HEd.o.sfr hf6 HX.o);have HO6:=Za (HOd.o.keep (w':=w6) (fun k h1 h2=>hf6.block k h1 (by omega)));have Hx6:=Za hx6;have Hn6:=Za hn6;have hz6:=hf6.size;have u4:=HE6.o.at 4 _ rfl;have hX6:=HE6.o.lt;clear hs6 hf6 hx6 hn6;have hw7:Below w6.heap.size w6 (w6.alloc (.cells #[.int .i64 x.kind,.int .i64 x.op,.int .i64 x.n,.string (Aa x.name),.slice xs x.args.length xc] 31)):=bA;have HS7:=Za (HS6.o.old hw7);have HF7:=Za (HF6.o.trans (Zc hw7));have HC7:=Za (HC6.o.old hw7);have HR7:=Za (HR6.o.old hw7);have HE7:=Za (HE6.o.old hw7);have HO7:=Za (HO6.o.keep (w':=(w6.alloc (.cells #[.int .i64 x.kind,.int .i64 x.op,.int .i64 x.n,.string (Aa x.name),.slice xs x.args.length xc] 31))) (fun k h1 h2=>hw7.block k h1));have HN7:=Za (Bx.new w6 (Aq x (.slice xs x.args.length xc)) 31);have Hx7:Hid (Aj (fun b=>w.heap.size+3≤b∧(Value.slice va ps.length vc).ownBlock≠some b) (w6.alloc (.cells #[.int .i64 x.kind,.int .i64 x.op,.int .i64 x.n,.string (Aa x.name),.slice xs x.args.length xc] 31)) x.args (.slice xs x.args.length xc)):=((Hx6.out.old hw7).mono (fun b hb=>⟨Zd hE3 hb,fun e=>by have h1:=(HOK.o.ge e).2;have h2:wr.heap.size≤b:=hb;omega⟩));clear hw7)
    |(refine step_append_lies (P:=Zb) _ rfl _ _ 29 rfl (w.heap.size+3) 31 i0 _ 5 64 underlying29 hi0 hz0 hz1 hz2 rfl (by decide) (.slice va ps.length vc) ps.length (Dk ps) rfl HO7.o.1 ⟨w6.heap.size,0,none⟩ 1 1 (Aq x (.slice xs x.args.length xc)) rfl rfl (Ew HN7.o) (Mq x _ _ _) (by decide) (by have:=hlen.out;unfold maxLen;omega) (by have:=hlen.out;omega) (by have:=HE7.o.lt;omega) _ rfl ?_;intro g cap w8 hown hgrow hat hlt8;have hge8:∀k,(Value.slice va ps.length vc).ownBlock=some k→w.heap.size+3≤k:=fun k e=>(HO7.o.ge e).1;have HS8:=Za (HS7.o.low (w':=w8) (fun k hk=>hgrow.block k (Nat.lt_of_le_of_lt hk HS7.o.lt) (fun e=>by have:=hge8 k e.symm;omega)));have HF8:=Za (HF7.o.grow hgrow (fun k e=>by have:=hge8 k e;omega));have HC8:=Za (HC7.o.low (hgrow.block _ HC7.o.lt (fun e=>by have:=hge8 _ e.symm;omega)));have HR8:=Za (HR7.o.low (hgrow.block _ HR7.o.lt (fun e=>by have:=hge8 _ e.symm;omega)));have hE8:=HE7.o.low (hgrow.block _ HE7.o.lt (fun e=>by have:=hge8 _ e.symm;omega));have HE8:=Za hE8;have HO8:=Za (HO7.o.snoc x _ Hx7.out Hn6.out hown hgrow hat);have y4:=hE8.at 4 _ rfl;have fy4:=hE8.fz 4;have hX8:=hE8.lt;clear hown hgrow hat hE8))
   all_goals
    have HE9:=Za (HE8.o.set 4 (.slice (some ⟨g,0,none⟩) (ps.length+1) cap));have HS9:=Za (HS8.o.other hsx 4 (.slice (some ⟨g,0,none⟩) (ps.length+1) cap));have HF9:=Za (HF8.o.setNew hge 4 (.slice (some ⟨g,0,none⟩) (ps.length+1) cap));have HR9:=Za (HR8.o.other (show w.heap.size+1≠w.heap.size+2 by omega) 4 (.slice (some ⟨g,0,none⟩) (ps.length+1) cap));have HC9:=Za (HC8.o.other (show w.heap.size≠w.heap.size+2 by omega) 4 (.slice (some ⟨g,0,none⟩) (ps.length+1) cap));have HO9:=Za (HO8.o.keep (w':=w8.setCell ⟨w.heap.size+2,4,none⟩ (.slice (some ⟨g,0,none⟩) (ps.length+1) cap)) (fun k h1 h2=>Below.heap_setCell _ _ _ _ (by show k≠w.heap.size+2;omega)));go_wp2_with fail
    go_roundw
    case rel=>exact⟨k+1,by omega,by go_num,⟨ps++[(x,.slice xs x.args.length xc)],_,by rw[HNX.o,List.map_append,HPS.o];rfl,by rw[HNX.o];exact HS9.o,HF9.o,HC9.o,HR9.o,HE9.o,HO9.o⟩⟩
    case measure=>simp [intOf];omega
  ·obtain rfl:k=c:=by omega
   have x0:=HRK.o.at 0 _ rfl;have x1:=HRK.o.at 1 _ rfl;have x2:=HRK.o.at 2 _ rfl;have x3:=HRK.o.at 3 _ rfl;have x4:=HRK.o.at 4 _ rfl;have fx0:=HRK.o.fz 0;have fx1:=HRK.o.fz 1;have fx2:=HRK.o.fz 2;have fx3:=HRK.o.fz 3;have fx4:=HRK.o.fz 4;have hsx1:s<w.heap.size+1:=by omega
   have hge1:w.heap.size≤w.heap.size+1:=by omega
   have hlen:Hid (Ci ps.length):=by show _≤_;have h1:=congrArg List.length HPS.o;rw[List.length_map,Gt]at h1;omega
   have HX9:=Za (HOK.o.exs hlen.out);rw[HPS.o]at HX9;have hB:w.heap.size+1<w.heap.size+3:=by omega
   have HRE:=Za (((((HRK.o.set 0 (.int .i64 5)).set 1 (.int .i64 0)).set 2 (.int .i64 0)).set 3 (.string (Aa nm))).set 4 (.slice va ps.length vc));have HSE:=Za (((((HSK.o.other hsx1 0 (.int .i64 5)).other hsx1 1 (.int .i64 0)).other hsx1 2 (.int .i64 0)).other hsx1 3 (.string (Aa nm))).other hsx1 4 (.slice va ps.length vc));have HFE:=Za (((((HFK.o.setNew hge1 0 (.int .i64 5)).setNew hge1 1 (.int .i64 0)).setNew hge1 2 (.int .i64 0)).setNew hge1 3 (.string (Aa nm))).setNew hge1 4 (.slice va ps.length vc));go_wp2_with fail
   have d0:=HRE.o.at 0 _ rfl;have d1:=HRE.o.at 1 _ rfl;have d2:=HRE.o.at 2 _ rfl;have d3:=HRE.o.at 3 _ rfl;have d4:=HRE.o.at 4 _ rfl;exact bodyPost_ret (v:=.agg #[.int .i64 5,.int .i64 0,.int .i64 0,(.string (Aa nm)),.slice va ps.length vc]) (by simp [results,results62,go_sem,d0,d1,d2,d3,d4]) rfl ⟨.slice va ps.length vc,rfl,HSE.o,HFE.o,((((((HX9.o.keep (Bi _ hB 0 _)).keep (Bi _ hB 1 _)).keep (Bi _ hB 2 _)).keep (Bi _ hB 3 _)).keep (Bi _ hB 4 _)).mono (fun b h=>(Zd (by omega) h:w.heap.size≤b))),(Dw ⟨by show _≤(0:Int);decide,by show(0:Int)≤_;decide⟩)⟩
theorem kR(d:Nat)(hd:2≤d)(hd1:d≤1000)(ih:Hh (d-1))(s:Nat)(raw:List Int)(a:Nat)(sc:Sc)(vv av fv:Value)(w:World)(hs:As w s raw a)(hsc:Ec s w sc vv av fv)(h:(sc.free||sc.funcs.isEmpty)=true):
  Calls Zb 62 #[scV sc vv av fv,.pointer (some ⟨s,0,none⟩),.int .i64 d] w (El w s raw (Gw sc raw (Az sc raw (d-1)) a)):=by
 obtain⟨v1,v2,rfl⟩:=hsc.vars.shape;obtain⟨a1,a2,rfl⟩:=hsc.arrays.shape;obtain⟨f1,f2,rfl⟩:=hsc.funcs.shape;have lf:=hsc.f1;have hsl:=hs.lt;obtain⟨hb1,hc1,hr1,he1⟩:=gO w [.slice v1 sc.vars.length v2,.slice a1 sc.arrays.length a2,.slice f1 sc.funcs.length f2,.bool sc.free,.bool sc.loop] [.int .i64 0,.int .i64 0,.int .i64 0,.string ⟨#[]⟩,.slice none 0 0] [.int .i64 5,.int .i64 0,.int .i64 0,.string ⟨#[]⟩,.slice none 0 0] 62 31 31;have HC1:=Za hc1;have HR1:=Za hr1;have HE1:=Za he1;have HS1:=Za (hs.old hb1);have HF1:=Za (Zc (s:=s) hb1);have HSC:=Za hsc;have HDM:Hid (((d-1:Nat):Int)=(d:Int)-1):=by show _=_;omega
 have HIH:Hid (∀w1 b,As w1 s raw b→Ec s w1 sc (.slice v1 sc.vars.length v2) (.slice a1 sc.arrays.length a2) (.slice f1 sc.funcs.length f2)→Calls Zb 27 #[scV sc (.slice v1 sc.vars.length v2) (.slice a1 sc.arrays.length a2) (.slice f1 sc.funcs.length f2),.pointer (some ⟨s,0,none⟩),.int .i64 ((d:Int)-1)] w1 (El w1 s raw (Az sc raw (d-1) b))):=fun w1 b h1 h2=>by have q:=ih s raw b sc _ _ _ w1 h1 h2;rw[HDM.o]at q;exact q
 have HZ:Hid (w.heap.size+1≠s):=by show _≠_;omega
 have HY:Hid (w.heap.size≠s):=by show _≠_;omega
 have HX:Hid (w.heap.size+2≠s):=by show _≠_;omega
 have hd0:(2:Int)≤(d:Int):=by omega
 have hdM:(d:Int)≤1000:=by omega
 clear hb1 hc1 hr1 he1 hs ih;have E:Gw sc raw (Az sc raw (d-1)) a=(.mk 5 0 0 (Hn (Ad raw a 312).1) (Gf (Az sc raw (d-1)) (Ad raw (Ad raw a 312).2 7).1.toNat (Ad raw (Ad raw a 312).2 7).2).1,(Gf (Az sc raw (d-1)) (Ad raw (Ad raw a 312).2 7).1.toNat (Ad raw (Ad raw a 312).2 7).2).2):=by unfold Gw;rw[if_pos h]
 rw[E];clear E;have HN:Hid (∀w1,As w1 s raw a→Calls Zb 24 #[.pointer (some ⟨s,0,none⟩),.int .i64 312] w1 (Dr w1 s raw (.int .i64 (Ad raw a 312).1) (Ad raw a 312).2)):=fun w1 h1=>Bn s raw a 312 w1 h1 (by decide) (by decide)
 have HV:Hid (∀w,Calls Zb 63 #[.int .i64 (Ad raw a 312).1] w fun e w'=>e=.returned (.string (Aa (Hn (Ad raw a 312).1)))∧Below w.heap.size w w'):=fun w=>Ug _ (Lz raw a 312 (by decide) (by decide)) w
 have HM:Hid (∀w1,As w1 s raw (Ad raw a 312).2→Calls Zb 24 #[.pointer (some ⟨s,0,none⟩),.int .i64 7] w1 (Dr w1 s raw (.int .i64 (Ad raw (Ad raw a 312).2 7).1) (Ad raw (Ad raw a 312).2 7).2)):=fun w1 h1=>Bn s raw _ 7 w1 h1 (by decide) (by decide)
 have hr:=Ak raw (Ad raw a 312).2 7 (by decide);have hcase:(sc.free=false∧sc.funcs.length=0)∨sc.free=true:=by
  revert h;cases sc.free
  ·intro h;exact .inl ⟨rfl,by simpa using h⟩
  ·intro _;exact .inr rfl
 clear h;unfold scV at HIH ⊢;generalize sc.free=fb at*;generalize sc.funcs.length=fn at*;generalize Ad raw (Ad raw a 312).2 7=q at*;generalize Ad raw a 312=g at*;obtain⟨c,a0⟩:=q;obtain⟨c0,c1⟩:=hr;dsimp only at*;obtain⟨c,rfl⟩:=Int.eq_ofNat_of_zero_le c0;rw[Int.toNat_natCast];have hc6:c≤1000000:=by omega
 generalize Hn g.1=nm at*;have b0:=HC1.o.at 0 _ rfl;have b1:=HC1.o.at 1 _ rfl;have b2:=HC1.o.at 2 _ rfl;have b3:=HC1.o.at 3 _ rfl;have b4:=HC1.o.at 4 _ rfl;obtain⟨scs,hscs⟩:∃scs:List Value,scs=[.slice v1 sc.vars.length v2,.slice a1 sc.arrays.length a2,.slice f1 fn f2,.bool fb,.bool sc.loop]:=⟨_,rfl⟩;have HSCS:=Za hscs;clear hscs;rcases hcase with⟨rfl,rfl⟩|rfl
 all_goals
  go_enter func62,ntmps62
  go_upto_if 19 with(fail)
  go_cut [8] (fun q wx=>q=.int .i64 c∧As wx s raw a0∧SFr s w wx∧Al wx w.heap.size scs 62∧Al wx (w.heap.size+1) [.int .i64 0,.int .i64 0,.int .i64 0,.string ⟨#[]⟩,.slice none 0 0] 31∧Al wx (w.heap.size+2) [.int .i64 5,.int .i64 0,.int .i64 0,.string (Aa nm),.slice none 0 0] 31)
  case first=>
   go_wp2_with fail
   refine(HN.o _ HS1.o).mono ?_;rintro r w2 ⟨rfl,hs2,hf2⟩;have HS2:=Za hs2;have HF2:=Za (HF1.o.trans hf2);have HR2:=Za (HR1.o.sfr hf2 HZ.o);have HC2:=Za (HC1.o.sfr hf2 HY.o);have HE2:=Za (HE1.o.sfr hf2 HX.o);clear hs2 hf2;go_wp2_with fail
   refine(HV.o _).mono ?_;rintro r w3 ⟨rfl,hb3⟩;have HS3:=Za (HS2.o.old hb3);have HF3:=Za (HF2.o.trans (Zc hb3));have HR3:=Za (HR2.o.old hb3);have HC3:=Za (HC2.o.old hb3);have HE3:=Za (HE2.o.old hb3);clear hb3;have e0:=HE3.o.at 0 _ rfl;have e1:=HE3.o.at 1 _ rfl;have e2:=HE3.o.at 2 _ rfl;have e3:=HE3.o.at 3 _ rfl;have e4:=HE3.o.at 4 _ rfl;have fe3:=HE3.o.fz 3;have hsx:s<w.heap.size+2:=by omega
   have hge:w.heap.size≤w.heap.size+2:=by omega
   have HS4:=Za (HS3.o.other hsx 3 (.string (Aa nm)));have HF4:=Za (HF3.o.setNew hge 3 (.string (Aa nm)));have HE4:=Za (HE3.o.set 3 (.string (Aa nm)));have HR4:=Za (HR3.o.other (show w.heap.size+1≠w.heap.size+2 by omega) 3 (.string (Aa nm)));have HC4:=Za (HC3.o.other (show w.heap.size≠w.heap.size+2 by omega) 3 (.string (Aa nm)));go_wp2_with fail
   generalize w3.setCell ⟨w.heap.size+2,3,none⟩ (.string (Aa nm))=w4 at*;clear e0 e1 e2 e3 e4 fe3 b0 b1 b2 b3 b4;refine(HM.o _ HS4.o).mono ?_;rintro r w5 ⟨rfl,hs5,hf5⟩;have HS5:=Za hs5;have HF5:=Za (HF4.o.trans hf5);have HR5:=Za (HR4.o.sfr hf5 HZ.o);have HC5:=Za (HC4.o.sfr hf5 HY.o);have HE5:=Za (HE4.o.sfr hf5 HX.o);clear hs5 hf5;go_wp2_with fail
   go_meet;exact⟨rfl,HS5.o,HF5.o,(by rw[HSCS.o];exact HC5.o),HR5.o,HE5.o⟩
  case rest=>
  obtain⟨rfl,hs5,hf5,hC5,hR5,hE5⟩:=hcut;rw[HSCS.o]at hC5;apply_assumption
  exact Sz hd hd1 hsl HSC.o HIH.o hc6 hs5 hf5 hC5 hR5 hE5 _ _ _ _ _ _ _ _ _ _ _ _ _ _ _ _ _ _ _ _ _ _ _ _ _ _ _ _ _ _ _ _ _ _ _ _ _ _ _ _ _ _ _ _ _ _ _ _ _ _
theorem call_of(d:Nat)(hd:2≤d)(hd1:d≤1000)(ih:Hh (d-1))(s:Nat)(raw:List Int)(a:Nat)(sc:Sc)(vv av fv:Value)(w:World)(hs:As w s raw a)(hsc:Ec s w sc vv av fv)(h:(sc.free||sc.funcs.isEmpty)=false):
  Calls Zb 62 #[scV sc vv av fv,.pointer (some ⟨s,0,none⟩),.int .i64 d] w (El w s raw (Gw sc raw (Az sc raw (d-1)) a)):=by
 have hpos:0<sc.funcs.length:=Wa (by rw[h];simp);have hf:sc.free=false:=by revert h;cases sc.free<;>simp
 obtain⟨v1,v2,rfl⟩:=hsc.vars.shape;obtain⟨a1,a2,rfl⟩:=hsc.arrays.shape;obtain⟨f1,f2,rfl⟩:=hsc.funcs.shape;have lf:=hsc.f1;have hsl:=hs.lt;obtain⟨hb1,hc1,hr1,he1⟩:=gO w [.slice v1 sc.vars.length v2,.slice a1 sc.arrays.length a2,.slice f1 sc.funcs.length f2,.bool sc.free,.bool sc.loop] [.int .i64 0,.int .i64 0,.int .i64 0,.string ⟨#[]⟩,.slice none 0 0] [.int .i64 5,.int .i64 0,.int .i64 0,.string ⟨#[]⟩,.slice none 0 0] 62 31 31;have HC1:=Za hc1;have HR1:=Za hr1;have HE1:=Za he1;have HS1:=Za (hs.old hb1);have HF1:=Za (Zc (s:=s) hb1);have HSC:=Za hsc;have HDM:Hid (((d-1:Nat):Int)=(d:Int)-1):=by show _=_;omega
 have HIH:Hid (∀w1 b,As w1 s raw b→Ec s w1 sc (.slice v1 sc.vars.length v2) (.slice a1 sc.arrays.length a2) (.slice f1 sc.funcs.length f2)→Calls Zb 27 #[scV sc (.slice v1 sc.vars.length v2) (.slice a1 sc.arrays.length a2) (.slice f1 sc.funcs.length f2),.pointer (some ⟨s,0,none⟩),.int .i64 ((d:Int)-1)] w1 (El w1 s raw (Az sc raw (d-1) b))):=fun w1 b h1 h2=>by have q:=ih s raw b sc _ _ _ w1 h1 h2;rw[HDM.o]at q;exact q
 have HZ:Hid (w.heap.size+1≠s):=by show _≠_;omega
 have HY:Hid (w.heap.size≠s):=by show _≠_;omega
 have HX:Hid (w.heap.size+2≠s):=by show _≠_;omega
 have hd0:(2:Int)≤(d:Int):=by omega
 have hdM:(d:Int)≤1000:=by omega
 clear hb1 hc1 hr1 he1 hs ih;have E:Gw sc raw (Az sc raw (d-1)) a=(.mk 5 0 0 (Bc sc.funcs (Ad raw a sc.funcs.length).1.toNat).name (Gf (Az sc raw (d-1)) (Bc sc.funcs (Ad raw a sc.funcs.length).1.toNat).params.length (Ad raw a sc.funcs.length).2).1,(Gf (Az sc raw (d-1)) (Bc sc.funcs (Ad raw a sc.funcs.length).1.toNat).params.length (Ad raw a sc.funcs.length).2).2):=by unfold Gw;rw[if_neg (by rw[h];simp)]
 rw[E];clear E;have HN:Hid (∀w1,As w1 s raw a→Calls Zb 24 #[.pointer (some ⟨s,0,none⟩),.int .i64 sc.funcs.length] w1 (Dr w1 s raw (.int .i64 (Ad raw a sc.funcs.length).1) (Ad raw a sc.funcs.length).2)):=fun w1 h1=>Bn s raw a sc.funcs.length w1 h1 (by omega) (by omega)
 have hr:=Ak raw a sc.funcs.length (by omega);generalize Ad raw a sc.funcs.length=g at*;obtain⟨i,a0⟩:=g;obtain⟨i0,i1⟩:=hr;dsimp only at*;obtain⟨i,rfl⟩:=Int.eq_ofNat_of_zero_le i0;rw[Int.toNat_natCast];have hi:i<sc.funcs.length:=by omega
 obtain⟨eb,off,xp,xl,xb,rfl,hD,hbl,z0,z1,z2,z3,hxp,hxl,hxb⟩:=Bk.cellAt hsc.funcs i hi;obtain⟨p1,p2,rfl⟩:=hxp.shape;obtain⟨l1,l2,rfl⟩:=hxl.shape;obtain⟨y1,y2,rfl⟩:=hxb.shape;have hc6:(Bc sc.funcs i).params.length≤1000000:=hsc.p1 _ (Ln hi);have heb:eb≠s:=hD;generalize Bc sc.funcs i=x at*;have hb1:=(gO w [.slice v1 sc.vars.length v2,.slice a1 sc.arrays.length a2,.slice (some ⟨eb,off,none⟩) sc.funcs.length f2,.bool sc.free,.bool sc.loop] [.int .i64 0,.int .i64 0,.int .i64 0,.string ⟨#[]⟩,.slice none 0 0] [.int .i64 5,.int .i64 0,.int .i64 0,.string ⟨#[]⟩,.slice none 0 0] 62 31 31).1;replace z0:=Ac hb1 z0;replace z1:=Ac hb1 z1;replace z2:=Ac hb1 z2;replace z3:=Ac hb1 z3;clear hb1 h hxp hxl hxb hD hsc;unfold scV at HIH ⊢;rw[hf]at HC1 HR1 HE1 HS1 HF1 HIH z0 z1 z2 z3 ⊢;clear hf;have hne:((sc.funcs.length:Int)==0)=false:=beq_eq_false_iff_ne.2 (by omega);generalize sc.funcs.length=fn at*;have b0:=HC1.o.at 0 _ rfl;have b1:=HC1.o.at 1 _ rfl;have b2:=HC1.o.at 2 _ rfl;have b3:=HC1.o.at 3 _ rfl;have b4:=HC1.o.at 4 _ rfl;go_enter func62,ntmps62
 go_upto_if 19 with(fail)
 generalize (((w.alloc (.cells #[.slice v1 sc.vars.length v2,.slice a1 sc.arrays.length a2,.slice (some ⟨eb,off,none⟩) fn f2,.bool false,.bool sc.loop] 62)).alloc (.cells #[.int .i64 0,.int .i64 0,.int .i64 0,.string ⟨#[]⟩,.slice none 0 0] 31)).alloc (.cells #[.int .i64 5,.int .i64 0,.int .i64 0,.string ⟨#[]⟩,.slice none 0 0] 31))=W1 at*;go_cut [8] (fun q wx=>q=.int .i64 x.params.length∧As wx s raw a0∧SFr s w wx∧Al wx w.heap.size [.slice v1 sc.vars.length v2,.slice a1 sc.arrays.length a2,.slice (some ⟨eb,off,none⟩) fn f2,.bool false,.bool sc.loop] 62∧Al wx (w.heap.size+1) [.int .i64 0,.int .i64 0,.int .i64 0,.string ⟨#[]⟩,.slice none 0 0] 31∧Al wx (w.heap.size+2) [.int .i64 5,.int .i64 0,.int .i64 0,.string (Aa x.name),.slice none 0 0] 31)
 case first=>
  go_upto_region 6 with(fail)
  have hdr:Below W1.heap.size W1 W1.drew:=(Below.refl _ _).drew;have HSd:=Za (HS1.o.old hdr);have HFd:=Za (HF1.o.trans (Zc hdr));have HCd:=Za (HC1.o.old hdr);have HRd:=Za (HR1.o.old hdr);have HEd:=Za (HE1.o.old hdr);have z0d:W1.drew.cell? ⟨eb,off+i*4,none⟩=some (.string (Aa x.name)):=z0;have z1d:W1.drew.cell? ⟨eb,off+i*4+1,none⟩=some (.slice p1 x.params.length p2):=z1;have z2d:W1.drew.cell? ⟨eb,off+i*4+2,none⟩=some (.slice l1 x.locals.length l2):=z2;have z3d:W1.drew.cell? ⟨eb,off+i*4+3,none⟩=some (.slice y1 x.body.length y2):=z3;have hX1:=HE1.o.lt;have hsW:s<W1.heap.size:=HS1.o.lt;have hWs:W1.heap.size≠s:=by omega
  have hsx:s<w.heap.size+2:=by omega
  have hge:w.heap.size≤w.heap.size+2:=by omega
  have hgW:w.heap.size≤W1.heap.size:=by omega
  have hebW:eb≠W1.heap.size:=by omega
  have hwW:w.heap.size≠W1.heap.size:=by omega
  have hwW1:w.heap.size+1≠W1.heap.size:=by omega
  have hwW2:w.heap.size+2≠W1.heap.size:=by omega
  clear hdr
  go_region_held3 (fun w'=>w'.cell? ⟨w.heap.size,2,none⟩=some (.slice (some ⟨eb,off,none⟩) fn f2)∧w'.cell? ⟨eb,off+i*4,none⟩=some (.string (Aa x.name))∧w'.cell? ⟨eb,off+i*4+1,none⟩=some (.slice p1 x.params.length p2)∧w'.cell? ⟨eb,off+i*4+2,none⟩=some (.slice l1 x.locals.length l2)∧w'.cell? ⟨eb,off+i*4+3,none⟩=some (.slice y1 x.body.length y2)) (first|(simp [*,World.cell?_alloc_lt,Pn];done)|go_keep) (first
   |(go_at_call 24;refine(HN.o _ (by first|exact HSd.o|exact HSd.o.alloc _)).mono ?_;rintro r w4 ⟨he,hs4,hf4⟩;subst he;have HS4:=Za hs4;have HF4:Hid (SFr s w w4):=(by first|exact HFd.o.trans hf4|exact(HFd.o.trans (SFr.alloc _)).trans hf4);have hC4:Al w4 w.heap.size _ _:=(by first|exact HCd.o.sfr hf4 HY.o|exact(HCd.o.alloc _).sfr hf4 HY.o);have hR4:Al w4 (w.heap.size+1) _ _:=(by first|exact HRd.o.sfr hf4 HZ.o|exact(HRd.o.alloc _).sfr hf4 HZ.o);have hE4:Al w4 (w.heap.size+2) _ _:=(by first|exact HEd.o.sfr hf4 HX.o|exact(HEd.o.alloc _).sfr hf4 HX.o);have HC4:=Za hC4;have HR4:=Za hR4;have HE4:=Za hE4;have k2:=hC4.at 2 _ rfl;have m0:w4.cell? ⟨eb,off+i*4,none⟩=some (.string (Aa x.name)):=(by first|exact hf4.cell heb z0d|exact hf4.cell heb (Ac (bA) z0d));have m1:w4.cell? ⟨eb,off+i*4+1,none⟩=some (.slice p1 x.params.length p2):=(by first|exact hf4.cell heb z1d|exact hf4.cell heb (Ac (bA) z1d));have m2:w4.cell? ⟨eb,off+i*4+2,none⟩=some (.slice l1 x.locals.length l2):=(by first|exact hf4.cell heb z2d|exact hf4.cell heb (Ac (bA) z2d));have m3:w4.cell? ⟨eb,off+i*4+3,none⟩=some (.slice y1 x.body.length y2):=(by first|exact hf4.cell heb z3d|exact hf4.cell heb (Ac (bA) z3d));have g3:=hE4.fz 3;have g4:=hE4.at 3 _ rfl;have hX4:=hE4.lt;have hb4:eb<w4.heap.size:=Zh _ _ m0;(first|(have hV4:Al w4 W1.heap.size _ _:=(Ze W1.drew [.string ⟨#[]⟩,.slice none 0 0,.slice none 0 0,.slice none 0 0] 47).sfr hf4 hWs;have o0:=hV4.at 0 _ rfl;have o1:=hV4.at 1 _ rfl;have o2:=hV4.at 2 _ rfl;have o3:=hV4.at 3 _ rfl;have fo0:=hV4.fz 0;have fo1:=hV4.fz 1;have fo2:=hV4.fz 2;have fo3:=hV4.fz 3;have HV4:=Za hV4;have hlV:=hV4.lt;clear hV4)|skip);clear hs4 hf4 hC4 hR4 hE4))
  ·have HSE:=Za ((HS4.o.other hsx 3 (.string (Aa x.name))).alloc (.cells #[.string (Aa x.name),.slice p1 x.params.length p2,.slice l1 x.locals.length l2,.slice y1 x.body.length y2] 47))
   have HFE:=Za ((HF4.o.setNew hge 3 (.string (Aa x.name))).trans (SFr.alloc (.cells #[.string (Aa x.name),.slice p1 x.params.length p2,.slice l1 x.locals.length l2,.slice y1 x.body.length y2] 47)));have HCE:=Za ((HC4.o.other (show w.heap.size≠w.heap.size+2 by omega) 3 (.string (Aa x.name))).alloc (.cells #[.string (Aa x.name),.slice p1 x.params.length p2,.slice l1 x.locals.length l2,.slice y1 x.body.length y2] 47));have HRE:=Za ((HR4.o.other (show w.heap.size+1≠w.heap.size+2 by omega) 3 (.string (Aa x.name))).alloc (.cells #[.string (Aa x.name),.slice p1 x.params.length p2,.slice l1 x.locals.length l2,.slice y1 x.body.length y2] 47));have HEE:=Za ((HE4.o.set 3 (.string (Aa x.name))).alloc (.cells #[.string (Aa x.name),.slice p1 x.params.length p2,.slice l1 x.locals.length l2,.slice y1 x.body.length y2] 47));go_wp2_with fail
   go_meet;exact⟨rfl,HSE.o,HFE.o,HCE.o,HRE.o,HEE.o⟩
  ·have HSE:=Za (((((HS4.o.other hsW 0 (.string (Aa x.name))).other hsW 1 (.slice p1 x.params.length p2)).other hsW 2 (.slice l1 x.locals.length l2)).other hsW 3 (.slice y1 x.body.length y2)).other hsx 3 (.string (Aa x.name)))
   have HFE:=Za (((((HF4.o.setNew hgW 0 (.string (Aa x.name))).setNew hgW 1 (.slice p1 x.params.length p2)).setNew hgW 2 (.slice l1 x.locals.length l2)).setNew hgW 3 (.slice y1 x.body.length y2)).setNew hge 3 (.string (Aa x.name)));have HCE:=Za (((((HC4.o.other hwW 0 (.string (Aa x.name))).other hwW 1 (.slice p1 x.params.length p2)).other hwW 2 (.slice l1 x.locals.length l2)).other hwW 3 (.slice y1 x.body.length y2)).other (show w.heap.size≠w.heap.size+2 by omega) 3 (.string (Aa x.name)));have HRE:=Za (((((HR4.o.other hwW1 0 (.string (Aa x.name))).other hwW1 1 (.slice p1 x.params.length p2)).other hwW1 2 (.slice l1 x.locals.length l2)).other hwW1 3 (.slice y1 x.body.length y2)).other (show w.heap.size+1≠w.heap.size+2 by omega) 3 (.string (Aa x.name)));have HEE:=Za (((((HE4.o.other hwW2 0 (.string (Aa x.name))).other hwW2 1 (.slice p1 x.params.length p2)).other hwW2 2 (.slice l1 x.locals.length l2)).other hwW2 3 (.slice y1 x.body.length y2)).set 3 (.string (Aa x.name)));go_wp2_with fail
   go_meet;exact⟨rfl,HSE.o,HFE.o,HCE.o,HRE.o,HEE.o⟩
 case rest=>
  obtain⟨rfl,hs5,hf5,hC5,hR5,hE5⟩:=hcut;apply_assumption
  exact Sz hd hd1 hsl HSC.o HIH.o hc6 hs5 hf5 hC5 hR5 hE5 _ _ _ _ _ _ _ _ _ _ _ _ _ _ _ _ _ _ _ _ _ _ _ _ _ _ _ _ _ _ _ _ _ _ _ _ _ _ _ _ _ _ _ _ _ _ _ _ _ _
theorem Sy(d:Nat)(hd:2≤d)(hd1:d≤1000)(ih:Hh (d-1)):Nc d:=by
 intro s raw a sc vv av fv w hs hsc
 cases h:(sc.free||sc.funcs.isEmpty)
 ·exact call_of d hd hd1 ih s raw a sc vv av fv w hs hsc h
 ·exact kR d hd hd1 ih s raw a sc vv av fv w hs hsc h
theorem Gm:∀d:Nat,d≤1000→Hh d
 |0,h=>Tl 0 h (fun h=>absurd h (by decide)) (fun h=>absurd h (by decide))
 |d+1,h=>Tl (d+1) h (fun _=>Gm d (by omega)) (fun h2=>Sy (d+1) h2 h (Gm d (by omega)))
theorem iC(d:Nat)(hd:2≤d)(hd1:d≤1000):Nc d:=Sy d hd hd1 (Gm (d-1) (by omega))
end Go.Proofs.YtfhbinbjkpfedaaGreatDoor
