/-
  TreeTells: for every input the law returns true, and its arguments read afterwards as before: the row, the card. Condition: the tables that the row lists are laid as the program's text lays them.
-/
import Derived.Test.YtfhbinbjkpfedaaGreatDoorTT17
import Derived.Test.YtfhbinbjkpfedaaGreatDoorCards
import Derived.Test.YtfhbinbjkpfedaaGreatDoorTie
set_option linter.unusedVariables false
set_option linter.unusedSimpArgs false
namespace Go.Proofs.YtfhbinbjkpfedaaGreatDoor
open Go.RowKit Go.Proofs.Tryz
set_option maxHeartbeats 20000000
set_option maxRecDepth 100000
open Go.Lib renaming hid→Za
open Calls renaming mono→Zb
open List renaming length_append→Zc
open Nat renaming le_refl→Zd
theorem My {P:Program}{c:Code}{a:Act}{w:World}{R:Act→World→Prop}{Q:Exit→Act→World→Prop}(first:∀(J K':Act→World→Prop),(∀a' w',R a' w'→J a' w')→(∀a' w',Met J a' w'→K' a' w')→c.wp P (Exit.then K' (fun _ _ _=>False)) a w)(h:∀a' w',R a' w'→Q .normal a' w'):c.wp P Q a w:=by
 refine wp_mono (first R R (fun _ _ q=>q) (fun _ _ q=>q)) ?_;intro e a' w' hq
 cases e with
 |normal=>exact h _ _ hq
 |_=>exact False.elim hq
theorem dQ(raw0:List Int)(rv:Value)(w:World)(hr:Fj (· <w.heap.size) w raw0 rv):Calls Tryz.prog 6 #[rv] w (WildP w):=by
 obtain⟨ra,rc,rfl⟩:=hr.shape;have hfit:=hr.len;have HR:=Za hr;obtain⟨raw,hraw⟩:∃raw,raw=raw0.take 400:=⟨_,rfl⟩;have HRAW:=Za hraw;clear hr hraw;go_enter func6,ntmps6
 go_upto_if 17 with(fail)
 go_cut [] (fun wx=>Pre0 w raw wx)
 case first=>
  by_cases h400:400<raw0.length
  ·have hlt:(400:Int)<(raw0.length:Int):=by omega
   have hle:(400:Int)≤(rc:Int):=by
    obtain⟨a',cap',b,off,hv,h1,_⟩:=HR.o
    cases hv;omega
   go_wp2_with fail
   go_meet;have hq:=HR.o.take 400 (by omega) (by decide);rw[←HRAW.o]at hq;have h1:raw.length=400:=by rw[HRAW.o,List.length_take];omega
   exact Qj w raw _ hq
  ·have hlt:(raw0.length:Int)≤400:=by omega
   have HQ:Hid (Ez (· <w.heap.size) w raw (.slice ra raw0.length rc)):=by
    have e:raw=raw0:=by rw[HRAW.o];exact List.take_of_length_le (by omega)
    show Ez _ _ _ _
    rw[e];have:=HR.o.take raw0.length (Zd _) (by omega);rwa[List.take_length]at this
   go_wp2_with fail
   go_meet;exact Qj w raw _ HQ.o
 case rest=>
 obtain⟨hc1,hc2,hc3,hc4⟩:=hcut;have S0:=Za hc1;have B0:=Za hc2;have R0:=Za hc3;clear hc1 hc2 hc3 hc4 HRAW;have HNX:=Za (fun n a w1 h1 h2 h3=>Bn (w.heap.size+1) raw a n w1 h1 h2 h3);have hr9:=Ak raw 0 9 (by decide);have HN:=Za (HNX.o 9 0 wc S0.out (by decide) (by decide));generalize Ad raw 0 9=g at*;obtain⟨kk,a1⟩:=g;have hk0:0≤kk:=hr9.1;have hk9:kk<9:=hr9.2;clear hr9;go_wp2_with fail
 refine HN.o.mono ?_;rintro r w1 ⟨rfl,hs1,hf1⟩;have S1:=Za hs1;have B1:=Za (B0.out.trans ((hf1.below (Nat.le_of_lt S0.out.lt)).mono (Nat.le_succ _)));have R1:=Za (R0.out.sfr hf1 (by omega));clear hs1 hf1 HN S0 B0 R0;have HN:=Za (HNX.o 2 a1 w1 S1.out (by decide) (by decide));generalize Ad raw a1 2=g at*;obtain⟨n2,a2⟩:=g;go_wp2_with fail
 refine HN.o.mono ?_;rintro r w2 ⟨rfl,hs2,hf2⟩;have B2:=Za (B1.out.trans ((hf2.below (Nat.le_of_lt S1.out.lt)).mono (Nat.le_succ _)));have R2:=Za (R1.out.sfr hf2 (by omega));have hs2:As w2 (w.heap.size+1) raw a2:=hs2;have A3:=Za (WA.of (n2==1) B2.out hs2 R2.out);clear hs2 hf2 HN S1 B1 R1 B2 R2;go_upto_region 6 with(fail)
 generalize (n2==1)=fb at*;generalize hW3:(w2.alloc (.cells #[.string ⟨#[120]⟩,.string ⟨#[112]⟩] 9)).alloc (.cells #[.slice (some ⟨w2.heap.size,0,none⟩) 2 2,.slice none 0 0,.slice none 0 0,.bool fb,.bool false] 62)=w3 at*;have A3:Hid (WA w (w2.heap.size+1) w2.heap.size fb raw a2 w3):=by rw[←hW3];exact A3.out
 have hSC:w2.heap.size+1<w3.heap.size:=A3.out.scp.lt;clear hW3;generalize w2.heap.size=vb at*;have HN:=Za (HNX.o 2 a2 w3 A3.out.src (by decide) (by decide));generalize Ad raw a2 2=g at*;obtain⟨n3,a3⟩:=g;go_wp2_with fail
 refine HN.o.mono ?_;rintro r w4 ⟨rfl,hs4,hf4⟩;have A4:=Za (A3.out.sfr hs4 hf4);clear hs4 hf4 HN A3;have HPR:=Za (Wf raw0 (n3==1) (.slice ra raw0.length rc) w4 ((Fj.old A4.out.bel HR.o)));have hpc:=Nu raw0 (n3==1);have HFN:=Za (fuN_gen raw0 (n3==1));have HSG:=Za (eW raw0 (n3==1));generalize Gg raw0 (n3==1)=p at*;obtain⟨hp1,hp2,hp3⟩:=hpc;go_wp2_with fail
 refine Zb (by with_reducible exact HPR.o) ?_;intro r w5 hg;obtain⟨va,gf,cf,ds,M0,rfl,hds,hdl,hB⟩:=WB.of A4.out hg hp3;have B6:=Za hB;have HDS:=Za hds;have HDL:=Za hdl;have hdl0:0<ds.length:=by have:=congrArg List.length hds;rw[List.length_map]at this;omega
 obtain⟨va1,va2,rfl⟩:∃va1 va2,va=.slice va1 p.arrays.length va2:=by
  rcases hB.ars.2 with⟨h,h0⟩|⟨g,cap,cur,h,_⟩
  ·exact⟨none,0,by rw[h0];exact h⟩
  ·exact⟨_,_,h⟩
 clear hg hds hB A4 HPR;go_upto_region 7 with(fail)
 generalize w5.alloc (.cells #[.slice va1 p.arrays.length va2,.slice (some ⟨gf,0,none⟩) ds.length cf] 27)=w6 at*;generalize w5.heap.size=PC at*;have hgr:=Ak raw a3 (ds.length:Int) (by omega);have HN:=Za (HNX.o (ds.length:Int) a3 w6 B6.out.wa.src (by omega) (by omega));generalize Ad raw a3 (ds.length:Int)=g at*;obtain⟨n4,a4⟩:=g;obtain⟨i,rfl⟩:∃n:Nat,n4=(n:Int):=⟨n4.toNat,by have:0≤n4:=hgr.1;omega⟩;have hi:i<ds.length:=by have:(i:Int)<(ds.length:Int):=hgr.2;omega
 have p1:=B6.out.prg.at 1 _ rfl;clear hgr;go_wp2_with fail
 refine Zb (by with_reducible exact HN.o) ?_;rintro r w7 ⟨rfl,hs7,hf7⟩;have B7:=Za (B6.out.sfr hs7 hf7);clear hs7 hf7 HN B6 p1;obtain⟨d,hd⟩:∃d,ds[i]? =some d:=⟨_,List.getElem?_eq_getElem hi⟩;have hdm:=List.mem_of_getElem? hd;obtain⟨k1,k2,ls,k3,k4,k5⟩:=B7.out.prt d hdm;have cell:=fun q u (hq:q<4) (hu:(Bq d)[q]? =some u)=>Es B7.out.row (i*4+q) u (by rw[Ia Bq 4 (fun _=>rfl) ds i q d hd hq];exact hu)
 obtain⟨f1,f2,hp⟩:=k1.shape;obtain⟨f3,f4,hl⟩:=k2.shape;obtain⟨f5,f6,hb⟩:=k5.shape;obtain⟨dx,dp,dl,db⟩:=d;dsimp only at hp hl hb;subst hp hl hb;have z0:w7.cell? ⟨gf,i*4,none⟩=some (.string (Aa dx.name)):=by simpa using cell 0 _ (by decide) rfl
 have z1:w7.cell? ⟨gf,i*4+1,none⟩=some (.slice f1 dx.params.length f2):=by simpa using cell 1 _ (by decide) rfl
 have z2:w7.cell? ⟨gf,i*4+2,none⟩=some (.slice f3 dx.locals.length f4):=by simpa using cell 2 _ (by decide) rfl
 have z3:w7.cell? ⟨gf,i*4+3,none⟩=some (.slice f5 ls.length f6):=by simpa using cell 3 _ (by decide) rfl
 have HDM:=Za hdm;have HD:=Za hd;have hiI:(i:Int)<(ds.length:Int):=by omega
 have hiI0:(0:Int)≤(i:Int):=by omega
 have p1:=B7.out.prg.at 1 _ rfl;have hPC:PC<w7.heap.size:=B7.out.prg.lt;have hal:Below w7.heap.size w7 (w7.alloc (.cells #[.string (Aa dx.name),.slice f1 dx.params.length f2,.slice f3 dx.locals.length f4,.slice f5 ls.length f6] 47)):=bA;have B8:=Za (B7.out.old hal);have F8:Hid (Al _ w7.heap.size (Bq ⟨dx,.slice f1 dx.params.length f2,.slice f3 dx.locals.length f4,.slice f5 ls.length f6⟩) 47):=Za (Al.new w7 [.string (Aa dx.name),.slice f1 dx.params.length f2,.slice f3 dx.locals.length f4,.slice f5 ls.length f6] 47);have K3:=Za k3;have K4:=Za k4;clear hal cell hdm hd k1 k2 k3 k4 k5;go_upto_region 9 with(fail)
 generalize w7.alloc (.cells #[.string (Aa dx.name),.slice f1 dx.params.length f2,.slice f3 dx.locals.length f4,.slice f5 ls.length f6] 47)=w8 at*;generalize w7.heap.size=F at*;clear p1 z0 z1 z2 z3 B7;have hwPC:w.heap.size+1<PC:=by have h1:=B8.out.lt;have h2:=B8.out.wa.lt;omega
 have hgr:=Ak raw a4 13 (by decide);have HN:=Za (HNX.o 13 a4 w8 B8.out.wa.src (by decide) (by decide));generalize Ad raw a4 13=g at*;obtain⟨n5,a5⟩:=g;have S1:IntKind.i64.wrap (n5-1)=n5-1:=IntWalk.i64_in _ (by have:0≤n5:=hgr.1;have:n5<13:=hgr.2;omega);clear hgr;go_wp2_with fail
 refine Zb (by with_reducible exact HN.o) ?_;rintro r w9 ⟨rfl,hs9,hf9⟩;have B9:=Za (B8.out.sfr hs9 hf9);have F9:=Za (F8.out.sfr hf9 (by omega));clear hs9 hf9 HN B8 F8;have HJ:=Za (Lq (w.heap.size+1) raw a5 w9 B9.out.wa.src);go_wp2_with fail
 refine Zb (by with_reducible exact HJ.o) ?_;rintro r w10 ⟨nm,a6,rfl,hs10,hf10⟩;have B10:=Za (B9.out.sfr hs10 hf10);have F10:=Za (F9.out.sfr hf10 (by omega));have HH:Hid (Cg w10 w10.heap.size (w.heap.size+1) raw (n5-1) nm [] none 0 [] [] (.slice none 0 0) (.slice none 0 0) a6 (w10.alloc (.cells #[.int .i64 (n5-1),.string (Aa nm),.slice none 0 0,.slice none 0 0,.slice none 0 0] 56))):=
  ⟨hs10.alloc _,SFr.alloc _,Al.new _ _ _,Dt.zero _ _,Ap.zero,Ap.zero,Zd _,hs10.lt⟩
 clear hs10 hf10 HJ B9 F9;go_upto_region 10 with(fail)
 generalize w10.alloc (.cells #[.int .i64 (n5-1),.string (Aa nm),.slice none 0 0,.slice none 0 0,.slice none 0 0] 56)=w11 at*;have hFX:F<w10.heap.size:=F10.out.lt;generalize w10.heap.size=X at*;clear S1;generalize n5-1=k5 at*;have hgr:=Ak raw a6 4 (by decide);have HN:=Za (HNX.o 4 a6 w11 HH.o.src (by decide) (by decide));generalize Ad raw a6 4=g at*;obtain⟨n6,a7⟩:=g;obtain⟨m6,rfl⟩:∃n:Nat,n6=(n:Int):=⟨n6.toNat,by have:0≤n6:=hgr.1;omega⟩;have hm6:m6<4:=by have:(m6:Int)<4:=hgr.2;omega
 clear hgr;go_wp2_with fail
 refine Zb (by with_reducible exact HN.o) ?_;rintro r w12 ⟨rfl,hs12,hf12⟩;have HH12:=Za (HH.o.sfr hs12 hf12);have HL0:Hid (kG w10 X (w.heap.size+1) raw k5 nm m6 w12):=⟨[],none,0,a7,by show m6+0≤3;omega,by simp [Ah],HH12.o⟩;clear hs12 hf12 HN HH HH12
 go_upto_block 0 with(fail)
 go_cut [10] (fun q wx=>kG w10 X (w.heap.size+1) raw k5 nm 0 wx)
 case first=>
  go_wp2_with fail
  go_loopw [10] (fun q wx=> ∃j:Nat,q=.int .i64 j∧kG w10 X (w.heap.size+1) raw k5 nm j wx) (fun q _=>(intOf q).toNat)
  case atStart=>exact⟨m6,rfl,HL0.o⟩
  case round=>
   obtain⟨j,rfl,hL⟩:=hrel;obtain⟨ps,pa,pc,b,hj3,hec,hh⟩:=hL;have HHA:=Za hh;have BA:=Za (B10.out.sfr hh.src hh.fr);clear hh HL0
   by_cases hj:0<j
   ·have hjI:(0:Int)<(j:Int):=by omega
    have hwd:IntKind.i64.wrap ((j:Int)-1)=(j:Int)-1:=IntWalk.i64_in _ (by omega);have HW:Hid (∀b w1,As w1 (w.heap.size+1) raw b→Ec (w.heap.size+1) w1 ⟨Fo,[],[],fb,false⟩ (.slice (some ⟨vb,0,none⟩) 2 2) (.slice none 0 0) (.slice none 0 0)→Calls Tryz.prog 26 #[.agg #[.slice (some ⟨vb,0,none⟩) 2 2,.slice none 0 0,.slice none 0 0,.bool fb,.bool false],.pointer (some ⟨w.heap.size+1,0,none⟩)] w1 (gC w1 (w.heap.size+1) raw)):=fun b w1 h1 h2=>Xi ⟨Fo,[],[],fb,false⟩ (kD fb) (w.heap.size+1) raw b _ _ _ w1 h1 h2
    have hdr:Below wr.heap.size wr wr.drew:=(Below.refl _ _).drew;have HHd:=Za (HHA.o.below hdr);have BAd:=Za (B10.out.sfr HHd.o.src HHd.o.fr);have hlen:Hid (ps.length≤10):=by show _≤_;omega
    clear hdr;go_upto_region 13 with(fail)
    have b0:=BA.out.wa.scp.at 0 _ rfl;have b1:=BA.out.wa.scp.at 1 _ rfl;have b2:=BA.out.wa.scp.at 2 _ rfl;have b3:=BA.out.wa.scp.at 3 _ rfl;have b4:=BA.out.wa.scp.at 4 _ rfl;have x2:=HHA.o.own.at 2 _ rfl;have fx2:=HHA.o.own.fz 2;have hXd:=HHA.o.lt;have hCd:=BA.out.wa.scp.lt;obtain⟨i0,hi0,hz0,hz1,hz2⟩:=info_parts Lh;go_wp2_with fail
    go_region_law (first
     |((try go_simp);go_at_call 26;refine(HW.o _ _ HHd.o.src BAd.out.wa.scAt).mono ?_;rintro r w6 ⟨x,xv,b',he,hs6,hf6,hx6,hn6,hcx6⟩;obtain⟨xs,xc,hxv⟩:=hx6.shape;subst hxv;subst he;have hc:∀b o,b<_→b≠w.heap.size+1→w6.cell? ⟨b,o,none⟩=_:=fun b o h hn=>World.cell?_of_block (a:=⟨b,o,none⟩) (hf6.block b h hn);have HH6:=Za (HHd.o.sfr hs6 hf6);have Hx6:=Za hx6;have Hn6:=Za hn6;have HC6:=Za hcx6;have hz6:=hf6.size;have u2:=HH6.o.own.at 2 _ rfl;have hX6:=HH6.o.lt;clear hs6 hf6 hx6 hn6 hcx6;have hw7:Below w6.heap.size w6 (w6.alloc (.cells #[.int .i64 x.kind,.int .i64 x.op,.int .i64 x.n,.string (Aa x.name),.slice xs x.args.length xc] 31)):=bA;have HH7:=Za (HH6.o.below hw7);have HN7:=Za (Bx.new w6 (Aq x (.slice xs x.args.length xc)) 31);have Hx7:=Za ((Hx6.out.old hw7).mono (fun b hb=>HHd.o.beside b hb));clear hw7)
     |(refine step_append_lies (P:=Tryz.prog) _ rfl _ _ 29 rfl (X+1) 31 i0 _ 5 64 underlying29 hi0 hz0 hz1 hz2 rfl (by decide) (.slice pa ps.length pc) ps.length (Dk ps) rfl HH7.o.exs.1 ⟨w6.heap.size,0,none⟩ 1 1 (Aq x (.slice xs x.args.length xc)) rfl rfl (Ew HN7.o) (Mq x _ _ _) (by decide) (by have:=hlen.out;unfold maxLen;omega) (by have:=hlen.out;omega) (by have:=HH7.o.lt;omega) _ rfl ?_;intro g cap w8 hown hgrow hat hlt8;have hge8:∀k,(Value.slice pa ps.length pc).ownBlock=some k→X+1≤k:=fun k e=>(HH7.o.exs.ge e).1;have HH9:=Za (HH7.o.more x _ Hx7.out Hn6.out hown hgrow hat);have hO8:=HH7.o.own.low (hgrow.block X HH7.o.lt (fun e=>by have:=hge8 _ e.symm;omega));have y2:=hO8.at 2 _ rfl;have fy2:=hO8.fz 2;have hX8:=hO8.lt;clear hown hgrow hat hO8))
    all_goals
     go_wp2_with fail
     go_roundw
     case rel=>exact⟨j-1,by rw[show((j-1:Nat):Int)=(j:Int)-1 by omega],ps++[(x,.slice xs x.args.length xc)],_,_,b',by rw[Zc,List.length_singleton];omega,by rw[List.map_append,Zc];show Ah (ps.map (·.1)++[x])≤20000*(ps.length+1);rw[Mf];have:=HC6.o;omega,HH9.o⟩
     case measure=>simp [intOf];omega
   ·obtain rfl:j=0:=by omega
    go_wp2_with fail
    go_meet;exact⟨ps,pa,pc,b,hj3,hec,HHA.o⟩
 case rest=>
 obtain⟨ps,pa,pc,a8,hps,hec,hh⟩:=hcut;have W0:=Za (Cg.wst B10.out F10.out hPC HDM.o (by omega) hh);have hst:Dh (.mk k5 nm (ps.map (·.1)) [] [])≤60001:=by rw[Vc];simp [Ai];omega
 have hfu:fuN dx≤3728698372:=by
  have h:=HFN.o dx (by rw[←HDS.o];exact List.mem_map.2 ⟨_,HDM.o,rfl⟩);have:=iB;omega
 have HSM:=Za (HSG.o dx (by rw[←HDS.o];exact List.mem_map.2 ⟨_,HDM.o,rfl⟩));clear hec hh HL0 HSG;generalize ps.map (·.1)=us at*;generalize ps.length=pl at*
 go_upto_block 2 with(fail)
 go_cut [] (fun wx=>WSw w PC F X gf cf ds wx)
 case first=>
  rcases(by omega:kk=0∨kk=1∨kk=2∨kk=3∨kk=4∨kk=5∨kk=6∨kk=7∨kk=8)with rfl|rfl|rfl|rfl|rfl|rfl|rfl|rfl|rfl
  ·have HJ:=Za (Lq (w.heap.size+1) raw a8 wc W0.out.src)
   go_wp2_with fail
   refine Zb (by with_reducible exact HJ.o) ?_;rintro r w13 ⟨n2m,a9,rfl,hs,hf⟩;have W1:=Za (W0.out.sfr hs hf);have W2:=Za (W1.out.setF ⟨⟨n2m,dx.params,dx.locals,dx.body⟩,.slice f1 dx.params.length f2,.slice f3 dx.locals.length f4,.slice f5 ls.length f6⟩ 0 (.string (Aa n2m)) rfl (by exact W1.out.fpt));have y0:=W1.out.fun_.at 0 _ rfl;have fy0:=W1.out.fun_.fz 0;have hFl:=W1.out.fun_.lt;clear hs hf HJ;go_wp2_with fail
   go_meet;exact⟨_,_,_,_,_,_,_,W2.out.mid (by omega) (by show fuN _≤_;unfold fuN at*;dsimp only;omega) (by omega)⟩
  ·have y0:=W0.out.fun_.at 1 _ rfl
   have hFl:=W0.out.fun_.lt;have hln:dx.params.length≤900:=by have h:=HSM.o;omega
   go_wp2_with (at_builtin;(refine Fp rfl _ _ rfl wc.heap.size (.slice none 0 0) 0 [] rfl ⟨rfl,.inl ⟨rfl,rfl⟩⟩ dx.params (.slice f1 dx.params.length f2) rfl W0.out.fpt.1 (by omega) (Zd _) ?_;intro v1 w13 hown1 hg1 hat1;have hb13:=Kb hg1;have W1:=Za (W0.out.below hb13);have F13:=Za (SFr.of_below (s:=w.heap.size+1) hb13);have O13:=Za (show w13.ownsRow wc.heap.size 9 1 v1 dx.params.length (Bo dx.params)by simpa using hown1);clear hown1 hg1 hat1 hb13))
   have HJ:=Za (Lq (w.heap.size+1) raw a8 w13 W1.out.src);refine Zb (by with_reducible exact HJ.o) ?_;rintro r w14 ⟨n2m,a9,rfl,hs,hf⟩;have hb15:Below w14.heap.size w14 (w14.alloc (.cells #[.string (Aa n2m),.string ⟨#[113,57]⟩] 9)):=bA;have S15:=Za (hs.old hb15);have F15:=Za ((F13.out.trans hf).trans (SFr.of_below (s:=w.heap.size+1) hb15));have hsl:w.heap.size+1<wc.heap.size:=W0.out.src.lt;have O15:=Za (Bz (Bz O13.out (D:=(wc.heap.size≤ ·)) (fun k e=>(World.ownsRow.lt O13.out k e).1) (Ax.sfr hf (fun b hb=>by have:wc.heap.size≤b:=hb;omega))) (D:=fun _=>True) (fun _ _=>trivial) (Ax.below hb15));have N15:=Za (Bx.new w14 (Bo [n2m,[113,57]]) 9);have hz15:wc.heap.size≤(w14.alloc (.cells #[.string (Aa n2m),.string ⟨#[113,57]⟩] 9)).heap.size:=F15.out.size;clear hs hf hb15 HJ y0;go_wp2_with (at_builtin;(refine Fp rfl _ _ rfl wc.heap.size v1 dx.params.length (Bo dx.params) rfl (by with_reducible exact O15.out) [n2m,[113,57]] (.slice (some ⟨w14.heap.size,0,none⟩) 2 2) rfl (Xj (D:=fun _=>True) [n2m,[113,57]] N15.out trivial (show 2≤140737488355328 by decide)) (by show dx.params.length+2≤1000;omega) hz15 ?_;intro v2 w16 hown2 hg2 hat2;have W3:=Za (W0.out.sfr (S15.out.low (w':=w16) (fun k hk=>hg2.block k (Nat.lt_of_le_of_lt hk S15.out.lt) (fun e=>by have:=(World.ownsRow.lt O15.out k e.symm).1;omega))) (F15.out.grow hg2 (fun k e=>(World.ownsRow.lt O15.out k e).1)));have y1:=W3.out.fun_.at 1 _ rfl;have fy1:=W3.out.fun_.fz 1;have hFl3:=W3.out.fun_.lt;have HV:Hid (Ay (Jl w.heap.size PC F X gf (.slice va1 p.arrays.length va2)) w16 (dx.params++[n2m,[113,57]]) v2):=dB (by rw[Zc,Bo,List.map_append];exact hown2) (fun k e=>W0.out.new (World.ownsRow.lt hown2 k e).1) (by rw[Zc];show dx.params.length+2≤140737488355328;omega);clear hown2 hg2 hat2;obtain⟨q1,qn,q2,hq⟩:∃q1 qn q2,v2=.slice q1 qn q2:=(by obtain⟨c1,c2,hc⟩:=HV.o.shape;exact⟨c1,_,c2,hc⟩);subst hq))
   have W4:=Za (W3.out.setF ⟨⟨dx.name,dx.params++[n2m,[113,57]],dx.locals,dx.body⟩,.slice q1 qn q2,.slice f3 dx.locals.length f4,.slice f5 ls.length f6⟩ 1 (.slice q1 qn q2) rfl ⟨HV.o,W3.out.fpt.2.1,W3.out.fpt.2.2⟩);go_meet;exact⟨_,_,_,_,_,_,_,W4.out.mid (by omega) (by show fuN _≤_;unfold fuN at*;dsimp only at*;simp only[Zc,List.length_cons,List.length_nil]at*;omega) (by omega)⟩
  ·have y0:=W0.out.fun_.at 2 _ rfl
   have hFl:=W0.out.fun_.lt;have hln:dx.locals.length≤900:=by have h:=HSM.o;omega
   go_wp2_with (at_builtin;(refine Fp rfl _ _ rfl wc.heap.size (.slice none 0 0) 0 [] rfl ⟨rfl,.inl ⟨rfl,rfl⟩⟩ dx.locals (.slice f3 dx.locals.length f4) rfl W0.out.fpt.2.1 (by omega) (Zd _) ?_;intro v1 w13 hown1 hg1 hat1;have hb13:=Kb hg1;have W1:=Za (W0.out.below hb13);have F13:=Za (SFr.of_below (s:=w.heap.size+1) hb13);have O13:=Za (show w13.ownsRow wc.heap.size 9 1 v1 dx.locals.length (Bo dx.locals)by simpa using hown1);clear hown1 hg1 hat1 hb13))
   have HJ:=Za (Lq (w.heap.size+1) raw a8 w13 W1.out.src);refine Zb (by with_reducible exact HJ.o) ?_;rintro r w14 ⟨n2m,a9,rfl,hs,hf⟩;have hb15:Below w14.heap.size w14 (w14.alloc (.cells #[.string (Aa n2m)] 9)):=bA;have S15:=Za (hs.old hb15);have F15:=Za ((F13.out.trans hf).trans (SFr.of_below (s:=w.heap.size+1) hb15));have hsl:w.heap.size+1<wc.heap.size:=W0.out.src.lt;have O15:=Za (Bz (Bz O13.out (D:=(wc.heap.size≤ ·)) (fun k e=>(World.ownsRow.lt O13.out k e).1) (Ax.sfr hf (fun b hb=>by have:wc.heap.size≤b:=hb;omega))) (D:=fun _=>True) (fun _ _=>trivial) (Ax.below hb15));have N15:=Za (Bx.new w14 (Bo [n2m]) 9);have hz15:wc.heap.size≤(w14.alloc (.cells #[.string (Aa n2m)] 9)).heap.size:=F15.out.size;clear hs hf hb15 HJ y0;go_wp2_with (at_builtin;(refine Fp rfl _ _ rfl wc.heap.size v1 dx.locals.length (Bo dx.locals) rfl (by with_reducible exact O15.out) [n2m] (.slice (some ⟨w14.heap.size,0,none⟩) 1 1) rfl (Xj (D:=fun _=>True) [n2m] N15.out trivial (show 1≤140737488355328 by decide)) (by show dx.locals.length+1≤1000;omega) hz15 ?_;intro v2 w16 hown2 hg2 hat2;have W3:=Za (W0.out.sfr (S15.out.low (w':=w16) (fun k hk=>hg2.block k (Nat.lt_of_le_of_lt hk S15.out.lt) (fun e=>by have:=(World.ownsRow.lt O15.out k e.symm).1;omega))) (F15.out.grow hg2 (fun k e=>(World.ownsRow.lt O15.out k e).1)));have y1:=W3.out.fun_.at 2 _ rfl;have fy1:=W3.out.fun_.fz 2;have hFl3:=W3.out.fun_.lt;have HV:Hid (Ay (Jl w.heap.size PC F X gf (.slice va1 p.arrays.length va2)) w16 (dx.locals++[n2m]) v2):=dB (by rw[Zc,Bo,List.map_append];exact hown2) (fun k e=>W0.out.new (World.ownsRow.lt hown2 k e).1) (by rw[Zc];show dx.locals.length+1≤140737488355328;omega);clear hown2 hg2 hat2;obtain⟨q1,qn,q2,hq⟩:∃q1 qn q2,v2=.slice q1 qn q2:=(by obtain⟨c1,c2,hc⟩:=HV.o.shape;exact⟨c1,_,c2,hc⟩);subst hq))
   have W4:=Za (W3.out.setF ⟨⟨dx.name,dx.params,dx.locals++[n2m],dx.body⟩,.slice f1 dx.params.length f2,.slice q1 qn q2,.slice f5 ls.length f6⟩ 2 (.slice q1 qn q2) rfl ⟨W3.out.fpt.1,HV.o,W3.out.fpt.2.2⟩);go_meet;exact⟨_,_,_,_,_,_,_,W4.out.mid (by omega) (by show fuN _≤_;unfold fuN at*;dsimp only at*;simp only[Zc,List.length_cons,List.length_nil]at*;omega) (by omega)⟩
  ·go_upto_region 22 with(fail)
   refine My (R:=fun a' w'=>Rw22 w (vb+1) vb PC F X gf cf M0 fb raw va1 va2 p.arrays ds ⟨dx,.slice f1 dx.params.length f2,.slice f3 dx.locals.length f4,.slice f5 ls.length f6⟩ (.mk k5 nm us [] []) (.slice pa pl pc) (.slice none 0 0) (.slice none 0 0) a8 wc _ _ _ _ _ _ _ _ _ _ _ _ _ _ _ _ _ _ _ _ _ _ _ _ _ _ _ _ _ _ _ _ _ _ _ _ _ _ _ _ _ _ _ _ _ _ _ _ _ _ _ _ _ _ _ _ _ _ _ _ _ _ _ _ _ _ _ _ _ _ _ _ _ _ _ _ _ _ _ _ _ _ _ _ _ _ _ _ _ _ _ _ _ _ _ _ _ _ _ _ _ _ _ _ _ _ _ _ _ _ _ _ _ _ _ _ _ _ _ _ _ _ _ _ _ _ _ _ _ _ _ _ _ _ _ _ _ _ _ a' w') (fun J K' hJ hM=>wreg_22 w (vb+1) vb PC F X gf cf M0 fb raw va1 va2 p.arrays ds ⟨dx,.slice f1 dx.params.length f2,.slice f3 dx.locals.length f4,.slice f5 ls.length f6⟩ (.mk k5 nm us [] []) (.slice pa pl pc) (.slice none 0 0) (.slice none 0 0) a8 wc W0.out (by omega) (by show fuN dx≤_;omega) (by omega) _ _ _ _ _ _ _ _ _ _ _ _ _ _ _ _ _ _ _ _ _ _ _ _ _ _ _ _ _ _ _ _ _ _ _ _ _ _ _ _ _ _ _ _ _ _ _ _ _ _ _ _ _ _ _ _ _ _ _ _ _ _ _ _ _ _ _ _ _ _ _ _ _ _ _ _ _ _ _ _ _ _ _ _ _ _ _ _ _ _ _ _ _ _ _ _ _ _ _ _ _ _ _ _ _ _ _ _ _ _ _ _ _ _ _ _ _ _ _ _ _ _ _ _ _ _ _ _ _ _ _ _ _ _ _ _ _ _ _ _ _ _ _ _ _ _ _ _ _ _ _ _ J K' hJ hM) ?_;intro a' w6 hT;obtain⟨_,_,_,_,_,_,_,_,_,_,_,_,_,⟨va',la',hW⟩,ha'⟩:=hT;subst ha';have W6:=Za hW;clear hW;go_wp2_with fail
   go_meet;exact⟨_,_,_,_,_,_,_,W6.out⟩
  ·go_upto_region 24 with(fail)
   refine My (R:=fun a' w'=>Rw24 w (vb+1) vb PC F X gf cf M0 fb raw (.slice va1 p.arrays.length va2) p.arrays ds ⟨dx,.slice f1 dx.params.length f2,.slice f3 dx.locals.length f4,.slice f5 ls.length f6⟩ (.mk k5 nm us [] []) pa none none pl pc 0 0 0 0 a8 wc _ _ _ _ _ _ _ _ _ _ _ _ _ _ _ _ _ _ _ _ _ _ _ _ _ _ _ _ _ _ _ _ _ _ _ _ _ _ _ _ _ _ _ _ _ _ _ _ _ _ _ _ _ _ _ _ _ _ _ _ _ _ _ _ _ _ _ _ _ _ _ _ _ _ _ _ _ _ _ _ _ _ _ _ _ _ _ _ _ _ _ _ _ _ _ _ _ _ _ _ _ _ _ _ _ _ _ _ _ _ _ _ _ _ _ _ _ _ _ _ _ _ _ _ _ _ _ _ _ _ _ _ _ _ _ _ _ _ _ _ _ _ _ _ a' w') (fun J K' hJ hM=>wreg_24 w (vb+1) vb PC F X gf cf M0 fb raw (.slice va1 p.arrays.length va2) p.arrays ds ⟨dx,.slice f1 dx.params.length f2,.slice f3 dx.locals.length f4,.slice f5 ls.length f6⟩ (.mk k5 nm us [] []) pa none none pl pc 0 0 0 0 a8 wc W0.out _ _ _ _ _ _ _ _ _ _ _ _ _ _ _ _ _ _ _ _ _ _ _ _ _ _ _ _ _ _ _ _ _ _ _ _ _ _ _ _ _ _ _ _ _ _ _ _ _ _ _ _ _ _ _ _ _ _ _ _ _ _ _ _ _ _ _ _ _ _ _ _ _ _ _ _ _ _ _ _ _ _ _ _ _ _ _ _ _ _ _ _ _ _ _ _ _ _ _ _ _ _ _ _ _ _ _ _ _ _ _ _ _ _ _ _ _ _ _ _ _ _ _ _ _ _ _ _ _ _ _ _ _ _ _ _ _ _ _ _ _ _ _ _ _ _ _ _ _ _ _ J K' hJ hM) ?_;intro a' w6 hT;obtain⟨_,_,_,_,_,_,_,⟨e,ya,yt,ye,b6,hec,hW⟩,ha'⟩:=hT;subst ha';have W6:=Za hW;have HEC:=Za hec;clear hW hec;go_wp2_with fail
   go_meet;exact⟨_,_,_,_,_,_,_,W6.out.mid (by omega) (by show fuN dx≤_;omega) (by rw[Ta];have:=HEC.o;have:=cN.2;omega)⟩
  ·have x0:=W0.out.stm.at 0 _ rfl
   have fx0:=W0.out.stm.fz 0;have x1:=W0.out.stm.at 1 _ rfl;have fx1:=W0.out.stm.fz 1;have x2:=W0.out.stm.at 2 _ rfl;have fx2:=W0.out.stm.fz 2;have x3:=W0.out.stm.at 3 _ rfl;have fx3:=W0.out.stm.fz 3;have x4:=W0.out.stm.at 4 _ rfl;have fx4:=W0.out.stm.fz 4;have hXl:=W0.out.stm.lt;have W1:=Za W0.out.wrapBr;go_wp2_with fail
   go_meet;exact⟨_,_,_,_,_,_,_,W1.out.mid (by omega) (by show fuN dx≤_;omega) (by rw[Vc];simp [Ai,Ah];omega)⟩
  ·have hgr:=Ak raw a8 60 (by decide)
   have HN:=Za (HNX.o 60 a8 wc W0.out.src (by decide) (by decide));generalize Ad raw a8 60=g at*;obtain⟨n8,a9⟩:=g;obtain⟨m8,rfl⟩:∃n:Nat,n8=(n:Int):=⟨n8.toNat,by have:0≤n8:=hgr.1;omega⟩;have hm8:m8<60:=by have:(m8:Int)<60:=hgr.2;omega
   clear hgr;go_wp2_with fail
   refine Zb (by with_reducible exact HN.o) ?_;rintro r w13 ⟨rfl,hs,hf⟩;have HL:Hid (WLp w (vb+1) vb PC F X gf cf M0 fb raw (.slice va1 p.arrays.length va2) p.arrays ds ⟨dx,.slice f1 dx.params.length f2,.slice f3 dx.locals.length f4,.slice f5 ls.length f6⟩ m8 w13):=⟨_,_,_,_,_,by omega,by omega,W0.out.sfr hs hf⟩;clear hs hf HN W0;go_wp2_with fail
   go_loopw [11] (fun q wx=> ∃j:Nat,q=.int .i64 j∧WLp w (vb+1) vb PC F X gf cf M0 fb raw (.slice va1 p.arrays.length va2) p.arrays ds ⟨dx,.slice f1 dx.params.length f2,.slice f3 dx.locals.length f4,.slice f5 ls.length f6⟩ j wx) (fun q _=>(intOf q).toNat)
   case atStart=>exact⟨m8,rfl,HL.o⟩
   case round=>
    obtain⟨j,rfl,hL⟩:=hrel;obtain⟨x,xa,xt,xe,b,hj60,hxc,hW⟩:=hL;obtain⟨xa1,xa2,hxa⟩:=hW.exs.shape;obtain⟨xt1,xt2,hxt⟩:=hW.thn.shape;obtain⟨xe1,xe2,hxe⟩:=hW.els.shape;subst hxa hxt hxe;have W0:=Za hW;clear hW HL
    by_cases hj:0<j
    ·have hjI:(0:Int)<(j:Int):=by omega
     have hwd:IntKind.i64.wrap ((j:Int)-1)=(j:Int)-1:=IntWalk.i64_in _ (by omega);go_upto_region 31 with(fail)
     refine My (R:=fun a' w'=>Rw31 w (vb+1) vb PC F X gf cf M0 fb raw (.slice va1 p.arrays.length va2) p.arrays ds ⟨dx,.slice f1 dx.params.length f2,.slice f3 dx.locals.length f4,.slice f5 ls.length f6⟩ x xa1 xt1 xe1 x.args.length xa2 x.thn.length xt2 x.els.length xe2 b wr _ _ _ _ _ _ _ _ _ _ _ _ _ _ _ _ _ _ _ _ _ _ _ _ _ _ _ _ _ _ _ _ _ _ _ _ _ _ _ _ _ _ _ _ _ _ _ _ _ _ _ _ _ _ _ _ _ _ _ _ _ _ _ _ _ _ _ _ _ _ _ _ _ _ _ _ _ _ _ _ _ _ _ _ _ _ _ _ _ _ _ _ _ _ _ _ _ _ _ _ _ _ _ _ _ _ _ _ _ _ _ _ _ _ _ _ _ _ _ _ _ _ _ _ _ _ _ _ _ _ _ _ _ _ _ _ _ _ _ _ _ _ _ _ a' w') (fun J K' hJ hM=>wreg_31 w (vb+1) vb PC F X gf cf M0 fb raw (.slice va1 p.arrays.length va2) p.arrays ds ⟨dx,.slice f1 dx.params.length f2,.slice f3 dx.locals.length f4,.slice f5 ls.length f6⟩ x xa1 xt1 xe1 x.args.length xa2 x.thn.length xt2 x.els.length xe2 b wr W0.out _ _ _ _ _ _ _ _ _ _ _ _ _ _ _ _ _ _ _ _ _ _ _ _ _ _ _ _ _ _ _ _ _ _ _ _ _ _ _ _ _ _ _ _ _ _ _ _ _ _ _ _ _ _ _ _ _ _ _ _ _ _ _ _ _ _ _ _ _ _ _ _ _ _ _ _ _ _ _ _ _ _ _ _ _ _ _ _ _ _ _ _ _ _ _ _ _ _ _ _ _ _ _ _ _ _ _ _ _ _ _ _ _ _ _ _ _ _ _ _ _ _ _ _ _ _ _ _ _ _ _ _ _ _ _ _ _ _ _ _ _ _ _ _ _ _ _ _ _ _ _ J K' hJ hM) ?_;intro a' w6 hT;obtain⟨_,_,_,_,_,_,_,⟨e,ya,yt,ye,b6,hec,hW⟩,ha'⟩:=hT;subst ha';have W6:=Za hW;have HEC:=Za hec;clear hW hec;go_wp2_with fail
     go_roundw
     case rel=>exact⟨j-1,by rw[show((j-1:Nat):Int)=(j:Int)-1 by omega],_,_,_,_,_,by omega,by rw[Ta];have:=HEC.o;have:=cN.1;omega,W6.out⟩
     case measure=>simp [intOf];omega
    ·obtain rfl:j=0:=by omega
     go_wp2_with fail
     go_meet;exact⟨_,_,_,_,_,_,_,W0.out.mid (by omega) (by show fuN dx≤_;omega) (by omega)⟩
  ·go_wp2_with fail
   go_meet;exact⟨_,_,_,_,_,_,_,W0.out.mid (by omega) (by show fuN dx≤_;omega) (by omega)⟩
  ·go_wp2_with fail
   go_meet;exact⟨_,_,_,_,_,_,_,W0.out.mid (by omega) (by show fuN dx≤_;omega) (by omega)⟩
 case rest=>
 obtain⟨va,la,f,x,xa,xt,xe,hM⟩:=hcut;obtain⟨xa1,xa2,hxa⟩:=hM.exs.shape;obtain⟨xt1,xt2,hxt⟩:=hM.thn.shape;obtain⟨xe1,xe2,hxe⟩:=hM.els.shape;subst hxa hxt hxe;obtain⟨gx,gp,gl,gb⟩:=f;obtain⟨gp1,gp2,hgp⟩:=hM.fpt.1.shape;obtain⟨gl1,gl2,hgl⟩:=hM.fpt.2.1.shape;obtain⟨gb1,gbn,gb2,hgb⟩:∃b n c,gb=.slice b n c:=by
  obtain⟨_,_,ls2,_,_,k5⟩:=hM.fpt;obtain⟨b,c,h⟩:=k5.shape;exact⟨b,_,c,h⟩
 dsimp only at hgp hgl hgb;subst hgp hgl hgb;have MD:=Za hM;clear hM W0;go_upto_region 32 with(fail)
 go_cut [140]from 135 to 140 (fun q wx=> ∃B:Bool,q=.bool B∧WMd w PC F X gf cf ds wx va la ⟨gx,.slice gp1 gx.params.length gp2,.slice gl1 gx.locals.length gl2,.slice gb1 gbn gb2⟩ x (.slice xa1 x.args.length xa2) (.slice xt1 x.thn.length xt2) (.slice xe1 x.els.length xe2))
 case first=>
  by_cases h3:3<kk
  ·by_cases h8:kk<8
   ·go_wp2_with fail
    go_meet;exact⟨_,rfl,MD.out⟩
   ·go_wp2_with fail
    go_meet;exact⟨_,rfl,MD.out⟩
  ·go_wp2_with fail
   go_meet;exact⟨_,rfl,MD.out⟩
 case rest=>
 obtain⟨B,rfl,hM⟩:=hcut;have MD:=Za hM;clear hM
 go_upto_if 140 with(fail)
 go_cut [] (fun wx=> ∃va la f,eN w PC F gf cf ds wx va la f)
 case first=>
  cases B
  ·go_wp2_with fail
   go_meet;exact⟨_,_,_,MD.out.put⟩
  ·go_upto_region 33 with(fail)
   refine My (R:=fun a' w'=>Rw33 w PC F X gf cf ds va la ⟨gx,.slice gp1 gx.params.length gp2,.slice gl1 gx.locals.length gl2,.slice gb1 gbn gb2⟩ x xa1 xt1 xe1 x.args.length xa2 x.thn.length xt2 x.els.length xe2 wc _ _ _ _ _ _ _ _ _ _ _ _ _ _ _ _ _ _ _ _ _ _ _ _ _ _ _ _ _ _ _ _ _ _ _ _ _ _ _ _ _ _ _ _ _ _ _ _ _ _ _ _ _ _ _ _ _ _ _ _ _ _ _ _ _ _ _ _ _ _ _ _ _ _ _ _ _ _ _ _ _ _ _ _ _ _ _ _ _ _ _ _ _ _ _ _ _ _ _ _ _ _ _ _ _ _ _ _ _ _ _ _ _ _ _ _ _ _ _ _ _ _ _ _ _ _ _ _ _ _ _ _ _ _ _ _ _ _ _ _ _ _ _ _ _ a' w') (fun J K' hJ hM=>wreg_33 w PC F X gf cf ds va la ⟨gx,.slice gp1 gx.params.length gp2,.slice gl1 gx.locals.length gl2,.slice gb1 gbn gb2⟩ x xa1 xt1 xe1 x.args.length xa2 x.thn.length xt2 x.els.length xe2 wc MD.out _ _ _ _ _ _ _ _ _ _ _ _ _ _ _ _ _ _ _ _ _ _ _ _ _ _ _ _ _ _ _ _ _ _ _ _ _ _ _ _ _ _ _ _ _ _ _ _ _ _ _ _ _ _ _ _ _ _ _ _ _ _ _ _ _ _ _ _ _ _ _ _ _ _ _ _ _ _ _ _ _ _ _ _ _ _ _ _ _ _ _ _ _ _ _ _ _ _ _ _ _ _ _ _ _ _ _ _ _ _ _ _ _ _ _ _ _ _ _ _ _ _ _ _ _ _ _ _ _ _ _ _ _ _ _ _ _ _ _ _ _ _ _ _ _ _ _ _ _ _ _ _ J K' hJ hM) ?_;intro a' w6 hT;obtain⟨_,_,_,_,_,_,_,⟨f',hW⟩,ha'⟩:=hT;subst ha';have W6:=Za hW;clear hW;go_wp2_with fail
   go_meet;exact⟨_,_,_,W6.out⟩
 case rest=>
 obtain⟨va,la,f,hP⟩:=hcut;clear MD;obtain⟨gx,gp,gl,gb⟩:=f;obtain⟨ha1,han,ha2,e0⟩:∃b n c,va=.slice b n c:=by obtain⟨b,c,h⟩:=hP.ars.shape;exact⟨b,_,c,h⟩
 obtain⟨hp1,hpn,hp2,e1⟩:∃b n c,gp=.slice b n c:=by obtain⟨b,c,h⟩:=hP.f1.shape;exact⟨b,_,c,h⟩
 obtain⟨hl1,hln,hl2,e2⟩:∃b n c,gl=.slice b n c:=by obtain⟨b,c,h⟩:=hP.f2.shape;exact⟨b,_,c,h⟩
 obtain⟨hb1,hbn,hb2,e3⟩:∃b n c,gb=.slice b n c:=by obtain⟨b,c,h⟩:=hP.f3.shape;exact⟨b,_,c,h⟩
 subst e0 e1 e2 e3;obtain⟨aB,aR,aP,aG⟩:=hP.after hi HDL.o (fun q hq=>HFN.o q.x (by rw[←HDS.o];exact List.mem_map.2 ⟨q,hq,rfl⟩));have AB:=Za aB;have AR:=Za aR;have AP:=Za aP;have AG:=Za aG;have cell:=fun q u (hq:q<4) (hu:(Bq ⟨dx,.slice f1 dx.params.length f2,.slice f3 dx.locals.length f4,.slice f5 ls.length f6⟩)[q]? =some u)=>Es hP.row (i*4+q) u (by rw[Ia Bq 4 (fun _=>rfl) ds i q _ HD.o hq];exact hu)
 have fz:=fun q=>World.ownsRow.frozenAt hP.row (i*4+q)
 have z0:wc.cell? ⟨gf,i*4,none⟩=some (.string (Aa dx.name)):=by simpa using cell 0 _ (by decide) rfl
 have z1:wc.cell? ⟨gf,i*4+1,none⟩=some (.slice f1 dx.params.length f2):=by simpa using cell 1 _ (by decide) rfl
 have z2:wc.cell? ⟨gf,i*4+2,none⟩=some (.slice f3 dx.locals.length f4):=by simpa using cell 2 _ (by decide) rfl
 have z3:wc.cell? ⟨gf,i*4+3,none⟩=some (.slice f5 ls.length f6):=by simpa using cell 3 _ (by decide) rfl
 have w0:wc.frozen? ⟨gf,i*4,none⟩=false:=fz 0
 have w1':wc.frozen? ⟨gf,i*4+1,none⟩=false:=fz 1
 have w2':wc.frozen? ⟨gf,i*4+2,none⟩=false:=fz 2
 have w3':wc.frozen? ⟨gf,i*4+3,none⟩=false:=fz 3
 have p0:=hP.prg.at 0 _ rfl;have p1:=hP.prg.at 1 _ rfl;have hPl:=hP.prg.lt;have g0:=hP.fun_.at 0 _ rfl;have g1:=hP.fun_.at 1 _ rfl;have g2:=hP.fun_.at 2 _ rfl;have g3:=hP.fun_.at 3 _ rfl;have hFl:=hP.fun_.lt;have hgl:gf<wc.heap.size:=World.block_lt_of_cell? _ _ z0;clear aB aR aP aG cell fz hP;go_upto_region 35 with(fail)
 have e:((((wc.setCell ⟨gf,i*4,none⟩ (.string (Aa gx.name))).setCell ⟨gf,i*4+1,none⟩ (.slice hp1 hpn hp2)).setCell ⟨gf,i*4+2,none⟩ (.slice hl1 hln hl2)).setCell ⟨gf,i*4+3,none⟩ (.slice hb1 hbn hb2))=Jz wc gf i ⟨gx,.slice hp1 hpn hp2,.slice hl1 hln hl2,.slice hb1 hbn hb2⟩:=rfl;rw[e];clear e z0 z1 z2 z3 w0 w1' w2' w3' p0 p1 hPl g0 g1 g2 g3 hFl hgl;generalize Jz wc gf i ⟨gx,.slice hp1 hpn hp2,.slice hl1 hln hl2,.slice hb1 hbn hb2⟩=ws at*;have p0:=AP.out.at 0 _ rfl;have p1:=AP.out.at 1 _ rfl;have hPl:=AP.out.lt;have r0:=AR.out.at 0 _ rfl;have r1:=AR.out.at 1 _ rfl;have fr0:=AR.out.fz 0;have fr1:=AR.out.fz 1;have hRl:=AR.out.lt;go_wp2_with fail
 have hO:=((AR.out.set 0 (.slice ha1 han ha2)).set 1 (.slice (some ⟨gf,0,none⟩) ds.length cf));have d0:=hO.at 0 _ rfl;have d1:=hO.at 1 _ rfl;exact bodyPost_ret (v:=.agg #[.slice ha1 han ha2,.slice (some ⟨gf,0,none⟩) ds.length cf]) (by simp [results,results6,go_sem,d0,d1]) rfl ⟨_,_,_,rfl,(AB.out.setCell (p:=⟨w.heap.size,0,none⟩) (Zd _) _).setCell (p:=⟨w.heap.size,1,none⟩) (Zd _) _,AG.out _ _⟩
end Go.Proofs.YtfhbinbjkpfedaaGreatDoor
namespace Go.Proofs.YtfhbinbjkpfedaaGreatDoor.wTreeTells
open Go.ChangeShapes Go.WideShapes Go.ChangeAt Go.RowKit
set_option maxRecDepth 100000
theorem own:ownKnob Tryz.prog.godebug=none:=by kernel_rfl
theorem gTab:Tryz.prog.globalNamed "internal/strconv.uint64pow10" =some 3:=by kernel_rfl
theorem gX:(Tryz.prog.globals[3]?).map (·.type)=some 184:=by kernel_rfl
theorem kN:Tryz.prog.cellsOf 184=20:=by kernel_rfl
theorem cellsU:Tryz.prog.cellsOf 166=1:=by kernel_rfl
theorem dD {W:World}(h:laidMetH Tryz.prog Rows.treeTellsRow.laid W):Da W:=
 Lib.tabIs_of_head (rest:=[]) gTab gX Tryz.underlying184 Tryz.underlying166 cellsU kN (Na (Na h))
theorem iM {W:World}(h:Da W):3<W.heap.size:=
 World.block_lt_of_cell? _ _ (Lib.TabIs.cell h gTab 0 (by decide))
theorem jH(H:Type)(enc:TypeId ×Value→H)(W:World)(base:Nat)(args:Array Value)(ds gs:List (DataW H))(before:List MemPlace)
  (hval:∀(j:Nat) t v,Tryz.f3.params[j]? =some t→args[j]? =some v→Value.okWide Tryz.prog W .any base t v)
  (hW:DataW.Whole enc Tryz.prog Tryz.f3.params.toList Rows.treeTellsSpec.vars false W args.toList ds gs before) (hL:laidMetH Tryz.prog Rows.treeTellsRow.laid W):
  Calls Tryz.prog 3 args W fun e W'=> ∃v,e=.returned v∧Rows.treeTellsSpec.post enc Tryz.prog Tryz.f3 false true false false W args v W':=by
 have hT:=dD hL;have hW':=hW;obtain⟨p,q,hA0,hV,rfl,hfz,hnd⟩:=hW;have hA:DataW.TrodAll enc Tryz.prog W 0 (fun _=>true) true Tryz.f3.params.toList args.toList ds p:=hA0;rw[Tryz.params3]at hA hval;obtain⟨x0,vs0,d0,ds0,p0,q0,hargs,rfl,rfl,h0,r0⟩:=trodAll_cons hA;obtain⟨x1,vs1,d1,ds1,p1,q1,e1,rfl,rfl,h1,r1⟩:=trodAll_cons r0;obtain⟨x2,vs2,d2,ds2,p2,q2,e2,rfl,rfl,h2,r2⟩:=trodAll_cons r1;obtain⟨x3,vs3,d3,ds3,p3,q3,e3,rfl,rfl,h3,r3⟩:=trodAll_cons r2;obtain⟨rfl,rfl,rfl⟩:=trodAll_nil r3;subst e1;subst e2;subst e3;obtain rfl:args= #[x0,x1,x2,x3]:=by cases args;simp_all
 obtain⟨rfl,rfl⟩:=trodVars_none hV;obtain⟨raw0,hraw0,again0⟩:=Rh (hval 0 22 x0 rfl rfl) h0;obtain⟨raw1,hraw1,again1⟩:=Rh (hval 1 22 x1 rfl rfl) h1;obtain⟨raw2,hraw2,again2⟩:=Rh (hval 2 22 x2 rfl rfl) h2;obtain⟨b3,rfl,rfl,rfl⟩:=open_bool Tryz.underlying4 (hval 3 4 x3 rfl rfl) h3;clear hA0;refine(aQ dQ raw0 raw1 raw2 b3 x0 x1 x2 W hraw0 hraw1 hraw2 (iM hT) hT).mono fun e W' ⟨he,hb⟩=>?_
 subst he;exact⟨_,rfl,Yp (pa:=(p0++(p1++(p2++([]++[]))))) (pv:=[]) hW' (fun _ _ _=>trodAll_cons_mk (shut_bool Tryz.underlying4 _) trodAll_mk0) (fun sp hsp=>trodAll_cons_mk (again0 W' sp true hb (fun q hq=>hsp q (by simp [hq]))) (trodAll_cons_mk (again1 W' sp true hb (fun q hq=>hsp q (by simp [hq]))) (trodAll_cons_mk (again2 W' sp true hb (fun q hq=>hsp q (by simp [hq]))) (trodAll_cons_mk (shut_bool Tryz.underlying4 _) (trodAll_mk0))))) (fun _ _=>rfl) rfl
  hb (ok_one (by kernel_rfl) rfl (okWide_bool_mk Tryz.underlying4 _))⟩
def iW:DataW Unit→Array Value
 |.agg l=>(l.map fun|.lit (.int k n)=>Value.int k n|_=>undef).toArray
 |_=> #[]
noncomputable def Oe (os:Os):World:=
 let h0:=(World.holding Tryz.prog os ⟨#[],#[],[]⟩).heap
 let lay (g:Nat) (d:DataW Unit) (h:Array Obj):Array Obj:=h.modify g fun
  |.cells _ t frozen=>.cells (iW d) t frozen
  |o=>o
 {World.holding Tryz.prog os ⟨#[],#[],[]⟩with heap:=lay 6 Rows.laid_math_bits_deBruijn32tab (lay 7 Rows.laid_math_bits_deBruijn64tab (lay 3 Rows.laid_internal_strconv_uint64pow10 (h0)))}
theorem jK(os:Os):laidMet Tryz.prog Rows.treeTellsRow.laid ((Oe os).forCall (fun _ _=>0) ⟨#[],#[.slice none 0 0,.slice none 0 0,.slice none 0 0,.bool false],[]⟩).memory:=
 laidMet_of_run' 8 (by kernel_rfl) (by kernel_rfl)
theorem reads(os:Os){H:Type}(enc:TypeId ×Value→H):∃places,DataW.whole enc Tryz.prog ((Oe os).forCall (fun _ _=>0) ⟨#[],#[.slice none 0 0,.slice none 0 0,.slice none 0 0,.bool false],[]⟩).memory Tryz.f3.params.toList Rows.treeTellsSpec.vars false ((#[.slice none 0 0,.slice none 0 0,.slice none 0 0,.bool false]:Array Value).toList) 8=some ([.nil,.nil,.nil,.lit (.bool false)],[],places):=
 ⟨[],by kernel_rfl⟩
theorem lifted(os:Os)(started:os.Started)(H:Type)(enc:TypeId ×Value→H)(F:Stop.Interp):
  ReturnsInHanded {} Tryz.checked os 3 .any ((OpenSpec.ofChange Rows.treeTellsSpec).preRow enc Tryz.prog Tryz.f3 Rows.treeTellsRow.domain false Rows.treeTellsRow.laid) (((OpenSpec.ofChange Rows.treeTellsSpec).at F).post enc Tryz.prog Tryz.f3 false true false false):=by
 obtain⟨places,hx⟩:=reads os enc;refine returnsInHanded_of_row (C:=Tryz.checked) (s:=OpenSpec.ofChange Rows.treeTellsSpec) own started (by kernel_rfl) Tryz.func3
  (witness_row_at (enc:=enc) (C:=Tryz.checked) false (Oe os) #[.slice none 0 0,.slice none 0 0,.slice none 0 0,.bool false] rfl (by kernel_rfl) (by kernel_rfl) (by kernel_rfl)
   (OpenSpec.preRow_of_cond 8 hx (by kernel_rfl) (fun k hk=>by cases hk) (by kernel_rfl) (jK os))) ?_
 intro W base args ds gs before hval hW _ _ _ hL _ _;exact jH H enc W base args ds gs before hval hW hL
theorem said:Rows.TreeTellsSaid:=
 OpenClaim.holds_of_cond 3 Tryz.f3 rfl rfl rfl rfl rfl rfl rfl ⟨rfl,rfl,rfl,rfl,rfl⟩ rfl rfl rfl rfl rfl (by kernel_rfl) Tryz.func3 (by kernel_rfl)
  (of_decide_eq_true (by kernel_rfl)) (by unfold Func.isWrapper;first|(rw[if_pos (by decide+kernel)];kernel_rfl)|(rw[if_neg (by decide+kernel)];exact⟨rfl,rfl⟩))
  (fun os started H enc _ F=>by rw[OpenClaim.pre_eq_preRow];exact lifted os started H enc F)
theorem plain(f:FuncId)(fn:Func)(hf:Tryz.pinned.checked.prog.funcNamed "counterproof/counterprooflaw03.TreeTells" =some f)(hfn:Tryz.pinned.checked.prog.funcs[f]? =some fn):
  true=Tryz.pinned.checked.prog.looks []∧∀(j:Nat) t,fn.params[j]? =some t→Tryz.pinned.checked.prog.wantsStandIn t=false:=by
 obtain rfl:f=3:=Option.some.inj ((show Tryz.prog.funcNamed "counterproof/counterprooflaw03.TreeTells" =some 3 by kernel_rfl).symm.trans hf)|>.symm;obtain rfl:fn=Tryz.f3:=(Option.some.inj (Tryz.func3.symm.trans hfn)).symm;refine⟨by kernel_rfl,fun j t ht=>?_⟩;rw[Tryz.params3]at ht;have hm:=Array.mem_of_getElem? ht;simp only[List.mem_toArray,List.mem_cons,List.not_mem_nil,or_false]at hm;rcases hm with rfl|rfl|rfl|rfl
 ·exact(show Tryz.prog.wantsStandIn 22=false by kernel_rfl)
 ·exact(show Tryz.prog.wantsStandIn 22=false by kernel_rfl)
 ·exact(show Tryz.prog.wantsStandIn 22=false by kernel_rfl)
 ·exact(show Tryz.prog.wantsStandIn 4=false by kernel_rfl)
end Go.Proofs.YtfhbinbjkpfedaaGreatDoor.wTreeTells
namespace Go.Proofs.YtfhbinbjkpfedaaGreatDoor
theorem treeTells_card:Rows.TreeTellsCardSaid:=
 Claim7.holds_tied_plain_at .later [] _ _ _ _ wTreeTells.said (fun _ h=>by cases h) (by kernel_rfl) (fun _ h=>by cases h) treeTells_row_tie rfl ⟨rfl,rfl⟩ (by kernel_rfl) rfl wTreeTells.plain (by kernel_rfl)
#print axioms treeTells_card
end Go.Proofs.YtfhbinbjkpfedaaGreatDoor
