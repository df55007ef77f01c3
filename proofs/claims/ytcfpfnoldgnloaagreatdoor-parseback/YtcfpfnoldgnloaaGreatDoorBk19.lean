/-
  scope.call: a raw call.
-/
import Derived.Test.YtcfpfnoldgnloaaGreatDoorBk18
import Derived.Deep.CutBlock
set_option linter.unusedVariables false
set_option linter.unusedSimpArgs false
namespace Go.Proofs.YtcfpfnoldgnloaaGreatDoor
open Go.RowKit
set_option maxHeartbeats 20000000
set_option maxRecDepth 100000
open Go.Lib renaming hid→Za
open Go.Proofs.Tryz renaming prog→Zb
open aG renaming new→Zc
open SFr renaming of_below→Zd
theorem aZ.low {w w':World}{s:Nat}{raw:List Int}{a:Nat}(h:aZ w s raw a)(hk:∀k,k≤s→w'.heap[k]? =w.heap[k]?):aZ w' s raw a:=by
 obtain⟨u,h1,h2,h3⟩:=h;refine⟨u,(hk s (Nat.le_refl _)).trans h1,h2.keep (fun b off x hb hx=> ?_),h3⟩;rw[World.cell?_of_block (w:=w) (hk b (Nat.le_of_lt hb))];exact hx
theorem aG.low {w w':World}{b:Nat}{cs:List Value}{T:TypeId}(h:aG w b cs T)(hk:w'.heap[b]? =w.heap[b]?):aG w' b cs T:=hk.trans h
theorem SFr.grow {s:Nat}{w w1 w':World}{row:Option Nat}(h:SFr s w w1)(hg:w1.grownBy w' row)(hr:∀k,row=some k→w.heap.size≤k):SFr s w w':=
 ⟨hg.os.trans h.os,hg.tape.trans h.tape,hg.output.trans h.output,Nat.le_trans h.size hg.size,fun k hk hs=>(hg.block k (Nat.lt_of_lt_of_le hk h.size) (fun e=>by have:=hr k e.symm;omega)).trans (h.block k hk hs)⟩
theorem bG.shape {w:World}{base:Nat}{ps:List (Ex ×Value)}{v:Value}(h:bG w base ps v):∃a cap,v= .slice a ps.length cap:=by
 rcases h.1.2 with⟨rfl,h0⟩|⟨g,cap,cur,rfl,_⟩
 ·exact⟨none,0,by rw[h0]⟩
 ·exact⟨_,_,rfl⟩
theorem bG.ge {w:World}{base:Nat}{ps:List (Ex ×Value)}{v:Value}(h:bG w base ps v){k:Nat}(hk:v.ownBlock=some k):base≤k∧k<w.heap.size:=h.1.lt k hk
def CallInv(w:World)(s:Nat)(raw:List Int)(g:Nat→Ex ×Nat)(a0:Nat)(scs:List Value)(nm:Value)(k:Nat)(wr:World):Prop:=
 ∃ps v,ps.map (·.1)=(cw g k a0).1∧aZ wr s raw (cw g k a0).2∧SFr s w wr∧aG wr w.heap.size scs 73∧aG wr (w.heap.size+1) [.int .i64 0,.int .i64 0,.int .i64 0,.string ⟨#[]⟩,.slice none 0 0] 27∧
  aG wr (w.heap.size+2) [.int .i64 5,.int .i64 0,.int .i64 0,nm,v] 27∧bG wr (w.heap.size+3) ps v
theorem fM {w:World}{b:Nat}{cs:List Value}(h:cN w b 0 cs):∀j u,cs[j]? =some u→w.cell? ((⟨b,0,none⟩:Addr).add j)=some u:=by
 intro j u hu;have h2:(⟨b,0,none⟩:Addr).add j=⟨b,j,none⟩:=by unfold Addr.add;split<;>simp_all
 rw[h2];exact h.at j u hu
theorem lj(x:Ex)(a:Option Addr)(n c:Nat):∀u,u∈aj x (.slice a n c)→u.oneCell'=true:=by
 intro u hu;simp only[aj,List.mem_cons,List.not_mem_nil,or_false]at hu;rcases hu with rfl|rfl|rfl|rfl|rfl<;>rfl
theorem zS(w:World)(A B C:List Value)(TA TB TC:TypeId):Below w.heap.size w (((w.alloc (.cells A.toArray TA)).alloc (.cells B.toArray TB)).alloc (.cells C.toArray TC))∧aG (((w.alloc (.cells A.toArray TA)).alloc (.cells B.toArray TB)).alloc (.cells C.toArray TC)) w.heap.size A TA∧
  aG (((w.alloc (.cells A.toArray TA)).alloc (.cells B.toArray TB)).alloc (.cells C.toArray TC)) (w.heap.size+1) B TB∧aG (((w.alloc (.cells A.toArray TA)).alloc (.cells B.toArray TB)).alloc (.cells C.toArray TC)) (w.heap.size+2) C TC:=by
 have h1:=Zc w A TA;have h2:=Zc (w.alloc (.cells A.toArray TA)) B TB;have h3:=Zc ((w.alloc (.cells A.toArray TA)).alloc (.cells B.toArray TB)) C TC;rw[show(w.alloc (.cells A.toArray TA)).heap.size=w.heap.size+1 by simp]at h2;rw[show((w.alloc (.cells A.toArray TA)).alloc (.cells B.toArray TB)).heap.size=w.heap.size+2 by simp]at h3;exact⟨((bA).alloc (by simp) _).alloc (by simp;omega) _,(h1.alloc _).alloc _,h2.alloc _,h3⟩
def u3:Code→Option Code
 | .seq (.seq a (.cond o c d)) b=>some b
 | .seq a b=>u3 b
 |_=>none
noncomputable def zJ:Code:=(Tryz.f70.body.bind u3).getD .skip
theorem pL {d s:Nat}(hd:2≤d)(hd1:d≤1000){raw:List Int}{sc:Sc}{v1 a1 f1:Option Addr}{v2 a2 f2 fn:Nat}{fb:Bool}{w w5:World}{c a0:Nat}{nm:Bs}(hsl:s<w.heap.size)(hsc:dg s w sc (.slice v1 sc.vars.length v2) (.slice a1 sc.arrays.length a2) (.slice f1 fn f2))
  (hih:∀w1 b,aZ w1 s raw b→dg s w1 sc (.slice v1 sc.vars.length v2) (.slice a1 sc.arrays.length a2) (.slice f1 fn f2)→Calls Zb 31 #[.agg #[.slice v1 sc.vars.length v2,.slice a1 sc.arrays.length a2,.slice f1 fn f2,.bool fb,.bool sc.loop],.pointer (some ⟨s,0,none⟩),.int .i64 ((d:Int) - 1)] w1 (dI w1 s raw (aX sc raw (d - 1) b)))
  (hc6:c≤1000000) (hs5:aZ w5 s raw a0) (hf5:SFr s w w5) (hC5:aG w5 w.heap.size [.slice v1 sc.vars.length v2,.slice a1 sc.arrays.length a2,.slice f1 fn f2,.bool fb,.bool sc.loop] 73) (hR5:aG w5 (w.heap.size+1) [.int .i64 0,.int .i64 0,.int .i64 0,.string ⟨#[]⟩,.slice none 0 0] 27) (hE5:aG w5 (w.heap.size+2) [.int .i64 5,.int .i64 0,.int .i64 0,.string (aB nm),.slice none 0 0] 27):
  ∀q4 q5 q9 q10 q11 q12 q13 q14 q15 q16 q17 q18 q19 q20 q21 q22 q23 q24 q25 q26 q27 q28 q29 q30 q31 q32 q33 q34 q35 q36 q37 q38 q39 q40 q41 q42 q43 q44 q45 q46 q47 q48 q49 q50 q51 q52 q53 q54 q55 q56:Value,Code.wp Zb zJ (bodyPost Zb Tryz.f70 (dI w s raw (.mk 5 0 0 nm (cw (aX sc raw (d - 1)) c a0).1,(cw (aX sc raw (d - 1)) c a0).2))) ⟨[.agg #[.slice v1 sc.vars.length v2,.slice a1 sc.arrays.length a2,.slice f1 fn f2,.bool fb,.bool sc.loop],.pointer (some ⟨s,0,none⟩),.int .i64 d,.pointer (some ⟨w.heap.size,0,none⟩),q4,q5,.pointer (some ⟨w.heap.size+1,0,none⟩),.pointer (some ⟨w.heap.size+1+1,0,none⟩),.int .i64 c,q9,q10,q11,q12,q13,q14,q15,q16,q17,q18,q19,q20,q21,q22,q23,q24,q25,q26,q27,q28,q29,q30,q31,q32,q33,q34,q35,q36,q37,q38,q39,q40,q41,q42,q43,q44,q45,q46,q47,q48,q49,q50,q51,q52,q53,q54,q55,q56].toArray,[]⟩ w5:=by
 intros;have HSC:=Za hsc;have HIH:=Za hih;have HS5:=Za hs5;have HF5:=Za hf5;have HC5:=Za hC5;have HR5:=Za hR5;have HE5:=Za hE5;have HZ:Hid (w.heap.size+1≠s):=by show _≠_;omega
 have HY:Hid (w.heap.size≠s):=by show _≠_;omega
 have HX:Hid (w.heap.size+2≠s):=by show _≠_;omega
 have hd0:(2:Int)≤(d:Int):=by omega
 have hdM:(d:Int)≤1000:=by omega
 have hsx:s<w.heap.size+2:=by omega
 have hge:w.heap.size≤w.heap.size+2:=by omega
 clear hsc hih hs5 hf5 hC5 hR5 hE5
 conv=>arg 2;whnf
 go_wp2_with fail
 go_loopw [10] (fun q wr=> ∃k:Nat,k≤c∧q= .int .i64 k∧CallInv w s raw (aX sc raw (d - 1)) a0 [.slice v1 sc.vars.length v2,.slice a1 sc.arrays.length a2,.slice f1 fn f2,.bool fb,.bool sc.loop] (.string (aB nm)) k wr) (fun q _=>c - (intOf q).toNat)
 case atStart=>exact⟨0,Nat.zero_le _,rfl,[],_,rfl,HS5.out,HF5.out,HC5.out,HR5.out,HE5.out,bG.zero _ _⟩
 case round=>
  obtain⟨k,hk,rfl,hinv⟩:=hrel;obtain⟨ps,v,hps,hsr,hfr,hC,hR,hE,hO⟩:=hinv;obtain⟨va,vc,rfl⟩:=hO.shape;have HPS:=Za hps;have HSK:=Za hsr;have HFK:=Za hfr;have HCK:=Za hC;have HRK:=Za hR;have HEK:=Za hE;have HOK:=Za hO;clear hps hsr hfr hC hR hE hO;have b0:=HCK.out.at 0 _ rfl;have b1:=HCK.out.at 1 _ rfl;have b2:=HCK.out.at 2 _ rfl;have b3:=HCK.out.at 3 _ rfl;have b4:=HCK.out.at 4 _ rfl;have e0:=HEK.out.at 0 _ rfl;have e1:=HEK.out.at 1 _ rfl;have e2:=HEK.out.at 2 _ rfl;have e3:=HEK.out.at 3 _ rfl;have e4:=HEK.out.at 4 _ rfl;have fe4:=HEK.out.fz 4;have hE2:=HEK.out.lt
  by_cases hlt:k<c
  ·have hlen:Hid (ps.length≤1000000):=by show _≤_;have h1:=congrArg List.length HPS.out;rw[List.length_map,fB]at h1;omega
   have hnx:cw (aX sc raw (d - 1)) (k+1) a0=((cw (aX sc raw (d - 1)) k a0).1++[(aX sc raw (d - 1) (cw (aX sc raw (d - 1)) k a0).2).1],(aX sc raw (d - 1) (cw (aX sc raw (d - 1)) k a0).2).2):=rfl;have HNX:=Za hnx;clear hnx;have HCL:=Za (fun w1 h1 h2=>HIH.out w1 (cw (aX sc raw (d - 1)) k a0).2 h1 h2);generalize aX sc raw (d - 1) (cw (aX sc raw (d - 1)) k a0).2=x at*;obtain⟨x,xa⟩:=x;generalize cw (aX sc raw (d - 1)) k a0=mk at HPS HSK HNX HCL;obtain⟨lk,bk⟩:=mk;dsimp only at HPS HSK HNX HCL;have hdr:Below wr.heap.size wr wr.drew:=(Below.refl _ _).drew;have HSd:=Za (HSK.out.old hdr);have HFd:=Za (HFK.out.trans (Zd hdr));have HCd:=Za (HCK.out.old hdr);have HRd:=Za (HRK.out.old hdr);have HEd:=Za (HEK.out.old hdr);have HOd:=Za (HOK.out.keep (w':=wr.drew) (fun _ _ _=>rfl));clear hdr;obtain⟨i0,hi0,hz0,hz1,hz2⟩:=info_parts kO;have hE3:w.heap.size+3≤wr.heap.size:=by omega
   have hwd:IntKind.i64.wrap ((d:Int) - 1)=(d:Int) - 1:=IntWalk.i64_in _ (by omega);go_wp2_with fail
   go_region_law (first
    |((try go_simp);go_at_call 31;refine(HCL.out _ HSd.out (HSC.out.sfr HFd.out)).mono ?_;rintro r w6 ⟨xv,he,hs6,hf6,hx6,hn6⟩;obtain⟨xs,xc,hxv⟩:=hx6.shape;subst hxv;subst he;have hc:∀b o,b<_→b≠s→w6.cell? ⟨b,o,none⟩=_:=fun b o h hn=>World.cell?_of_block (a:=⟨b,o,none⟩) (hf6.block b h hn);have HS6:=Za hs6;have HF6:=Za (HFd.out.trans hf6);have HC6:=Za (HCd.out.sfr hf6 HY.out);have HR6:=Za (HRd.out.sfr hf6 HZ.out);have HE6:=Za (HEd.out.sfr hf6 HX.out);have HO6:=Za (HOd.out.keep (w':=w6) (fun k h1 h2=>hf6.block k h1 (by omega)));have Hx6:=Za hx6;have Hn6:=Za hn6;have hz6:=hf6.size;have u4:=HE6.out.at 4 _ rfl;have hX6:=HE6.out.lt;clear hs6 hf6 hx6 hn6;have hw7:Below w6.heap.size w6 (w6.alloc (.cells #[.int .i64 x.kind,.int .i64 x.op,.int .i64 x.n,.string (aB x.name),.slice xs x.args.length xc] 27)):=bA;have HS7:=Za (HS6.out.old hw7);have HF7:=Za (HF6.out.trans (Zd hw7));have HC7:=Za (HC6.out.old hw7);have HR7:=Za (HR6.out.old hw7);have HE7:=Za (HE6.out.old hw7);have HO7:=Za (HO6.out.keep (w':=(w6.alloc (.cells #[.int .i64 x.kind,.int .i64 x.op,.int .i64 x.n,.string (aB x.name),.slice xs x.args.length xc] 27))) (fun k h1 h2=>hw7.block k h1));have HN7:=Za (cN.new w6 (aj x (.slice xs x.args.length xc)) 27);have Hx7:Hid (aJ (fun b=>w.heap.size+3≤b∧(Value.slice va ps.length vc).ownBlock≠some b) (w6.alloc (.cells #[.int .i64 x.kind,.int .i64 x.op,.int .i64 x.n,.string (aB x.name),.slice xs x.args.length xc] 27)) x.args (.slice xs x.args.length xc)):=((Hx6.out.old hw7).mono (fun b hb=>⟨Nat.le_trans hE3 hb,fun e=>by have h1:=(HOK.out.ge e).2;have h2:wr.heap.size≤b:=hb;omega⟩));clear hw7)
    |(refine step_append_lies (P:=Zb) _ rfl _ _ 25 rfl (w.heap.size+3) 27 i0 _ 5 64 Tryz.underlying25 hi0 hz0 hz1 hz2 rfl (by decide) (.slice va ps.length vc) ps.length (cz ps) rfl HO7.out.1 ⟨w6.heap.size,0,none⟩ 1 1 (aj x (.slice xs x.args.length xc)) rfl rfl (fM HN7.out) (lj x _ _ _) (by decide) (by have:=hlen.out;unfold maxLen;omega) (by have:=hlen.out;omega) (by have:=HE7.out.lt;omega) _ rfl ?_;intro g cap w8 hown hgrow hat hlt8;have hge8:∀k,(Value.slice va ps.length vc).ownBlock=some k→w.heap.size+3≤k:=fun k e=>(HO7.out.ge e).1;have HS8:=Za (HS7.out.low (w':=w8) (fun k hk=>hgrow.block k (Nat.lt_of_le_of_lt hk HS7.out.lt) (fun e=>by have:=hge8 k e.symm;omega)));have HF8:=Za (HF7.out.grow hgrow (fun k e=>by have:=hge8 k e;omega));have HC8:=Za (HC7.out.low (hgrow.block _ HC7.out.lt (fun e=>by have:=hge8 _ e.symm;omega)));have HR8:=Za (HR7.out.low (hgrow.block _ HR7.out.lt (fun e=>by have:=hge8 _ e.symm;omega)));have hE8:=HE7.out.low (hgrow.block _ HE7.out.lt (fun e=>by have:=hge8 _ e.symm;omega));have HE8:=Za hE8;have HO8:=Za (HO7.out.snoc x _ Hx7.out Hn6.out hown hgrow hat);have y4:=hE8.at 4 _ rfl;have fy4:=hE8.fz 4;have hX8:=hE8.lt;clear hown hgrow hat hE8))
   all_goals
    have HE9:=Za (HE8.out.set 4 (.slice (some ⟨g,0,none⟩) (ps.length+1) cap));have HS9:=Za (HS8.out.other hsx 4 (.slice (some ⟨g,0,none⟩) (ps.length+1) cap));have HF9:=Za (HF8.out.setNew hge 4 (.slice (some ⟨g,0,none⟩) (ps.length+1) cap));have HR9:=Za (HR8.out.other (show w.heap.size+1≠w.heap.size+2 by omega) 4 (.slice (some ⟨g,0,none⟩) (ps.length+1) cap));have HC9:=Za (HC8.out.other (show w.heap.size≠w.heap.size+2 by omega) 4 (.slice (some ⟨g,0,none⟩) (ps.length+1) cap));have HO9:=Za (HO8.out.keep (w':=w8.setCell ⟨w.heap.size+2,4,none⟩ (.slice (some ⟨g,0,none⟩) (ps.length+1) cap)) (fun k h1 h2=>Below.heap_setCell _ _ _ _ (by show k≠w.heap.size+2;omega)));go_wp2_with fail
    go_roundw
    case rel=>exact⟨k+1,by omega,by go_num,⟨ps++[(x,.slice xs x.args.length xc)],_,by rw[HNX.out,List.map_append,HPS.out];rfl,by rw[HNX.out];exact HS9.out,HF9.out,HC9.out,HR9.out,HE9.out,HO9.out⟩⟩
    case measure=>simp [intOf];omega
  ·obtain rfl:k=c:=by omega
   have x0:=HRK.out.at 0 _ rfl;have x1:=HRK.out.at 1 _ rfl;have x2:=HRK.out.at 2 _ rfl;have x3:=HRK.out.at 3 _ rfl;have x4:=HRK.out.at 4 _ rfl;have fx0:=HRK.out.fz 0;have fx1:=HRK.out.fz 1;have fx2:=HRK.out.fz 2;have fx3:=HRK.out.fz 3;have fx4:=HRK.out.fz 4;have hsx1:s<w.heap.size+1:=by omega
   have hge1:w.heap.size≤w.heap.size+1:=by omega
   have hlen:Hid (br ps.length):=by show _≤_;have h1:=congrArg List.length HPS.out;rw[List.length_map,fB]at h1;omega
   have HX9:=Za (HOK.out.exs hlen.out);rw[HPS.out]at HX9;have hB:w.heap.size+1<w.heap.size+3:=by omega
   have HRE:=Za (((((HRK.out.set 0 (.int .i64 5)).set 1 (.int .i64 0)).set 2 (.int .i64 0)).set 3 (.string (aB nm))).set 4 (.slice va ps.length vc));have HSE:=Za (((((HSK.out.other hsx1 0 (.int .i64 5)).other hsx1 1 (.int .i64 0)).other hsx1 2 (.int .i64 0)).other hsx1 3 (.string (aB nm))).other hsx1 4 (.slice va ps.length vc));have HFE:=Za (((((HFK.out.setNew hge1 0 (.int .i64 5)).setNew hge1 1 (.int .i64 0)).setNew hge1 2 (.int .i64 0)).setNew hge1 3 (.string (aB nm))).setNew hge1 4 (.slice va ps.length vc));go_wp2_with fail
   have d0:=HRE.out.at 0 _ rfl;have d1:=HRE.out.at 1 _ rfl;have d2:=HRE.out.at 2 _ rfl;have d3:=HRE.out.at 3 _ rfl;have d4:=HRE.out.at 4 _ rfl;exact bodyPost_ret (v:= .agg #[.int .i64 5,.int .i64 0,.int .i64 0,(.string (aB nm)),.slice va ps.length vc]) (by simp [results,Tryz.results70,go_sem,d0,d1,d2,d3,d4]) rfl ⟨.slice va ps.length vc,rfl,HSE.out,HFE.out,((((((HX9.out.keep (ax _ hB 0 _)).keep (ax _ hB 1 _)).keep (ax _ hB 2 _)).keep (ax _ hB 3 _)).keep (ax _ hB 4 _)).mono (fun b h=>(Nat.le_trans (by omega) h:w.heap.size≤b))),(fV ⟨by show _≤(0:Int);decide,by show(0:Int)≤_;decide⟩)⟩
theorem zV(d:Nat)(hd:2≤d)(hd1:d≤1000)(ih:fj (d - 1))(s:Nat)(raw:List Int)(a:Nat)(sc:Sc)(vv av fv:Value)(w:World)(hs:aZ w s raw a)(hsc:dg s w sc vv av fv)(h:(sc.free||sc.funcs.isEmpty)=true):
  Calls Zb 70 #[scV sc vv av fv,.pointer (some ⟨s,0,none⟩),.int .i64 d] w (dI w s raw (ey sc raw (aX sc raw (d - 1)) a)):=by
 obtain⟨v1,v2,rfl⟩:=hsc.vars.shape;obtain⟨a1,a2,rfl⟩:=hsc.arrays.shape;obtain⟨f1,f2,rfl⟩:=hsc.funcs.shape;have lf:=hsc.f1;have hsl:=hs.lt;obtain⟨hb1,hc1,hr1,he1⟩:=zS w [.slice v1 sc.vars.length v2,.slice a1 sc.arrays.length a2,.slice f1 sc.funcs.length f2,.bool sc.free,.bool sc.loop] [.int .i64 0,.int .i64 0,.int .i64 0,.string ⟨#[]⟩,.slice none 0 0] [.int .i64 5,.int .i64 0,.int .i64 0,.string ⟨#[]⟩,.slice none 0 0] 73 27 27;have HC1:=Za hc1;have HR1:=Za hr1;have HE1:=Za he1;have HS1:=Za (hs.old hb1);have HF1:=Za (Zd (s:=s) hb1);have HSC:=Za hsc;have HDM:Hid (((d - 1:Nat):Int)=(d:Int) - 1):=by show _=_;omega
 have HIH:Hid (∀w1 b,aZ w1 s raw b→dg s w1 sc (.slice v1 sc.vars.length v2) (.slice a1 sc.arrays.length a2) (.slice f1 sc.funcs.length f2)→Calls Zb 31 #[scV sc (.slice v1 sc.vars.length v2) (.slice a1 sc.arrays.length a2) (.slice f1 sc.funcs.length f2),.pointer (some ⟨s,0,none⟩),.int .i64 ((d:Int) - 1)] w1 (dI w1 s raw (aX sc raw (d - 1) b))):=fun w1 b h1 h2=>by have q:=ih s raw b sc _ _ _ w1 h1 h2;rw[HDM.out]at q;exact q
 have HZ:Hid (w.heap.size+1≠s):=by show _≠_;omega
 have HY:Hid (w.heap.size≠s):=by show _≠_;omega
 have HX:Hid (w.heap.size+2≠s):=by show _≠_;omega
 have hd0:(2:Int)≤(d:Int):=by omega
 have hdM:(d:Int)≤1000:=by omega
 clear hb1 hc1 hr1 he1 hs ih;have E:ey sc raw (aX sc raw (d - 1)) a=(.mk 5 0 0 (fu (aC raw a 312).1) (cw (aX sc raw (d - 1)) (aC raw (aC raw a 312).2 7).1.toNat (aC raw (aC raw a 312).2 7).2).1,(cw (aX sc raw (d - 1)) (aC raw (aC raw a 312).2 7).1.toNat (aC raw (aC raw a 312).2 7).2).2):=by unfold ey;rw[if_pos h]
 rw[E];clear E;have HN:Hid (∀w1,aZ w1 s raw a→Calls Zb 37 #[.pointer (some ⟨s,0,none⟩),.int .i64 312] w1 (cp w1 s raw (.int .i64 (aC raw a 312).1) (aC raw a 312).2)):=fun w1 h1=>bQ s raw a 312 w1 h1 (by decide) (by decide)
 have HV:Hid (∀w,Calls Zb 83 #[.int .i64 (aC raw a 312).1] w fun e w'=>e= .returned (.string (aB (fu (aC raw a 312).1)))∧Below w.heap.size w w'):=fun w=>px _ (jp raw a 312 (by decide) (by decide)) w
 have HM:Hid (∀w1,aZ w1 s raw (aC raw a 312).2→Calls Zb 37 #[.pointer (some ⟨s,0,none⟩),.int .i64 7] w1 (cp w1 s raw (.int .i64 (aC raw (aC raw a 312).2 7).1) (aC raw (aC raw a 312).2 7).2)):=fun w1 h1=>bQ s raw _ 7 w1 h1 (by decide) (by decide)
 have hr:=aM raw (aC raw a 312).2 7 (by decide);have hcase:(sc.free=false∧sc.funcs.length=0)∨sc.free=true:=by
  revert h;cases sc.free
  ·intro h;exact .inl ⟨rfl,by simpa using h⟩
  ·intro _;exact .inr rfl
 clear h;unfold scV at HIH ⊢;generalize sc.free=fb at*;generalize sc.funcs.length=fn at*;generalize aC raw (aC raw a 312).2 7=q at*;generalize aC raw a 312=g at*;obtain⟨c,a0⟩:=q;obtain⟨c0,c1⟩:=hr;dsimp only at*;obtain⟨c,rfl⟩:=Int.eq_ofNat_of_zero_le c0;rw[Int.toNat_natCast];have hc6:c≤1000000:=by omega
 generalize fu g.1=nm at*;have b0:=HC1.out.at 0 _ rfl;have b1:=HC1.out.at 1 _ rfl;have b2:=HC1.out.at 2 _ rfl;have b3:=HC1.out.at 3 _ rfl;have b4:=HC1.out.at 4 _ rfl;obtain⟨scs,hscs⟩:∃scs:List Value,scs=[.slice v1 sc.vars.length v2,.slice a1 sc.arrays.length a2,.slice f1 fn f2,.bool fb,.bool sc.loop]:=⟨_,rfl⟩;have HSCS:=Za hscs;clear hscs;rcases hcase with⟨rfl,rfl⟩|rfl
 all_goals
  go_enter Tryz.func70,Tryz.ntmps70
  go_upto_if 19 with(fail)
  go_cut [8] (fun q wx=>q= .int .i64 c∧aZ wx s raw a0∧SFr s w wx∧aG wx w.heap.size scs 73∧aG wx (w.heap.size+1) [.int .i64 0,.int .i64 0,.int .i64 0,.string ⟨#[]⟩,.slice none 0 0] 27∧aG wx (w.heap.size+2) [.int .i64 5,.int .i64 0,.int .i64 0,.string (aB nm),.slice none 0 0] 27)
  case first=>
   go_wp2_with fail
   refine(HN.out _ HS1.out).mono ?_;rintro r w2 ⟨rfl,hs2,hf2⟩;have HS2:=Za hs2;have HF2:=Za (HF1.out.trans hf2);have HR2:=Za (HR1.out.sfr hf2 HZ.out);have HC2:=Za (HC1.out.sfr hf2 HY.out);have HE2:=Za (HE1.out.sfr hf2 HX.out);clear hs2 hf2;go_wp2_with fail
   refine(HV.out _).mono ?_;rintro r w3 ⟨rfl,hb3⟩;have HS3:=Za (HS2.out.old hb3);have HF3:=Za (HF2.out.trans (Zd hb3));have HR3:=Za (HR2.out.old hb3);have HC3:=Za (HC2.out.old hb3);have HE3:=Za (HE2.out.old hb3);clear hb3;have e0:=HE3.out.at 0 _ rfl;have e1:=HE3.out.at 1 _ rfl;have e2:=HE3.out.at 2 _ rfl;have e3:=HE3.out.at 3 _ rfl;have e4:=HE3.out.at 4 _ rfl;have fe3:=HE3.out.fz 3;have hsx:s<w.heap.size+2:=by omega
   have hge:w.heap.size≤w.heap.size+2:=by omega
   have HS4:=Za (HS3.out.other hsx 3 (.string (aB nm)));have HF4:=Za (HF3.out.setNew hge 3 (.string (aB nm)));have HE4:=Za (HE3.out.set 3 (.string (aB nm)));have HR4:=Za (HR3.out.other (show w.heap.size+1≠w.heap.size+2 by omega) 3 (.string (aB nm)));have HC4:=Za (HC3.out.other (show w.heap.size≠w.heap.size+2 by omega) 3 (.string (aB nm)));go_wp2_with fail
   generalize w3.setCell ⟨w.heap.size+2,3,none⟩ (.string (aB nm))=w4 at*;clear e0 e1 e2 e3 e4 fe3 b0 b1 b2 b3 b4;refine(HM.out _ HS4.out).mono ?_;rintro r w5 ⟨rfl,hs5,hf5⟩;have HS5:=Za hs5;have HF5:=Za (HF4.out.trans hf5);have HR5:=Za (HR4.out.sfr hf5 HZ.out);have HC5:=Za (HC4.out.sfr hf5 HY.out);have HE5:=Za (HE4.out.sfr hf5 HX.out);clear hs5 hf5;go_wp2_with fail
   go_meet;exact⟨rfl,HS5.out,HF5.out,(by rw[HSCS.out];exact HC5.out),HR5.out,HE5.out⟩
  case rest=>
  obtain⟨rfl,hs5,hf5,hC5,hR5,hE5⟩:=hcut;rw[HSCS.out]at hC5;apply_assumption
  exact pL hd hd1 hsl HSC.out HIH.out hc6 hs5 hf5 hC5 hR5 hE5 _ _ _ _ _ _ _ _ _ _ _ _ _ _ _ _ _ _ _ _ _ _ _ _ _ _ _ _ _ _ _ _ _ _ _ _ _ _ _ _ _ _ _ _ _ _ _ _ _ _
theorem call_of(d:Nat)(hd:2≤d)(hd1:d≤1000)(ih:fj (d - 1))(s:Nat)(raw:List Int)(a:Nat)(sc:Sc)(vv av fv:Value)(w:World)(hs:aZ w s raw a)(hsc:dg s w sc vv av fv)(h:(sc.free||sc.funcs.isEmpty)=false):
  Calls Zb 70 #[scV sc vv av fv,.pointer (some ⟨s,0,none⟩),.int .i64 d] w (dI w s raw (ey sc raw (aX sc raw (d - 1)) a)):=by
 have hpos:0<sc.funcs.length:=pu (by rw[h];simp);have hf:sc.free=false:=by revert h;cases sc.free<;>simp
 obtain⟨v1,v2,rfl⟩:=hsc.vars.shape;obtain⟨a1,a2,rfl⟩:=hsc.arrays.shape;obtain⟨f1,f2,rfl⟩:=hsc.funcs.shape;have lf:=hsc.f1;have hsl:=hs.lt;obtain⟨hb1,hc1,hr1,he1⟩:=zS w [.slice v1 sc.vars.length v2,.slice a1 sc.arrays.length a2,.slice f1 sc.funcs.length f2,.bool sc.free,.bool sc.loop] [.int .i64 0,.int .i64 0,.int .i64 0,.string ⟨#[]⟩,.slice none 0 0] [.int .i64 5,.int .i64 0,.int .i64 0,.string ⟨#[]⟩,.slice none 0 0] 73 27 27;have HC1:=Za hc1;have HR1:=Za hr1;have HE1:=Za he1;have HS1:=Za (hs.old hb1);have HF1:=Za (Zd (s:=s) hb1);have HSC:=Za hsc;have HDM:Hid (((d - 1:Nat):Int)=(d:Int) - 1):=by show _=_;omega
 have HIH:Hid (∀w1 b,aZ w1 s raw b→dg s w1 sc (.slice v1 sc.vars.length v2) (.slice a1 sc.arrays.length a2) (.slice f1 sc.funcs.length f2)→Calls Zb 31 #[scV sc (.slice v1 sc.vars.length v2) (.slice a1 sc.arrays.length a2) (.slice f1 sc.funcs.length f2),.pointer (some ⟨s,0,none⟩),.int .i64 ((d:Int) - 1)] w1 (dI w1 s raw (aX sc raw (d - 1) b))):=fun w1 b h1 h2=>by have q:=ih s raw b sc _ _ _ w1 h1 h2;rw[HDM.out]at q;exact q
 have HZ:Hid (w.heap.size+1≠s):=by show _≠_;omega
 have HY:Hid (w.heap.size≠s):=by show _≠_;omega
 have HX:Hid (w.heap.size+2≠s):=by show _≠_;omega
 have hd0:(2:Int)≤(d:Int):=by omega
 have hdM:(d:Int)≤1000:=by omega
 clear hb1 hc1 hr1 he1 hs ih;have E:ey sc raw (aX sc raw (d - 1)) a=(.mk 5 0 0 (cZ sc.funcs (aC raw a sc.funcs.length).1.toNat).name (cw (aX sc raw (d - 1)) (cZ sc.funcs (aC raw a sc.funcs.length).1.toNat).params.length (aC raw a sc.funcs.length).2).1,(cw (aX sc raw (d - 1)) (cZ sc.funcs (aC raw a sc.funcs.length).1.toNat).params.length (aC raw a sc.funcs.length).2).2):=by unfold ey;rw[if_neg (by rw[h];simp)]
 rw[E];clear E;have HN:Hid (∀w1,aZ w1 s raw a→Calls Zb 37 #[.pointer (some ⟨s,0,none⟩),.int .i64 sc.funcs.length] w1 (cp w1 s raw (.int .i64 (aC raw a sc.funcs.length).1) (aC raw a sc.funcs.length).2)):=fun w1 h1=>bQ s raw a sc.funcs.length w1 h1 (by omega) (by omega)
 have hr:=aM raw a sc.funcs.length (by omega);generalize aC raw a sc.funcs.length=g at*;obtain⟨i,a0⟩:=g;obtain⟨i0,i1⟩:=hr;dsimp only at*;obtain⟨i,rfl⟩:=Int.eq_ofNat_of_zero_le i0;rw[Int.toNat_natCast];have hi:i<sc.funcs.length:=by omega
 obtain⟨eb,off,xp,xl,xb,rfl,hD,hbl,z0,z1,z2,z3,hxp,hxl,hxb⟩:=bM.cellAt hsc.funcs i hi;obtain⟨p1,p2,rfl⟩:=hxp.shape;obtain⟨l1,l2,rfl⟩:=hxl.shape;obtain⟨y1,y2,rfl⟩:=hxb.shape;have hc6:(cZ sc.funcs i).params.length≤1000000:=hsc.p1 _ (lH hi);have heb:eb≠s:=hD;generalize cZ sc.funcs i=x at*;have hb1:=(zS w [.slice v1 sc.vars.length v2,.slice a1 sc.arrays.length a2,.slice (some ⟨eb,off,none⟩) sc.funcs.length f2,.bool sc.free,.bool sc.loop] [.int .i64 0,.int .i64 0,.int .i64 0,.string ⟨#[]⟩,.slice none 0 0] [.int .i64 5,.int .i64 0,.int .i64 0,.string ⟨#[]⟩,.slice none 0 0] 73 27 27).1;replace z0:=aE hb1 z0;replace z1:=aE hb1 z1;replace z2:=aE hb1 z2;replace z3:=aE hb1 z3;clear hb1 h hxp hxl hxb hD hsc;unfold scV at HIH ⊢;rw[hf]at HC1 HR1 HE1 HS1 HF1 HIH z0 z1 z2 z3 ⊢;clear hf;have hne:((sc.funcs.length:Int)==0)=false:=beq_eq_false_iff_ne.2 (by omega);generalize sc.funcs.length=fn at*;have b0:=HC1.out.at 0 _ rfl;have b1:=HC1.out.at 1 _ rfl;have b2:=HC1.out.at 2 _ rfl;have b3:=HC1.out.at 3 _ rfl;have b4:=HC1.out.at 4 _ rfl;go_enter Tryz.func70,Tryz.ntmps70
 go_upto_if 19 with(fail)
 generalize (((w.alloc (.cells #[.slice v1 sc.vars.length v2,.slice a1 sc.arrays.length a2,.slice (some ⟨eb,off,none⟩) fn f2,.bool false,.bool sc.loop] 73)).alloc (.cells #[.int .i64 0,.int .i64 0,.int .i64 0,.string ⟨#[]⟩,.slice none 0 0] 27)).alloc (.cells #[.int .i64 5,.int .i64 0,.int .i64 0,.string ⟨#[]⟩,.slice none 0 0] 27))=W1 at*;go_cut [8] (fun q wx=>q= .int .i64 x.params.length∧aZ wx s raw a0∧SFr s w wx∧aG wx w.heap.size [.slice v1 sc.vars.length v2,.slice a1 sc.arrays.length a2,.slice (some ⟨eb,off,none⟩) fn f2,.bool false,.bool sc.loop] 73∧aG wx (w.heap.size+1) [.int .i64 0,.int .i64 0,.int .i64 0,.string ⟨#[]⟩,.slice none 0 0] 27∧aG wx (w.heap.size+2) [.int .i64 5,.int .i64 0,.int .i64 0,.string (aB x.name),.slice none 0 0] 27)
 case first=>
  go_upto_region 6 with(fail)
  have hdr:Below W1.heap.size W1 W1.drew:=(Below.refl _ _).drew;have HSd:=Za (HS1.out.old hdr);have HFd:=Za (HF1.out.trans (Zd hdr));have HCd:=Za (HC1.out.old hdr);have HRd:=Za (HR1.out.old hdr);have HEd:=Za (HE1.out.old hdr);have z0d:W1.drew.cell? ⟨eb,off+i*4,none⟩=some (.string (aB x.name)):=z0;have z1d:W1.drew.cell? ⟨eb,off+i*4+1,none⟩=some (.slice p1 x.params.length p2):=z1;have z2d:W1.drew.cell? ⟨eb,off+i*4+2,none⟩=some (.slice l1 x.locals.length l2):=z2;have z3d:W1.drew.cell? ⟨eb,off+i*4+3,none⟩=some (.slice y1 x.body.length y2):=z3;have hX1:=HE1.out.lt;have hsW:s<W1.heap.size:=HS1.out.lt;have hWs:W1.heap.size≠s:=by omega
  have hsx:s<w.heap.size+2:=by omega
  have hge:w.heap.size≤w.heap.size+2:=by omega
  have hgW:w.heap.size≤W1.heap.size:=by omega
  have hebW:eb≠W1.heap.size:=by omega
  have hwW:w.heap.size≠W1.heap.size:=by omega
  have hwW1:w.heap.size+1≠W1.heap.size:=by omega
  have hwW2:w.heap.size+2≠W1.heap.size:=by omega
  clear hdr
  go_region_held3 (fun w'=>w'.cell? ⟨w.heap.size,2,none⟩=some (.slice (some ⟨eb,off,none⟩) fn f2)∧w'.cell? ⟨eb,off+i*4,none⟩=some (.string (aB x.name))∧w'.cell? ⟨eb,off+i*4+1,none⟩=some (.slice p1 x.params.length p2)∧w'.cell? ⟨eb,off+i*4+2,none⟩=some (.slice l1 x.locals.length l2)∧w'.cell? ⟨eb,off+i*4+3,none⟩=some (.slice y1 x.body.length y2)) (first|(simp [*,World.cell?_alloc_lt,mb];done)|go_keep) (first
   |(go_at_call 37;refine(HN.out _ (by first|exact HSd.out|exact HSd.out.alloc _)).mono ?_;rintro r w4 ⟨he,hs4,hf4⟩;subst he;have HS4:=Za hs4;have HF4:Hid (SFr s w w4):=(by first|exact HFd.out.trans hf4|exact(HFd.out.trans (SFr.alloc _)).trans hf4);have hC4:aG w4 w.heap.size _ _:=(by first|exact HCd.out.sfr hf4 HY.out|exact(HCd.out.alloc _).sfr hf4 HY.out);have hR4:aG w4 (w.heap.size+1) _ _:=(by first|exact HRd.out.sfr hf4 HZ.out|exact(HRd.out.alloc _).sfr hf4 HZ.out);have hE4:aG w4 (w.heap.size+2) _ _:=(by first|exact HEd.out.sfr hf4 HX.out|exact(HEd.out.alloc _).sfr hf4 HX.out);have HC4:=Za hC4;have HR4:=Za hR4;have HE4:=Za hE4;have k2:=hC4.at 2 _ rfl;have m0:w4.cell? ⟨eb,off+i*4,none⟩=some (.string (aB x.name)):=(by first|exact hf4.cell heb z0d|exact hf4.cell heb (aE (bA) z0d));have m1:w4.cell? ⟨eb,off+i*4+1,none⟩=some (.slice p1 x.params.length p2):=(by first|exact hf4.cell heb z1d|exact hf4.cell heb (aE (bA) z1d));have m2:w4.cell? ⟨eb,off+i*4+2,none⟩=some (.slice l1 x.locals.length l2):=(by first|exact hf4.cell heb z2d|exact hf4.cell heb (aE (bA) z2d));have m3:w4.cell? ⟨eb,off+i*4+3,none⟩=some (.slice y1 x.body.length y2):=(by first|exact hf4.cell heb z3d|exact hf4.cell heb (aE (bA) z3d));have g3:=hE4.fz 3;have g4:=hE4.at 3 _ rfl;have hX4:=hE4.lt;have hb4:eb<w4.heap.size:=World.block_lt_of_cell? _ _ m0;(first|(have hV4:aG w4 W1.heap.size _ _:=(Zc W1.drew [.string ⟨#[]⟩,.slice none 0 0,.slice none 0 0,.slice none 0 0] 58).sfr hf4 hWs;have o0:=hV4.at 0 _ rfl;have o1:=hV4.at 1 _ rfl;have o2:=hV4.at 2 _ rfl;have o3:=hV4.at 3 _ rfl;have fo0:=hV4.fz 0;have fo1:=hV4.fz 1;have fo2:=hV4.fz 2;have fo3:=hV4.fz 3;have HV4:=Za hV4;have hlV:=hV4.lt;clear hV4)|skip);clear hs4 hf4 hC4 hR4 hE4))
  ·have HSE:=Za ((HS4.out.other hsx 3 (.string (aB x.name))).alloc (.cells #[.string (aB x.name),.slice p1 x.params.length p2,.slice l1 x.locals.length l2,.slice y1 x.body.length y2] 58))
   have HFE:=Za ((HF4.out.setNew hge 3 (.string (aB x.name))).trans (SFr.alloc (.cells #[.string (aB x.name),.slice p1 x.params.length p2,.slice l1 x.locals.length l2,.slice y1 x.body.length y2] 58)));have HCE:=Za ((HC4.out.other (show w.heap.size≠w.heap.size+2 by omega) 3 (.string (aB x.name))).alloc (.cells #[.string (aB x.name),.slice p1 x.params.length p2,.slice l1 x.locals.length l2,.slice y1 x.body.length y2] 58));have HRE:=Za ((HR4.out.other (show w.heap.size+1≠w.heap.size+2 by omega) 3 (.string (aB x.name))).alloc (.cells #[.string (aB x.name),.slice p1 x.params.length p2,.slice l1 x.locals.length l2,.slice y1 x.body.length y2] 58));have HEE:=Za ((HE4.out.set 3 (.string (aB x.name))).alloc (.cells #[.string (aB x.name),.slice p1 x.params.length p2,.slice l1 x.locals.length l2,.slice y1 x.body.length y2] 58));go_wp2_with fail
   go_meet;exact⟨rfl,HSE.out,HFE.out,HCE.out,HRE.out,HEE.out⟩
  ·have HSE:=Za (((((HS4.out.other hsW 0 (.string (aB x.name))).other hsW 1 (.slice p1 x.params.length p2)).other hsW 2 (.slice l1 x.locals.length l2)).other hsW 3 (.slice y1 x.body.length y2)).other hsx 3 (.string (aB x.name)))
   have HFE:=Za (((((HF4.out.setNew hgW 0 (.string (aB x.name))).setNew hgW 1 (.slice p1 x.params.length p2)).setNew hgW 2 (.slice l1 x.locals.length l2)).setNew hgW 3 (.slice y1 x.body.length y2)).setNew hge 3 (.string (aB x.name)));have HCE:=Za (((((HC4.out.other hwW 0 (.string (aB x.name))).other hwW 1 (.slice p1 x.params.length p2)).other hwW 2 (.slice l1 x.locals.length l2)).other hwW 3 (.slice y1 x.body.length y2)).other (show w.heap.size≠w.heap.size+2 by omega) 3 (.string (aB x.name)));have HRE:=Za (((((HR4.out.other hwW1 0 (.string (aB x.name))).other hwW1 1 (.slice p1 x.params.length p2)).other hwW1 2 (.slice l1 x.locals.length l2)).other hwW1 3 (.slice y1 x.body.length y2)).other (show w.heap.size+1≠w.heap.size+2 by omega) 3 (.string (aB x.name)));have HEE:=Za (((((HE4.out.other hwW2 0 (.string (aB x.name))).other hwW2 1 (.slice p1 x.params.length p2)).other hwW2 2 (.slice l1 x.locals.length l2)).other hwW2 3 (.slice y1 x.body.length y2)).set 3 (.string (aB x.name)));go_wp2_with fail
   go_meet;exact⟨rfl,HSE.out,HFE.out,HCE.out,HRE.out,HEE.out⟩
 case rest=>
  obtain⟨rfl,hs5,hf5,hC5,hR5,hE5⟩:=hcut;apply_assumption
  exact pL hd hd1 hsl HSC.out HIH.out hc6 hs5 hf5 hC5 hR5 hE5 _ _ _ _ _ _ _ _ _ _ _ _ _ _ _ _ _ _ _ _ _ _ _ _ _ _ _ _ _ _ _ _ _ _ _ _ _ _ _ _ _ _ _ _ _ _ _ _ _ _
theorem o6(d:Nat)(hd:2≤d)(hd1:d≤1000)(ih:fj (d - 1)):kT d:=by
 intro s raw a sc vv av fv w hs hsc
 cases h:(sc.free||sc.funcs.isEmpty)
 ·exact call_of d hd hd1 ih s raw a sc vv av fv w hs hsc h
 ·exact zV d hd hd1 ih s raw a sc vv av fv w hs hsc h
theorem gN:∀d:Nat,d≤1000→fj d
 |0,h=>pX 0 h (fun h=>absurd h (by decide)) (fun h=>absurd h (by decide))
 |d+1,h=>pX (d+1) h (fun _=>gN d (by omega)) (fun h2=>o6 (d+1) h2 h (gN d (by omega)))
theorem xi(d:Nat)(hd:2≤d)(hd1:d≤1000):kT d:=o6 d hd hd1 (gN (d - 1) (by omega))
def PreE(w:World)(raw:List Int)(wx:World):Prop:=aZ wx (w.heap.size+1) raw 0∧Below w.heap.size w wx∧aG wx w.heap.size [.int .i64 0,.int .i64 0,.int .i64 0,.string ⟨#[]⟩,.slice none 0 0] 27
theorem un(w:World)(raw:List Int)(v:Value)(h:ew (· <w.heap.size) w raw v):PreE w raw ((w.alloc (.cells #[.int .i64 0,.int .i64 0,.int .i64 0,.string ⟨#[]⟩,.slice none 0 0] 27)).alloc (.cells #[v,.int .i64 0] 71)):=by
 have hb:Below w.heap.size w ((w.alloc (.cells #[.int .i64 0,.int .i64 0,.int .i64 0,.string ⟨#[]⟩,.slice none 0 0] 27)).alloc (.cells #[v,.int .i64 0] 71)):=(bA).alloc (by simp) _;have hs:=Zc (w.alloc (.cells #[.int .i64 0,.int .i64 0,.int .i64 0,.string ⟨#[]⟩,.slice none 0 0] 27)) [v,.int .i64 0] 71;rw[show(w.alloc (.cells #[.int .i64 0,.int .i64 0,.int .i64 0,.string ⟨#[]⟩,.slice none 0 0] 27)).heap.size=w.heap.size+1 by simp]at hs;refine⟨⟨v,hs,?_,Nat.zero_le _⟩,hb,(Zc w [.int .i64 0,.int .i64 0,.int .i64 0,.string ⟨#[]⟩,.slice none 0 0] 27).alloc _⟩;have h2:=h.keep (aw hb);obtain⟨a',cap',b,off,hv,h1,h2,h3,h4,h5⟩:=h2;exact⟨a',cap',b,off,hv,h1,h2,h3.imp id (fun q=>⟨q.1,by have:=q.2;omega⟩),h4,h5⟩
def xZ(w:World)(e:Ex)(r:Ending)(w':World):Prop:= ∃v,r= .returned (exV e v)∧Below w.heap.size w w'∧aJ (w.heap.size≤ ·) w' e.args v∧I64 e.n
theorem vh(raw0:List Int)(rv:Value)(w:World)(hr:ep (· <w.heap.size) w raw0 rv):Calls Zb 15 #[rv] w (xZ w (iR raw0)):=by
 obtain⟨ra,rc,rfl⟩:=hr.shape;have HR:=Za hr;obtain⟨raw,hraw⟩:∃raw,raw=raw0.take 100:=⟨_,rfl⟩;have HRAW:=Za hraw;have HX:=Za (fun wx (h:aZ wx (w.heap.size+1) raw 0)=>gN 6 (by omega) (w.heap.size+1) raw 0 ⟨[],[],[],true,false⟩ (.slice none 0 0) (.slice none 0 0) (.slice none 0 0) wx h ⟨ag.zero,bK.zero,bM.zero,Nat.zero_le _,Nat.zero_le _,Nat.zero_le _,fun f hf=>(by cases hf)⟩);have hg:iR raw0=(aX ⟨[],[],[],true,false⟩ raw 6 0).1:=by rw[hraw];rfl
 rw[hg];generalize aX ⟨[],[],[],true,false⟩ raw 6 0=X at*;obtain⟨e,ae⟩:=X;clear hg hraw hr;go_enter Tryz.func15,Tryz.ntmps15
 go_upto_if 9 with(fail)
 go_cut [] (fun wx=>PreE w raw wx)
 case first=>
  by_cases h100:100<raw0.length
  ·have hlt:(100:Int)<(raw0.length:Int):=by omega
   have hle:(100:Int)≤(rc:Int):=by
    obtain⟨a',cap',b,off,hv,h1,_⟩:=HR.out
    cases hv;omega
   go_wp2_with fail
   go_meet;have hq:=HR.out.take 100 (by omega) (by decide);rw[←HRAW.out]at hq;have h1:raw.length=100:=by rw[HRAW.out,List.length_take];omega
   exact un w raw _ hq
  ·have hlt:(raw0.length:Int)≤100:=by omega
   have HQ:Hid (ew (· <w.heap.size) w raw (.slice ra raw0.length rc)):=by
    have e:raw=raw0:=by rw[HRAW.out];exact List.take_of_length_le (by omega)
    show ew _ _ _ _
    rw[e];have:=HR.out.take raw0.length (Nat.le_refl _) (by omega);rwa[List.take_length]at this
   go_wp2_with fail
   go_meet;exact un w raw _ HQ.out
 case rest=>
 have HP0:=Za hcut;clear hcut HR HRAW;go_wp2_with fail
 refine(HX.out _ HP0.out.1).mono ?_;rintro r w2 ⟨v,rfl,hs2,hf2,he2,hn2⟩;obtain⟨v1,v2,rfl⟩:=he2.shape;have HO:=Za (HP0.out.2.2.sfr hf2 (by omega));have HB:=Za (HP0.out.2.1.trans ((hf2.below (Nat.le_of_lt HP0.out.1.lt)).mono (by omega)));have hsz:w.heap.size+1<w2.heap.size:=hs2.lt;have hx0:w.heap.size+1<_:=HP0.out.1.lt;have HE:=Za (he2.mono (D':=(w.heap.size+1≤ ·)) (fun b hb=>by have:_≤b:=hb;omega));have HN:=Za hn2;clear hs2 hf2 he2 hn2 HP0 HX hx0;obtain⟨k,o,n,nm,us⟩:=e;have c0:=HO.out.fz 0;have c1:=HO.out.fz 1;have hlt:=HO.out.lt;have x0:=HO.out.at 0 _ rfl;have x1:=HO.out.at 1 _ rfl;have x2:=HO.out.at 2 _ rfl;have x3:=HO.out.at 3 _ rfl;have x4:=HO.out.at 4 _ rfl;have f2:=HO.out.fz 2;have f3:=HO.out.fz 3;have f4:=HO.out.fz 4;go_wp2_with fail
 have HS:=Za (((((HO.out.set 0 (.int .i64 (Ex.mk k o n nm us).kind)).set 1 (.int .i64 (Ex.mk k o n nm us).op)).set 2 (.int .i64 (Ex.mk k o n nm us).n)).set 3 (.string (aB (Ex.mk k o n nm us).name))).set 4 (.slice v1 (Ex.mk k o n nm us).args.length v2));have d0:=HS.out.at 0 _ rfl;have d1:=HS.out.at 1 _ rfl;have d2:=HS.out.at 2 _ rfl;have d3:=HS.out.at 3 _ rfl;have d4:=HS.out.at 4 _ rfl;have st:∀(v:World) (i:Nat) (x:Value),Below w.heap.size v (v.setCell ⟨w.heap.size,i,none⟩ x):=fun v i x=>(Below.refl _ _).setCell (p:=⟨w.heap.size,i,none⟩) (Nat.le_refl _) x
 have kp:∀(v:World) (i:Nat) (x:Value),cd (w.heap.size+1≤ ·) v (v.setCell ⟨w.heap.size,i,none⟩ x):=fun v i x=>ax v (Nat.lt_succ_self _) i x
 exact bodyPost_ret (v:=exV (Ex.mk k o n nm us) (.slice v1 (Ex.mk k o n nm us).args.length v2)) (by simp [results,Tryz.results15,go_sem,d0,d1,d2,d3,d4]) rfl ⟨_,rfl,((((HB.out.trans (st _ _ _)).trans (st _ _ _)).trans (st _ _ _)).trans (st _ _ _)).trans (st _ _ _),(((((HE.out.keep (kp _ _ _)).keep (kp _ _ _)).keep (kp _ _ _)).keep (kp _ _ _)).keep (kp _ _ _)).mono (fun b hb=>by have:w.heap.size+1≤b:=hb;omega),HN.out⟩
def em(w:World)(s:Nat)(raw:List Int)(x:List St ×Nat)(r:Ending)(w':World):Prop:=
 ∃v,r= .returned v∧aZ w' s raw x.2∧SFr s w w'∧aR (w.heap.size≤ ·) w' x.1 v
def ju(d:Nat):Prop:= ∀(s:Nat) (raw:List Int) (a:Nat) (sc:Sc) (vv av fv:Value) (w:World),aZ w s raw a→dg s w sc vv av fv→
 Calls Zb 39 #[scV sc vv av fv,.pointer (some ⟨s,0,none⟩),.int .i64 d] w (em w s raw (eE raw d sc a))
theorem dg.inLoop {s:Nat}{w:World}{sc:Sc}{vv av fv:Value}(h:dg s w sc vv av fv):dg s w sc.inLoop vv av fv:=⟨h.vars,h.arrays,h.funcs,h.v1,h.a1,h.f1,h.p1⟩
theorem sy(raw:List Int)(d:Nat)(sc:Sc):∃gs gl,(∀a,eE raw d sc a=fH (gSt sc raw gs gl d) (aC raw a 5).1.toNat (aC raw a 5).2)∧(2≤d→gs=eE raw (d - 1) sc∧gl=eE raw (d - 1) sc.inLoop):=by
 cases d with
 |zero=>exact⟨_,_,fun a=>rfl,fun h=>by omega⟩
 |succ d=>exact⟨_,_,fun a=>rfl,fun _=>⟨rfl,rfl⟩⟩
theorem th(one:Nat→St ×Nat)(c a:Nat):fH one (c+1) a=((fH one c a).1++[(one (fH one c a).2).1],(one (fH one c a).2).2):=rfl
abbrev u7(k:Int)(nm:Bs)(n:Nat)(va:Option Addr)(vc:Nat)(xt xe:Value):List Value:=[.int .i64 k,.string (aB nm),.slice va n vc,xt,xe]
def iv(X:Nat)(v:Value)(b:Nat):Prop:=X+1≤b∧v.ownBlock≠some b
structure bw (wr:World)(X s:Nat)(raw:List Int)(k:Int)(nm:Bs)(ps:List (Ex ×Value))(va:Option Addr)(vc:Nat)(t e:List St)(xt xe:Value)(a:Nat)(wx:World):Prop where
 src:aZ wx s raw a
 fr:SFr s wr wx
 own:aG wx X (u7 k nm ps.length va vc xt xe) 60
 exs:bG wx (X+1) ps (.slice va ps.length vc)
 thn:aR (iv X (.slice va ps.length vc)) wx t xt
 els:aR (iv X (.slice va ps.length vc)) wx e xe
 ge:wr.heap.size≤X
 gt:s<X
theorem bw.lt {wr wx:World}{X s:Nat}{raw:List Int}{k:Int}{nm:Bs}{ps:List (Ex ×Value)}{va:Option Addr}{vc:Nat}{t e:List St}{xt xe:Value}{a:Nat}(h:bw wr X s raw k nm ps va vc t e xt xe a wx):X<wx.heap.size:=h.own.lt
theorem bw.new {wr w:World}{s:Nat}{raw:List Int}{a:Nat}(k:Int)(hs:aZ w s raw a)(hf:SFr s wr w):bw wr w.heap.size s raw k [] [] none 0 [] [] (.slice none 0 0) (.slice none 0 0) a (w.alloc (.cells #[.int .i64 k,.string ⟨#[]⟩,.slice none 0 0,.slice none 0 0,.slice none 0 0] 60)):=
 ⟨hs.alloc _,hf.trans (SFr.alloc _),Zc _ _ _,bG.zero _ _,aR.zero,aR.zero,hf.size,hs.lt⟩
theorem bw.sfr {wr wx w':World}{X s:Nat}{raw:List Int}{k:Int}{nm:Bs}{ps:List (Ex ×Value)}{va:Option Addr}{vc:Nat}{t e:List St}{xt xe:Value}{a a':Nat}(h:bw wr X s raw k nm ps va vc t e xt xe a wx)(hs:aZ w' s raw a')(hf:SFr s wx w'):bw wr X s raw k nm ps va vc t e xt xe a' w':=
 ⟨hs,h.fr.trans hf,h.own.sfr hf (by have:=h.gt;omega),h.exs.sfr hf (by have:=h.gt;omega),h.thn.keep (hf.keepsD (fun b hb=>by have:=hb.1;have:=h.gt;omega)),h.els.keep (hf.keepsD (fun b hb=>by have:=hb.1;have:=h.gt;omega)),h.ge,h.gt⟩
theorem bw.below {wr wx w':World}{X s:Nat}{raw:List Int}{k:Int}{nm:Bs}{ps:List (Ex ×Value)}{va:Option Addr}{vc:Nat}{t e:List St}{xt xe:Value}{a:Nat}(h:bw wr X s raw k nm ps va vc t e xt xe a wx)(hb:Below wx.heap.size wx w'):bw wr X s raw k nm ps va vc t e xt xe a w':=
 h.sfr (h.src.old hb) (Zd hb)
theorem bw.kind {wr wx:World}{X s:Nat}{raw:List Int}{k:Int}{nm:Bs}{ps:List (Ex ×Value)}{va:Option Addr}{vc:Nat}{t e:List St}{xt xe:Value}{a:Nat}(h:bw wr X s raw k nm ps va vc t e xt xe a wx)(k':Int):bw wr X s raw k' nm ps va vc t e xt xe a (wx.setCell ⟨X,0,none⟩ (.int .i64 k')):=
 ⟨h.src.other h.gt 0 _,h.fr.setNew h.ge 0 _,h.own.set 0 _,h.exs.other (by omega) 0 _,h.thn.keep (aN _ (fun hb=>by have:=hb.1;omega) 0 _),h.els.keep (aN _ (fun hb=>by have:=hb.1;omega) 0 _),h.ge,h.gt⟩
theorem bw.name {wr wx:World}{X s:Nat}{raw:List Int}{k:Int}{nm:Bs}{ps:List (Ex ×Value)}{va:Option Addr}{vc:Nat}{t e:List St}{xt xe:Value}{a:Nat}(h:bw wr X s raw k nm ps va vc t e xt xe a wx)(nm':Bs):bw wr X s raw k nm' ps va vc t e xt xe a (wx.setCell ⟨X,1,none⟩ (.string (aB nm'))):=
 ⟨h.src.other h.gt 1 _,h.fr.setNew h.ge 1 _,h.own.set 1 _,h.exs.other (by omega) 1 _,h.thn.keep (aN _ (fun hb=>by have:=hb.1;omega) 1 _),h.els.keep (aN _ (fun hb=>by have:=hb.1;omega) 1 _),h.ge,h.gt⟩
theorem bw.setThn {wr wx:World}{X s:Nat}{raw:List Int}{k:Int}{nm:Bs}{ps:List (Ex ×Value)}{va:Option Addr}{vc:Nat}{t e:List St}{xt xe:Value}{a:Nat}(h:bw wr X s raw k nm ps va vc t e xt xe a wx)(t':List St)(xt':Value)(ht:aR (iv X (.slice va ps.length vc)) wx t' xt'):bw wr X s raw k nm ps va vc t' e xt' xe a (wx.setCell ⟨X,3,none⟩ xt'):=
 ⟨h.src.other h.gt 3 _,h.fr.setNew h.ge 3 _,h.own.set 3 _,h.exs.other (by omega) 3 _,ht.keep (aN _ (fun hb=>by have:=hb.1;omega) 3 _),h.els.keep (aN _ (fun hb=>by have:=hb.1;omega) 3 _),h.ge,h.gt⟩
theorem bw.setEls {wr wx:World}{X s:Nat}{raw:List Int}{k:Int}{nm:Bs}{ps:List (Ex ×Value)}{va:Option Addr}{vc:Nat}{t e:List St}{xt xe:Value}{a:Nat}(h:bw wr X s raw k nm ps va vc t e xt xe a wx)(e':List St)(xe':Value)(he:aR (iv X (.slice va ps.length vc)) wx e' xe'):bw wr X s raw k nm ps va vc t e' xt xe' a (wx.setCell ⟨X,4,none⟩ xe'):=
 ⟨h.src.other h.gt 4 _,h.fr.setNew h.ge 4 _,h.own.set 4 _,h.exs.other (by omega) 4 _,h.thn.keep (aN _ (fun hb=>by have:=hb.1;omega) 4 _),he.keep (aN _ (fun hb=>by have:=hb.1;omega) 4 _),h.ge,h.gt⟩
theorem bw.beside {wr wx:World}{X s:Nat}{raw:List Int}{k:Int}{nm:Bs}{ps:List (Ex ×Value)}{va:Option Addr}{vc:Nat}{t e:List St}{xt xe:Value}{a:Nat}(h:bw wr X s raw k nm ps va vc t e xt xe a wx)(b:Nat)(hb:wx.heap.size≤b):iv X (.slice va ps.length vc) b:=
 ⟨by have:=h.lt;omega,fun e=>by have:=(h.exs.ge e).2;omega⟩
theorem bw.more {wr w7 w8:World}{X s:Nat}{raw:List Int}{k:Int}{nm:Bs}{ps:List (Ex ×Value)}{va:Option Addr}{vc:Nat}{t e:List St}{xt xe:Value}{a:Nat}(h:bw wr X s raw k nm ps va vc t e xt xe a w7)(x:Ex)(xv:Value)(hx:aJ (iv X (.slice va ps.length vc)) w7 x.args xv)(hn:I64 x.n){g cap:Nat}
  (hown:w8.ownsRow (X+1) 27 5 (.slice (some ⟨g,0,none⟩) (ps.length+1) cap) (ps.length+1) (cz ps++aj x xv)) (hgrow:w7.grownBy w8 (Value.slice va ps.length vc).ownBlock) (hg:(Value.slice va ps.length vc).ownBlock=some g∨g=w7.heap.size):
  bw wr X s raw k nm (ps++[(x,xv)]) (some ⟨g,0,none⟩) cap t e xt xe a (w8.setCell ⟨X,2,none⟩ (.slice (some ⟨g,0,none⟩) (ps.length+1) cap)):=by
 have hge8:∀k,(Value.slice va ps.length vc).ownBlock=some k→X+1≤k:=fun k e=>(h.exs.ge e).1
 have low:∀k,k≤X→w8.heap[k]? =w7.heap[k]? :=fun k hk=>hgrow.block k (Nat.lt_of_le_of_lt hk h.lt) (fun e=>by have:=hge8 k e.symm;omega)
 have hl:(ps++[(x,xv)]).length=ps.length+1:=by simp
 have S8:aZ w8 s raw a:=h.src.low (fun k hk=>low k (by have:=h.gt;omega));have F8:SFr s wr w8:=h.fr.grow hgrow (fun k e=>by have:=hge8 k e;have:=h.ge;omega);have O8:aG w8 X (u7 k nm ps.length va vc xt xe) 60:=h.own.low (low X (Nat.le_refl _));have E8:bG w8 (X+1) (ps++[(x,xv)]) (.slice (some ⟨g,0,none⟩) (ps.length+1) cap):=h.exs.snoc x xv hx hn hown hgrow hg;have keepS:∀(l:List St) (u:Value),aR (iv X (.slice va ps.length vc)) w7 l u→aR (iv X (.slice (some ⟨g,0,none⟩) (ps.length+1) cap)) w8 l u:=by
  intro l u hu;have h1:=hu.strong;have h2:aR (fun b=>iv X (.slice va ps.length vc) b∧b<w7.heap.size) w8 l u:=h1.keep (fun b off y hb hy=>hgrow.cell hy (fun e=>hb.1.2 e.symm));refine h2.mono (fun b hb=>⟨hb.1.1,?_⟩);show some g≠some b
  intro e
  cases e
  rcases hg with hg|hg
  ·exact hb.1.2 hg
  ·omega
 have T8:=keepS t xt h.thn;have L8:=keepS e xe h.els;rw[←hl]at T8 L8 E8 ⊢;refine⟨S8.other h.gt 2 _,F8.setNew h.ge 2 _,?_,E8.other (by omega) 2 _,T8.keep (aN _ (fun hb=>by have:=hb.1;omega) 2 _),L8.keep (aN _ (fun hb=>by have:=hb.1;omega) 2 _),h.ge,h.gt⟩;exact O8.set 2 _
def k8(wr:World)(X s:Nat)(raw:List Int)(x:St ×Nat)(wx:World):Prop:= ∃ps va vc xt xe,ps.map (·.1)=x.1.args∧bw wr X s raw x.1.kind x.1.name ps va vc x.1.thn x.1.els xt xe x.2 wx
theorem bw.to {wr wx:World}{X s:Nat}{raw:List Int}{k:Int}{nm:Bs}{ps:List (Ex ×Value)}{va:Option Addr}{vc:Nat}{t e:List St}{xt xe:Value}{a:Nat}(h:bw wr X s raw k nm ps va vc t e xt xe a wx){l:List Ex}(hl:ps.map (·.1)=l):k8 wr X s raw (.mk k nm l t e,a) wx:=⟨ps,va,vc,xt,xe,hl,h⟩
theorem xN {sc:Sc}{raw:List Int}{gs gl:Nat→List St ×Nat}{k:Int}{a:Nat}(hk:k<4)(hv:sc.hasVars=true):bO sc raw gs gl k a=(.mk 1 (eC sc.free sc.vars raw a).1 [] [] [],(eC sc.free sc.vars raw a).2):=by
 unfold bO;rw[if_pos ⟨hk,hv⟩]
theorem td {sc:Sc}{raw:List Int}{gs gl:Nat→List St ×Nat}{a:Nat}(hv:sc.hasArrays=true):bO sc raw gs gl 4 a=(.mk 2 (bV sc.free sc.arrays raw a).1.name [(aX sc raw 3 (bV sc.free sc.arrays raw a).2).1] [] [],(aX sc raw 3 (bV sc.free sc.arrays raw a).2).2):=by
 unfold bO;rw[if_neg (fun h=>absurd h.1 (by decide)),if_pos ⟨rfl,hv⟩]
theorem ww {sc:Sc}{raw:List Int}{gs gl:Nat→List St ×Nat}{a:Nat}(hv:sc.hasFuncs=true):bO sc raw gs gl 5 a=(.mk 10 [] [(ey sc raw (aX sc raw 2) a).1] [] [],(ey sc raw (aX sc raw 2) a).2):=by
 unfold bO;rw[if_neg (fun h=>absurd h.1 (by decide)),if_neg (fun h=>absurd h.1 (by decide)),if_pos ⟨rfl,hv⟩]
theorem yw {sc:Sc}{raw:List Int}{gs gl:Nat→List St ×Nat}{a:Nat}(h:(aC raw a 3).1=2):bO sc raw gs gl 6 a=(.mk (if(aC raw (aC raw a 3).2 2).1=0 then 7 else 9) [] [] [] [],(aC raw (aC raw a 3).2 2).2):=by
 unfold bO;rw[if_neg (fun h=>absurd h.1 (by decide)),if_neg (fun h=>absurd h.1 (by decide)),if_neg (fun h=>absurd h.1 (by decide)),if_pos ⟨rfl,h⟩]
theorem rL {sc:Sc}{raw:List Int}{gs gl:Nat→List St ×Nat}{a:Nat}(h:¬(aC raw a 3).1=2):bO sc raw gs gl 6 a=(.mk 8 [] [] [] [],(aC raw a 3).2):=by
 unfold bO;rw[if_neg (fun h=>absurd h.1 (by decide)),if_neg (fun h=>absurd h.1 (by decide)),if_neg (fun h=>absurd h.1 (by decide)),if_neg (fun q=>h q.2),if_neg (by decide),if_neg (by decide),if_neg (fun h=>absurd h.1 (by decide)),if_pos rfl]
theorem head_if {sc:Sc}{raw:List Int}{gs gl:Nat→List St ×Nat}{k:Int}{a:Nat}(h:k=7∨k=8):bO sc raw gs gl k a=(.mk 3 [] [(aX sc raw 3 a).1] (gs (aX sc raw 3 a).2).1 (gs (gs (aX sc raw 3 a).2).2).1,(gs (gs (aX sc raw 3 a).2).2).2):=by
 unfold bO;rw[if_neg (fun h=>by omega),if_neg (fun h=>by omega),if_neg (fun h=>by omega),if_neg (fun h=>by omega),if_pos h]
theorem vo {sc:Sc}{raw:List Int}{gs gl:Nat→List St ×Nat}{k:Int}{a:Nat}(h:k=9∨k=10):bO sc raw gs gl k a=(.mk 4 [] [(aX sc raw 3 a).1] (gl (aX sc raw 3 a).2).1 [],(gl (aX sc raw 3 a).2).2):=by
 unfold bO;rw[if_neg (fun h=>by omega),if_neg (fun h=>by omega),if_neg (fun h=>by omega),if_neg (fun h=>by omega),if_neg (by omega),if_pos h]
theorem yf {sc:Sc}{raw:List Int}{gs gl:Nat→List St ×Nat}{a:Nat}(h1:(sc.loop||sc.free)=true)(h:(aC raw a 2).1=1):bO sc raw gs gl 11 a=(.mk (if(aC raw (aC raw a 2).2 2).1=0 then 5 else 6) [] [] [] [],(aC raw (aC raw a 2).2 2).2):=by
 unfold bO;rw[if_neg (fun h=>absurd h.1 (by decide)),if_neg (fun h=>absurd h.1 (by decide)),if_neg (fun h=>absurd h.1 (by decide)),if_neg (fun h=>absurd h.1 (by decide)),if_neg (by decide),if_neg (by decide),if_pos ⟨rfl,h1,h⟩]
theorem qm {sc:Sc}{raw:List Int}{gs gl:Nat→List St ×Nat}{a:Nat}(h1:(sc.loop||sc.free)=true)(h:¬(aC raw a 2).1=1):bO sc raw gs gl 11 a=(.mk 8 [] [] [] [],(aC raw a 2).2):=by
 unfold bO;rw[if_neg (fun h=>absurd h.1 (by decide)),if_neg (fun h=>absurd h.1 (by decide)),if_neg (fun h=>absurd h.1 (by decide)),if_neg (fun h=>absurd h.1 (by decide)),if_neg (by decide),if_neg (by decide),if_neg (fun q=>h q.2.2),if_neg (by decide),if_pos ⟨rfl,h1⟩]
theorem wk {sc:Sc}{raw:List Int}{gs gl:Nat→List St ×Nat}{k:Int}{a:Nat}(h1:k<4→sc.hasVars=false)(h2:k=4→sc.hasArrays=false)(h3:k=5→sc.hasFuncs=false)(h6:k≠6)(h7:k<7∨10<k)(h8:k=11→(sc.loop||sc.free)=false):bO sc raw gs gl k a=(.mk 8 [] [] [] [],a):=by
 unfold bO;rw[if_neg (fun h=>by rw[h1 h.1]at h;cases h.2),if_neg (fun h=>by rw[h2 h.1]at h;cases h.2),if_neg (fun h=>by rw[h3 h.1]at h;cases h.2),if_neg (fun h=>h6 h.1),if_neg (by omega),if_neg (by omega),if_neg (fun h=>by rw[h8 h.1]at h;cases h.2.1),if_neg h6,if_neg (fun h=>by rw[h8 h.1]at h;cases h.2)]
theorem wA(k:Int):cD k≤2:=by unfold cD;split<;>(try split)<;>omega
def gF(p:Code→Bool):Code→Option Code
 | .loop c=>if p (.loop c)then some (.loop c)else gF p c
 | .seq a b=>match gF p a with
  |some c=>some c
  |none=>gF p b
 | .block k c=>if p (.block k c)then some (.block k c)else gF p c
 | .scope c=>gF p c
 | .cond o a b=>match gF p a with
  |some c=>some c
  |none=>gF p b
 |_=>none
def jk(n:Nat):Code→Bool
 | .block k _=>k==n
 |_=>false
def isLoop:Code→Bool
 | .loop _=>true
 |_=>false
noncomputable def swCode:Code:=((Tryz.f39.body.bind (gF (jk 2))).getD .skip)
noncomputable def yy:Code:=((Tryz.f39.body.bind (gF (jk 3))).getD .skip)
def SwR(d s:Nat)(C X:Nat)(K:Int)(HA HV HB:Bool)(wr:World)(raw:List Int)(x:St ×Nat)(q0 q4 q5 q6 q7 q8 q9 q16 q17 q18 q19 q20 q21 q22 q23 q24 q25 q26 q27 q28 q29 q30 q31 q32 q33 q34 q35 q36 q37 q38 q39 q40 q41 q42 q43 q44 q45 q46 q47 q48 q49 q50 q51 q52 q53 q54 q55 q56 q57 q58 q59 q60 q197 q198 q199 q200 q201 q202 q203 q204 q205 q206 q207 q208 q209 q210 q211 q212 q213 q214 q215 q216 q217 q218 q219 q220 q221 q222 q223 q224 q225:Value)(a':Act)(w':World):Prop:=
 ∃z15 z61 z62 z63 z64 z65 z66 z67 z68 z69 z70 z71 z72 z73 z74 z75 z76 z77 z78 z79 z80 z81 z82 z83 z84 z85 z86 z87 z88 z89 z90 z91 z92 z93 z94 z95 z96 z97 z98 z99 z100 z101 z102 z103 z104 z105 z106 z107 z108 z109 z110 z111 z112 z113 z114 z115 z116 z117 z118 z119 z120 z121 z122 z123 z124 z125 z126 z127 z128 z129 z130 z131 z132 z133 z134 z135 z136 z137 z138 z139 z140 z141 z142 z143 z144 z145 z146 z147 z148 z149 z150 z151 z152 z153 z154 z155 z156 z157 z158 z159 z160 z161 z162 z163 z164 z165 z166 z167 z168 z169 z170 z171 z172 z173 z174 z175 z176 z177 z178 z179 z180 z181 z182 z183 z184 z185 z186 z187 z188 z189 z190 z191 z192 z193 z194 z195 z196:Value,k8 wr X s raw x w'∧a'=⟨[q0,.pointer (some ⟨s,0,none⟩),.int .i64 d,.pointer (some ⟨C,0,none⟩),q4,q5,q6,q7,q8,q9,.int .i64 K,.pointer (some ⟨X,0,none⟩),.bool HA,.bool HV,.bool HB,z15,q16,q17,q18,q19,q20,q21,q22,q23,q24,q25,q26,q27,q28,q29,q30,q31,q32,q33,q34,q35,q36,q37,q38,q39,q40,q41,q42,q43,q44,q45,q46,q47,q48,q49,q50,q51,q52,q53,q54,q55,q56,q57,q58,q59,q60,z61,z62,z63,z64,z65,z66,z67,z68,z69,z70,z71,z72,z73,z74,z75,z76,z77,z78,z79,z80,z81,z82,z83,z84,z85,z86,z87,z88,z89,z90,z91,z92,z93,z94,z95,z96,z97,z98,z99,z100,z101,z102,z103,z104,z105,z106,z107,z108,z109,z110,z111,z112,z113,z114,z115,z116,z117,z118,z119,z120,z121,z122,z123,z124,z125,z126,z127,z128,z129,z130,z131,z132,z133,z134,z135,z136,z137,z138,z139,z140,z141,z142,z143,z144,z145,z146,z147,z148,z149,z150,z151,z152,z153,z154,z155,z156,z157,z158,z159,z160,z161,z162,z163,z164,z165,z166,z167,z168,z169,z170,z171,z172,z173,z174,z175,z176,z177,z178,z179,z180,z181,z182,z183,z184,z185,z186,z187,z188,z189,z190,z191,z192,z193,z194,z195,z196,q197,q198,q199,q200,q201,q202,q203,q204,q205,q206,q207,q208,q209,q210,q211,q212,q213,q214,q215,q216,q217,q218,q219,q220,q221,q222,q223,q224,q225].toArray,[]⟩
def ArgAt(wr:World)(X s:Nat)(raw:List Int)(k:Int)(nm:Bs)(l:List Ex)(a C:Nat)(cs:List Value)(wx:World):Prop:=
 (∃ps va vc,ps.map (·.1)=l∧bw wr X s raw k nm ps va vc [] [] (.slice none 0 0) (.slice none 0 0) a wx)∧aG wx C cs 73
structure SwH (d s:Nat)(raw:List Int)(sc:Sc)(v1 a1 f1:Option Addr)(v2 a2 f2:Nat)(C X:Nat)(K:Int)(HA HV HB:Bool)(ka:Nat)(wr W:World):Prop where
 hd1:d≤1000
 hsc:dg s wr sc (.slice v1 sc.vars.length v2) (.slice a1 sc.arrays.length a2) (.slice f1 sc.funcs.length f2)
 hC:aG W C [.slice v1 sc.vars.length v2,.slice a1 sc.arrays.length a2,.slice f1 sc.funcs.length f2,.bool sc.free,.bool sc.loop] 73
 hH:bw wr X s raw 8 [] [] none 0 [] [] (.slice none 0 0) (.slice none 0 0) ka W
 hCX:C<X
 hsC:s<C
 hd0:0≤K
 hd14:K<14
 hKd:7≤K→K<11→2≤d
 eA:sc.hasArrays=HA
 eV:sc.hasVars=HV
 eF:sc.hasFuncs=HB
def SwG(d s:Nat)(raw:List Int)(sc:Sc)(gs gl:Nat→List St ×Nat)(C X:Nat)(K:Int)(HA HV HB:Bool)(ka:Nat)(wr W:World):Prop:=
 ∀(q0 q4 q5 q6 q7 q8 q9 q15 q16 q17 q18 q19 q20 q21 q22 q23 q24 q25 q26 q27 q28 q29 q30 q31 q32 q33 q34 q35 q36 q37 q38 q39 q40 q41 q42 q43 q44 q45 q46 q47 q48 q49 q50 q51 q52 q53 q54 q55 q56 q57 q58 q59 q60 q61 q62 q63 q64 q65 q66 q67 q68 q69 q70 q71 q72 q73 q74 q75 q76 q77 q78 q79 q80 q81 q82 q83 q84 q85 q86 q87 q88 q89 q90 q91 q92 q93 q94 q95 q96 q97 q98 q99 q100 q101 q102 q103 q104 q105 q106 q107 q108 q109 q110 q111 q112 q113 q114 q115 q116 q117 q118 q119 q120 q121 q122 q123 q124 q125 q126 q127 q128 q129 q130 q131 q132 q133 q134 q135 q136 q137 q138 q139 q140 q141 q142 q143 q144 q145 q146 q147 q148 q149 q150 q151 q152 q153 q154 q155 q156 q157 q158 q159 q160 q161 q162 q163 q164 q165 q166 q167 q168 q169 q170 q171 q172 q173 q174 q175 q176 q177 q178 q179 q180 q181 q182 q183 q184 q185 q186 q187 q188 q189 q190 q191 q192 q193 q194 q195 q196 q197 q198 q199 q200 q201 q202 q203 q204 q205 q206 q207 q208 q209 q210 q211 q212 q213 q214 q215 q216 q217 q218 q219 q220 q221 q222 q223 q224 q225:Value) (J K':Act→World→Prop),(∀a' w',SwR d s C X K HA HV HB wr raw (bO sc raw gs gl K ka) q0 q4 q5 q6 q7 q8 q9 q16 q17 q18 q19 q20 q21 q22 q23 q24 q25 q26 q27 q28 q29 q30 q31 q32 q33 q34 q35 q36 q37 q38 q39 q40 q41 q42 q43 q44 q45 q46 q47 q48 q49 q50 q51 q52 q53 q54 q55 q56 q57 q58 q59 q60 q197 q198 q199 q200 q201 q202 q203 q204 q205 q206 q207 q208 q209 q210 q211 q212 q213 q214 q215 q216 q217 q218 q219 q220 q221 q222 q223 q224 q225 a' w'→J a' w')→(∀a' w',Met J a' w'→K' a' w')→
  Code.wp Zb swCode (Exit.then K' (fun _ _ _=>False)) ⟨[q0,.pointer (some ⟨s,0,none⟩),.int .i64 d,.pointer (some ⟨C,0,none⟩),q4,q5,q6,q7,q8,q9,.int .i64 K,.pointer (some ⟨X,0,none⟩),.bool HA,.bool HV,.bool HB,q15,q16,q17,q18,q19,q20,q21,q22,q23,q24,q25,q26,q27,q28,q29,q30,q31,q32,q33,q34,q35,q36,q37,q38,q39,q40,q41,q42,q43,q44,q45,q46,q47,q48,q49,q50,q51,q52,q53,q54,q55,q56,q57,q58,q59,q60,q61,q62,q63,q64,q65,q66,q67,q68,q69,q70,q71,q72,q73,q74,q75,q76,q77,q78,q79,q80,q81,q82,q83,q84,q85,q86,q87,q88,q89,q90,q91,q92,q93,q94,q95,q96,q97,q98,q99,q100,q101,q102,q103,q104,q105,q106,q107,q108,q109,q110,q111,q112,q113,q114,q115,q116,q117,q118,q119,q120,q121,q122,q123,q124,q125,q126,q127,q128,q129,q130,q131,q132,q133,q134,q135,q136,q137,q138,q139,q140,q141,q142,q143,q144,q145,q146,q147,q148,q149,q150,q151,q152,q153,q154,q155,q156,q157,q158,q159,q160,q161,q162,q163,q164,q165,q166,q167,q168,q169,q170,q171,q172,q173,q174,q175,q176,q177,q178,q179,q180,q181,q182,q183,q184,q185,q186,q187,q188,q189,q190,q191,q192,q193,q194,q195,q196,q197,q198,q199,q200,q201,q202,q203,q204,q205,q206,q207,q208,q209,q210,q211,q212,q213,q214,q215,q216,q217,q218,q219,q220,q221,q222,q223,q224,q225].toArray,[]⟩ W
abbrev SwI(d s:Nat)(raw:List Int)(sc:Sc)(v1 a1 f1:Option Addr)(v2 a2 f2:Nat)(lb:Bool)(g:Nat→List St ×Nat):Prop:=
 2≤d→∀w1 b,aZ w1 s raw b→dg s w1 sc (.slice v1 sc.vars.length v2) (.slice a1 sc.arrays.length a2) (.slice f1 sc.funcs.length f2)→Calls Zb 39 #[.agg #[.slice v1 sc.vars.length v2,.slice a1 sc.arrays.length a2,.slice f1 sc.funcs.length f2,.bool sc.free,.bool lb],.pointer (some ⟨s,0,none⟩),.int .i64 ((d:Int) - 1)] w1 (em w1 s raw (g b))
theorem k7 {d s:Nat}{raw:List Int}{sc:Sc}{v1 a1 f1:Option Addr}{v2 a2 f2:Nat}{gs gl:Nat→List St ×Nat}{C X:Nat}{K:Int}{HA HV HB:Bool}{ka:Nat}{wr W:World}(hw:SwH d s raw sc v1 a1 f1 v2 a2 f2 C X K HA HV HB ka wr W)(hv:K<4→HV=false)(ha:K=4→HA=false)(hf:K=5→HB=false)(h6:K≠6)(h7:K<7∨10<K)(h8:K=11→(sc.loop||sc.free)=false):SwG d s raw sc gs gl C X K HA HV HB ka wr W:=by
 obtain⟨hd1,hsc,hC,hH,hCX,hsC,hd0,hd14,hKd,eA,eV,eF⟩:=hw;unfold SwG;intros;rename_i J K' hJ hM;obtain⟨lv,la,lf⟩:sc.vars.length≤1000000∧sc.arrays.length≤1000000∧sc.funcs.length≤1000000:=⟨hsc.v1,hsc.a1,hsc.f1⟩;have HSC:=Za hsc;have HH3:=Za hH;have HC3:=Za hC;have HY:Hid (C≠s):=by show _≠_;omega
 have HCX:Hid (C<X):=hCX;have hXl:=hH.lt;have hCl:=hC.lt;have hsX:=hH.gt;clear hsc hH hC;have EV:=Za eV;have EA:=Za eA;have EF:=Za eF;clear eV eA eF;have E:=wk (sc:=sc) (raw:=raw) (gs:=gs) (gl:=gl) (a:=ka) (fun h=>EV.out.trans (hv h)) (fun h=>EA.out.trans (ha h)) (fun h=>EF.out.trans (hf h)) h6 h7 h8;rw[E]at hJ;clear E;have b3:=HC3.out.at 3 _ rfl;have b4:=HC3.out.at 4 _ rfl;have hcase:(K<4∧HV=false)∨(K=4∧HA=false)∨(K=5∧HB=false)∨(K=11∧sc.loop=false∧sc.free=false)∨12≤K:=by
  by_cases h1:K<4
  ·exact .inl ⟨h1,hv h1⟩
  by_cases h2:K=4
  ·exact .inr (.inl ⟨h2,ha h2⟩)
  by_cases h3:K=5
  ·exact .inr (.inr (.inl ⟨h3,hf h3⟩))
  by_cases h4:K=11
  ·exact .inr (.inr (.inr (.inl ⟨h4,by simpa using h8 h4⟩)))
  exact .inr (.inr (.inr (.inr (by omega))))
 clear hv ha hf h6 h7 h8;rcases hcase with⟨h1,rfl⟩|⟨rfl,rfl⟩|⟨rfl,rfl⟩|⟨rfl,h2,h3⟩|h1
 case inl|inr.inr.inr.inr=>
  all_goals
   have n4:(K==4)=false:=beq_eq_false_iff_ne.2 (by omega);have n5:(K==5)=false:=beq_eq_false_iff_ne.2 (by omega);have n6:(K==6)=false:=beq_eq_false_iff_ne.2 (by omega);have n7:(K==7)=false:=beq_eq_false_iff_ne.2 (by omega);have n8:(K==8)=false:=beq_eq_false_iff_ne.2 (by omega);have n9:(K==9)=false:=beq_eq_false_iff_ne.2 (by omega);have n10:(K==10)=false:=beq_eq_false_iff_ne.2 (by omega);have n11:(K==11)=false:=beq_eq_false_iff_ne.2 (by omega)
   conv=>arg 2;whnf
   go_wp2_with fail
   go_meet;exact HH3.out.to rfl
 all_goals
  conv=>arg 2;whnf
  go_wp2_with fail
  go_meet;exact HH3.out.to rfl
end Go.Proofs.YtcfpfnoldgnloaaGreatDoor
