/-
  Prog: raw programs.
-/
import Derived.Test.YtcfpfnoldgnloaaGreatDoorBk24
import Derived.Lib.Strings
import Derived.Lib.Slices
import Derived.Lib.Walk
import Derived.Lib.Builder
import Derived.Lib.AppendStr
import Derived.Lib.UnsafeStr
import Derived.Lib.MakeNoZero
import Derived.Laws.Externs
set_option linter.unusedVariables false
set_option linter.unusedSimpArgs false
namespace Go.Proofs.YtcfpfnoldgnloaaGreatDoor
open Go.RowKit
set_option maxHeartbeats 20000000
set_option maxRecDepth 100000
open Go.Lib renaming hid→Za,byteCells→Zf,cell_of_heap→Zh
open Go.Proofs.Tryz renaming prog→Zb
open List renaming length_cons→Zc,length_append→Ze,getElem?_eq_getElem→Zi,flatten_cons→Zj,flatten_nil→Zk,mem_cons_self→Zl,mem_cons_of_mem→Zm
open World renaming setCell→Zd
open Bool renaming and_eq_true→Zg
open Nat renaming mul_le_mul_right→Zn
open Below renaming heap_setCell→Zo
def yI(w:World)(p:Pr)(r:Ending)(w':World):Prop:=
 ∃va vf ds,r= .returned (.agg #[va,vf])∧Below w.heap.size w w'∧bK (w.heap.size≤ ·) w' p.arrays va∧ds.map (·.x)=p.funcs∧ds.length≤3∧cP w' w.heap.size ds vf∧fg w' w.heap.size ds vf∧bK (fun b=>vf.ownBlock≠some b∧∀d l,ds=d::l→d.b.ownBlock≠some b) w' p.arrays va
def GivesPr(w:World)(p:Pr)(r:Ending)(w':World):Prop:=
 ∃va vf ds,r= .returned (.agg #[va,vf])∧Below w.heap.size w w'∧bK (w.heap.size≤ ·) w' p.arrays va∧ds.map (·.x)=p.funcs∧ds.length≤3∧cP w' w.heap.size ds vf
theorem cP.base {w:World}{base b':Nat}{ps:List FuV}{v:Value}(h:cP w base ps v)(hb:b'≤base):cP w b' ps v:=
 ⟨nY h.1 (fun k e=>Nat.le_trans hb (h.ge e).1),fun p hp=>(h.2 p hp).mono (fun b q _=>⟨Nat.le_trans hb q.1,q.2⟩)⟩
theorem pe(free:Bool)(raw:List Int):∀n a,(fU free raw n a).1.length=n
 |0,a=>rfl
 |n+1,a=>by rw[fU,Zc,pe free raw n]
theorem pE(raw:List Int):∀n a,(fK raw n a).1.length=n
 |0,a=>rfl
 |n+1,a=>by rw[fK,Zc,pE raw n]
def Pre0(w:World)(raw:List Int)(wx:World):Prop:=aZ wx (w.heap.size+1) raw 0∧Below w.heap.size w wx∧aG wx w.heap.size [.slice none 0 0,.slice none 0 0] 34∧wx.heap.size=w.heap.size+2
theorem uy(w:World)(raw:List Int)(v:Value)(h:ew (· <w.heap.size) w raw v):Pre0 w raw ((w.alloc (.cells #[.slice none 0 0,.slice none 0 0] 34)).alloc (.cells #[v,.int .i64 0] 71)):=by
 have hb:Below w.heap.size w ((w.alloc (.cells #[.slice none 0 0,.slice none 0 0] 34)).alloc (.cells #[v,.int .i64 0] 71)):=(bA).alloc (by simp) _;have hs:=aG.new (w.alloc (.cells #[.slice none 0 0,.slice none 0 0] 34)) [v,.int .i64 0] 71;rw[show(w.alloc (.cells #[.slice none 0 0,.slice none 0 0] 34)).heap.size=w.heap.size+1 by simp]at hs;refine⟨⟨v,hs,?_,Nat.zero_le _⟩,hb,(aG.new w _ _).alloc _,by simp⟩;have h2:=h.keep (aw hb);obtain⟨a',cap',b,off,hv,h1,h2,h3,h4,h5⟩:=h2;exact⟨a',cap',b,off,hv,h1,h2,h3.imp id (fun q=>⟨q.1,by have:=q.2;omega⟩),h4,h5⟩
theorem pinv_of {w:World}{raw:List Int}{wx:World}(free:Bool)(h:Pre0 w raw wx):dn w raw 0 free (.slice none 0 0) (.slice none 0 0) (.slice none 0 0) (.slice none 0 0) ((wx.alloc (.cells #[.slice none 0 0,.slice none 0 0,.slice none 0 0,.bool free,.bool false] 73)).alloc (.cells #[.slice none 0 0,.slice none 0 0] 34)):=by
 obtain⟨h1,h2,h3,h4⟩:=h;have hb:Below wx.heap.size wx ((wx.alloc (.cells #[.slice none 0 0,.slice none 0 0,.slice none 0 0,.bool free,.bool false] 73)).alloc (.cells #[.slice none 0 0,.slice none 0 0] 34)):=(bA).alloc (by simp) _;have q1:=(aG.new wx [.slice none 0 0,.slice none 0 0,.slice none 0 0,.bool free,.bool false] 73).alloc (.cells #[.slice none 0 0,.slice none 0 0] 34);have q2:=aG.new (wx.alloc (.cells #[.slice none 0 0,.slice none 0 0,.slice none 0 0,.bool free,.bool false] 73)) [.slice none 0 0,.slice none 0 0] 34;rw[show(wx.alloc (.cells #[.slice none 0 0,.slice none 0 0,.slice none 0 0,.bool free,.bool false] 73)).heap.size=wx.heap.size+1 by simp,h4]at q2;rw[h4]at q1;exact⟨h2.trans (hb.mono (by omega)),h1.old hb,h3.old hb,q1,q2⟩
theorem zc(raw0:List Int)(free:Bool)(rv:Value)(w:World)(hr:ep (· <w.heap.size) w raw0 rv):Calls Zb 19 #[rv,.bool free] w (yI w (gJ raw0 free)):=by
 obtain⟨ra,rc,rfl⟩:=hr.shape;have hfit:=hr.len;have HR:=Za hr;obtain⟨raw,hraw⟩:∃raw,raw=raw0.take 400:=⟨_,rfl⟩;have HRAW:=Za hraw;have hgp:gJ raw0 free=⟨(fh raw free).1,(cH raw (fZ raw free) (fZ raw free).funcs (kH raw (fh raw free).2).2).1⟩:=by rw[hraw];rfl
 have hh:=eo raw free;have hsc:fZ raw free=⟨[],(fh raw free).1,gf::(kH raw (fh raw free).2).1,free,false⟩:=rfl;rw[hsc]at hgp hh;have hga:fh raw free=fU free raw (aC raw 0 3).1.toNat (aC raw 0 3).2:=rfl;have hgf:∀a,kH raw a=fK raw (aC raw a 3).1.toNat (aC raw a 3).2:=fun _=>rfl
 generalize fh raw free=A at*;obtain⟨la,aA⟩:=A;have hgf2:=hgf aA;clear hgf hsc;dsimp only at hgp hh;generalize kH raw aA=B at*;obtain⟨lf,aF⟩:=B;dsimp only at hgp hh;have hgl:la.length≤2:=by
  have h1:=congrArg (fun q=>q.1.length) hga;have h2:=aM raw 0 3 (by decide);simp only[pe]at h1;omega
 have hfl:lf.length≤2:=by
  have h1:=congrArg (fun q=>q.1.length) hgf2;have h2:=aM raw aA 3 (by decide);simp only[pE]at h1;omega
 have HGA:=Za hga;have HGF:=Za hgf2;have HHD:=Za hh;rw[hgp];clear hgp hraw hr hga hgf2 hh;have hrow:aG (w.alloc (.cells #[.slice none 0 0,.slice none 0 0] 34)) w.heap.size [.slice none 0 0,.slice none 0 0] 34:=aG.new _ _ _;clear hrow;go_enter Tryz.func19,Tryz.ntmps19
 go_upto_if 20 with(fail)
 go_cut [] (fun wx=>Pre0 w raw wx)
 case first=>
  by_cases h400:400<raw0.length
  ·have hlt:(400:Int)<(raw0.length:Int):=by omega
   have hle:(400:Int)≤(rc:Int):=by
    obtain⟨a',cap',b,off,hv,h1,_⟩:=HR.out
    cases hv;omega
   go_wp2_with fail
   go_meet;have hq:=HR.out.take 400 (by omega) (by decide);rw[←HRAW.out]at hq;have h1:raw.length=400:=by rw[HRAW.out,List.length_take];omega
   exact uy w raw _ hq
  ·have hlt:(raw0.length:Int)≤400:=by omega
   have HQ:Hid (ew (· <w.heap.size) w raw (.slice ra raw0.length rc)):=by
    have e:raw=raw0:=by rw[HRAW.out];exact List.take_of_length_le (by omega)
    show ew _ _ _ _
    rw[e];have:=HR.out.take raw0.length (Nat.le_refl _) (by omega);rwa[List.take_length]at this
   go_wp2_with fail
   go_meet;exact uy w raw _ HQ.out
 case rest=>
 have HP0:=Za hcut;have hn0:=hcut.2.2.2;clear hcut HR HRAW hfit;have HNX:=Za (fun w1 a h1=>bQ (w.heap.size+1) raw a 3 w1 h1 (by decide) (by decide));have HPI:=Za (pinv_of free HP0.out);have hr:=aM raw 0 3 (by decide);have HN0:=Za (fun w1 h1=>HNX.out w1 0 h1);generalize aC raw 0 3=g at*;obtain⟨n,a0⟩:=g;obtain⟨g0,g1⟩:=hr;dsimp only at HN0 HGA g0 g1;obtain⟨n,rfl⟩:=Int.eq_ofNat_of_zero_le g0;rw[Int.toNat_natCast]at HGA;have hn2:n≤2:=by omega
 have HN2:=Za hn2;clear g0 g1 HP0 hn2;go_wp2_with fail
 refine(HN0.out _ HPI.out.src).mono ?_;rintro r w3 ⟨rfl,hs3,hf3⟩;have HP3:=Za (HPI.out.sfr hs3 hf3);clear hs3 hf3 HPI HN0 hn0
 go_upto_block 0 with(fail)
 refine wp_cut (fun a' w'=>PG8 w (.slice ra raw0.length rc) free (.int .i64 0) (fun w'=> ∃pa,dn w raw (fU free raw n a0).2 free (.slice none 0 0) (.slice none 0 0) pa (.slice none 0 0) w'∧cL w' (w.heap.size+4) (fU free raw n a0).1 pa) a' w') ?rest (fun J K' hJ hM=>eB (zA w w3 (.slice ra raw0.length rc) free raw a0 n HN2.out HP3.out _ _ _ _ _ _ _ _ _ _ _ _ _ _ _ _ _ _ _ _ _ _ _ _ _ _ _ _ _ _ _ _ _ _ _ _ _ _ _ _ _ _ _ _ _ _ _ _ _ _ _ _ _ _ _ _ _ _ _ _ _ _ _ _ _ _ _ _ _ _ _ _ _ _ _ _ _ _ _ _ _ _ _ _ _ _ _ _ _ _ _ _ _ _ _ _ _ _ _ _ _ _ _ _ _ _ _ _ _ _ _ _ _ J K' hJ hM))
 case rest=>
 intro a' w4 hT;obtain⟨z2,z3,z9,z10,z11,z12,z13,z14,z15,z16,z17,z18,z19,z20,z21,z22,z23,z24,z25,z26,hT⟩:=hT;obtain⟨z27,z28,z29,z30,z31,z32,z33,z34,z35,z36,z37,z38,z39,z40,z41,z42,z43,z44,z45,z46,hT⟩:=hT;obtain⟨z47,z48,z49,z50,z51,z52,z53,z54,z55,z56,z57,z58,z59,z60,z61,z62,z63,z64,z65,z66,hT⟩:=hT;obtain⟨z67,z68,z69,z70,z71,z72,z73,z74,z75,z76,z77,z78,z79,z80,z81,z82,z83,z84,z85,z86,hT⟩:=hT;obtain⟨z87,z88,z89,z90,z91,z92,z93,z94,z95,z96,z97,z98,z99,z100,z101,z102,z103,z104,z105,z106,hT⟩:=hT;obtain⟨z107,z108,z109,z110,z111,z112,z113,z114,z115,z116,z117,z118,z119,hT⟩:=hT;obtain⟨⟨pa,hp4,ha4⟩,ha'⟩:=hT;subst ha';rw[←HGA.out]at hp4 ha4;dsimp only at hp4 ha4;clear HGA HP3 HN2;obtain⟨oa,oc,rfl⟩:=ha4.shape;have HL:=Za hgl;have hp5:=hp4.setC (.slice oa la.length oc);have ha5:=ha4.keep (bB.set w4 (show ¬(w.heap.size+4≤w.heap.size+2)by omega) 1 (.slice oa la.length oc));have hb6:Below (w4.setCell ⟨w.heap.size+2,1,none⟩ (.slice oa la.length oc)).heap.size (w4.setCell ⟨w.heap.size+2,1,none⟩ (.slice oa la.length oc)) ((w4.setCell ⟨w.heap.size+2,1,none⟩ (.slice oa la.length oc)).alloc (.cells #[.string ⟨#[109,97,105,110]⟩,.slice none 0 0,.slice none 0 0,.slice none 0 0] 58)):=bA;have HP6:=Za (hp5.old hb6);have HA6:=Za (ha5.keep (bB.below hb6));have hn6:=cN.new (w4.setCell ⟨w.heap.size+2,1,none⟩ (.slice oa la.length oc)) (dF ⟨gf,.slice none 0 0,.slice none 0 0,.slice none 0 0⟩) 58;rw[show(w4.setCell ⟨w.heap.size+2,1,none⟩ (.slice oa la.length oc)).heap.size=w4.heap.size by simp [Zd]]at hn6
 have HN6:=Za hn6;have c1:=hp4.scp.at 1 _ rfl;have fc1:=hp4.scp.fz 1;have c2:=hp5.scp.at 2 _ rfl;have p0:=hp4.prg.at 0 _ rfl;have hPl:=hp4.lt;have HAO:Hid (∀k,(Value.slice oa la.length oc).ownBlock=some k→k<w4.heap.size):=fun k e=>(ha4.ge e).2
 obtain⟨i0,hi1,hz0,hz1,hz2⟩:=info_parts tK;have HI0:=Za hi1;have HZ0:=Za hz0;have HZ1:=Za hz1;have HZ2:=Za hz2;clear hb6 hn6 hp4 ha4 hp5 ha5 hi1 hz0 hz1 hz2;go_upto_region 15 with(at_builtin;(refine wpList_append_lies (P:=Zb) _ rfl _ _ 32 rfl (w.heap.size+4) 58 i0 _ 4 88 Tryz.underlying32 HI0.out HZ0.out HZ1.out HZ2.out rfl (by decide) (.slice none 0 0) 0 [] rfl (cP.zero _ _).1 ⟨w4.heap.size,0,none⟩ 1 1 (dF ⟨gf,.slice none 0 0,.slice none 0 0,.slice none 0 0⟩) rfl rfl (fM HN6.out) (pm [] _ _ _ _ _ _ _ _ _ _) (by decide) (by unfold maxLen;omega) (by omega) (by have:=HP6.out.lt;omega) _ rfl ?_;intro g cap w11 hown hgrow hat hlt11;have hp11:=HP6.out.grow hgrow (fun k e=>by cases e);have HP11:=Za hp11;have y2:=hp11.scp.at 2 _ rfl;have fy2:=hp11.scp.fz 2;have hPl11:=hp11.lt;have HF11:=Za ((cP.zero _ (w.heap.size+4)).snoc ⟨gf,.slice none 0 0,.slice none 0 0,.slice none 0 0⟩ ⟨ag.zero,ag.zero,[],rfl,by decide,dt.zero _ _⟩ hown hgrow hat);have HA11:Hid (cL w11 (w.heap.size+4) la (.slice oa la.length oc)):=(fl HA6.out (D:=fun _=>True) (fun k e=>trivial) (fun k hk hl=>hgrow.block k hl (fun e=>by cases e)));have HQ11:Hid (∀x,(Value.slice oa la.length oc).ownBlock=some x→(Value.slice (some ⟨g,0,none⟩) (0+1) cap).ownBlock≠some x):=(fun x e e2=>by cases e2;rcases hat with hat|hat;cases hat;have h3:g<w4.heap.size:=HAO.out g e;have h4:w4.heap.size≤g:=(by rw[hat];simp [Zd]);omega);clear hown hgrow hat hp11))
 have HP12:=Za (HP11.out.setCf (.slice (some ⟨g,0,none⟩) (0+1) cap));have HF12:=Za (HF11.out.keep (bB.set w11 (show ¬(w.heap.size+4≤w.heap.size+2)by omega) 2 (.slice (some ⟨g,0,none⟩) (0+1) cap)) (by simp [Zd]));have HA12:=Za (HA11.out.keep (bB.set w11 (show ¬(w.heap.size+4≤w.heap.size+2)by omega) 2 (.slice (some ⟨g,0,none⟩) (0+1) cap)));have hr2:=aM raw aA 3 (by decide);have HN1:=Za (fun w1 h1=>HNX.out w1 aA h1);generalize aC raw aA 3=g2 at*;obtain⟨n2,a2⟩:=g2;obtain⟨g0,g1⟩:=hr2;dsimp only at HN1 HGF g0 g1;obtain⟨n2,rfl⟩:=Int.eq_ofNat_of_zero_le g0;rw[Int.toNat_natCast]at HGF;have hn2:n2≤2:=by omega
 have HN2:=Za hn2;clear g0 g1 hn2 c1 fc1 c2 p0 hPl;go_wp2_with fail
 refine(HN1.out _ HP12.out.src).mono ?_;rintro r w13 ⟨rfl,hs13,hf13⟩;have HP13:=Za (HP12.out.sfr hs13 hf13);have HA13:=Za (HA12.out.keep (bB.sfr hf13 (fun b hb=>by have:w.heap.size+4≤b:=hb;omega)));have HF13:=Za (HF12.out.keep (bB.sfr hf13 (fun b hb=>by have:w.heap.size+4≤b:=hb;omega)) hf13.size);clear hs13 hf13 HP12 HA12 HF12 HN1 HP11 HF11 HA11
 go_upto_block 2 with(fail)
 refine wp_cut (fun a' w'=>vX w (.slice ra raw0.length rc) free (.int .i64 0) (fun w'=> ∃cf' ps,ps.map (·.x)=([gf]++(fK raw n2 a2).1)∧dn w raw (fK raw n2 a2).2 free (.slice oa la.length oc) cf' (.slice oa la.length oc) (.slice none 0 0) w'∧cL w' (w.heap.size+4) la (.slice oa la.length oc)∧cP w' (w.heap.size+4) ps cf'∧∀x,(Value.slice oa la.length oc).ownBlock=some x→cf'.ownBlock≠some x) a' w') ?rest (fun J K' hJ hM=>eB (yC w w13 (.slice ra raw0.length rc) free raw a2 n2 HN2.out [gf] (by decide) la _ _ _ _ rfl HP13.out HA13.out HF13.out HQ11.out _ _ _ _ _ _ _ _ _ _ _ _ _ _ _ _ _ _ _ _ _ _ _ _ _ _ _ _ _ _ _ _ _ _ _ _ _ _ _ _ _ _ _ _ _ _ _ _ _ _ _ _ _ _ _ _ _ _ _ _ _ _ _ _ _ _ _ _ _ _ _ _ _ _ _ _ _ _ _ _ _ _ _ _ _ _ _ _ _ _ _ _ _ _ _ _ _ _ _ _ _ _ _ _ _ _ _ _ _ _ _ _ _ J K' hJ hM))
 case rest=>
 intro a' w14 hT;obtain⟨z2,z3,z8,z9,z11,z12,z13,z14,z15,z16,z17,z18,z19,z20,z21,z22,z23,z24,z25,z26,hT⟩:=hT;obtain⟨z27,z28,z29,z30,z31,z32,z33,z34,z35,z36,z37,z38,z39,z40,z41,z42,z43,z44,z45,z46,hT⟩:=hT;obtain⟨z47,z48,z49,z50,z51,z52,z53,z54,z55,z56,z57,z58,z59,z60,z61,z62,z63,z64,z65,z66,hT⟩:=hT;obtain⟨z67,z68,z69,z70,z71,z72,z73,z74,z75,z76,z77,z78,z79,z80,z81,z82,z83,z84,z85,z86,hT⟩:=hT;obtain⟨z87,z88,z89,z90,z91,z92,z93,z94,z95,z96,z97,z98,z99,z100,z101,z102,z103,z104,z105,z106,hT⟩:=hT;obtain⟨z107,z108,z109,z110,z111,z112,z113,z114,z115,z116,z117,z118,z119,hT⟩:=hT;obtain⟨⟨cf,hs,hhs,hp14,ha14,hf14,_⟩,ha'⟩:=hT;subst ha';rw[←HGF.out]at hhs hp14;dsimp only at hhs hp14;have hsl:hs.length≤3:=by have:=congrArg List.length hhs;rw[List.length_map,Ze,List.length_singleton]at this;omega
 have hfs:=hf14.fus (show hs.length≤140737488355328 by omega);rw[hhs]at hfs;have HB:Hid (uH w raw aF free (gf::lf) la w14.heap.size (.slice oa la.length oc) cf (.slice oa la.length oc) (.slice none 0 0) [] w14):=
  ⟨hp14,(ha14.ars (show la.length≤140737488355328 by omega)).strong,bM.strong hfs,cP.zero _ _,fun k e=>(by cases e),Nat.le_refl _,fg.zero _ _ _,fun d l e=>(by cases e)⟩
 clear hhs hp14 ha14 hf14 hsl hfs HP13 HA13 HF13 HQ11 HGF HN2 hs;have HFL:=Za hfl;clear hfl
 go_upto_block 4 with(fail)
 refine wp_cut (fun a' w'=>vK w (.slice ra raw0.length rc) free (.int .i64 ((gf::lf).length:Int)) (fun w'=> ∃pf ds,ds.map (·.x)=(cH raw ⟨[],la,gf::lf,free,false⟩ (gf::lf) aF).1∧uH w raw (cH raw ⟨[],la,gf::lf,free,false⟩ (gf::lf) aF).2 free (gf::lf) la w14.heap.size (.slice oa la.length oc) cf (.slice oa la.length oc) pf ds w') a' w') ?rest (fun J K' hJ hM=>eB (xR w w14 (.slice ra raw0.length rc) free raw aF w14.heap.size (gf::lf) la (.slice oa la.length oc) cf (.slice oa la.length oc) (by have:=HFL.out;rw[Zc];omega) HL.out (fun f hf=>(HHD.out f hf).2.1) HB.out _ _ _ _ _ _ _ _ _ _ _ _ _ _ _ _ _ _ _ _ _ _ _ _ _ _ _ _ _ _ _ _ _ _ _ _ _ _ _ _ _ _ _ _ _ _ _ _ _ _ _ _ _ _ _ _ _ _ _ _ _ _ _ _ _ _ _ _ _ _ _ _ _ _ _ _ _ _ _ _ _ _ _ _ _ _ _ _ _ _ _ _ _ _ _ _ _ _ _ _ _ _ _ _ _ _ _ _ _ _ _ _ _ J K' hJ hM))
 case rest=>
 intro a' w15 hT;obtain⟨z2,z3,z8,z9,z10,z11,z13,z14,z15,z16,z17,z18,z19,z20,z21,z22,z23,z24,z25,z26,hT⟩:=hT;obtain⟨z27,z28,z29,z30,z31,z32,z33,z34,z35,z36,z37,z38,z39,z40,z41,z42,z43,z44,z45,z46,hT⟩:=hT;obtain⟨z47,z48,z49,z50,z51,z52,z53,z54,z55,z56,z57,z58,z59,z60,z61,z62,z63,z64,z65,z66,hT⟩:=hT;obtain⟨z67,z68,z69,z70,z71,z72,z73,z74,z75,z76,z77,z78,z79,z80,z81,z82,z83,z84,z85,z86,hT⟩:=hT;obtain⟨z87,z88,z89,z90,z91,z92,z93,z94,z95,z96,z97,z98,z99,z100,z101,z102,z103,z104,z105,z106,hT⟩:=hT;obtain⟨z107,z108,z109,z110,z111,z112,z113,z114,z115,z116,z117,z118,z119,hT⟩:=hT;obtain⟨⟨pf,ds,hds,hb⟩,ha'⟩:=hT;subst ha';obtain⟨pa,pc,rfl⟩:=hb.fus.shape;have hdl:ds.length≤3:=by have:=congrArg List.length hds;rw[List.length_map,jT,Zc]at this;have:=HFL.out;omega
 have HDS:=Za hds;have HDL:=Za hdl;have p0:=hb.inv.prg.at 0 _ rfl;have p1:=hb.inv.prg.at 1 _ rfl;have r0:=hb.inv.res.at 0 _ rfl;have r1:=hb.inv.res.at 1 _ rfl;have fr0:=hb.inv.res.fz 0;have fr1:=hb.inv.res.fz 1;have hPl:=hb.inv.lt;have HRE:=Za ((hb.inv.res.set 0 (.slice oa la.length oc)).set 1 (.slice pa ds.length pc));have HBE:=Za ((hb.inv.bel.setCell (p:=⟨w.heap.size,0,none⟩) (by show w.heap.size≤w.heap.size;omega) (.slice oa la.length oc)).setCell (p:=⟨w.heap.size,1,none⟩) (by show w.heap.size≤w.heap.size;omega) (.slice pa ds.length pc));have HAE:=Za (((hb.ars.keep (aN w15 (show ¬(w.heap.size+4≤w.heap.size∧w.heap.size<w14.heap.size)by omega) 0 (.slice oa la.length oc))).keep (aN _ (show ¬(w.heap.size+4≤w.heap.size∧w.heap.size<w14.heap.size)by omega) 1 (.slice pa ds.length pc))).mono (fun b hb=>(by have:=hb.1;omega:w.heap.size≤b)));have HFE:=Za (((hb.fus.keep (bB.set w15 (show ¬(w.heap.size+4≤w.heap.size)by omega) 0 (.slice oa la.length oc)) (by simp [Zd])).keep (bB.set _ (show ¬(w.heap.size+4≤w.heap.size)by omega) 1 (.slice pa ds.length pc)) (by simp [Zd])).base (b':=w.heap.size) (by omega));have HAS:=Za (((hb.ars.keep (aN w15 (show ¬(w.heap.size+4≤w.heap.size∧w.heap.size<w14.heap.size)by omega) 0 (.slice oa la.length oc))).keep (aN _ (show ¬(w.heap.size+4≤w.heap.size∧w.heap.size<w14.heap.size)by omega) 1 (.slice pa ds.length pc))).mono (D':=fun b=>(Value.slice pa ds.length pc).ownBlock≠some b∧∀d l,ds=d::l→d.b.ownBlock≠some b) (fun b hb'=>⟨fun e=>by have:=hb.own b e;have:=hb'.2;omega,fun d l e e2=>by have:=(hb.lo d l e b e2).1;have:=hb'.2;omega⟩))
 have HSE:=Za (((hb.sep.keep (bB.set w15 (show ¬(w.heap.size+4≤w.heap.size)by omega) 0 (.slice oa la.length oc)) (by simp [Zd])).keep (bB.set _ (show ¬(w.heap.size+4≤w.heap.size)by omega) 1 (.slice pa ds.length pc)) (by simp [Zd])).base (b':=w.heap.size) (by omega));clear hb hds hdl HB;go_wp2_with fail
 have d0:=HRE.out.at 0 _ rfl;have d1:=HRE.out.at 1 _ rfl;exact bodyPost_ret (v:= .agg #[.slice oa la.length oc,.slice pa ds.length pc]) (by simp [results,Tryz.results19,go_sem,d0,d1]) rfl ⟨_,_,ds,rfl,HBE.out,HAE.out,HDS.out,HDL.out,HFE.out,HSE.out,HAS.out⟩
theorem xV(raw0:List Int)(free:Bool)(rv:Value)(w:World)(hr:ep (· <w.heap.size) w raw0 rv):Calls Zb 19 #[rv,.bool free] w (GivesPr w (gJ raw0 free)):=
 (zc raw0 free rv w hr).mono fun _ _ ⟨va,vf,ds,h1,h2,h3,h4,h5,h6,_⟩=>⟨va,vf,ds,h1,h2,h3,h4,h5,h6⟩
theorem fus_of {D:Nat→Prop}{w:World}{base:Nat}{ps:List FuV}{v:Value}(h:w.ownsRow base 58 4 v ps.length (ps.flatMap dF))(hD:∀k,v.ownBlock=some k→D k)(hp:∀p,p∈ps→cu D w p)(hf:br ps.length):bM D w (ps.map (·.x)) v:=by
 have hl:(ps.map (·.x)).length=ps.length:=List.length_map _;rcases h.2 with⟨rfl,hz⟩|⟨g,cap,cur,rfl,hb,hg,hc,hm,hs,ht⟩
 ·have:ps=[]:=List.length_eq_zero_iff.1 hz
  subst this;exact bM.zero
 ·let z:FuV:=⟨Fu.nil,undef,undef,undef⟩
  refine⟨some ⟨g,0,none⟩,cap,g,0,(fun i=>(ps.getD i z).p),(fun i=>(ps.getD i z).l),(fun i=>(ps.getD i z).b),by rw[hl],by rw[hl];exact hc,by rw[hl];exact hf,.inr ⟨rfl,hD g rfl⟩,fun i hi=> ?_⟩;rw[hl]at hi;obtain⟨p,hp1,hx,hm⟩:∃p,ps[i]? =some p∧cZ (ps.map (·.x)) i=p.x∧p∈ps:=⟨ps[i],Zi hi,by simp [cZ,Zi hi],List.getElem_mem hi⟩;have sv:ps.getD i z=p:=by rw[List.getD_eq_getElem?_getD,hp1];rfl
  rw[hx];dsimp only;rw[sv];have cell:∀q u,q<4→(dF p)[q]? =some u→w.cell? ⟨g,0+i*4+q,none⟩=some u:=by
   intro q u hq hu;have h1:=go h (i*4+q) u (by rw[lF dF 4 (fun _=>rfl) ps i q p hp1 hq];exact hu)
   rwa[show 0+(i*4+q)=0+i*4+q by omega]at h1
  obtain⟨h1,h2,ls,h3,h4,h5⟩:=hp p hm;have h6:=h5.sts (show ls.length≤140737488355328 by omega);rw[h3]at h6;exact⟨⟨cell 0 _ (by decide) rfl,cell 1 _ (by decide) rfl,cell 2 _ (by decide) rfl,cell 3 _ (by decide) rfl⟩,h1,h2,h6⟩
structure jL (w:World)(p:Pr)(n:Nat)(va vf:Value)(ds:List FuV):Prop where
 ars:bK (· <n) w p.arrays va
 own:w.ownsRow 0 58 4 vf ds.length (ds.flatMap dF)
 eq:ds.map (·.x)=p.funcs
 len:ds.length≤3
 lt:∀q,q∈ds→cu (fun b=>b<n∧vf.ownBlock≠some b) w q
 row:∀k,vf.ownBlock=some k→k<n
theorem jL.fus {w:World}{p:Pr}{n:Nat}{va vf:Value}{ds:List FuV}(h:jL w p n va vf ds):bM (· <n) w p.funcs vf:=by
 have q:=fus_of h.own h.row (fun q hq=>(h.lt q hq).mono (fun b hb _=>hb.1)) (show ds.length≤140737488355328 by have:=h.len;omega)
 rwa[h.eq]at q
theorem jL.keep {w w':World}{p:Pr}{n:Nat}{va vf:Value}{ds:List FuV}(h:jL w p n va vf ds)(hk:∀k,k<n→k<w.heap.size→w'.heap[k]? =w.heap[k]?)(hz:w.heap.size≤w'.heap.size):jL w' p n va vf ds:=
 have hb:bB (· <n) w w':=fun k hk' hl=>hk k hk' hl
 ⟨h.ars.keep hb.keeps,fl h.own h.row hb,h.eq,h.len,fun q hq=>(h.lt q hq).keep (hb.mono (fun b hb=>hb.1)) hz,h.row⟩
theorem jL.old {w w':World}{p:Pr}{n:Nat}{va vf:Value}{ds:List FuV}(h:jL w p n va vf ds)(hb:Below w.heap.size w w'):jL w' p n va vf ds:=h.keep (fun k _ hl=>hb.block k hl) hb.size
theorem jL.of {w w':World}{p:Pr}{va vf:Value}{ds:List FuV}(ha:bK (w.heap.size≤ ·) w' p.arrays va)(hds:ds.map (·.x)=p.funcs)(hl:ds.length≤3)(hf:cP w' w.heap.size ds vf):jL w' p w'.heap.size va vf ds:=
 ⟨ha.strong.mono (fun b hb=>hb.2),nY hf.1 (fun _ _=>Nat.zero_le _),hds,hl,fun q hq=>(hf.2 q hq).mono (fun b hb hl=>⟨hl,hb.2⟩),fun k e=>(hf.ge e).2⟩
def fuB:Nat:=1000+stB 4
def prB:Nat:=200+3*fuB
theorem yH:2*prB≤140737488355328:=by decide+kernel
theorem tr {a:Ar}(h:cg a=true):(jh a).length≤100:=by
 unfold cg at h;simp only[Zg,decide_eq_true_eq]at h;have h1:=cY h.1;have h2:=Lib.itoa_length_le a.size (by omega) (by omega);unfold jh;rw[qH];simp only[Zj,Zk,Ze,Zc,List.length_nil];omega
theorem mY:∀l:List Ar,(∀a,a∈l→cg a=true)→(dJ l).length≤l.length*100
 |[],_=>by simp [dJ]
 |a::l,h=>by
  have h1:=tr (h a Zl);have h2:=mY l (fun x hx=>h x (Zm _ hx));show(jh a++dJ l).length≤_
  rw[Ze,Zc,Nat.add_mul];omega
theorem mT:∀l:List Bs,(∀x,x∈l→aY x=true)→(dh l).length≤l.length*40
 |[],_=>by simp [dh]
 |x::l,h=>by
  have h1:=cY (h x Zl);have h2:=mT l (fun y hy=>h y (Zm _ hy));show(ln 1 [[105,110,116,32],x,[59]]++dh l).length≤_
  rw[Ze,qH,Zc,Nat.add_mul];simp only[Zj,Zk,Ze,Zc,List.length_nil];omega
theorem uJ {f:Fu}(h:FOk f)(hp:f.params.length≤6)(hl:f.locals.length≤5)(hb:(bN 1 f.body).length≤stB 4):(fO f).length≤fuB:=by
 have h1:=cY h.name;have h2:=uq 24 (f.params.map f6) (fun x hx=>by
  obtain⟨y,hy,rfl⟩:=List.mem_map.1 hx;have:=cY (h.params y hy);unfold f6;rw[Ze];simp;omega)
 have h3:=mT f.locals h.locals;have h4:(f.params.map f6).length*(24+2)≤6*26:=Zn _ (by rw[List.length_map];exact hp);have h5:f.locals.length*40≤5*40:=Zn _ hl;unfold fO fuB;simp only[Ze,qH,Zj,Zk,Zc,List.length_nil];omega
theorem mO:∀l:List Fu,(∀f,f∈l→(fO f).length≤fuB)→(dX l).length≤l.length*fuB
 |[],_=>by simp [dX]
 |a::l,h=>by
  have h1:=h a Zl;have h2:=mO l (fun x hx=>h x (Zm _ hx));show(fO a++dX l).length≤_
  rw[Ze,Zc,Nat.add_mul];omega
theorem mP(raw:List Int)(sc:Sc)(P:Fu→Prop)(hP:∀f,f∈sc.funcs→∀a,P (j5 raw sc f a).1):∀(l:List Fu),(∀f,f∈l→f∈sc.funcs)→∀a,∀x,x∈(cH raw sc l a).1→P x
 |[],_,a,x,hx=>by cases hx
 |f::l,hl,a,x,hx=>by
  rw[cH]at hx;rcases List.mem_cons.1 hx with rfl|hx
  ·exact hP f (hl f Zl) a
  ·exact mP raw sc P hP l (fun g hg=>hl g (Zm _ hg)) _ x hx
theorem jZ(raw:List Int)(sc:Sc):∀(l:List Fu) (a:Nat),(cH raw sc l a).1.length=l.length
 |[],a=>rfl
 |g::l,a=>by rw[cH,Zc,Zc,jZ raw sc l]
theorem km(free:Bool)(raw:List Int):∀n a,(fU free raw n a).1.length=n
 |0,a=>rfl
 |n+1,a=>by rw[fU,Zc,km free raw n]
theorem kg(raw:List Int):∀n a,(fK raw n a).1.length=n
 |0,a=>rfl
 |n+1,a=>by rw[fK,Zc,kg raw n]
theorem gSc_ok(raw:List Int)(free:Bool){f:Fu}(hf:f∈(fZ raw free).funcs)(k:Nat):Sc.Ok ⟨f.params++cK.take k,(fZ raw free).arrays,(fZ raw free).funcs,free,false⟩:=by
 refine⟨fun x hx=> ?_,fun x hx=> ?_,fun x hx=>⟨(eo raw free x hx).1,(eo raw free x hx).2.1⟩⟩
 ·rcases List.mem_append.1 hx with hx|hx
  ·exact(eo raw free f hf).2.2 x hx
  ·exact pC x (List.mem_of_mem_take hx)
 ·have:=jG raw free x hx
  unfold cg at this;exact((Zg _ _).mp this).1
theorem rj(raw:List Int)(free:Bool):∀f,f∈(gJ raw free).funcs→(fO f).length≤fuB:=by
 intro f hf;have hr:=jb raw free;unfold dS at hr;simp only[Zg,List.all_eq_true]at hr;have hok:=wa (hr.2 f hf);have h:=mP (raw.take 400) (fZ (raw.take 400) free) (fun f=>f.params.length≤6∧f.locals.length≤5∧(bN 1 f.body).length≤stB 4) (fun g hg a=>by
  have hh:=eo (raw.take 400) free g hg;refine⟨hh.2.1,?_,?_⟩
  ·show(cK.take _).length≤5
   rw[List.length_take];exact Nat.min_le_right _ _
  ·exact kG (raw.take 400) 4 1 _ (gSc_ok (raw.take 400) free hg _) (by omega) _) (fZ (raw.take 400) free).funcs (fun f hf=>hf) _ f hf
 exact uJ hok h.1 h.2.1 h.2.2
theorem kw(raw:List Int)(free:Bool):(gJ raw free).arrays.length≤2∧(gJ raw free).funcs.length≤3∧0<(gJ raw free).funcs.length:=by
 have h1:=aM (raw.take 400) 0 3 (by decide);have h2:=aM (raw.take 400) (fh (raw.take 400) free).2 3 (by decide);have ea:(gJ raw free).arrays.length=(aC (raw.take 400) 0 3).1.toNat:=km _ _ _ _;have ef:(gJ raw free).funcs.length=(aC (raw.take 400) (fh (raw.take 400) free).2 3).1.toNat+1:=by
  show(cH _ _ _ _).1.length=_
  rw[jZ];show(gf::(kH _ _).1).length=_
  rw[Zc];show(fK _ _ _).1.length+1=_
  rw[kg]
 rw[ea,ef];omega
theorem wP(raw:List Int)(free:Bool):(dQ (gJ raw free)).length≤prB:=by
 have hr:=jb raw free;unfold dS at hr;simp only[Zg,List.all_eq_true]at hr;obtain⟨c1,c2,_⟩:=kw raw free;have h1:=mY _ hr.1;have h2:=mO _ (rj raw free);have h3:(gJ raw free).arrays.length*100≤2*100:=Zn _ c1;have h4:(gJ raw free).funcs.length*fuB≤3*fuB:=Zn _ c2;unfold dQ prB;rw[Ze];omega
theorem vn {p:Pr}(h:0<p.funcs.length):dQ p≠[]:=by
 obtain⟨a,l⟩:=p
 cases l with
 |nil=>cases h
 |cons f l=>
  unfold dQ;intro e;have:=(List.append_eq_nil_iff.1 e).2;simp [dX,fO]at this
def own(w:World)(b:Nat):Option Nat:=
 match w.heap[b]? with
 |some (.cells cs _ _)=>(cs.getD 1 undef).ownBlock
 |_=>none
def bJ(w:World)(b:Nat)(bs:Bs)(t:Int):Prop:=
 ∃p v,w.heap[b]? =some (.cells #[p,v,.int .i64 t] 81 (0,0))∧(p= .pointer none∨p= .pointer (some ⟨b,0,none⟩))∧w.ownsRow (b+1) 5 1 v bs.length (Zf bs)
structure PFr (b:Nat)(w w':World):Prop where
 os:w'.os=w.os
 tape:w'.tape=w.tape
 output:w'.output=w.output
 size:w.heap.size≤w'.heap.size
 block:∀k,k<w.heap.size→k≠b→own w b≠some k→w'.heap[k]? =w.heap[k]?
 own:own w' b=own w b∨∃k,w.heap.size≤k∧own w' b=some k
theorem PFr.refl(b:Nat)(w:World):PFr b w w:=⟨rfl,rfl,rfl,Nat.le_refl _,fun _ _ _ _=>rfl,.inl rfl⟩
theorem PFr.trans {b:Nat}{u v w:World}(h:PFr b u v)(k:PFr b v w):PFr b u w where
 os:=k.os.trans h.os
 tape:=k.tape.trans h.tape
 output:=k.output.trans h.output
 size:=Nat.le_trans h.size k.size
 block i hi hb ho:=by
  refine(k.block i (Nat.lt_of_lt_of_le hi h.size) hb ?_).trans (h.block i hi hb ho);rcases h.own with e|⟨j,hj,e⟩
  ·rw[e];exact ho
  ·rw[e];intro c;cases c;omega
 own:=by
  rcases k.own with e|⟨j,hj,e⟩
  ·rcases h.own with e'|⟨j,hj,e'⟩
   ·exact .inl (e.trans e')
   ·exact .inr ⟨j,hj,e.trans e'⟩
  ·exact .inr ⟨j,Nat.le_trans h.size hj,e⟩
theorem zF {w w':World}{b:Nat}(h:w'.heap[b]? =w.heap[b]?):own w' b=own w b:=by simp [own,h]
theorem PFr.of_below {b:Nat}{w w':World}(h:Below w.heap.size w w')(hb:b<w.heap.size):PFr b w w':=
 ⟨h.os,h.tape,h.output,h.size,fun k hk _ _=>h.block k hk,.inl (zF (h.block b hb))⟩
theorem bJ.lt {w:World}{b:Nat}{bs:Bs}{t:Int}(h:bJ w b bs t):b<w.heap.size:=by
 obtain⟨p,v,hb,_⟩:=h;rcases Nat.lt_or_ge b w.heap.size with h'|h'
 ·exact h'
 ·simp [Array.getElem?_eq_none h']at hb
theorem bJ.own_gt {w:World}{b:Nat}{bs:Bs}{t:Int}(h:bJ w b bs t){k:Nat}(ho:own w b=some k):b<k∧k<w.heap.size:=by
 obtain⟨p,v,hb,_,hown⟩:=h;have:v.ownBlock=some k:=by simpa [own,hb]using ho
 have:=hown.lt k this;omega
theorem PFr.below {w w':World}{b:Nat}{bs:Bs}{t:Int}(h:PFr b w w')(hp:bJ w b bs t):Below b w w':=
 ⟨h.os,h.tape,h.output,h.size,fun k hk=>h.block k (by have:=hp.lt;omega) (by omega) (fun e=>by have:=hp.own_gt e;omega)⟩
theorem bJ.old {w w':World}{b:Nat}{bs:Bs}{t:Int}(hp:bJ w b bs t)(h:Below w.heap.size w w'):bJ w' b bs t:=by
 obtain⟨p,v,hb,hq,hown⟩:=hp;have hlt:b<w.heap.size:=bJ.lt ⟨p,v,hb,hq,hown⟩;refine⟨p,v,(h.block b hlt).trans hb,hq,hown.1,?_⟩;rcases hown.2 with e|⟨g,cap,cur,hv,hg,hh,r⟩
 ·exact .inl e
 ·refine .inr ⟨g,cap,cur,hv,hg,?_,r⟩
  have hl:g<w.heap.size:=by
   rcases Nat.lt_or_ge g w.heap.size with h'|h'
   ·exact h'
   ·simp [Array.getElem?_eq_none h']at hh
  exact(h.block g hl).trans hh
def Loc(w:World)(b X:Nat)(cs:List Value):Prop:=X≠b∧own w b≠some X∧X<w.heap.size∧cN w X 0 cs
theorem Loc.step {w w':World}{b X:Nat}{cs:List Value}(h:Loc w b X cs)(hf:PFr b w w'):Loc w' b X cs:=by
 obtain⟨h1,h2,h3,h4⟩:=h;refine⟨h1,?_,Nat.lt_of_lt_of_le h3 hf.size,fun i hi=> ?_⟩
 ·rcases hf.own with e|⟨j,hj,e⟩
  ·rw[e];exact h2
  ·rw[e];intro c;cases c;omega
 ·rw[World.cell?_of_block (w:=w) (hf.block X h3 h1 h2)];exact h4 i hi
theorem Loc.new {w:World}{b:Nat}{bs:Bs}{t:Int}(hp:bJ w b bs t)(cs:List Value)(T:TypeId):Loc (w.alloc (.cells cs.toArray T)) b w.heap.size cs:=by
 refine⟨by have:=hp.lt;omega,?_,by simp,fun i hi=>by simp⟩;rw[zF (Below.heap_alloc w _ b hp.lt)];intro e;have:=(hp.own_gt e).2;omega
theorem Loc.cell {w:World}{b X:Nat}{cs:List Value}(h:Loc w b X cs)(i:Nat)(hi:i<cs.length):w.cell? ⟨X,i,none⟩=some cs[i]:=by
 have:=h.2.2.2 i hi;simpa using this
theorem PFr.keeps {w w':World}{b:Nat}{bs:Bs}{t:Int}(h:PFr b w w')(hp:bJ w b bs t):cd (· <b) w w':=
 fun k off x hk hx=>by rw[(h.below hp).cell (p:=⟨k,off,none⟩) hk];exact hx
theorem rS:(Tryz.prog.info? 5).map (fun i=>(i.zero,i.size,i.bytes))=some (some (.int .u8 0),1,1):=by kernel_rfl
theorem mh:(Tryz.prog.info? 79).map (fun i=>i.size)=some 2:=by kernel_rfl
theorem mU:liesAt Zb Tryz.prog.depth 81 (3 / Tryz.prog.cellsOf 81) 0 79 1=true:=by kernel_rfl
theorem oJ(b:Nat)(w:World)(h0:w.cell? ⟨b,0,none⟩=some (.pointer (some ⟨b,0,none⟩))):
  Calls Zb 186 #[.pointer (some ⟨b,0,none⟩)] w fun e w'=>e= .returned (.tuple #[])∧w=w':=by
 obtain⟨j,hj,_⟩:=Option.map_eq_some_iff.1 mh;go_enter Tryz.func186,Tryz.ntmps186
 go_wp2_with fail
 rw[Lib.run_neq_ptr_same w _ Tryz.underlying76 hj];go_wp2_with fail
 go_end0
 exact⟨rfl,rfl⟩
theorem mu(b:Nat)(w:World)(h0:w.cell? ⟨b,0,none⟩=some (.pointer none))(hsh:w.shape? b=some (81,3))(hfz:w.frozen? ⟨b,0,none⟩=false):
  Calls Zb 186 #[.pointer (some ⟨b,0,none⟩)] w fun e w'=>e= .returned (.tuple #[])∧w'=w.setCell ⟨b,0,none⟩ (.pointer (some ⟨b,0,none⟩)):=by
 obtain⟨j,hj,hjs⟩:=Option.map_eq_some_iff.1 mh;go_enter Tryz.func186,Tryz.ntmps186
 go_wp2_with fail
 rw[Lib.run_to_unsafe w ⟨b,0,none⟩ Tryz.underlying76 Tryz.underlying208 hj (by rw[hjs];decide) hsh (Nat.zero_lt_succ 2)];simp only[Result.andThen];rw[Oper.upon_value];go_wp2_with fail
 rw[run_callFunc_extern Tryz.func205 (by kernel_rfl) (by kernel_rfl) (by kernel_rfl) (e:=Extern.AbiNoEscape.same) (by kernel_rfl)];rw[Lib.run_noEscape];simp only[Result.andThen];rw[Oper.upon_value];go_wp2_with fail
 rw[Lib.run_from_unsafe w ⟨b,0,none⟩ Tryz.underlying208 Tryz.underlying76 hj hsh mU];simp only[Result.andThen];rw[Oper.upon_value];go_wp2_with fail
 go_end0
 exact⟨rfl,rfl⟩
def f9(w:World)(b:Nat)(bs:Bs)(t:Int)(txt:Bs)(r:Ending)(w':World):Prop:=r= .returned (.tuple #[])∧bJ w' b (bs++txt) t∧PFr b w w'
theorem oY(b:Nat)(bs:Bs)(t:Int)(w:World)(h:bJ w b bs t):
  Calls Zb 186 #[.pointer (some ⟨b,0,none⟩)] w fun e w'=>e= .returned (.tuple #[])∧PFr b w w'∧
   ∃v,w'.heap[b]? =some (.cells #[.pointer (some ⟨b,0,none⟩),v,.int .i64 t] 81 (0,0))∧w'.ownsRow (b+1) 5 1 v bs.length (Zf bs):=by
 have hlt:=h.lt;obtain⟨p,v,hb,hq,hown⟩:=h;rcases hq with rfl|rfl
 ·refine(mu b w (by rw[Zh hb];rfl) (by simp [World.shape?,hb]) (Lib.frozen_of_heap hb 0)).mono ?_
  rintro e w' ⟨rfl,rfl⟩;have hb':(w.setCell ⟨b,0,none⟩ (.pointer (some ⟨b,0,none⟩))).heap[b]? =some (.cells #[.pointer (some ⟨b,0,none⟩),v,.int .i64 t] 81 (0,0)):=by
   simp [Zd,Array.getElem?_modify,hb]
  refine⟨rfl,⟨rfl,rfl,rfl,by simp [Zd],fun k _ hk _=>Zo _ _ _ _ hk,.inl (by simp [own,hb,hb'])⟩,v,hb',?_⟩;refine hown.kept (row:=some b) ⟨rfl,rfl,rfl,by simp [Zd],fun k _ hk=>Zo _ _ _ _ (fun e=>hk (by simp [e]))⟩ (Or.inr ?_);intro e;have:=hown.lt b e;omega
 ·refine(oJ b w (by rw[Zh hb];rfl)).mono ?_
  rintro e w' ⟨rfl,rfl⟩;exact⟨rfl,PFr.refl _ _,v,hb,hown⟩
theorem uT(P:Program)(w:World)(base:Nat)(t u ty e:TypeId)(i:TypeInfo)(ht:P.underlying t=some (.slice e))(hu:P.underlying u=some .string)(hi:P.info? e=some i)(hz:i.zero=some (.int .u8 0))
  (hsize:i.size=1) (hby:i.bytes=1) (v:Value) (n:Nat) (xs:List Value) (hown:w.ownsRow base e 1 v n xs) (s:ByteArray)
  (h63:n+s.size≤maxLen) (hbytes:n+s.size≤140737488355328) (hbase:base≤w.heap.size):
  ∃v' w',(Builtin.append_ #[t,u] ty #[v,.string s]).run P w= .ok v' w'∧w'.ownsRow base e 1 v' (n+s.size) (xs++Lib.strCells s)∧w.grownBy w' v.ownBlock∧
   (v'.ownBlock=v.ownBlock∨∃k,w.heap.size≤k∧v'.ownBlock=some k):=by
 obtain⟨v',w',hr,h2,h3,h4⟩:=Lib.run_append_own_string (P:=P) w base t u ty e i ht hu hi hz hsize hby v n xs hown s h63 hbytes hbase;refine⟨v',w',hr,h2,h3,?_⟩;have h63':n+s.size≤9223372036854775807:=by simp only[maxLen]at h63;omega
 rcases hown.2 with⟨rfl,rfl⟩|⟨g,cap,cur,rfl,hbg,hg,hnc,hcm,hcs,htake⟩
 ·by_cases hm:s.size=0
  ·rw[h4.2 ⟨rfl,hm⟩];exact .inl rfl
  ·have hq:=run_append_nil_string (P:=P) w t u ty e i (.int .u8 0) ht hu hi hz s (by omega) (by omega) (by rw[hby];omega)
   rw[hr]at hq
   cases hq
   exact .inr ⟨w.heap.size,Nat.le_refl _,rfl⟩
 ·by_cases hroom:n+s.size≤cap
  ·have hcs':cur.size=cap:=by simpa using hcs
   have hq:=Lib.run_append_room_string (P:=P) w t u ty e i ht hu hi hsize g n cap cur hg s hroom (by omega);rw[hr]at hq
   cases hq
   exact .inl rfl
  ·have hxl:xs.length=n:=by simpa using hown.1
   have holds:∀j u,xs[j]? =some u→w.cell? ((⟨g,0,none⟩:Addr).add j)=some u:=hown.cells (g:=g) rfl;have hq:=Lib.run_append_grow_string (P:=P) w t u ty e i (.int .u8 0) ht hu hi hz ⟨g,0,none⟩ n cap xs (by rw[hsize];simpa using hxl) holds s (by omega) (by omega) (by rw[hby];exact growslice_fits (by omega) (by omega));rw[hr]at hq
   cases hq
   exact .inr ⟨w.heap.size,Nat.le_refl _,rfl⟩
theorem ku {P:Program}{w:World}{ops:Array Oper}{rest:List Oper}{o:Oper}{a:Act}{Q:Exit→Act→World→Prop}(hgd:o.guard=none)(sl x:Operand)(t u:TypeId)
  (ho:o.op= .call {callee:= .builtin .append,args:= #[sl,x],argTypes:= #[t,u]})
  (base:Nat) (e:TypeId) (i:TypeInfo) (ht:P.underlying t=some (.slice e)) (hu:P.underlying u=some .string) (hi:P.info? e=some i) (hz:i.zero=some (.int .u8 0))
  (hsize:i.size=1) (hby:i.bytes=1)
  (v:Value) (n:Nat) (xs:List Value) (hs:a.eval sl=v) (hown:w.ownsRow base e 1 v n xs) (s:ByteArray) (hx:a.eval x= .string s)
  (h63:n+s.size≤maxLen) (hbytes:n+s.size≤140737488355328) (hbase:base≤w.heap.size)
  (h:∀v' w',w'.ownsRow base e 1 v' (n+s.size) (xs++Lib.strCells s)→w.grownBy w' v.ownBlock→(v'.ownBlock=v.ownBlock∨∃k,w.heap.size≤k∧v'.ownBlock=some k)→wpList P ops Q rest (a.put o.dst v') w'):wpList P ops Q (o::rest) a w:=by
 refine wpList_plain hgd fun K hK=> ?_
 obtain⟨v',w',hr,h2,h3,h4⟩:=uT P w base t u o.type e i ht hu hi hz hsize hby v n xs hown s h63 hbytes hbase;unfold Oper.wp execOp;simp only[ho,resolve,invoke,builtin,Sem.run_bind,Sem.run_pure,Result.andThen_ok,List.map_toArray,List.map_cons,List.map_nil,hs,hx,hr];exact hK _ _ (h v' w' h2 h3 h4)
theorem oC(s:Bs):Lib.strCells (aB s)=Zf s:=by simp [Lib.strCells,Zf]
theorem oW(a c:Bs):Zf a++Zf c=Zf (a++c):=by simp [Zf]
theorem mn(s:Bs)(b:Nat)(bs:Bs)(t:Int)(w:World)(h:bJ w b bs t)(hlen:br (bs.length+s.length)):
  Calls Zb 129 #[.pointer (some ⟨b,0,none⟩),.string (aB s)] w fun e w'=>e= .returned (.tuple #[.int .i64 s.length,.nilIface])∧bJ w' b (bs++s) t∧PFr b w w':=by
 obtain⟨i0,hi,hz0,hz1,hz2⟩:=info_parts rS;have hlt:=h.lt;have HL:Hid (bs.length+s.length≤140737488355328):=hlen;clear hlen;go_enter Tryz.func129,Tryz.ntmps129
 go_wp2_with fail
 refine(oY b bs t _ h).mono ?_;rintro e w1 ⟨rfl,hf1,v,hbk,hown⟩;have HF1:=Za hf1;have hs1:=hf1.size;clear hf1 h;have c0:w1.cell? ⟨b,0,none⟩=some (.pointer (some ⟨b,0,none⟩)):=by rw[Zh hbk];rfl
 have c1:w1.cell? ⟨b,1,none⟩=some v:=by rw[Zh hbk];rfl
 go_wp2_with (at_builtin;refine ku (P:=Zb) rfl _ _ 77 9 rfl (b+1) 5 i0 Tryz.underlying77 Tryz.underlying9 hi hz0 hz1 hz2 _ _ _ rfl hown (aB s) rfl ?c3 ?c4 ?c5 ?_)
 case c3=>have:=HL.out;unfold maxLen;show bs.length+s.length≤_;omega
 case c4=>exact HL.out
 case c5=>omega
 intro v' w2 hown' hgrow hwhere;have hlt1:b<w1.heap.size:=by omega
 have hb2:w2.heap[b]? =some (.cells #[.pointer (some ⟨b,0,none⟩),v,.int .i64 t] 81 (0,0)):=by
  rw[hgrow.block b hlt1 (fun e=>by have:=hown.lt b e.symm;omega)];exact hbk
 have d0:w2.cell? ⟨b,0,none⟩=some (.pointer (some ⟨b,0,none⟩)):=by rw[Zh hb2];rfl
 have d1:w2.cell? ⟨b,1,none⟩=some v:=by rw[Zh hb2];rfl
 have f1:w2.frozen? ⟨b,1,none⟩=false:=Lib.frozen_of_heap hb2 1;obtain⟨ao,n',cap,rfl⟩:∃ao n' cap,v'= .slice ao n' cap:=by
  rcases hown'.2 with⟨hv,_⟩|⟨g,cap,cur,hv,_⟩
  ·exact⟨_,_,_,hv⟩
  ·exact⟨_,_,_,hv⟩
 have HBK:=Za hbk;have HB2:=Za hb2;have HOWN:=Za hown;have HOWN':=Za hown';have HG:=Za hgrow;have HW:=Za hwhere;clear hbk hb2 hown hown' hgrow hwhere;go_wp2_with fail
 go_ret2
 have hb3:(w2.setCell ⟨b,1,none⟩ (.slice ao n' cap)).heap[b]? =some (.cells #[.pointer (some ⟨b,0,none⟩),.slice ao n' cap,.int .i64 t] 81 (0,0)):=by
  simp [Zd,Array.getElem?_modify,HB2.out]
 have own1:own w1 b=v.ownBlock:=by simp [own,HBK.out]
 have own3:own (w2.setCell ⟨b,1,none⟩ (.slice ao n' cap)) b=(Value.slice ao n' cap).ownBlock:=by simp [own,hb3]
 refine⟨rfl,⟨_,_,hb3,.inr rfl,?_⟩,HF1.out.trans ⟨?_,?_,?_,?_,?_,?_⟩⟩
 ·have q:=HOWN'.out
  rw[oC,oW]at q;rw[show(bs++s).length=bs.length+(aB s).size from by simp;rfl];refine q.kept (row:=some b) ⟨rfl,rfl,rfl,by simp [Zd],fun k _ hk=>Zo _ _ _ _ (fun e=>hk (by simp [e]))⟩ (Or.inr ?_);intro e;have:=q.lt b e;omega
 ·exact HG.out.os
 ·exact HG.out.tape
 ·exact HG.out.output
 ·have:=HG.out.size;simp [Zd];omega
 ·intro k hk hkb hko
  rw[Zo _ _ _ _ (by simpa using hkb)];exact HG.out.block k hk (fun e=>hko (by rw[own1];exact e.symm))
 ·rw[own3,own1];exact HW.out
theorem bJ.alloc {w:World}{b:Nat}{bs:Bs}{t:Int}(h:bJ w b bs t)(o:Obj):bJ (w.alloc o) b bs t:=h.old (bA)
theorem PFr.alloc {w:World}{b:Nat}{bs:Bs}{t:Int}(h:bJ w b bs t)(o:Obj):PFr b w (w.alloc o):=PFr.of_below (bA) h.lt
theorem qY(ws:List Bs)(X cap b:Nat)(bs:Bs)(t:Int)(w:World)(hp:bJ w b bs t)(hl:Loc w b X (ws.map fun s=> .string (aB s)))(hf:br (bs.length+ws.flatten.length))(hn:ws.length≤1000):
  Calls Zb 72 #[.pointer (some ⟨b,0,none⟩),.slice (some ⟨X,0,none⟩) ws.length cap] w (f9 w b bs t ws.flatten):=by
 have HP:=Za hp;have HL:=Za hl;have HF:=Za hf;clear hp hl hf;go_enter Tryz.func72,Tryz.ntmps72
 go_wp2_with fail
 go_loopw [5,8] (fun _ s8 wr=> ∃k:Nat,k≤ws.length∧s8= .int .i64 k∧bJ wr b (bs++(ws.take k).flatten) t∧PFr b w wr) (fun _ s8 _=>ws.length - (intOf s8).toNat)
 case atStart=>exact⟨0,Nat.zero_le _,rfl,by simpa using HP.out,PFr.refl _ _⟩
 case round=>
  obtain⟨k,hk,rfl,hp,hfr⟩:=hrel;have HPK:=Za hp;have HFR:=Za hfr;have hbl:=hp.lt;have HLK:=Za (HL.out.step hfr);clear hp hfr
  by_cases hlt:k<ws.length
  ·have c:=HLK.out.cell k (by simpa using hlt)
   have ec:(ws.map fun s=>Value.string (aB s))[k]'(by simpa using hlt)= .string (aB (ws.getD k [])):=by simp [Zi hlt]
   rw[ec]at c;have hsp:Hid ((ws.take (k+1)).flatten=(ws.take k).flatten++ws.getD k []):=by
    show _=_
    rw[List.take_succ_eq_append_getElem hlt];simp only[List.flatten_append,Zj,Zk,List.append_nil,List.getD_eq_getElem?_getD,Zi hlt,Option.getD_some]
   have hfit:Hid (br ((bs++(ws.take k).flatten).length+(ws.getD k []).length)):=by
    refine HF.out.mono ?_;have e:ws.flatten=(ws.take (k+1)).flatten++(ws.drop (k+1)).flatten:=by rw[←List.flatten_append,List.take_append_drop]
    rw[e,hsp.out];simp;omega
   clear ec;generalize ws.getD k []=s at c hsp hfit;go_wp2_with fail
   refine(mn s b _ t _ HPK.out hfit.out).mono ?_;rintro r w3 ⟨rfl,hp3,hf3⟩;have HP3:=Za hp3;have HF3:=Za hf3;clear hp3 hf3;go_wp2_with fail
   go_roundw
   case rel=>exact⟨k+1,by omega,by go_num,by rw[hsp.out,←List.append_assoc];exact HP3.out,HFR.out.trans HF3.out⟩
   case measure=>simp [intOf];omega
  ·go_wp2_with fail
   go_end0
   exact⟨rfl,by have e:ws.take k=ws:=List.take_of_length_le (by omega);have q:=HPK.out;rwa[e]at q,HFR.out⟩
theorem lJ(s:Bs)(T:TypeId)(X b:Nat)(bs:Bs)(t:Int)(w:World)(hX:X=w.heap.size)(hp:bJ w b bs t)(hf:br (bs.length+s.length)):
  Calls Zb 72 #[.pointer (some ⟨b,0,none⟩),.slice (some ⟨X,0,none⟩) 1 1] (w.alloc (.cells #[.string (aB s)] T)) (f9 w b bs t s):=by
 subst hX;refine(qY [s] w.heap.size 1 b bs t _ (hp.alloc _) (Loc.new hp [.string (aB s)] T) (by simpa using hf) (by simp)).mono ?_;rintro r w' ⟨rfl,h2,h3⟩;exact⟨rfl,by simpa using h2,(PFr.alloc hp _).trans h3⟩
theorem put2(s1 s2:Bs)(T:TypeId)(X b:Nat)(bs:Bs)(t:Int)(w:World)(hX:X=w.heap.size)(hp:bJ w b bs t)(hf:br (bs.length+(s1++s2).length)):
  Calls Zb 72 #[.pointer (some ⟨b,0,none⟩),.slice (some ⟨X,0,none⟩) 2 2] (w.alloc (.cells #[.string (aB s1),.string (aB s2)] T)) (f9 w b bs t (s1++s2)):=by
 subst hX;refine(qY [s1,s2] w.heap.size 2 b bs t _ (hp.alloc _) (Loc.new hp [.string (aB s1),.string (aB s2)] T) (by simpa using hf) (by simp)).mono ?_;rintro r w' ⟨rfl,h2,h3⟩;exact⟨rfl,by simpa using h2,(PFr.alloc hp _).trans h3⟩
theorem put3(s1 s2 s3:Bs)(T:TypeId)(X b:Nat)(bs:Bs)(t:Int)(w:World)(hX:X=w.heap.size)(hp:bJ w b bs t)(hf:br (bs.length+(s1++(s2++s3)).length)):
  Calls Zb 72 #[.pointer (some ⟨b,0,none⟩),.slice (some ⟨X,0,none⟩) 3 3] (w.alloc (.cells #[.string (aB s1),.string (aB s2),.string (aB s3)] T)) (f9 w b bs t (s1++(s2++s3))):=by
 subst hX;refine(qY [s1,s2,s3] w.heap.size 3 b bs t _ (hp.alloc _) (Loc.new hp [.string (aB s1),.string (aB s2),.string (aB s3)] T) (by simpa using hf) (by simp)).mono ?_;rintro r w' ⟨rfl,h2,h3⟩;exact⟨rfl,by simpa using h2,(PFr.alloc hp _).trans h3⟩
def dL(w:World):Prop:=Lib.TabIs Zb w "internal/strconv.uint64pow10" .u64 Lib.pow10Tab
theorem dL.keep {w w':World}(h:dL w)(hb:w'.heap[3]? =w.heap[3]?):dL w':=by
 have hg:Tryz.prog.globalNamed "internal/strconv.uint64pow10" =some 3:=by kernel_rfl
 unfold dL Lib.TabIs World.var? at*;simp only[hg,Option.bind_eq_bind,Option.bind_some]at*;rw[hb];exact h
theorem rB(n:Int)(h:I64 n)(w:World)(ht:dL w):
  Calls Zb 35 #[.int .i64 n] w fun e w'=>e= .returned (.string (aB (Lib.itoa n)))∧Below w.heap.size w w':=by
 refine(Tryz.strconv_Itoa n h.1 h.2 w ht).mono ?_;rintro e w' ⟨rfl,k,os,rfl⟩;exact⟨rfl,rfl,rfl,rfl,by simp,fun i hi=>by simp [Sort.grow,World.drewN,Array.getElem?_append_left hi]⟩
def eN(e:Ex):Prop:= ∀(b:Nat) (bs:Bs) (t:Int) (s:Value) (w:World),3<b→dL w→bJ w b bs t→aJ (· <b) w e.args s→I64 e.n→bZ e=true→br (bs.length+(aK e).length)→
 Calls Zb 32 #[.pointer (some ⟨b,0,none⟩),exV e s] w (f9 w b bs t (aK e))
theorem dL.fr {w w':World}{b:Nat}{bs:Bs}{t:Int}(h:dL w)(hf:PFr b w w')(hp:bJ w b bs t)(hb:3<b):dL w':=h.keep ((hf.below hp).block _ hb)
theorem oR(e:Ex)(ih:eN e)(level:Int)(b:Nat)(bs:Bs)(t:Int)(s:Value)(w:World)(hb:3<b)(ht:dL w)(hp:bJ w b bs t)(hs:aJ (· <b) w e.args s)(hn:I64 e.n)(hw:bZ e=true)(hf:br (bs.length+(dC e level).length)):
  Calls Zb 73 #[.pointer (some ⟨b,0,none⟩),exV e s,.int .i64 level] w (f9 w b bs t (dC e level)):=by
 have IH:=Za ih;have HT:=Za ht;have HP:=Za hp;have HN:=Za hn;have HW:=Za hw;have HF:=Za hf;obtain⟨sa,sc,rfl⟩:=hs.shape;have HS:=Za hs;clear ih ht hs hn hw hf;have hlt:=hp.lt;have hp1:=Za (hp.alloc (.cells #[.int .i64 e.kind,.int .i64 e.op,.int .i64 e.n,.string (aB e.name),.slice sa e.args.length sc] 27));have hf1:=Za (PFr.alloc hp (.cells #[.int .i64 e.kind,.int .i64 e.op,.int .i64 e.n,.string (aB e.name),.slice sa e.args.length sc] 27));have hl1:=Za (Loc.new hp [.int .i64 e.kind,.int .i64 e.op,.int .i64 e.n,.string (aB e.name),.slice sa e.args.length sc] 27);clear hp
 by_cases h4:e.kind=4
 ·have k4:(e.kind==4)=true:=by simpa using h4
  by_cases hl:aP e.op<level
  ·have E:Hid (dC e level=[40]++(aK e++[41])):=by show _=_;simp [dC,cv,h4,hl]
   rw[E.out]at HF ⊢;clear h4;go_enter Tryz.func73,Tryz.ntmps73
   go_wp2_with fail
   refine(gD e.op _).mono ?_;rintro r w2 ⟨rfl,hb2⟩;have hf2:=PFr.of_below hb2 hp1.out.lt;have HP2:=Za (hp1.out.old hb2);have HF2:=Za (hf1.out.trans hf2);have HL2:=Za (hl1.out.step hf2);clear hb2 hf2 hp1 hf1 hl1;go_wp2_with fail
   refine(lJ [40] _ _ b bs t w2 rfl HP2.out (HF.out.mono (by simp))).mono ?_;rintro r w3 ⟨rfl,hp3,hf3⟩;have HP3:=Za hp3;have HF3:=Za (HF2.out.trans hf3);have HL3:=Za (HL2.out.step hf3);clear hp3 hf3 HP2 HF2 HL2;have c0:=HL3.out.cell 0 (by simp);have c1:=HL3.out.cell 1 (by simp);have c2:=HL3.out.cell 2 (by simp);have c3:=HL3.out.cell 3 (by simp);have c4:=HL3.out.cell 4 (by simp);simp only[List.getElem_cons_zero,List.getElem_cons_succ]at c0 c1 c2 c3 c4;go_wp2_with fail
   refine(IH.out b (bs++[40]) t _ w3 hb (HT.out.fr HF3.out HP.out hb) HP3.out (HS.out.keep (HF3.out.keeps HP.out)) HN.out HW.out (HF.out.mono (by simp;omega))).mono ?_;rintro r w4 ⟨rfl,hp4,hf4⟩;have HP4:=Za hp4;have HF4:=Za (HF3.out.trans hf4);clear hp4 hf4 c0 c1 c2 c3 c4;go_wp2_with fail
   refine(lJ [41] _ _ b _ t w4 rfl HP4.out (HF.out.mono (by simp;omega))).mono ?_;rintro r w5 ⟨rfl,hp5,hf5⟩;go_wp2_with fail
   go_end0
   exact⟨rfl,by simpa using hp5,HF4.out.trans hf5⟩
  ·have hl':level≤aP e.op:=by omega
   have E:Hid (dC e level=aK e):=by show _=_;simp [dC,cv,hl]
   rw[E.out]at HF ⊢;clear h4;go_enter Tryz.func73,Tryz.ntmps73
   go_wp2_with fail
   refine(gD e.op _).mono ?_;rintro r w2 ⟨rfl,hb2⟩;have hf2:=PFr.of_below hb2 hp1.out.lt;have HP2:=Za (hp1.out.old hb2);have HF2:=Za (hf1.out.trans hf2);have HL2:=Za (hl1.out.step hf2);clear hb2 hf2 hp1 hf1 hl1;have c0:=HL2.out.cell 0 (by simp);have c1:=HL2.out.cell 1 (by simp);have c2:=HL2.out.cell 2 (by simp);have c3:=HL2.out.cell 3 (by simp);have c4:=HL2.out.cell 4 (by simp);simp only[List.getElem_cons_zero,List.getElem_cons_succ]at c0 c1 c2 c3 c4;go_wp2_with fail
   refine(IH.out b bs t _ w2 hb (HT.out.fr HF2.out HP.out hb) HP2.out (HS.out.keep (HF2.out.keeps HP.out)) HN.out HW.out HF.out).mono ?_;rintro r w4 ⟨rfl,hp4,hf4⟩;have HP4:=Za hp4;have HF4:=Za (HF2.out.trans hf4);clear hp4 hf4 c0 c1 c2 c3 c4;go_wp2_with fail
   go_end0
   exact⟨rfl,HP4.out,HF4.out⟩
 ·have k4:(e.kind==4)=false:=by simpa using h4
  have E:Hid (dC e level=aK e):=by show _=_;simp [dC,cv,h4]
  rw[E.out]at HF ⊢;clear h4;go_enter Tryz.func73,Tryz.ntmps73
  go_wp2_with fail
  refine(IH.out b bs t _ _ hb (HT.out.fr hf1.out HP.out hb) hp1.out (HS.out.keep (hf1.out.keeps HP.out)) HN.out HW.out HF.out).mono ?_;rintro r w4 ⟨rfl,hp4,hf4⟩;have HP4:=Za hp4;have HF4:=Za (hf1.out.trans hf4);clear hp4 hf4;go_wp2_with fail
  go_end0
  exact⟨rfl,HP4.out,HF4.out⟩
theorem uS(a c:List Bs):(au a).length≤(au (a++c)).length:=by
 cases a with
 |nil=>simp [au]
 |cons x l=>simp [au]
theorem jJ(ts:List Bs)(k:Nat):(au (ts.take k)).length≤(au ts).length:=by
 have:=uS (ts.take k) (ts.drop k)
 rwa[List.take_append_drop]at this
theorem oj(l:List Ex)(k:Nat)(h:k<l.length):(l.take (k+1)).map aK=(l.take k).map aK++[aK (bI l k)]:=by
 rw[List.take_succ_eq_append_getElem h,List.map_append,List.map_cons,List.map_nil,ro h]
theorem yO(l:List Ex)(ih:∀x,x∈l→eN x)(b:Nat)(bs:Bs)(t:Int)(s:Value)(w:World)(hb:3<b)(ht:dL w)(hp:bJ w b bs t)(hs:aJ (· <b) w l s)(hw:∀x,x∈l→bZ x=true)(hf:br (bs.length+(au (l.map aK)).length)):
  Calls Zb 75 #[.pointer (some ⟨b,0,none⟩),s,.func (.func 32) #[.pointer (some ⟨b,0,none⟩)] #[]] w (f9 w b bs t (au (l.map aK))):=by
 have IH:=Za ih;have HT:=Za ht;have HP:=Za hp;have HW:=Za hw;have HF:=Za hf;obtain⟨sa,sc,rfl⟩:=hs.shape;have hl63:=hs.fits.lt;have HS:=Za hs;clear ih ht hs hw hf hp;go_enter Tryz.func75,Tryz.ntmps75
 go_wp2_with fail
 go_loopw [6,7,10] (fun _ _ s10 wr=> ∃k:Nat,k≤l.length∧s10= .int .i64 k∧bJ wr b (bs++au ((l.take k).map aK)) t∧PFr b w wr) (fun _ _ s10 _=>l.length - (intOf s10).toNat)
 case atStart=>exact⟨0,Nat.zero_le _,rfl,by simpa [au]using HP.out,PFr.refl _ _⟩
 case round=>
  obtain⟨k,hk,rfl,hpk,hfr⟩:=hrel;have HPK:=Za hpk;have HFR:=Za hfr;have hbl:=hpk.lt;clear hpk hfr
  by_cases hlt:k<l.length
  ·obtain⟨eb,off,es,rfl,hD,c0,c1,c2,c3,c4,hes,hn⟩:=(HS.out.keep (HFR.out.keeps HP.out)).cellAt k hlt
   obtain⟨ea,ec,rfl⟩:=hes.shape;have HES:=Za hes;have HN:=Za hn;have IHX:=Za (IH.out _ (bx hlt));have HWX:=Za (HW.out _ (bx hlt));have hmap:=Za (oj l k hlt);have hle:=Za (jJ (l.map aK) (k+1));rw[←List.map_take,hmap.out,gi]at hle;clear hes hn hD;generalize bI l k=e at c0 c1 c2 c3 c4 HES HN IHX HWX hmap hle;have hp1:=Za (HPK.out.alloc (.cells #[.int .i64 e.kind,.int .i64 e.op,.int .i64 e.n,.string (aB e.name),.slice ea e.args.length ec] 27));have hf1:=Za (HFR.out.trans (PFr.alloc HPK.out (.cells #[.int .i64 e.kind,.int .i64 e.op,.int .i64 e.n,.string (aB e.name),.slice ea e.args.length ec] 27)));have hl1:=Za (Loc.new HPK.out [.int .i64 e.kind,.int .i64 e.op,.int .i64 e.n,.string (aB e.name),.slice ea e.args.length ec] 27);have hebl:eb<wr.heap.size:=World.block_lt_of_cell? _ _ c0
   by_cases hk0:k=0
   ·have hk0':(k:Int)≤0:=by omega
    have hnil:(l.take k).map aK=[]:=by rw[hk0];simp
    rw[if_pos hnil]at hle;have HK0:=Za hk0;have HNIL:=Za hnil;have hle':Hid (br ((bs++au ((l.take k).map aK)).length+(aK e).length)):=HF.out.mono (by have:=hle.out;rw[HNIL.out];simp [au];exact this);have hnext:Hid (au ((l.take (k+1)).map aK)=au ((l.take k).map aK)++aK e):=by show _=_;rw[hmap.out,HNIL.out];simp [au]
    clear hk0 hnil;go_wp2_with fail
    refine(IHX.out b _ t _ _ hb (HT.out.fr hf1.out HP.out hb) hp1.out (HES.out.keep ((PFr.alloc HPK.out _).keeps HPK.out)) HN.out HWX.out hle'.out).mono ?_;rintro r w3 ⟨rfl,hp3,hf3⟩;have HP3:=Za hp3;have HF3:=Za (hf1.out.trans hf3);clear hp3 hf3 c0 c1 c2 c3 c4;go_wp2_with fail
    go_roundw
    case rel=>exact⟨k+1,by omega,by go_num,by have q:=HP3.out;rw[hnext.out];simpa using q,HF3.out⟩
    case measure=>simp [intOf];omega
   ·have hk1:(0:Int)<k:=by omega
    have hne:Hid ((l.take k).map aK≠[]):=by
     intro h;rw[List.map_eq_nil_iff,List.take_eq_nil_iff]at h;rcases h with h|h
     ·exact hk0 h
     ·rw[h]at hlt;simp at hlt
    have hle2:Hid (br ((bs++au ((l.take k).map aK)).length+([44,32]:Bs).length+(aK e).length)):=HF.out.mono (by have:=hle.out;rw[if_neg hne.out]at this;simp at this;simp;omega);have hnext:Hid (au ((l.take (k+1)).map aK)=au ((l.take k).map aK)++[44,32]++aK e):=by show _=_;rw[hmap.out,gi,if_neg hne.out]
    clear hk0;go_wp2_with fail
    refine(lJ [44,32] _ _ b _ t _ (by simp) hp1.out (hle2.out.mono (by omega))).mono ?_;rintro r w2 ⟨rfl,hp2,hf2⟩;have HP2:=Za hp2;have HF2:=Za (hf1.out.trans hf2);have HL2:=Za (hl1.out.step hf2);have HES2:=Za (HES.out.keep (((PFr.alloc HPK.out _).trans hf2).keeps HPK.out));clear hp2 hf2 c0 c1 c2 c3 c4;have c0:=HL2.out.cell 0 (by simp);have c1:=HL2.out.cell 1 (by simp);have c2:=HL2.out.cell 2 (by simp);have c3:=HL2.out.cell 3 (by simp);have c4:=HL2.out.cell 4 (by simp);simp only[List.getElem_cons_zero,List.getElem_cons_succ]at c0 c1 c2 c3 c4;go_wp2_with fail
    refine(IHX.out b _ t _ _ hb (HT.out.fr HF2.out HP.out hb) HP2.out HES2.out HN.out HWX.out (hle2.out.mono (by simp;omega))).mono ?_;rintro r w3 ⟨rfl,hp3,hf3⟩;have HP3:=Za hp3;have HF3:=Za (HF2.out.trans hf3);clear hp3 hf3 c0 c1 c2 c3 c4;go_wp2_with fail
    go_roundw
    case rel=>exact⟨k+1,by omega,by go_num,by have q:=HP3.out;rw[hnext.out];simpa using q,HF3.out⟩
    case measure=>simp [intOf];omega
  ·go_wp2_with fail
   go_end0
   exact⟨rfl,by have e:l.take k=l:=List.take_of_length_le (by omega);have q:=HPK.out;rwa[e]at q,HFR.out⟩
theorem bS {e:Ex}(h:bZ e=true):bY e=true∧∀x,x∈e.args→bZ x=true:=by
 rw[gu,Zg,List.all_eq_true]at h;exact h
theorem oX(o:Int):0≤aP o∧aP o≤8:=by
 unfold aP;repeat' split
 all_goals omega
theorem kv {e:Ex}(h:bY e=true):e.kind=1∨e.kind=2∨e.kind=3∨e.kind=4∨e.kind=5∨e.kind=6∨e.kind=7:=by
 have hk:eG e=true:=by unfold bY at h;simp only[Zg]at h;exact h.1.1.1.1
 unfold eG at hk
 by_cases h1:e.kind=1; · simp [h1]
 by_cases h2:e.kind=2; · simp [h2]
 by_cases h3:e.kind=3; · simp [h3]
 by_cases h4:e.kind=4; · simp [h4]
 by_cases h5:e.kind=5; · simp [h5]
 by_cases h6:e.kind=6; · simp [h6]
 simp [h1,h2,h3,h4,h5,h6]at hk;simp [hk]
end Go.Proofs.YtcfpfnoldgnloaaGreatDoor
