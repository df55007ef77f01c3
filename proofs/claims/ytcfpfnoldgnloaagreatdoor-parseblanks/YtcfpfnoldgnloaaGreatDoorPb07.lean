/-
  Prog: an array's name and size, in whatever order. Conditions: the source lies in memory.
-/
import Derived.Test.YtcfpfnoldgnloaaGreatDoorPb06
set_option linter.unusedVariables false
set_option linter.unusedSimpArgs false
namespace Go.Proofs.YtcfpfnoldgnloaaGreatDoor
open Go.RowKit Go.Proofs.Tryz
set_option maxHeartbeats 20000000
set_option maxRecDepth 100000
open Go.Lib renaming hid→Za
open Go.Proofs.Tryz renaming prog→Zb
open List renaming length_map→Zc,getElem?_eq_getElem→Zd,length_eq_zero_iff→Ze
theorem qC(s d c k:Nat)(raw:List Int)(sc:Sc)(v1 a1 f1:Option Addr)(v2 a2 f2:Nat)(one:Nat→St ×Nat)(a0:Nat)(w wr:World)(v:Value)(X:Nat)(y:St ×Nat)(wc:World)
  (hsc:Ft s w sc (.slice v1 sc.vars.length v2) (.slice a1 sc.arrays.length a2) (.slice f1 sc.funcs.length f2)) (hsl:s<w.heap.size) (hc6:c≤4) (hlt:k<c) (ls:List StV) (lk:List St) (bk:Nat) (hps:ls.map (·.x)=lk) (hfr:SFr s w wr) (hC:Ae wr w.heap.size [.slice v1 sc.vars.length v2,.slice a1 sc.arrays.length a2,.slice f1 sc.funcs.length f2,.bool sc.free,.bool sc.loop] 73) (hO:Dq wr (w.heap.size+1) ls v)
  (hnx:Ek one (k+1) a0=(lk++[(one bk).1],(one bk).2)) (hlk:ls.length=k) (hone:one bk=Kt sc raw y.1 y.2) (hCX:w.heap.size<X) (hmany:Ce y.1.kind≤y.1.args.length+1) (hargs:y.1.args.length≤1) (hcut:Rm wr X s raw y wc)
  (q0 q4 q5 q6 q10 q12 q13 q14 q15 q16 q17 q18 q19 q20 q21 q22 q23 q24 q25 q26 q27 q28 q29 q30 q31 q32 q33 q34 q35 q36 q37 q38 q39 q40 q41 q42 q43 q44 q45 q46 q47 q48 q49 q50 q51 q52 q53 q54 q55 q56 q57 q58 q59 q60 q61 q62 q63 q64 q65 q66 q67 q68 q69 q70 q71 q72 q73 q74 q75 q76 q77 q78 q79 q80 q81 q82 q83 q84 q85 q86 q87 q88 q89 q90 q91 q92 q93 q94 q95 q96 q97 q98 q99 q100 q101 q102 q103 q104 q105 q106 q107 q108 q109 q110 q111 q112 q113 q114 q115 q116 q117 q118 q119 q120 q121 q122 q123 q124 q125 q126 q127 q128 q129 q130 q131 q132 q133 q134 q135 q136 q137 q138 q139 q140 q141 q142 q143 q144 q145 q146 q147 q148 q149 q150 q151 q152 q153 q154 q155 q156 q157 q158 q159 q160 q161 q162 q163 q164 q165 q166 q167 q168 q169 q170 q171 q172 q173 q174 q175 q176 q177 q178 q179 q180 q181 q182 q183 q184 q185 q186 q187 q188 q189 q190 q191 q192 q193 q194 q195 q196 q197 q198 q199 q200 q201 q202 q203 q204 q205 q206 q207 q208 q209 q210 q211 q212 q213 q214 q215 q216 q217 q218 q219 q220 q221 q222 q223 q224 q225:Value) (J K':Act→World→Prop) (hJ:∀a' w',Sq w s d c raw one a0 [.slice v1 sc.vars.length v2,.slice a1 sc.arrays.length a2,.slice f1 sc.funcs.length f2,.bool sc.free,.bool sc.loop] k (k+1) a' w'→J a' w') (hM:∀a' w',Met J a' w'→K' a' w'):
  Code.wp Zb tY (Exit.then K' (fun _ _ _=>False)) ⟨[q0,.pointer (some ⟨s,0,none⟩),.int .i64 d,.pointer (some ⟨w.heap.size,0,none⟩),q4,q5,q6,v,.int .i64 c,.int .i64 k,q10,.pointer (some ⟨X,0,none⟩),q12,q13,q14,q15,q16,q17,q18,q19,q20,q21,q22,q23,q24,q25,q26,q27,q28,q29,q30,q31,q32,q33,q34,q35,q36,q37,q38,q39,q40,q41,q42,q43,q44,q45,q46,q47,q48,q49,q50,q51,q52,q53,q54,q55,q56,q57,q58,q59,q60,q61,q62,q63,q64,q65,q66,q67,q68,q69,q70,q71,q72,q73,q74,q75,q76,q77,q78,q79,q80,q81,q82,q83,q84,q85,q86,q87,q88,q89,q90,q91,q92,q93,q94,q95,q96,q97,q98,q99,q100,q101,q102,q103,q104,q105,q106,q107,q108,q109,q110,q111,q112,q113,q114,q115,q116,q117,q118,q119,q120,q121,q122,q123,q124,q125,q126,q127,q128,q129,q130,q131,q132,q133,q134,q135,q136,q137,q138,q139,q140,q141,q142,q143,q144,q145,q146,q147,q148,q149,q150,q151,q152,q153,q154,q155,q156,q157,q158,q159,q160,q161,q162,q163,q164,q165,q166,q167,q168,q169,q170,q171,q172,q173,q174,q175,q176,q177,q178,q179,q180,q181,q182,q183,q184,q185,q186,q187,q188,q189,q190,q191,q192,q193,q194,q195,q196,q197,q198,q199,q200,q201,q202,q203,q204,q205,q206,q207,q208,q209,q210,q211,q212,q213,q214,q215,q216,q217,q218,q219,q220,q221,q222,q223,q224,q225].toArray,[]⟩ wc:=by
 have HSC:=Za hsc;have HY:Hid (w.heap.size≠s):=by show _≠_;omega
 obtain⟨oa,oc,rfl⟩:=hO.shape;have HPS:=Za hps;have HFK:=Za hfr;have HCK:=Za hC;have HOK:=Za hO;have HNX:=Za hnx;have HONE:=Za hone;have HLN:=Za hlk;have HCX:Hid (w.heap.size<X):=hCX;have HMANY:=Za hmany;have HARGS:=Za (lU sc raw y.1 y.2 hargs);clear hps hfr hC hO hsc hnx hone hlk hmany hargs
 conv=>arg 2;whnf
 obtain⟨y0,hy0⟩:∃y0,y0=Kt sc raw y.1 y.2:=⟨_,rfl⟩;rw[←hy0]at HONE HARGS;have HY0:=Za hy0;clear hy0;obtain⟨⟨yk,ynm,yargs,yt,ye⟩,ya⟩:=y;obtain⟨ps,va,vc,xt,xe,hps,hh⟩:=hcut;dsimp only[St.kind,St.name,St.args,St.thn,St.els]at HMANY HY0 hps hh;subst hps;have HHA:=Za hh;have x0:=hh.own.at 0 _ rfl;have hXl:=hh.lt;clear hh
 go_upto_if 199 with(fail)
 go_cut [16]from 19 to 224 (fun q wx=>q=.int .i64 (if yk=2 then 2 else 1)∧wc=wx)
 case first=>
  by_cases h:yk=2
  ·subst h
   go_wp2_with fail
   go_meet;exact⟨rfl,rfl⟩
  ·have h2:(yk==2)=false:=beq_eq_false_iff_ne.2 h
   have e:Hid ((if yk=2 then(2:Int)else 1)=1):=if_neg h;clear h;go_wp2_with fail
   go_meet;exact⟨by rw[e.out],rfl⟩
 case rest=>
 obtain⟨rfl,rfl⟩:=hcut;obtain⟨t2,ht2⟩:∃t2,t2=(if yk=2 then(2:Int)else 1):=⟨_,rfl⟩;rw[←ht2];have HT2:=Za ht2;clear ht2;go_upto_region 41 with(fail)
 go_cut [207]from 19 to 224 (fun q wx=>q=.bool (decide (yk=5∨yk=6))∧wc=wx)
 case first=>
  by_cases h:yk=5
  ·subst h
   go_wp2_with fail
   go_meet;exact⟨rfl,rfl⟩
  ·by_cases h6:yk=6
   ·subst h6
    go_wp2_with fail
    go_meet;exact⟨rfl,rfl⟩
   ·have e:Hid (decide (yk=5∨yk=6)=false):=by show _=_;exact decide_eq_false (by omega)
    have n5:(yk==5)=false:=beq_eq_false_iff_ne.2 h;have n6:(yk==6)=false:=beq_eq_false_iff_ne.2 h6;clear h h6;go_wp2_with fail
    go_meet;exact⟨by rw[e.out],rfl⟩
 case rest=>
 obtain⟨rfl,rfl⟩:=hcut;obtain⟨b56,hb56⟩:∃b56,b56=decide (yk=5∨yk=6):=⟨_,rfl⟩;rw[←hb56];have HM:Hid ((Ce yk:Int)=if b56=true then 0 else t2):=by
  show _=_
  rw[HT2.o,hb56];unfold Ce
  by_cases h2:yk=2
  ·subst h2;rfl
  ·by_cases h56:yk=5∨yk=6<;>simp [h2,h56]
 clear HT2 hb56
 go_upto_if 207 with(fail)
 go_cut [16]from 19 to 224 (fun q wx=>q=.int .i64 (Ce yk:Nat)∧wc=wx)
 case first=>
  have hm:=HM.o
  cases b56
  ·have e:Hid ((Ce yk:Int)=t2):=hm
   clear hm;go_wp2_with fail
   go_meet;exact⟨by rw[e.out],rfl⟩
  ·have e:Hid ((Ce yk:Int)=0):=hm
   clear hm;go_wp2_with fail
   go_meet;exact⟨by rw[e.out],rfl⟩
 case rest=>
 obtain⟨rfl,rfl⟩:=hcut;clear HM x0
 go_upto_block 3 with(fail)
 refine wp_cut (fun a' w'=>FillR s sc raw w.heap.size X yk wr (Kt sc raw (.mk yk ynm (ps.map (·.1)) yt ye) ya) _ _ _ _ _ _ _ _ _ _ _ _ _ _ _ _ _ _ _ _ _ _ _ _ _ _ _ _ _ _ _ _ _ _ _ _ _ _ _ _ _ _ _ _ _ _ _ _ _ _ _ _ _ _ _ _ _ _ _ _ _ _ _ _ _ _ _ _ _ _ _ _ _ _ _ _ _ _ _ _ _ _ _ _ _ _ _ _ _ _ _ _ _ _ _ _ _ _ _ _ _ _ _ _ _ _ _ _ _ _ _ _ _ _ _ _ _ _ _ _ _ _ _ _ _ _ _ _ _ _ _ _ _ _ _ _ _ _ _ _ _ _ _ _ _ _ _ _ _ _ _ _ _ _ _ _ _ _ _ _ _ _ _ _ _ _ _ _ _ _ _ _ _ _ _ _ _ _ _ _ _ _ _ _ _ _ _ _ _ _ _ _ _ _ _ _ _ _ _ _ _ _ _ _ _ _ _ _ _ a' w') ?rest (fun J K' hJ hM=>Gs (rB s raw sc v1 a1 f1 v2 a2 f2 w.heap.size X yk ynm ps va vc yt ye xt xe ya wr wc (HSC.o.sfr HFK.o) HCK.o HHA.o HCX.o hsl (by have:=HMANY.o;rwa[Zc]at this) _ _ _ _ _ _ _ _ _ _ _ _ _ _ _ _ _ _ _ _ _ _ _ _ _ _ _ _ _ _ _ _ _ _ _ _ _ _ _ _ _ _ _ _ _ _ _ _ _ _ _ _ _ _ _ _ _ _ _ _ _ _ _ _ _ _ _ _ _ _ _ _ _ _ _ _ _ _ _ _ _ _ _ _ _ _ _ _ _ _ _ _ _ _ _ _ _ _ _ _ _ _ _ _ _ _ _ _ _ _ _ _ _ _ _ _ _ _ _ _ _ _ _ _ _ _ _ _ _ _ _ _ _ _ _ _ _ _ _ _ _ _ _ _ _ _ _ _ _ _ _ _ _ _ _ _ _ _ _ _ _ _ _ _ _ _ _ _ _ _ _ _ _ _ _ _ _ _ _ _ _ _ _ _ _ _ _ _ _ _ _ _ _ _ _ _ _ _ _ _ _ _ _ _ _ _ _ _ _ _ _ _ _ _ _ _ _ _ _ _ _ _ J K' hJ hM))
 case rest=>
 intro a' we hcut;obtain⟨z208,z209,z210,z211,z212,z213,z214,z215,z216,z217,z218,z219,z220,hcut⟩:=hcut;obtain⟨hcut,ha'⟩:=hcut;subst ha';clear HHA HMANY;rw[←HY0.o]at hcut;apply_assumption
 exact tP s d c k raw sc v1 a1 f1 v2 a2 f2 one a0 w wr (.slice oa ls.length oc) X y0 we hsl hc6 hlt ls lk bk HPS.o HFK.o HCK.o HOK.o HNX.o HLN.o HONE.o HCX.o HARGS.o hcut _ _ _ _ _ _ _ _ _ _ _ _ _ _ _ _ _ _ _ _ _ _ _ _ _ _ _ _ _ _ _ _ _ _ _ _ _ _ _ _ _ _ _ _ _ _ _ _ _ _ _ _ _ _ _ _ _ _ _ _ _ _ _ _ _ _ _ _ _ _ _ _ _ _ _ _ _ _ _ _ _ _ _ _ _ _ _ _ _ _ _ _ _ _ _ _ _ _ _ _ _ _ _ _ _ _ _ _ _ _ _ _ _ _ _ _ _ _ _ _ _ _ _ _ _ _ _ _ _ _ _ _ _ _ _ _ _ _ _ _ _ _ _ _ _ _ _ _ _ _ _ _ _ _ _ _ _ _ _ _ _ _ _ _ _ _ _ _ _ _ _ _ _ _ _ _ _ _ _ _ _ _ _ _ _ _ _ _ _ _ _ _ _ _ _ _ _ _ _ _ _ _ _ _ _ _ _ _ _ _ _ _ _ _ _ _ _ _ _ J K' hJ hM
theorem sR(d s c k:Nat)(raw:List Int)(sc:Sc)(v1 a1 f1:Option Addr)(v2 a2 f2:Nat)(gs gl:Nat→List St ×Nat)(a0:Nat)(w wr:World)(v:Value)(hd1:d≤1000)(hsc:Ft s w sc (.slice v1 sc.vars.length v2) (.slice a1 sc.arrays.length a2) (.slice f1 sc.funcs.length f2))(hsl:s<w.heap.size)(hc6:c≤4)(hIH:2≤d→∀w1 b,Ay w1 s raw b→Ft s w1 sc (.slice v1 sc.vars.length v2) (.slice a1 sc.arrays.length a2) (.slice f1 sc.funcs.length f2)→Calls Zb 39 #[.agg #[.slice v1 sc.vars.length v2,.slice a1 sc.arrays.length a2,.slice f1 sc.funcs.length f2,.bool sc.free,.bool sc.loop],.pointer (some ⟨s,0,none⟩),.int .i64 ((d:Int)-1)] w1 (Ib w1 s raw (gs b)))(hIL:2≤d→∀w1 b,Ay w1 s raw b→Ft s w1 sc (.slice v1 sc.vars.length v2) (.slice a1 sc.arrays.length a2) (.slice f1 sc.funcs.length f2)→Calls Zb 39 #[.agg #[.slice v1 sc.vars.length v2,.slice a1 sc.arrays.length a2,.slice f1 sc.funcs.length f2,.bool sc.free,.bool true],.pointer (some ⟨s,0,none⟩),.int .i64 ((d:Int)-1)] w1 (Ib w1 s raw (gl b)))(hlt:k<c)(ls:List StV)(lk:List St)(bk:Nat)(hps:ls.map (·.x)=lk)(hfr:SFr s w wr)(hC:Ae wr w.heap.size [.slice v1 sc.vars.length v2,.slice a1 sc.arrays.length a2,.slice f1 sc.funcs.length f2,.bool sc.free,.bool sc.loop] 73)(hO:Dq wr (w.heap.size+1) ls v)
  (hnx:Ek (gSt sc raw gs gl d) (k+1) a0=(lk++[((gSt sc raw gs gl d) bk).1],((gSt sc raw gs gl d) bk).2)) (hlk:ls.length=k) (X:Nat) (K:Int) (ka:Nat) (W3:World) (hone:gSt sc raw gs gl d bk=Kt sc raw (Bz sc raw gs gl K ka).1 (Bz sc raw gs gl K ka).2)
  (hCX:w.heap.size<X) (hK0:0≤K) (hK1:K<14) (hKd:7≤K→K<11→2≤d) (hC3:Ae W3 w.heap.size [.slice v1 sc.vars.length v2,.slice a1 sc.arrays.length a2,.slice f1 sc.funcs.length f2,.bool sc.free,.bool sc.loop] 73) (hH3:Cv wr X s raw 8 [] [] none 0 [] [] (.slice none 0 0) (.slice none 0 0) ka W3)
  (q0 q4 q5 q6 q12 q13 q14 q15 q16 q17 q18 q19 q20 q21 q22 q23 q24 q25 q26 q27 q28 q29 q30 q31 q32 q33 q34 q35 q36 q37 q38 q39 q40 q41 q42 q43 q44 q45 q46 q47 q48 q49 q50 q51 q52 q53 q54 q55 q56 q57 q58 q59 q60 q61 q62 q63 q64 q65 q66 q67 q68 q69 q70 q71 q72 q73 q74 q75 q76 q77 q78 q79 q80 q81 q82 q83 q84 q85 q86 q87 q88 q89 q90 q91 q92 q93 q94 q95 q96 q97 q98 q99 q100 q101 q102 q103 q104 q105 q106 q107 q108 q109 q110 q111 q112 q113 q114 q115 q116 q117 q118 q119 q120 q121 q122 q123 q124 q125 q126 q127 q128 q129 q130 q131 q132 q133 q134 q135 q136 q137 q138 q139 q140 q141 q142 q143 q144 q145 q146 q147 q148 q149 q150 q151 q152 q153 q154 q155 q156 q157 q158 q159 q160 q161 q162 q163 q164 q165 q166 q167 q168 q169 q170 q171 q172 q173 q174 q175 q176 q177 q178 q179 q180 q181 q182 q183 q184 q185 q186 q187 q188 q189 q190 q191 q192 q193 q194 q195 q196 q197 q198 q199 q200 q201 q202 q203 q204 q205 q206 q207 q208 q209 q210 q211 q212 q213 q214 q215 q216 q217 q218 q219 q220 q221 q222 q223 q224 q225:Value) (J K':Act→World→Prop) (hJ:∀a' w',Sq w s d c raw (gSt sc raw gs gl d) a0 [.slice v1 sc.vars.length v2,.slice a1 sc.arrays.length a2,.slice f1 sc.funcs.length f2,.bool sc.free,.bool sc.loop] k (k+1) a' w'→J a' w') (hM:∀a' w',Met J a' w'→K' a' w'):
  Code.wp Zb midCode (Exit.then K' (fun _ _ _=>False)) ⟨[q0,.pointer (some ⟨s,0,none⟩),.int .i64 d,.pointer (some ⟨w.heap.size,0,none⟩),q4,q5,q6,v,.int .i64 c,.int .i64 k,.int .i64 K,.pointer (some ⟨X,0,none⟩),q12,q13,q14,q15,q16,q17,q18,q19,q20,q21,q22,q23,q24,q25,q26,q27,q28,q29,q30,q31,q32,q33,q34,q35,q36,q37,q38,q39,q40,q41,q42,q43,q44,q45,q46,q47,q48,q49,q50,q51,q52,q53,q54,q55,q56,q57,q58,q59,q60,q61,q62,q63,q64,q65,q66,q67,q68,q69,q70,q71,q72,q73,q74,q75,q76,q77,q78,q79,q80,q81,q82,q83,q84,q85,q86,q87,q88,q89,q90,q91,q92,q93,q94,q95,q96,q97,q98,q99,q100,q101,q102,q103,q104,q105,q106,q107,q108,q109,q110,q111,q112,q113,q114,q115,q116,q117,q118,q119,q120,q121,q122,q123,q124,q125,q126,q127,q128,q129,q130,q131,q132,q133,q134,q135,q136,q137,q138,q139,q140,q141,q142,q143,q144,q145,q146,q147,q148,q149,q150,q151,q152,q153,q154,q155,q156,q157,q158,q159,q160,q161,q162,q163,q164,q165,q166,q167,q168,q169,q170,q171,q172,q173,q174,q175,q176,q177,q178,q179,q180,q181,q182,q183,q184,q185,q186,q187,q188,q189,q190,q191,q192,q193,q194,q195,q196,q197,q198,q199,q200,q201,q202,q203,q204,q205,q206,q207,q208,q209,q210,q211,q212,q213,q214,q215,q216,q217,q218,q219,q220,q221,q222,q223,q224,q225].toArray,[]⟩ W3:=by
 have lf:=hsc.f1;have lv:=hsc.v1;have la:=hsc.a1;have hva:Hid (sc.hasVars=(decide (0<sc.vars.length)||sc.free)):=Xm sc;have haa:Hid (sc.hasArrays=(decide (0<sc.arrays.length)||sc.free)):=Rn sc;have hfa:Hid (sc.hasFuncs=(decide (0<sc.funcs.length)||sc.free)):=Ue sc;have HSC:=Za hsc;have HIH:=Za hIH;have HIL:=Za hIL;have HY:Hid (w.heap.size≠s):=by show _≠_;omega
 obtain⟨oa,oc,rfl⟩:=hO.shape;have HPS:=Za hps;have HFK:=Za hfr;have HCK:=Za hC;have HOK:=Za hO;have HNX:=Za hnx;have HLN:=Za hlk;have HONE:=Za hone;have HCX:Hid (w.heap.size<X):=hCX;have HKD:=Za hKd;have HC3:=Za hC3;have HH3:=Za hH3;clear hps hfr hC hO hsc hIH hIL hnx hlk hone hKd hC3 hH3
 conv=>arg 2;whnf
 dsimp only;have b0:=HC3.o.at 0 _ rfl;have b1:=HC3.o.at 1 _ rfl;have b2:=HC3.o.at 2 _ rfl;have b3:=HC3.o.at 3 _ rfl;have b4:=HC3.o.at 4 _ rfl;go_upto_region 10 with(fail)
 go_cut [12]from 19 to 224 (fun q wx=>q=.bool sc.hasArrays∧W3=wx)
 case first=>
  by_cases hlv:0<sc.arrays.length
  ·have hlv':(0:Int)<(sc.arrays.length:Int):=by omega
   go_wp2_with fail
   go_meet;exact⟨by rw[haa.out,decide_eq_true hlv];rfl,rfl⟩
  ·have hlv':(sc.arrays.length:Int)≤0:=by omega
   go_wp2_with fail
   go_meet;exact⟨by rw[haa.out,decide_eq_false hlv];rfl,rfl⟩
 case rest=>
 obtain⟨rfl,rfl⟩:=hcut;go_upto_region 11 with(fail)
 go_cut [13]from 19 to 224 (fun q wx=>q=.bool sc.hasVars∧W3=wx)
 case first=>
  by_cases hlv:0<sc.vars.length
  ·have hlv':(0:Int)<(sc.vars.length:Int):=by omega
   go_wp2_with fail
   go_meet;exact⟨by rw[hva.out,decide_eq_true hlv];rfl,rfl⟩
  ·have hlv':(sc.vars.length:Int)≤0:=by omega
   go_wp2_with fail
   go_meet;exact⟨by rw[hva.out,decide_eq_false hlv];rfl,rfl⟩
 case rest=>
 obtain⟨rfl,rfl⟩:=hcut;go_upto_region 12 with(fail)
 go_cut [14]from 19 to 224 (fun q wx=>q=.bool sc.hasFuncs∧W3=wx)
 case first=>
  by_cases hlv:0<sc.funcs.length
  ·have hlv':(0:Int)<(sc.funcs.length:Int):=by omega
   go_wp2_with fail
   go_meet;exact⟨by rw[hfa.out,decide_eq_true hlv];rfl,rfl⟩
  ·have hlv':(sc.funcs.length:Int)≤0:=by omega
   go_wp2_with fail
   go_meet;exact⟨by rw[hfa.out,decide_eq_false hlv];rfl,rfl⟩
 case rest=>
 obtain⟨rfl,rfl⟩:=hcut;clear b0 b1 b2 b3 b4 haa hva hfa
 go_upto_block 2 with(fail)
 refine wp_cut (fun a' w'=>SwR d s w.heap.size X K sc.hasArrays sc.hasVars sc.hasFuncs wr raw (Bz sc raw gs gl K ka) _ _ _ _ _ _ _ _ _ _ _ _ _ _ _ _ _ _ _ _ _ _ _ _ _ _ _ _ _ _ _ _ _ _ _ _ _ _ _ _ _ _ _ _ _ _ _ _ _ _ _ _ _ _ _ _ _ _ _ _ _ _ _ _ _ _ _ _ _ _ _ _ _ _ _ _ _ _ _ _ _ a' w') ?rest (fun J K' hJ hM=>Gs (sw_all (gs:=gs) (gl:=gl) ⟨hd1,(HSC.o.sfr HFK.o),HC3.o,HH3.o,HCX.o,hsl,hK0,hK1,HKD.o,rfl,rfl,rfl⟩ HIH.o HIL.o _ _ _ _ _ _ _ _ _ _ _ _ _ _ _ _ _ _ _ _ _ _ _ _ _ _ _ _ _ _ _ _ _ _ _ _ _ _ _ _ _ _ _ _ _ _ _ _ _ _ _ _ _ _ _ _ _ _ _ _ _ _ _ _ _ _ _ _ _ _ _ _ _ _ _ _ _ _ _ _ _ _ _ _ _ _ _ _ _ _ _ _ _ _ _ _ _ _ _ _ _ _ _ _ _ _ _ _ _ _ _ _ _ _ _ _ _ _ _ _ _ _ _ _ _ _ _ _ _ _ _ _ _ _ _ _ _ _ _ _ _ _ _ _ _ _ _ _ _ _ _ _ _ _ _ _ _ _ _ _ _ _ _ _ _ _ _ _ _ _ _ _ _ _ _ _ _ _ _ _ _ _ _ _ _ _ _ _ _ _ _ _ _ _ _ _ _ _ _ _ _ _ _ _ _ _ _ _ _ _ _ _ _ _ _ _ _ _ J K' hJ hM))
 case rest=>
 intro a' wc hcut;obtain⟨z15,z61,z62,z63,z64,z65,z66,z67,z68,z69,z70,z71,z72,z73,z74,z75,z76,z77,z78,z79,hcut⟩:=hcut;obtain⟨z80,z81,z82,z83,z84,z85,z86,z87,z88,z89,z90,z91,z92,z93,z94,z95,z96,z97,z98,z99,hcut⟩:=hcut;obtain⟨z100,z101,z102,z103,z104,z105,z106,z107,z108,z109,z110,z111,z112,z113,z114,z115,z116,z117,z118,z119,hcut⟩:=hcut;obtain⟨z120,z121,z122,z123,z124,z125,z126,z127,z128,z129,z130,z131,z132,z133,z134,z135,z136,z137,z138,z139,hcut⟩:=hcut;obtain⟨z140,z141,z142,z143,z144,z145,z146,z147,z148,z149,z150,z151,z152,z153,z154,z155,z156,z157,z158,z159,hcut⟩:=hcut;obtain⟨z160,z161,z162,z163,z164,z165,z166,z167,z168,z169,z170,z171,z172,z173,z174,z175,z176,z177,z178,z179,hcut⟩:=hcut;obtain⟨z180,z181,z182,z183,z184,z185,z186,z187,z188,z189,z190,z191,z192,z193,z194,z195,z196,hcut⟩:=hcut;obtain⟨hcut,ha'⟩:=hcut;subst ha';have hmany:=oE sc raw gs gl K ka;have hargs:=rE sc raw gs gl K ka;clear HKD HH3 HC3;apply_assumption
 exact qC s d c k raw sc v1 a1 f1 v2 a2 f2 (gSt sc raw gs gl d) a0 w wr (.slice oa ls.length oc) X (Bz sc raw gs gl K ka) wc HSC.o hsl hc6 hlt ls lk bk HPS.o HFK.o HCK.o HOK.o HNX.o HLN.o HONE.o HCX.o hmany hargs hcut _ _ _ _ _ _ _ _ _ _ _ _ _ _ _ _ _ _ _ _ _ _ _ _ _ _ _ _ _ _ _ _ _ _ _ _ _ _ _ _ _ _ _ _ _ _ _ _ _ _ _ _ _ _ _ _ _ _ _ _ _ _ _ _ _ _ _ _ _ _ _ _ _ _ _ _ _ _ _ _ _ _ _ _ _ _ _ _ _ _ _ _ _ _ _ _ _ _ _ _ _ _ _ _ _ _ _ _ _ _ _ _ _ _ _ _ _ _ _ _ _ _ _ _ _ _ _ _ _ _ _ _ _ _ _ _ _ _ _ _ _ _ _ _ _ _ _ _ _ _ _ _ _ _ _ _ _ _ _ _ _ _ _ _ _ _ _ _ _ _ _ _ _ _ _ _ _ _ _ _ _ _ _ _ _ _ _ _ _ _ _ _ _ _ _ _ _ _ _ _ _ _ _ _ _ _ _ _ _ _ _ _ _ _ _ _ _ _ _ J K' hJ hM
theorem jU(d s c k:Nat)(raw:List Int)(sc:Sc)(v1 a1 f1:Option Addr)(v2 a2 f2:Nat)(gs gl:Nat→List St ×Nat)(a0:Nat)(w wr:World)(v:Value)(hd1:d≤1000)(hsc:Ft s w sc (.slice v1 sc.vars.length v2) (.slice a1 sc.arrays.length a2) (.slice f1 sc.funcs.length f2))(hsl:s<w.heap.size)(hc6:c≤4)(hIH:2≤d→∀w1 b,Ay w1 s raw b→Ft s w1 sc (.slice v1 sc.vars.length v2) (.slice a1 sc.arrays.length a2) (.slice f1 sc.funcs.length f2)→Calls Zb 39 #[.agg #[.slice v1 sc.vars.length v2,.slice a1 sc.arrays.length a2,.slice f1 sc.funcs.length f2,.bool sc.free,.bool sc.loop],.pointer (some ⟨s,0,none⟩),.int .i64 ((d:Int)-1)] w1 (Ib w1 s raw (gs b)))(hIL:2≤d→∀w1 b,Ay w1 s raw b→Ft s w1 sc (.slice v1 sc.vars.length v2) (.slice a1 sc.arrays.length a2) (.slice f1 sc.funcs.length f2)→Calls Zb 39 #[.agg #[.slice v1 sc.vars.length v2,.slice a1 sc.arrays.length a2,.slice f1 sc.funcs.length f2,.bool sc.free,.bool true],.pointer (some ⟨s,0,none⟩),.int .i64 ((d:Int)-1)] w1 (Ib w1 s raw (gl b)))(hlt:k<c)(hinv:cV w s raw (gSt sc raw gs gl d) a0 [.slice v1 sc.vars.length v2,.slice a1 sc.arrays.length a2,.slice f1 sc.funcs.length f2,.bool sc.free,.bool sc.loop] k v wr)(q0 q4 q5 q6 q10 q11 q12 q13 q14 q15 q16 q17 q18 q19 q20 q21 q22 q23 q24 q25 q26 q27 q28 q29 q30 q31 q32 q33 q34 q35 q36 q37 q38 q39 q40 q41 q42 q43 q44 q45 q46 q47 q48 q49 q50 q51 q52 q53 q54 q55 q56 q57 q58 q59 q60 q61 q62 q63 q64 q65 q66 q67 q68 q69 q70 q71 q72 q73 q74 q75 q76 q77 q78 q79 q80 q81 q82 q83 q84 q85 q86 q87 q88 q89 q90 q91 q92 q93 q94 q95 q96 q97 q98 q99 q100 q101 q102 q103 q104 q105 q106 q107 q108 q109 q110 q111 q112 q113 q114 q115 q116 q117 q118 q119 q120 q121 q122 q123 q124 q125 q126 q127 q128 q129 q130 q131 q132 q133 q134 q135 q136 q137 q138 q139 q140 q141 q142 q143 q144 q145 q146 q147 q148 q149 q150 q151 q152 q153 q154 q155 q156 q157 q158 q159 q160 q161 q162 q163 q164 q165 q166 q167 q168 q169 q170 q171 q172 q173 q174 q175 q176 q177 q178 q179 q180 q181 q182 q183 q184 q185 q186 q187 q188 q189 q190 q191 q192 q193 q194 q195 q196 q197 q198 q199 q200 q201 q202 q203 q204 q205 q206 q207 q208 q209 q210 q211 q212 q213 q214 q215 q216 q217 q218 q219 q220 q221 q222 q223 q224 q225:Value)(J K':Act→World→Prop)(hJ:∀a' w',Sq w s d c raw (gSt sc raw gs gl d) a0 [.slice v1 sc.vars.length v2,.slice a1 sc.arrays.length a2,.slice f1 sc.funcs.length f2,.bool sc.free,.bool sc.loop] (k+1) (k+1) a' w'→J a' w')(hM:∀a' w',Met J a' w'→K' a' w'):
  Code.wp Zb pW (Exit.then K' (fun _ _ _=>False)) ⟨[q0,.pointer (some ⟨s,0,none⟩),.int .i64 d,.pointer (some ⟨w.heap.size,0,none⟩),q4,q5,q6,v,.int .i64 c,.int .i64 k,q10,q11,q12,q13,q14,q15,q16,q17,q18,q19,q20,q21,q22,q23,q24,q25,q26,q27,q28,q29,q30,q31,q32,q33,q34,q35,q36,q37,q38,q39,q40,q41,q42,q43,q44,q45,q46,q47,q48,q49,q50,q51,q52,q53,q54,q55,q56,q57,q58,q59,q60,q61,q62,q63,q64,q65,q66,q67,q68,q69,q70,q71,q72,q73,q74,q75,q76,q77,q78,q79,q80,q81,q82,q83,q84,q85,q86,q87,q88,q89,q90,q91,q92,q93,q94,q95,q96,q97,q98,q99,q100,q101,q102,q103,q104,q105,q106,q107,q108,q109,q110,q111,q112,q113,q114,q115,q116,q117,q118,q119,q120,q121,q122,q123,q124,q125,q126,q127,q128,q129,q130,q131,q132,q133,q134,q135,q136,q137,q138,q139,q140,q141,q142,q143,q144,q145,q146,q147,q148,q149,q150,q151,q152,q153,q154,q155,q156,q157,q158,q159,q160,q161,q162,q163,q164,q165,q166,q167,q168,q169,q170,q171,q172,q173,q174,q175,q176,q177,q178,q179,q180,q181,q182,q183,q184,q185,q186,q187,q188,q189,q190,q191,q192,q193,q194,q195,q196,q197,q198,q199,q200,q201,q202,q203,q204,q205,q206,q207,q208,q209,q210,q211,q212,q213,q214,q215,q216,q217,q218,q219,q220,q221,q222,q223,q224,q225].toArray,[]⟩ wr:=by
 have lf:=hsc.f1;have lv:=hsc.v1;have la:=hsc.a1;have HSC:=Za hsc;have HIH:=Za hIH;have HIL:=Za hIL;have HY:Hid (w.heap.size≠s):=by show _≠_;omega
 obtain⟨ls,hps,hsr,hfr,hC,hO⟩:=hinv;obtain⟨oa,oc,rfl⟩:=hO.shape;have HPS:=Za hps;have HSK:=Za hsr;have HFK:=Za hfr;have HCK:=Za hC;have HOK:=Za hO;clear hps hsr hfr hC hO hsc hIH hIL;have HNX:=Za (kS (gSt sc raw gs gl d) k a0);have HLN:Hid (ls.length=k):=by show _=_;have h1:=congrArg List.length HPS.o;rw[Zc,Mw]at h1;exact h1
 generalize Ek (gSt sc raw gs gl d) k a0=mk at HPS HSK HNX;obtain⟨lk,bk⟩:=mk;dsimp only at HPS HSK HNX;have HN:Hid (Calls Zb 37 #[.pointer (some ⟨s,0,none⟩),.int .i64 14] wr (Dx wr s raw (.int .i64 (Ac raw bk 14).1) (Ac raw bk 14).2)):=Cj s raw bk 14 wr HSK.o (by decide) (by decide);have hr:=Ah raw bk 14 (by decide);have hkr:=kK raw d bk;obtain⟨K,hK⟩:∃K,K=Ob raw d bk:=⟨_,rfl⟩;obtain⟨B,hB⟩:∃B,B=decide (d<2∧7≤(Ac raw bk 14).1∧(Ac raw bk 14).1<11):=⟨_,rfl⟩;have hKB:K=if B=true then 0 else(Ac raw bk 14).1:=by rw[hK,hB];unfold Ob;by_cases h:d<2∧7≤(Ac raw bk 14).1∧(Ac raw bk 14).1<11<;>simp [h]
 have hone:gSt sc raw gs gl d bk=Kt sc raw (Bz sc raw gs gl K (Ac raw bk 14).2).1 (Bz sc raw gs gl K (Ac raw bk 14).2).2:=by rw[hK];rfl
 have HONE:=Za hone;rw[←hK]at hkr;obtain⟨hK0,hK1,hKd⟩:=hkr;clear hone hK;generalize Ac raw bk 14=g at*;obtain⟨k0,ka⟩:=g;obtain⟨hk0,hk1⟩:=hr;dsimp only at HN hB hKB HONE hk0 hk1;have HB:=Za hB;have HKB:=Za hKB;have HKD:=Za hKd;clear hB hKB hKd;have hltI:(k:Int)<(c:Int):=by omega
 conv=>arg 2;whnf
 go_wp2_with fail
 refine HN.o.mono ?_;rintro r w2 ⟨rfl,hs2,hf2⟩;have HH3:=Za (Cv.new 8 hs2 hf2);have HC3:=Za ((HCK.o.sfr hf2 HY.o).alloc (.cells #[.int .i64 8,.string ⟨#[]⟩,.slice none 0 0,.slice none 0 0,.slice none 0 0] 60));have hgX:=hf2.size;have hwX:=HCK.o.lt;have hsX:s<w2.heap.size:=hs2.lt;clear hs2 hf2 HN;go_upto_region 7 with(fail)
 go_cut [35]from 19 to 224 (fun q wx=>q=.bool B∧w2=wx)
 case first=>
  by_cases h1:(d:Int)<2
  ·by_cases h2:7≤k0
   ·by_cases h3:k0<11
    ·have e:Hid (B=true):=by show _=_;rw[HB.o];exact decide_eq_true ⟨by omega,h2,h3⟩
     go_wp2_with fail
     go_meet;exact⟨by rw[e.out],rfl⟩
    ·have e:Hid (B=false):=by show _=_;rw[HB.o];exact decide_eq_false (fun h=>h3 h.2.2)
     go_wp2_with fail
     go_meet;exact⟨by rw[e.out],rfl⟩
   ·have e:Hid (B=false):=by show _=_;rw[HB.o];exact decide_eq_false (fun h=>h2 h.2.1)
    go_wp2_with fail
    go_meet;exact⟨by rw[e.out],rfl⟩
  ·have e:Hid (B=false):=by show _=_;rw[HB.o];exact decide_eq_false (fun h=>h1 (by omega))
   go_wp2_with fail
   go_meet;exact⟨by rw[e.out],rfl⟩
 case rest=>
 obtain⟨rfl,rfl⟩:=hcut
 go_upto_if 35 with(fail)
 go_cut [10]from 19 to 224 (fun q wx=>q=.int .i64 K∧w2=wx)
 case first=>
  have hkb:=HKB.o
  cases B
  ·have e:Hid (K=k0):=hkb
   clear hkb;go_wp2_with fail
   go_meet;exact⟨by rw[e.out],rfl⟩
  ·have e:Hid (K=0):=hkb
   clear hkb;go_wp2_with fail
   go_meet;exact⟨by rw[e.out],rfl⟩
 case rest=>
 obtain⟨rfl,rfl⟩:=hcut;clear HB HKB hk0 hk1 HSK;go_upto_region 9 with(fail)
 go_cut [11]from 19 to 224 (fun q wx=>q=.pointer (some ⟨w2.heap.size,0,none⟩)∧w2.alloc (.cells #[.int .i64 8,.string ⟨#[]⟩,.slice none 0 0,.slice none 0 0,.slice none 0 0] 60)=wx)
 case first=>
  go_wp2_with fail
  go_meet;exact⟨rfl,rfl⟩
 case rest=>
 obtain⟨rfl,rfl⟩:=hcut;generalize w2.alloc (.cells #[.int .i64 8,.string ⟨#[]⟩,.slice none 0 0,.slice none 0 0,.slice none 0 0] 60)=W3 at*;generalize w2.heap.size=X at*;apply_assumption
 refine wp_to (sR d s c k raw sc v1 a1 f1 v2 a2 f2 gs gl a0 w wr (.slice oa ls.length oc) hd1 HSC.o hsl hc6 HIH.o HIL.o hlt ls lk bk HPS.o HFK.o HCK.o HOK.o HNX.o HLN.o X K ka W3 HONE.o (show w.heap.size<X by omega) hK0 hK1 HKD.o HC3.o HH3.o _ _ _ _ _ _ _ _ _ _ _ _ _ _ _ _ _ _ _ _ _ _ _ _ _ _ _ _ _ _ _ _ _ _ _ _ _ _ _ _ _ _ _ _ _ _ _ _ _ _ _ _ _ _ _ _ _ _ _ _ _ _ _ _ _ _ _ _ _ _ _ _ _ _ _ _ _ _ _ _ _ _ _ _ _ _ _ _ _ _ _ _ _ _ _ _ _ _ _ _ _ _ _ _ _ _ _ _ _ _ _ _ _ _ _ _ _ _ _ _ _ _ _ _ _ _ _ _ _ _ _ _ _ _ _ _ _ _ _ _ _ _ _ _ _ _ _ _ _ _ _ _ _ _ _ _ _ _ _ _ _ _ _ _ _ _ _ _ _ _ _ _ _ _ _ _ _ _ _ _ _ _ _ _ _ _ _ _ _ _ _ _ _ _ _ _ _ _ _ _ _ _ _ _ _ _ _ _ _ _ _ _ _ _ _ _ _ _ _ _ (fun a' w' hT=>?_) (fun _ _ h=>h));dsimp only[Exit.inBlock,Exit.then];apply_assumption
 obtain⟨v,z0,z4,z5,z6,z10,z11,z12,z13,z14,z15,z16,z17,z18,z19,z20,z21,z22,z23,z24,hT⟩:=hT;obtain⟨z25,z26,z27,z28,z29,z30,z31,z32,z33,z34,z35,z36,z37,z38,z39,z40,z41,z42,z43,z44,hT⟩:=hT;obtain⟨z45,z46,z47,z48,z49,z50,z51,z52,z53,z54,z55,z56,z57,z58,z59,z60,z61,z62,z63,z64,hT⟩:=hT;obtain⟨z65,z66,z67,z68,z69,z70,z71,z72,z73,z74,z75,z76,z77,z78,z79,z80,z81,z82,z83,z84,hT⟩:=hT;obtain⟨z85,z86,z87,z88,z89,z90,z91,z92,z93,z94,z95,z96,z97,z98,z99,z100,z101,z102,z103,z104,hT⟩:=hT;obtain⟨z105,z106,z107,z108,z109,z110,z111,z112,z113,z114,z115,z116,z117,z118,z119,z120,z121,z122,z123,z124,hT⟩:=hT;obtain⟨z125,z126,z127,z128,z129,z130,z131,z132,z133,z134,z135,z136,z137,z138,z139,z140,z141,z142,z143,z144,hT⟩:=hT;obtain⟨z145,z146,z147,z148,z149,z150,z151,z152,z153,z154,z155,z156,z157,z158,z159,z160,z161,z162,z163,z164,hT⟩:=hT;obtain⟨z165,z166,z167,z168,z169,z170,z171,z172,z173,z174,z175,z176,z177,z178,z179,z180,z181,z182,z183,z184,hT⟩:=hT;obtain⟨z185,z186,z187,z188,z189,z190,z191,z192,z193,z194,z195,z196,z197,z198,z199,z200,z201,z202,z203,z204,hT⟩:=hT;obtain⟨z205,z206,z207,z208,z209,z210,z211,z212,z213,z214,z215,z216,z217,z218,z219,z220,z221,z222,z223,z224,hT⟩:=hT;obtain⟨z225,hT⟩:=hT;obtain⟨hT,ha'⟩:=hT;subst ha';have HT:=Za hT;clear hT;go_wp2_with fail
 go_meet;exact HT.o
noncomputable def xE:Code:=((Tryz.f39.body.bind (Kc (Pw 0))).getD .skip)
theorem Sq.meas {w:World}{s d c:Nat}{raw:List Int}{one:Nat→St ×Nat}{a0:Nat}{scs:List Value}{k j:Nat}{a':Act}{w':World}(h:Sq w s d c raw one a0 scs k j a' w'):(intOf (a'.tmps.getD 9 undef)).toNat=k:=by
 obtain⟨v,z0,z4,z5,z6,z10,z11,z12,z13,z14,z15,z16,z17,z18,z19,z20,z21,z22,z23,z24,h⟩:=h;obtain⟨z25,z26,z27,z28,z29,z30,z31,z32,z33,z34,z35,z36,z37,z38,z39,z40,z41,z42,z43,z44,h⟩:=h;obtain⟨z45,z46,z47,z48,z49,z50,z51,z52,z53,z54,z55,z56,z57,z58,z59,z60,z61,z62,z63,z64,h⟩:=h;obtain⟨z65,z66,z67,z68,z69,z70,z71,z72,z73,z74,z75,z76,z77,z78,z79,z80,z81,z82,z83,z84,h⟩:=h;obtain⟨z85,z86,z87,z88,z89,z90,z91,z92,z93,z94,z95,z96,z97,z98,z99,z100,z101,z102,z103,z104,h⟩:=h;obtain⟨z105,z106,z107,z108,z109,z110,z111,z112,z113,z114,z115,z116,z117,z118,z119,z120,z121,z122,z123,z124,h⟩:=h;obtain⟨z125,z126,z127,z128,z129,z130,z131,z132,z133,z134,z135,z136,z137,z138,z139,z140,z141,z142,z143,z144,h⟩:=h;obtain⟨z145,z146,z147,z148,z149,z150,z151,z152,z153,z154,z155,z156,z157,z158,z159,z160,z161,z162,z163,z164,h⟩:=h;obtain⟨z165,z166,z167,z168,z169,z170,z171,z172,z173,z174,z175,z176,z177,z178,z179,z180,z181,z182,z183,z184,h⟩:=h;obtain⟨z185,z186,z187,z188,z189,z190,z191,z192,z193,z194,z195,z196,z197,z198,z199,z200,z201,z202,z203,z204,h⟩:=h;obtain⟨z205,z206,z207,z208,z209,z210,z211,z212,z213,z214,z215,z216,z217,z218,z219,z220,z221,z222,z223,z224,h⟩:=h;obtain⟨z225,h⟩:=h;obtain⟨_,ha'⟩:=h;subst ha';show(intOf (.int .i64 (k:Int))).toNat=k
 simp [intOf]
theorem pJ(d s c:Nat)(raw:List Int)(sc:Sc)(v1 a1 f1:Option Addr)(v2 a2 f2:Nat)(gs gl:Nat→List St ×Nat)(a0:Nat)(w w2:World)(hd1:d≤1000)(hsc:Ft s w sc (.slice v1 sc.vars.length v2) (.slice a1 sc.arrays.length a2) (.slice f1 sc.funcs.length f2))(hsl:s<w.heap.size)(hc6:c≤4)(hIH:2≤d→∀w1 b,Ay w1 s raw b→Ft s w1 sc (.slice v1 sc.vars.length v2) (.slice a1 sc.arrays.length a2) (.slice f1 sc.funcs.length f2)→Calls Zb 39 #[.agg #[.slice v1 sc.vars.length v2,.slice a1 sc.arrays.length a2,.slice f1 sc.funcs.length f2,.bool sc.free,.bool sc.loop],.pointer (some ⟨s,0,none⟩),.int .i64 ((d:Int)-1)] w1 (Ib w1 s raw (gs b)))(hIL:2≤d→∀w1 b,Ay w1 s raw b→Ft s w1 sc (.slice v1 sc.vars.length v2) (.slice a1 sc.arrays.length a2) (.slice f1 sc.funcs.length f2)→Calls Zb 39 #[.agg #[.slice v1 sc.vars.length v2,.slice a1 sc.arrays.length a2,.slice f1 sc.funcs.length f2,.bool sc.free,.bool true],.pointer (some ⟨s,0,none⟩),.int .i64 ((d:Int)-1)] w1 (Ib w1 s raw (gl b)))(hinv:cV w s raw (gSt sc raw gs gl d) a0 [.slice v1 sc.vars.length v2,.slice a1 sc.arrays.length a2,.slice f1 sc.funcs.length f2,.bool sc.free,.bool sc.loop] 0 (.slice none 0 0) w2)(q0 q4 q5 q6 q10 q11 q12 q13 q14 q15 q16 q17 q18 q19 q20 q21 q22 q23 q24 q25 q26 q27 q28 q29 q30 q31 q32 q33 q34 q35 q36 q37 q38 q39 q40 q41 q42 q43 q44 q45 q46 q47 q48 q49 q50 q51 q52 q53 q54 q55 q56 q57 q58 q59 q60 q61 q62 q63 q64 q65 q66 q67 q68 q69 q70 q71 q72 q73 q74 q75 q76 q77 q78 q79 q80 q81 q82 q83 q84 q85 q86 q87 q88 q89 q90 q91 q92 q93 q94 q95 q96 q97 q98 q99 q100 q101 q102 q103 q104 q105 q106 q107 q108 q109 q110 q111 q112 q113 q114 q115 q116 q117 q118 q119 q120 q121 q122 q123 q124 q125 q126 q127 q128 q129 q130 q131 q132 q133 q134 q135 q136 q137 q138 q139 q140 q141 q142 q143 q144 q145 q146 q147 q148 q149 q150 q151 q152 q153 q154 q155 q156 q157 q158 q159 q160 q161 q162 q163 q164 q165 q166 q167 q168 q169 q170 q171 q172 q173 q174 q175 q176 q177 q178 q179 q180 q181 q182 q183 q184 q185 q186 q187 q188 q189 q190 q191 q192 q193 q194 q195 q196 q197 q198 q199 q200 q201 q202 q203 q204 q205 q206 q207 q208 q209 q210 q211 q212 q213 q214 q215 q216 q217 q218 q219 q220 q221 q222 q223 q224 q225:Value)(J K':Act→World→Prop)(hJ:∀a' w',Sq w s d c raw (gSt sc raw gs gl d) a0 [.slice v1 sc.vars.length v2,.slice a1 sc.arrays.length a2,.slice f1 sc.funcs.length f2,.bool sc.free,.bool sc.loop] c c a' w'→J a' w')(hM:∀a' w',Met J a' w'→K' a' w'):
  Code.wp Zb xE (Exit.then K' (fun _ _ _=>False)) ⟨[q0,.pointer (some ⟨s,0,none⟩),.int .i64 d,.pointer (some ⟨w.heap.size,0,none⟩),q4,q5,q6,.slice none 0 0,.int .i64 c,.int .i64 (0:Nat),q10,q11,q12,q13,q14,q15,q16,q17,q18,q19,q20,q21,q22,q23,q24,q25,q26,q27,q28,q29,q30,q31,q32,q33,q34,q35,q36,q37,q38,q39,q40,q41,q42,q43,q44,q45,q46,q47,q48,q49,q50,q51,q52,q53,q54,q55,q56,q57,q58,q59,q60,q61,q62,q63,q64,q65,q66,q67,q68,q69,q70,q71,q72,q73,q74,q75,q76,q77,q78,q79,q80,q81,q82,q83,q84,q85,q86,q87,q88,q89,q90,q91,q92,q93,q94,q95,q96,q97,q98,q99,q100,q101,q102,q103,q104,q105,q106,q107,q108,q109,q110,q111,q112,q113,q114,q115,q116,q117,q118,q119,q120,q121,q122,q123,q124,q125,q126,q127,q128,q129,q130,q131,q132,q133,q134,q135,q136,q137,q138,q139,q140,q141,q142,q143,q144,q145,q146,q147,q148,q149,q150,q151,q152,q153,q154,q155,q156,q157,q158,q159,q160,q161,q162,q163,q164,q165,q166,q167,q168,q169,q170,q171,q172,q173,q174,q175,q176,q177,q178,q179,q180,q181,q182,q183,q184,q185,q186,q187,q188,q189,q190,q191,q192,q193,q194,q195,q196,q197,q198,q199,q200,q201,q202,q203,q204,q205,q206,q207,q208,q209,q210,q211,q212,q213,q214,q215,q216,q217,q218,q219,q220,q221,q222,q223,q224,q225].toArray,[]⟩ w2:=by
 conv=>arg 2;whnf
 refine wp_block (wp_loop (fun a' w'=> ∃k,k≤c∧Sq w s d c raw (gSt sc raw gs gl d) a0 [.slice v1 sc.vars.length v2,.slice a1 sc.arrays.length a2,.slice f1 sc.funcs.length f2,.bool sc.free,.bool sc.loop] k k a' w') (fun a' _=>c-(intOf (a'.tmps.getD 9 undef)).toNat) ⟨0,Nat.zero_le _,.slice none 0 0,q0,q4,q5,q6,q10,q11,q12,q13,q14,q15,q16,q17,q18,q19,q20,q21,q22,q23,q24,q25,q26,q27,q28,q29,q30,q31,q32,q33,q34,q35,q36,q37,q38,q39,q40,q41,q42,q43,q44,q45,q46,q47,q48,q49,q50,q51,q52,q53,q54,q55,q56,q57,q58,q59,q60,q61,q62,q63,q64,q65,q66,q67,q68,q69,q70,q71,q72,q73,q74,q75,q76,q77,q78,q79,q80,q81,q82,q83,q84,q85,q86,q87,q88,q89,q90,q91,q92,q93,q94,q95,q96,q97,q98,q99,q100,q101,q102,q103,q104,q105,q106,q107,q108,q109,q110,q111,q112,q113,q114,q115,q116,q117,q118,q119,q120,q121,q122,q123,q124,q125,q126,q127,q128,q129,q130,q131,q132,q133,q134,q135,q136,q137,q138,q139,q140,q141,q142,q143,q144,q145,q146,q147,q148,q149,q150,q151,q152,q153,q154,q155,q156,q157,q158,q159,q160,q161,q162,q163,q164,q165,q166,q167,q168,q169,q170,q171,q172,q173,q174,q175,q176,q177,q178,q179,q180,q181,q182,q183,q184,q185,q186,q187,q188,q189,q190,q191,q192,q193,q194,q195,q196,q197,q198,q199,q200,q201,q202,q203,q204,q205,q206,q207,q208,q209,q210,q211,q212,q213,q214,q215,q216,q217,q218,q219,q220,q221,q222,q223,q224,q225,hinv,rfl⟩ ?_);intro a' w' hI;obtain⟨k,hk,hI⟩:=hI;have hme:=hI.meas;obtain⟨v,z0,z4,z5,z6,z10,z11,z12,z13,z14,z15,z16,z17,z18,z19,z20,z21,z22,z23,z24,hI⟩:=hI;obtain⟨z25,z26,z27,z28,z29,z30,z31,z32,z33,z34,z35,z36,z37,z38,z39,z40,z41,z42,z43,z44,hI⟩:=hI
 obtain⟨z45,z46,z47,z48,z49,z50,z51,z52,z53,z54,z55,z56,z57,z58,z59,z60,z61,z62,z63,z64,hI⟩:=hI;obtain⟨z65,z66,z67,z68,z69,z70,z71,z72,z73,z74,z75,z76,z77,z78,z79,z80,z81,z82,z83,z84,hI⟩:=hI;obtain⟨z85,z86,z87,z88,z89,z90,z91,z92,z93,z94,z95,z96,z97,z98,z99,z100,z101,z102,z103,z104,hI⟩:=hI;obtain⟨z105,z106,z107,z108,z109,z110,z111,z112,z113,z114,z115,z116,z117,z118,z119,z120,z121,z122,z123,z124,hI⟩:=hI;obtain⟨z125,z126,z127,z128,z129,z130,z131,z132,z133,z134,z135,z136,z137,z138,z139,z140,z141,z142,z143,z144,hI⟩:=hI;obtain⟨z145,z146,z147,z148,z149,z150,z151,z152,z153,z154,z155,z156,z157,z158,z159,z160,z161,z162,z163,z164,hI⟩:=hI;obtain⟨z165,z166,z167,z168,z169,z170,z171,z172,z173,z174,z175,z176,z177,z178,z179,z180,z181,z182,z183,z184,hI⟩:=hI;obtain⟨z185,z186,z187,z188,z189,z190,z191,z192,z193,z194,z195,z196,z197,z198,z199,z200,z201,z202,z203,z204,hI⟩:=hI;obtain⟨z205,z206,z207,z208,z209,z210,z211,z212,z213,z214,z215,z216,z217,z218,z219,z220,z221,z222,z223,z224,hI⟩:=hI;obtain⟨z225,hI⟩:=hI;obtain⟨hI,ha'⟩:=hI;subst ha'
 by_cases hlt:k<c
 ·refine Gs (jU d s c k raw sc v1 a1 f1 v2 a2 f2 gs gl a0 w w' v hd1 hsc hsl hc6 hIH hIL hlt hI z0 z4 z5 z6 z10 z11 z12 z13 z14 z15 z16 z17 z18 z19 z20 z21 z22 z23 z24 z25 z26 z27 z28 z29 z30 z31 z32 z33 z34 z35 z36 z37 z38 z39 z40 z41 z42 z43 z44 z45 z46 z47 z48 z49 z50 z51 z52 z53 z54 z55 z56 z57 z58 z59 z60 z61 z62 z63 z64 z65 z66 z67 z68 z69 z70 z71 z72 z73 z74 z75 z76 z77 z78 z79 z80 z81 z82 z83 z84 z85 z86 z87 z88 z89 z90 z91 z92 z93 z94 z95 z96 z97 z98 z99 z100 z101 z102 z103 z104 z105 z106 z107 z108 z109 z110 z111 z112 z113 z114 z115 z116 z117 z118 z119 z120 z121 z122 z123 z124 z125 z126 z127 z128 z129 z130 z131 z132 z133 z134 z135 z136 z137 z138 z139 z140 z141 z142 z143 z144 z145 z146 z147 z148 z149 z150 z151 z152 z153 z154 z155 z156 z157 z158 z159 z160 z161 z162 z163 z164 z165 z166 z167 z168 z169 z170 z171 z172 z173 z174 z175 z176 z177 z178 z179 z180 z181 z182 z183 z184 z185 z186 z187 z188 z189 z190 z191 z192 z193 z194 z195 z196 z197 z198 z199 z200 z201 z202 z203 z204 z205 z206 z207 z208 z209 z210 z211 z212 z213 z214 z215 z216 z217 z218 z219 z220 z221 z222 z223 z224 z225 _ _ (fun a' w' hT=>⟨⟨k+1,hlt,hT⟩,?_⟩) (fun _ _ h=>h))
  rw[hT.meas,hme];omega
 ·obtain rfl:k=c:=by omega
  have HI:=Za hI;clear hI hme hk hlt hIH hIL hinv;go_wp2_with fail
  go_meet;exact HI.o
def Rw(w:World)(s:Nat)(raw:List Int)(x:List St ×Nat)(r:Ending)(w':World):Prop:=
 ∃v ls,r=.returned v∧Ay w' s raw x.2∧SFr s w w'∧ls.map (·.x)=x.1∧ls.length≤4∧Dq w' (w.heap.size+1) ls v
theorem Rw.sts {w w':World}{s:Nat}{raw:List Int}{x:List St ×Nat}{r:Ending}(h:Rw w s raw x r w'):Ib w s raw x r w':=by
 obtain⟨v,ls,h1,h2,h3,h4,h5,h6⟩:=h;have q:=h6.sts (show ls.length≤140737488355328 by omega);rw[h4]at q;exact⟨v,h1,h2,h3,q.mono (fun b h=>(Nat.le_trans (by omega) h:w.heap.size≤b))⟩
def gJ(d:Nat):Prop:= ∀(s:Nat) (raw:List Int) (a:Nat) (sc:Sc) (vv av fv:Value) (w:World),Ay w s raw a→Ft s w sc vv av fv→
 Calls Zb 39 #[scV sc vv av fv,.pointer (some ⟨s,0,none⟩),.int .i64 d] w (Rw w s raw (Di raw d sc a))
theorem gV(d:Nat)(hd1:d≤1000)(ih:2≤d→Pt (d-1)):gJ d:=by
 intro s raw a sc vv av fv w hs hsc;obtain⟨gs,gl,E,hgs⟩:=jZ raw d sc;rw[E];clear E;obtain⟨v1,v2,rfl⟩:=hsc.vars.shape;obtain⟨a1,a2,rfl⟩:=hsc.arrays.shape;obtain⟨f1,f2,rfl⟩:=hsc.funcs.shape;have hsl:=hs.lt;have hb1:Below w.heap.size w (w.alloc (.cells #[.slice v1 sc.vars.length v2,.slice a1 sc.arrays.length a2,.slice f1 sc.funcs.length f2,.bool sc.free,.bool sc.loop] 73)):=bA;have HC1:=Za (Ae.new w [.slice v1 sc.vars.length v2,.slice a1 sc.arrays.length a2,.slice f1 sc.funcs.length f2,.bool sc.free,.bool sc.loop] 73);have HS1:=Za (hs.old hb1);have HF1:Hid (SFr s w (w.alloc (.cells #[.slice v1 sc.vars.length v2,.slice a1 sc.arrays.length a2,.slice f1 sc.funcs.length f2,.bool sc.free,.bool sc.loop] 73))):=SFr.of_below hb1;have HSC:=Za hsc;have HY:Hid (w.heap.size≠s):=by show _≠_;omega
 have HN:Hid (∀w1,Ay w1 s raw a→Calls Zb 37 #[.pointer (some ⟨s,0,none⟩),.int .i64 5] w1 (Dx w1 s raw (.int .i64 (Ac raw a 5).1) (Ac raw a 5).2)):=fun w1 h1=>Cj s raw a 5 w1 h1 (by decide) (by decide)
 have HIH:Hid (2≤d→∀w1 b,Ay w1 s raw b→Ft s w1 sc (.slice v1 sc.vars.length v2) (.slice a1 sc.arrays.length a2) (.slice f1 sc.funcs.length f2)→Calls Zb 39 #[.agg #[.slice v1 sc.vars.length v2,.slice a1 sc.arrays.length a2,.slice f1 sc.funcs.length f2,.bool sc.free,.bool sc.loop],.pointer (some ⟨s,0,none⟩),.int .i64 ((d:Int)-1)] w1 (Ib w1 s raw (gs b))):=fun h w1 b h1 h2=>by
  have q:=ih h s raw b sc _ _ _ w1 h1 h2;rw[(hgs h).1];rw[show((d-1:Nat):Int)=(d:Int)-1 by omega]at q;exact q
 have HIL:Hid (2≤d→∀w1 b,Ay w1 s raw b→Ft s w1 sc (.slice v1 sc.vars.length v2) (.slice a1 sc.arrays.length a2) (.slice f1 sc.funcs.length f2)→Calls Zb 39 #[.agg #[.slice v1 sc.vars.length v2,.slice a1 sc.arrays.length a2,.slice f1 sc.funcs.length f2,.bool sc.free,.bool true],.pointer (some ⟨s,0,none⟩),.int .i64 ((d:Int)-1)] w1 (Ib w1 s raw (gl b))):=fun h w1 b h1 h2=>by
  have q:=ih h s raw b sc.inLoop _ _ _ w1 h1 h2.inLoop;rw[(hgs h).2];rw[show((d-1:Nat):Int)=(d:Int)-1 by omega]at q;exact q
 have hr:=Ah raw a 5 (by decide);generalize Ac raw a 5=g at*;obtain⟨c,a0⟩:=g;obtain⟨c0,c1⟩:=hr;dsimp only at*;obtain⟨c,rfl⟩:=Int.eq_ofNat_of_zero_le c0;rw[Int.toNat_natCast];have hc6:c≤4:=by omega
 clear hb1 hs hsc ih hgs c0 c1;unfold scV;go_enter func39,ntmps39
 go_wp2_with fail
 refine(HN.o _ HS1.o).mono ?_;rintro r w2 ⟨rfl,hs2,hf2⟩;have HI2:Hid (cV w s raw (gSt sc raw gs gl d) a0 [.slice v1 sc.vars.length v2,.slice a1 sc.arrays.length a2,.slice f1 sc.funcs.length f2,.bool sc.free,.bool sc.loop] 0 (.slice none 0 0) w2):=⟨[],rfl,hs2,HF1.o.trans hf2,HC1.o.sfr hf2 HY.o,Dq.zero _ _⟩;clear hs2 hf2 HS1 HF1 HC1 HN
 go_upto_block 0 with(fail)
 refine wp_cut (fun a' w'=>Sq w s d c raw (gSt sc raw gs gl d) a0 [.slice v1 sc.vars.length v2,.slice a1 sc.arrays.length a2,.slice f1 sc.funcs.length f2,.bool sc.free,.bool sc.loop] c c a' w') ?rest (fun J K' hJ hM=>Gs (pJ d s c raw sc v1 a1 f1 v2 a2 f2 gs gl a0 w w2 hd1 HSC.o hsl hc6 HIH.o HIL.o HI2.o _ _ _ _ _ _ _ _ _ _ _ _ _ _ _ _ _ _ _ _ _ _ _ _ _ _ _ _ _ _ _ _ _ _ _ _ _ _ _ _ _ _ _ _ _ _ _ _ _ _ _ _ _ _ _ _ _ _ _ _ _ _ _ _ _ _ _ _ _ _ _ _ _ _ _ _ _ _ _ _ _ _ _ _ _ _ _ _ _ _ _ _ _ _ _ _ _ _ _ _ _ _ _ _ _ _ _ _ _ _ _ _ _ _ _ _ _ _ _ _ _ _ _ _ _ _ _ _ _ _ _ _ _ _ _ _ _ _ _ _ _ _ _ _ _ _ _ _ _ _ _ _ _ _ _ _ _ _ _ _ _ _ _ _ _ _ _ _ _ _ _ _ _ _ _ _ _ _ _ _ _ _ _ _ _ _ _ _ _ _ _ _ _ _ _ _ _ _ _ _ _ _ _ _ _ _ _ _ _ _ _ _ _ _ _ _ _ _ _ _ J K' hJ hM))
 case rest=>
 intro a' wc hT;obtain⟨v,z0,z4,z5,z6,z10,z11,z12,z13,z14,z15,z16,z17,z18,z19,z20,z21,z22,z23,z24,hT⟩:=hT;obtain⟨z25,z26,z27,z28,z29,z30,z31,z32,z33,z34,z35,z36,z37,z38,z39,z40,z41,z42,z43,z44,hT⟩:=hT;obtain⟨z45,z46,z47,z48,z49,z50,z51,z52,z53,z54,z55,z56,z57,z58,z59,z60,z61,z62,z63,z64,hT⟩:=hT;obtain⟨z65,z66,z67,z68,z69,z70,z71,z72,z73,z74,z75,z76,z77,z78,z79,z80,z81,z82,z83,z84,hT⟩:=hT;obtain⟨z85,z86,z87,z88,z89,z90,z91,z92,z93,z94,z95,z96,z97,z98,z99,z100,z101,z102,z103,z104,hT⟩:=hT;obtain⟨z105,z106,z107,z108,z109,z110,z111,z112,z113,z114,z115,z116,z117,z118,z119,z120,z121,z122,z123,z124,hT⟩:=hT;obtain⟨z125,z126,z127,z128,z129,z130,z131,z132,z133,z134,z135,z136,z137,z138,z139,z140,z141,z142,z143,z144,hT⟩:=hT;obtain⟨z145,z146,z147,z148,z149,z150,z151,z152,z153,z154,z155,z156,z157,z158,z159,z160,z161,z162,z163,z164,hT⟩:=hT;obtain⟨z165,z166,z167,z168,z169,z170,z171,z172,z173,z174,z175,z176,z177,z178,z179,z180,z181,z182,z183,z184,hT⟩:=hT;obtain⟨z185,z186,z187,z188,z189,z190,z191,z192,z193,z194,z195,z196,z197,z198,z199,z200,z201,z202,z203,z204,hT⟩:=hT;obtain⟨z205,z206,z207,z208,z209,z210,z211,z212,z213,z214,z215,z216,z217,z218,z219,z220,z221,z222,z223,z224,hT⟩:=hT;obtain⟨z225,hT⟩:=hT;obtain⟨hT,ha'⟩:=hT;subst ha';obtain⟨ls,hps,hsr,hfr,hC,hO⟩:=hT;obtain⟨oa,oc,rfl⟩:=hO.shape;have hlen:ls.length≤4:=by have h1:=congrArg List.length hps;rw[Zc,Mw]at h1;omega
 have HX9:=Za hO;have HPS:=Za hps;have HLE:=Za hlen;have HSR:=Za hsr;have HFR:=Za hfr;clear hps hsr hfr hC hO hlen HIH HIL HI2;go_wp2_with fail
 go_ret
 exact⟨_,ls,rfl,HSR.o,HFR.o,HPS.o,HLE.o,HX9.o⟩
theorem aW(d:Nat)(hd1:d≤1000)(ih:2≤d→Pt (d-1)):Pt d:=fun s raw a sc vv av fv w h1 h2=>(gV d hd1 ih s raw a sc vv av fv w h1 h2).mono (fun _ _ h=>h.sts)
theorem bN:∀d:Nat,d≤1000→Pt d
 |0,h=>aW 0 h (fun h=>absurd h (by decide))
 |d+1,h=>aW (d+1) h (fun _=>bN d (by omega))
theorem pC(d:Nat)(h:d≤1000):gJ d:=gV d h (fun _=>bN (d-1) (by omega))
theorem infoAr:(Tryz.prog.info? 85).map (fun i=>(i.zero,i.size,i.bytes))=some (some (.agg #[.string ⟨#[]⟩,.int .i64 0]),2,24):=by kernel_rfl
theorem mE:(Tryz.prog.info? 58).map (fun i=>(i.zero,i.size,i.bytes))=some (some (.agg #[.string ⟨#[]⟩,.slice none 0 0,.slice none 0 0,.slice none 0 0]),4,88):=by kernel_rfl
theorem infoStr:(Tryz.prog.info? 9).map (fun i=>(i.zero,i.size,i.bytes))=some (some (.string ⟨#[]⟩),1,16):=by kernel_rfl
def Bl(D:Nat→Prop)(w w':World):Prop:= ∀k,D k→k<w.heap.size→w'.heap[k]? =w.heap[k]?
theorem Bl.keeps {D:Nat→Prop}{w w':World}(h:Bl D w w'):Ed D w w':=fun b off x hD hx=>by
 rw[World.cell?_of_block (w:=w) (h b hD (World.block_lt_of_cell? _ _ hx))];exact hx
theorem Bl.mono {D D':Nat→Prop}{w w':World}(h:Bl D' w w')(hD:∀b,D b→D' b):Bl D w w':=fun k hk hl=>h k (hD k hk) hl
theorem Bl.below {D:Nat→Prop}{w w':World}(h:Below w.heap.size w w'):Bl D w w':=fun k _ hl=>h.block k hl
theorem Bl.sfr {s:Nat}{D:Nat→Prop}{w w':World}(h:SFr s w w')(hD:∀b,D b→b≠s):Bl D w w':=fun k hk hl=>h.block k hl (hD k hk)
theorem Bl.set {D:Nat→Prop}(w:World){k:Nat}(hD:¬D k)(i:Nat)(v:Value):Bl D w (w.setCell ⟨k,i,none⟩ v):=fun b hb hl=>Below.heap_setCell _ _ _ _ (by rintro rfl;exact hD hb)
theorem Jp {D:Nat→Prop}{w w':World}{base size n:Nat}{e:TypeId}{v:Value}{xs:List Value}(h:w.ownsRow base e size v n xs)(hD:∀k,v.ownBlock=some k→D k)(hk:Bl D w w'):w'.ownsRow base e size v n xs:=by
 refine⟨h.1,?_⟩;rcases h.2 with hn|⟨g,cap,cur,rfl,hb,hg,r⟩
 ·exact .inl hn
 ·refine .inr ⟨g,cap,cur,rfl,hb,?_,r⟩
  rw[hk g (hD g rfl) (by
   rcases Nat.lt_or_ge g w.heap.size with h'|h'
   ·exact h'
   ·simp [Array.getElem?_eq_none h']at hg)]
  exact hg
theorem Lk {w:World}{base size n g:Nat}{e:TypeId}{cap:Nat}{xs:List Value}(h:w.ownsRow base e size (.slice (some ⟨g,0,none⟩) n cap) n xs)(j:Nat)(u:Value)(hu:xs[j]? =some u):w.cell? ⟨g,0+j,none⟩=some u:=by
 have h1:=h.cells (g:=g) rfl j u hu;have h2:(⟨g,0,none⟩:Addr).add j=⟨g,0+j,none⟩:=by unfold Addr.add;split<;>simp_all
 rwa[h2]at h1
theorem Rr {α:Type}(f:α→List Value)(k:Nat)(hf:∀x,(f x).length=k):∀(l:List α) (i q:Nat) (p:α),l[i]? =some p→q<k→(l.flatMap f)[i*k+q]? =(f p)[q]?
 |[],i,q,p,h,_=>by simp at h
 |x::l,0,q,p,h,hq=>by
  simp at h;subst h;rw[List.flatMap_cons,List.getElem?_append_left (by rw[hf];omega)];simp
 |x::l,i+1,q,p,h,hq=>by
  simp at h;have:=Rr f k hf l i q p h hq;rw[List.flatMap_cons,List.getElem?_append_right (by rw[hf,Nat.add_mul];omega),←this];congr 1;rw[hf,Nat.add_mul];omega
def Il(a:Ar):List Value:=[.string (Aa a.name),.int .i64 a.size]
def Df(w:World)(base:Nat)(l:List Ar)(v:Value):Prop:=w.ownsRow base 85 2 v l.length (l.flatMap Il)
theorem Df.zero(w:World)(base:Nat):Df w base [] (.slice none 0 0):=⟨rfl,.inl ⟨rfl,rfl⟩⟩
theorem Df.shape {w:World}{base:Nat}{l:List Ar}{v:Value}(h:Df w base l v):∃a cap,v=.slice a l.length cap:=by
 rcases h.2 with⟨rfl,h0⟩|⟨g,cap,cur,rfl,_⟩
 ·exact⟨none,0,by rw[h0]⟩
 ·exact⟨_,_,rfl⟩
theorem Df.ge {w:World}{base:Nat}{l:List Ar}{v:Value}(h:Df w base l v){k:Nat}(hk:v.ownBlock=some k):base≤k∧k<w.heap.size:=World.ownsRow.lt h k hk
theorem Df.keep {w w':World}{base:Nat}{l:List Ar}{v:Value}(h:Df w base l v)(hk:Bl (base≤ ·) w w'):Df w' base l v:=Jp h (fun k e=>(h.ge e).1) hk
theorem Df.ars {w:World}{base:Nat}{l:List Ar}{v:Value}(h:Df w base l v)(hf:Ct l.length):Bt (base≤ ·) w l v:=by
 have h0:=h;rcases h.2 with⟨rfl,hz⟩|⟨g,cap,cur,rfl,hb,hg,hc,hm,hs,ht⟩
 ·have:l=[]:=Ze.1 hz
  subst this;exact Bt.zero
 ·refine⟨_,cap,g,0,rfl,hc,hf,.inr ⟨rfl,hb⟩,fun i hi=>?_⟩
  have hp:l[i]? =some (Kz l i):=by simp [Kz,Zd hi]
  have f0:=Rr Il 2 (fun _=>rfl) l i 0 _ hp (by decide);have f1:=Rr Il 2 (fun _=>rfl) l i 1 _ hp (by decide);have c0:=Lk h0 (i*2+0) _ f0;have c1:=Lk h0 (i*2+1) _ f1;rw[show 0+(i*2+0)=0+i*2 by omega]at c0;rw[show 0+(i*2+1)=0+i*2+1 by omega]at c1;exact⟨c0,c1⟩
theorem Df.snoc {w':World}{base:Nat}{l:List Ar}(a:Ar){g cap:Nat}(hown:w'.ownsRow base 85 2 (.slice (some ⟨g,0,none⟩) (l.length+1) cap) (l.length+1) (l.flatMap Il++Il a)):
  Df w' base (l++[a]) (.slice (some ⟨g,0,none⟩) (l.length+1) cap):=by
 unfold Df;rw[List.length_append,List.flatMap_append];simpa using hown
theorem Uq(a:Ar):∀u,u∈Il a→u.oneCell'=true:=by
 intro u hu;simp only[Il,List.mem_cons,List.not_mem_nil,or_false]at hu;rcases hu with rfl|rfl<;>rfl
def Hr(w:World)(D:Nat→Prop)(ls:List StV)(v:Value):Prop:=
 w.ownsRow 0 60 5 v ls.length (Jd ls)∧(∀k,v.ownBlock=some k→D k∧k<w.heap.size)∧∀p,p∈ls→Fi (fun k=>D k∧v.ownBlock≠some k) w p
theorem Yd {w:World}{base size n:Nat}{e:TypeId}{v:Value}{xs:List Value}(h:w.ownsRow base e size v n xs){b':Nat}(hb:∀k,v.ownBlock=some k→b'≤k):w.ownsRow b' e size v n xs:=by
 refine⟨h.1,?_⟩;rcases h.2 with hn|⟨g,cap,cur,rfl,_,r⟩
 ·exact .inl hn
 ·exact .inr ⟨g,cap,cur,rfl,hb g rfl,r⟩
theorem Dq.toD {w:World}{base:Nat}{ls:List StV}{v:Value}(h:Dq w base ls v):Hr w (base≤ ·) ls v:=
 ⟨Yd h.1 (fun _ _=>Nat.zero_le _),fun k e=>h.ge e,h.2⟩
theorem Hr.zero(w:World)(D:Nat→Prop):Hr w D [] (.slice none 0 0):=⟨⟨rfl,.inl ⟨rfl,rfl⟩⟩,fun k e=>(by cases e),fun p hp=>(by cases hp)⟩
theorem Hr.keep {D:Nat→Prop}{w w':World}{ls:List StV}{v:Value}(h:Hr w D ls v)(hk:Bl D w w')(hz:w.heap.size≤w'.heap.size):Hr w' D ls v:=
 ⟨Jp h.1 (fun k e=>(h.2.1 k e).1) hk,fun k e=>⟨(h.2.1 k e).1,Nat.lt_of_lt_of_le (h.2.1 k e).2 hz⟩,fun p hp=>(h.2.2 p hp).keep (hk.mono (fun b hb=>hb.1)).keeps⟩
theorem Hr.mono {D D':Nat→Prop}{w:World}{ls:List StV}{v:Value}(h:Hr w D ls v)(hD:∀b,D b→b<w.heap.size→D' b):Hr w D' ls v:=
 ⟨h.1,fun k e=>⟨hD k (h.2.1 k e).1 (h.2.1 k e).2,(h.2.1 k e).2⟩,fun p hp=>(h.2.2 p hp).strong.mono (fun b hb=>⟨hD b hb.1.1 hb.2,hb.1.2⟩)⟩
theorem Hr.sts {D:Nat→Prop}{w:World}{ps:List StV}{v:Value}(h:Hr w D ps v)(hf:Ct ps.length):Ax D w (ps.map (·.x)) v:=by
 have hl:(ps.map (·.x)).length=ps.length:=Zc _;rcases h.1.2 with⟨rfl,h0⟩|⟨g,cap,cur,rfl,hb,hg,hc,hm,hs,ht⟩
 ·have:ps=[]:=Ze.1 h0
  subst this;exact Ax.zero
 ·have cell:∀i q p u,ps[i]? =some p→q<5→(Hc p.x p.a p.t p.e)[q]? =some u→w.cell? ⟨g,0+i*5+q,none⟩=some u:=by
   intro i q p u hp hq hu;have h1:=Lk h.1 (i*5+q) u (by rw[Ti ps i q p hp hq];exact hu)
   rwa[show 0+(i*5+q)=0+i*5+q by omega]at h1
  have gp:∀i,i<ps.length→∃p,ps[i]? =some p∧Ht (ps.map (·.x)) i=p.x∧p∈ps:=by
   intro i hi;refine⟨ps[i],Zd hi,?_,List.getElem_mem hi⟩;simp [Ht,Zd hi]
  let z:StV:=⟨St.nil,undef,undef,undef⟩
  have e:=Ax.mk (D:=D) (w:=w) (ps.map (·.x)) (some ⟨g,0,none⟩) cap g 0 (fun i=>(ps.getD i z).a) (fun i=>(ps.getD i z).t) (fun i=>(ps.getD i z).e) (by rw[hl];exact hc) (by rw[hl];exact hf) (.inr ⟨rfl,(h.2.1 g rfl).1⟩);rw[hl]at e;have sv:∀i p,ps[i]? =some p→ps.getD i z=p:=fun i p hp=>by rw[List.getD_eq_getElem?_getD,hp];rfl
  refine e (fun i hi=>?_) (fun i hi=>?_) (fun i hi=>?_) (fun i hi=>?_) (fun i hi=>?_) (fun i hi=>?_) (fun i hi=>?_) (fun i hi=>?_)
  all_goals
   obtain⟨p,hp,hx,hm⟩:=gp i hi
   try rw[hx]
   try rw[sv i p hp]
  ·exact cell i 0 p _ hp (by omega) rfl
  ·exact cell i 1 p _ hp (by omega) rfl
  ·exact cell i 2 p _ hp (by omega) rfl
  ·exact cell i 3 p _ hp (by omega) rfl
  ·exact cell i 4 p _ hp (by omega) rfl
  ·exact(h.2.2 p hm).1.mono (fun b hb=>hb.1)
  ·exact(h.2.2 p hm).2.1.mono (fun b hb=>hb.1)
  ·exact(h.2.2 p hm).2.2.mono (fun b hb=>hb.1)
theorem Ba.strong {D:Nat→Prop}{w:World}{l:List Bs}{v:Value}(h:Ba D w l v):Ba (fun b=>D b∧b<w.heap.size) w l v:=by
 obtain⟨a,cap,b,off,hv,h1,h2,h3,h4⟩:=h;refine⟨a,cap,b,off,hv,h1,h2,?_,h4⟩;rcases h3 with h3|⟨ha,hD⟩
 ·exact .inl h3
 ·rcases Nat.eq_zero_or_pos l.length with hz|hz
  ·exact .inl hz
  ·exact .inr ⟨ha,hD,World.block_lt_of_cell? _ _ (h4 0 hz)⟩
structure FuV where
 x:Fu
 p:Value
 l:Value
 b:Value
def Es(p:FuV):List Value:=[.string (Aa p.x.name),p.p,p.l,p.b]
def Ea(D:Nat→Prop)(w:World)(p:FuV):Prop:=Ba D w p.x.params p.p∧Ba D w p.x.locals p.l∧∃ls,ls.map (·.x)=p.x.body∧ls.length≤4∧Hr w D ls p.b
theorem Ea.keep {D:Nat→Prop}{w w':World}{p:FuV}(h:Ea D w p)(hk:Bl D w w')(hz:w.heap.size≤w'.heap.size):Ea D w' p:=by
 obtain⟨h1,h2,ls,h3,h4,h5⟩:=h;exact⟨h1.keep hk.keeps,h2.keep hk.keeps,ls,h3,h4,h5.keep hk hz⟩
theorem Ea.mono {D D':Nat→Prop}{w:World}{p:FuV}(h:Ea D w p)(hD:∀b,D b→b<w.heap.size→D' b):Ea D' w p:=by
 obtain⟨h1,h2,ls,h3,h4,h5⟩:=h;exact⟨h1.strong.mono (fun b hb=>hD b hb.1 hb.2),h2.strong.mono (fun b hb=>hD b hb.1 hb.2),ls,h3,h4,h5.mono hD⟩
def Dh(w:World)(base:Nat)(ps:List FuV)(v:Value):Prop:=
 w.ownsRow base 58 4 v ps.length (ps.flatMap Es)∧∀p,p∈ps→Ea (fun b=>base≤b∧v.ownBlock≠some b) w p
theorem Dh.zero(w:World)(base:Nat):Dh w base [] (.slice none 0 0):=⟨⟨rfl,.inl ⟨rfl,rfl⟩⟩,fun p hp=>by cases hp⟩
theorem Dh.shape {w:World}{base:Nat}{ps:List FuV}{v:Value}(h:Dh w base ps v):∃a cap,v=.slice a ps.length cap:=by
 rcases h.1.2 with⟨rfl,h0⟩|⟨g,cap,cur,rfl,_⟩
 ·exact⟨none,0,by rw[h0]⟩
 ·exact⟨_,_,rfl⟩
theorem Dh.ge {w:World}{base:Nat}{ps:List FuV}{v:Value}(h:Dh w base ps v){k:Nat}(hk:v.ownBlock=some k):base≤k∧k<w.heap.size:=World.ownsRow.lt h.1 k hk
theorem Dh.keep {w w':World}{base:Nat}{ps:List FuV}{v:Value}(h:Dh w base ps v)(hk:Bl (base≤ ·) w w')(hz:w.heap.size≤w'.heap.size):Dh w' base ps v:=
 ⟨Jp h.1 (fun k e=>(h.ge e).1) hk,fun p hp=>(h.2 p hp).keep (hk.mono (fun b hb=>hb.1)) hz⟩
theorem Dh.fus {w:World}{base:Nat}{ps:List FuV}{v:Value}(h:Dh w base ps v)(hf:Ct ps.length):Bw (base≤ ·) w (ps.map (·.x)) v:=by
 have hl:(ps.map (·.x)).length=ps.length:=Zc _;rcases h.1.2 with⟨rfl,hz⟩|⟨g,cap,cur,rfl,hb,hg,hc,hm,hs,ht⟩
 ·have:ps=[]:=Ze.1 hz
  subst this;exact Bw.zero
 ·let z:FuV:=⟨Fu.nil,undef,undef,undef⟩
  refine⟨some ⟨g,0,none⟩,cap,g,0,(fun i=>(ps.getD i z).p),(fun i=>(ps.getD i z).l),(fun i=>(ps.getD i z).b),by rw[hl],by rw[hl];exact hc,by rw[hl];exact hf,.inr ⟨rfl,hb⟩,fun i hi=>?_⟩;rw[hl]at hi;obtain⟨p,hp,hx,hm⟩:∃p,ps[i]? =some p∧Dn (ps.map (·.x)) i=p.x∧p∈ps:=⟨ps[i],Zd hi,by simp [Dn,Zd hi],List.getElem_mem hi⟩;have sv:ps.getD i z=p:=by rw[List.getD_eq_getElem?_getD,hp];rfl
  rw[hx];dsimp only;rw[sv];have cell:∀q u,q<4→(Es p)[q]? =some u→w.cell? ⟨g,0+i*4+q,none⟩=some u:=by
   intro q u hq hu;have h1:=Lk h.1 (i*4+q) u (by rw[Rr Es 4 (fun _=>rfl) ps i q p hp hq];exact hu)
   rwa[show 0+(i*4+q)=0+i*4+q by omega]at h1
  obtain⟨h1,h2,ls,h3,h4,h5⟩:=h.2 p hm;have h6:=h5.sts (show ls.length≤140737488355328 by omega);rw[h3]at h6;exact⟨⟨cell 0 _ (by decide) rfl,cell 1 _ (by decide) rfl,cell 2 _ (by decide) rfl,cell 3 _ (by decide) rfl⟩,h1.mono (fun b hb=>hb.1),h2.mono (fun b hb=>hb.1),h6.mono (fun b hb=>hb.1)⟩
theorem Dh.snoc {w w':World}{base:Nat}{ps:List FuV}{v:Value}(h:Dh w base ps v)(p:FuV)(hx:Ea (fun b=>base≤b∧v.ownBlock≠some b) w p){g cap:Nat}
  (hown:w'.ownsRow base 58 4 (.slice (some ⟨g,0,none⟩) (ps.length+1) cap) (ps.length+1) (ps.flatMap Es++Es p)) (hgrow:w.grownBy w' v.ownBlock) (hg:v.ownBlock=some g∨g=w.heap.size):
  Dh w' base (ps++[p]) (.slice (some ⟨g,0,none⟩) (ps.length+1) cap):=by
 have keep:∀q:FuV,Ea (fun b=>base≤b∧v.ownBlock≠some b) w q→Ea (fun b=>base≤b∧(Value.slice (some ⟨g,0,none⟩) (ps.length+1) cap).ownBlock≠some b) w' q:=by
  intro q hu;have h1:Ea (fun b=>base≤b∧(v.ownBlock≠some b∧b<w.heap.size)) w q:=hu.mono (fun b hb hl=>⟨hb.1,hb.2,hl⟩);have h2:=h1.keep (w':=w') (fun k hk hl=>hgrow.block k hl (fun e=>hk.2.1 e.symm)) hgrow.size;refine h2.mono (fun b hb _=>⟨hb.1,?_⟩);show some g≠some b
  intro e
  cases e
  rcases hg with hg|hg
  ·exact hb.2.1 hg
  ·have:=hb.2.2;omega
 refine⟨?_,fun q hq=>?_⟩
 ·rw[List.length_append,List.flatMap_append];simpa using hown
 ·rcases List.mem_append.1 hq with hq|hq
  ·exact keep _ (h.2 q hq)
  ·rw[List.mem_singleton.1 hq];exact keep _ hx
theorem eB(n:Bs)(x:Fu)(a b c:Option Addr)(i j k i' j' k':Nat):∀u,u∈Es ⟨x,.slice a i i',.slice b j j',.slice c k k'⟩→u.oneCell'=true:=by
 intro u hu;simp only[Es,List.mem_cons,List.not_mem_nil,or_false]at hu;rcases hu with rfl|rfl|rfl|rfl<;>rfl
noncomputable def sZ (n:Nat):Code:=((Tryz.f19.body.bind (Ld n)).getD .skip)
noncomputable def cS (n:Nat):Code:=((Tryz.f19.body.bind (Kc (Pw n))).getD .skip)
def Ci(l:List Bs):List Value:=l.map fun x=>.string (Aa x)
def Tx(l:List Int):List Value:=l.map fun x=>.int .i64 x
theorem xA:∀j:Fin 3,(Ci Gf)[j.val]? =some (.string (Aa (Gf.getD j.val []))):=by
 intro j;match j with
 |⟨0,_⟩=>rfl
 |⟨1,_⟩=>rfl
 |⟨2,_⟩=>rfl
theorem vD:∀j:Fin 4,(Tx Ge)[j.val]? =some (.int .i64 (Ge.getD j.val 0)):=by
 intro j;match j with
 |⟨0,_⟩=>rfl
 |⟨1,_⟩=>rfl
 |⟨2,_⟩=>rfl
 |⟨3,_⟩=>rfl
structure V9 (S i a:Nat)(raw:List Int)(W:World)(L:Nat→Bool)(z9 z34 z35 z36 z37 z38 z39 z40 z41 z42 z43:Value)(wx:World):Prop where
 fr:SFr S W wx
 src:Ay wx S raw (if L 6=true then(Ac raw a 4).2 else a)
 ord:L 11=true→∀j,j<11→L j=true
 c0:L 0=true→L 11=false→∃b,z34=.slice (some ⟨b,0,none⟩) 3 3∧W.heap.size≤b∧Ae wx b (Ci Gf) 9
 c1:L 1=true→z35=.int .i64 (i:Int)
 c2:L 2=true→L 11=false→∃b,z36=.pointer (some ⟨b,i,none⟩)∧W.heap.size≤b∧Ae wx b (Ci Gf) 9
 c3:L 3=true→z37=.string (Aa (Gf.getD i []))
 c4:L 4=true→L 11=false→∃b,z38=.slice (some ⟨b,0,none⟩) 4 4∧W.heap.size≤b∧Ae wx b (Tx Ge) 3
 c5:L 5=true→z39=.pointer (some ⟨S,0,none⟩)
 c6:L 6=true→z40=.int .i64 (Ac raw a 4).1
 c7:L 7=true→L 11=false→∃b,z41=.pointer (some ⟨b,(Ac raw a 4).1.toNat,none⟩)∧W.heap.size≤b∧Ae wx b (Tx Ge) 3
 c8:L 8=true→z42=.int .i64 (Ge.getD (Ac raw a 4).1.toNat 0)
 c9:L 9=true→z43=.agg #[.string (Aa (Gf.getD i [])),.int .i64 (Ge.getD (Ac raw a 4).1.toNat 0)]
 c10:L 10=true→∃b,z9=.pointer (some ⟨b,0,none⟩)∧W.heap.size≤b∧Ae wx b (if L 11=true then [.string (Aa (Gf.getD i [])),.int .i64 (Ge.getD (Ac raw a 4).1.toNat 0)]else [.string ⟨#[]⟩,.int .i64 0]) 85
def R9(S i a:Nat)(raw:List Int)(W:World)(q0 q1 q2 q3 q4 q6 q7 q10 q11 q12 q13 q14 q15 q16 q17 q18 q19 q20 q21 q22 q23 q24 q25 q26 q27 q28 q29 q30 q31 q32 q33 q44 q45 q46 q47 q48 q49 q50 q51 q52 q53 q54 q55 q56 q57 q58 q59 q60 q61 q62 q63 q64 q65 q66 q67 q68 q69 q70 q71 q72 q73 q74 q75 q76 q77 q78 q79 q80 q81 q82 q83 q84 q85 q86 q87 q88 q89 q90 q91 q92 q93 q94 q95 q96 q97 q98 q99 q100 q101 q102 q103 q104 q105 q106 q107 q108 q109 q110 q111 q112 q113 q114 q115 q116 q117 q118 q119:Value)(a':Act)(w':World):Prop:=
 ∃z9 z34 z35 z36 z37 z38 z39 z40 z41 z42 z43:Value,(∃b,z9=.pointer (some ⟨b,0,none⟩)∧W.heap.size≤b∧Ae w' b [.string (Aa (Gf.getD i [])),.int .i64 (Ge.getD (Ac raw a 4).1.toNat 0)] 85∧Ay w' S raw (Ac raw a 4).2∧SFr S W w')∧a'=⟨[q0,q1,q2,q3,q4,.pointer (some ⟨S,0,none⟩),q6,q7,.int .i64 (i:Int),z9,q10,q11,q12,q13,q14,q15,q16,q17,q18,q19,q20,q21,q22,q23,q24,q25,q26,q27,q28,q29,q30,q31,q32,q33,z34,z35,z36,z37,z38,z39,z40,z41,z42,z43,q44,q45,q46,q47,q48,q49,q50,q51,q52,q53,q54,q55,q56,q57,q58,q59,q60,q61,q62,q63,q64,q65,q66,q67,q68,q69,q70,q71,q72,q73,q74,q75,q76,q77,q78,q79,q80,q81,q82,q83,q84,q85,q86,q87,q88,q89,q90,q91,q92,q93,q94,q95,q96,q97,q98,q99,q100,q101,q102,q103,q104,q105,q106,q107,q108,q109,q110,q111,q112,q113,q114,q115,q116,q117,q118,q119].toArray,[]⟩
def I9(S i a:Nat)(raw:List Int)(W:World)(q0 q1 q2 q3 q4 q6 q7 q10 q11 q12 q13 q14 q15 q16 q17 q18 q19 q20 q21 q22 q23 q24 q25 q26 q27 q28 q29 q30 q31 q32 q33 q44 q45 q46 q47 q48 q49 q50 q51 q52 q53 q54 q55 q56 q57 q58 q59 q60 q61 q62 q63 q64 q65 q66 q67 q68 q69 q70 q71 q72 q73 q74 q75 q76 q77 q78 q79 q80 q81 q82 q83 q84 q85 q86 q87 q88 q89 q90 q91 q92 q93 q94 q95 q96 q97 q98 q99 q100 q101 q102 q103 q104 q105 q106 q107 q108 q109 q110 q111 q112 q113 q114 q115 q116 q117 q118 q119:Value)(L:Nat→Bool)(a':Act)(w':World):Prop:=
 ∃z9 z34 z35 z36 z37 z38 z39 z40 z41 z42 z43:Value,V9 S i a raw W L z9 z34 z35 z36 z37 z38 z39 z40 z41 z42 z43 w'∧a'=⟨[q0,q1,q2,q3,q4,.pointer (some ⟨S,0,none⟩),q6,q7,.int .i64 (i:Int),z9,q10,q11,q12,q13,q14,q15,q16,q17,q18,q19,q20,q21,q22,q23,q24,q25,q26,q27,q28,q29,q30,q31,q32,q33,z34,z35,z36,z37,z38,z39,z40,z41,z42,z43,q44,q45,q46,q47,q48,q49,q50,q51,q52,q53,q54,q55,q56,q57,q58,q59,q60,q61,q62,q63,q64,q65,q66,q67,q68,q69,q70,q71,q72,q73,q74,q75,q76,q77,q78,q79,q80,q81,q82,q83,q84,q85,q86,q87,q88,q89,q90,q91,q92,q93,q94,q95,q96,q97,q98,q99,q100,q101,q102,q103,q104,q105,q106,q107,q108,q109,q110,q111,q112,q113,q114,q115,q116,q117,q118,q119].toArray,[]⟩
theorem pg_reg9(S i a:Nat)(raw:List Int)(W:World)(hs:Ay W S raw a)(hi:1≤i∧i≤2)(q0 q1 q2 q3 q4 q6 q7 q9 q10 q11 q12 q13 q14 q15 q16 q17 q18 q19 q20 q21 q22 q23 q24 q25 q26 q27 q28 q29 q30 q31 q32 q33 q34 q35 q36 q37 q38 q39 q40 q41 q42 q43 q44 q45 q46 q47 q48 q49 q50 q51 q52 q53 q54 q55 q56 q57 q58 q59 q60 q61 q62 q63 q64 q65 q66 q67 q68 q69 q70 q71 q72 q73 q74 q75 q76 q77 q78 q79 q80 q81 q82 q83 q84 q85 q86 q87 q88 q89 q90 q91 q92 q93 q94 q95 q96 q97 q98 q99 q100 q101 q102 q103 q104 q105 q106 q107 q108 q109 q110 q111 q112 q113 q114 q115 q116 q117 q118 q119:Value)(J K':Act→World→Prop)(hJ:∀a' w',R9 S i a raw W q0 q1 q2 q3 q4 q6 q7 q10 q11 q12 q13 q14 q15 q16 q17 q18 q19 q20 q21 q22 q23 q24 q25 q26 q27 q28 q29 q30 q31 q32 q33 q44 q45 q46 q47 q48 q49 q50 q51 q52 q53 q54 q55 q56 q57 q58 q59 q60 q61 q62 q63 q64 q65 q66 q67 q68 q69 q70 q71 q72 q73 q74 q75 q76 q77 q78 q79 q80 q81 q82 q83 q84 q85 q86 q87 q88 q89 q90 q91 q92 q93 q94 q95 q96 q97 q98 q99 q100 q101 q102 q103 q104 q105 q106 q107 q108 q109 q110 q111 q112 q113 q114 q115 q116 q117 q118 q119 a' w'→J a' w')(hM:∀a' w',Met J a' w'→K' a' w'):
  Code.wp Zb (sZ 9) (Exit.then K' (fun _ _ _=>False)) ⟨[q0,q1,q2,q3,q4,.pointer (some ⟨S,0,none⟩),q6,q7,.int .i64 (i:Int),q9,q10,q11,q12,q13,q14,q15,q16,q17,q18,q19,q20,q21,q22,q23,q24,q25,q26,q27,q28,q29,q30,q31,q32,q33,q34,q35,q36,q37,q38,q39,q40,q41,q42,q43,q44,q45,q46,q47,q48,q49,q50,q51,q52,q53,q54,q55,q56,q57,q58,q59,q60,q61,q62,q63,q64,q65,q66,q67,q68,q69,q70,q71,q72,q73,q74,q75,q76,q77,q78,q79,q80,q81,q82,q83,q84,q85,q86,q87,q88,q89,q90,q91,q92,q93,q94,q95,q96,q97,q98,q99,q100,q101,q102,q103,q104,q105,q106,q107,q108,q109,q110,q111,q112,q113,q114,q115,q116,q117,q118,q119].toArray,[]⟩ W:=by
 conv=>arg 2;whnf
 dsimp only;refine Fp (by kernel_rfl) (by kernel_rfl) (I9 S i a raw W q0 q1 q2 q3 q4 q6 q7 q10 q11 q12 q13 q14 q15 q16 q17 q18 q19 q20 q21 q22 q23 q24 q25 q26 q27 q28 q29 q30 q31 q32 q33 q44 q45 q46 q47 q48 q49 q50 q51 q52 q53 q54 q55 q56 q57 q58 q59 q60 q61 q62 q63 q64 q65 q66 q67 q68 q69 q70 q71 q72 q73 q74 q75 q76 q77 q78 q79 q80 q81 q82 q83 q84 q85 q86 q87 q88 q89 q90 q91 q92 q93 q94 q95 q96 q97 q98 q99 q100 q101 q102 q103 q104 q105 q106 q107 q108 q109 q110 q111 q112 q113 q114 q115 q116 q117 q118 q119) ?_ ?_ ?_
 ·refine⟨q9,q34,q35,q36,q37,q38,q39,q40,q41,q42,q43,⟨SFr.of_below (Below.refl _ _).drew,by rw[if_neg (by decide)];exact hs.old (Below.refl _ _).drew,fun h=>(by cases h),fun h=>(by cases h),fun h=>(by cases h),fun h=>(by cases h),fun h=>(by cases h),fun h=>(by cases h),fun h=>(by cases h),fun h=>(by cases h),fun h=>(by cases h),fun h=>(by cases h),fun h=>(by cases h),fun h=>(by cases h)⟩,rfl⟩
 ·intro L act wx k hI hk hl hd
  obtain⟨z9,z34,z35,z36,z37,z38,z39,z40,z41,z42,z43,hV,rfl⟩:=hI;have hk:k=0∨k=1∨k=2∨k=3∨k=4∨k=5∨k=6∨k=7∨k=8∨k=9∨k=10∨k=11:=by
   have:k<12:=hk;omega
  rcases hk with rfl|rfl|rfl|rfl|rfl|rfl|rfl|rfl|rfl|rfl|rfl|rfl
  ·have n11:L 11=false:=by
    cases h:L 11 with
    |false=>rfl
    |true=>have:=hV.ord h 0 (by decide);rw[hl]at this;cases this
   have hal:Below wx.heap.size wx (wx.alloc (.cells (Ci Gf).toArray 9)):=bA;have keep:∀b cs T,W.heap.size≤b→Ae wx b cs T→Ae (wx.alloc (.cells (Ci Gf).toArray 9)) b cs T:=fun b cs T _ h=>h.old hal
   have HV:=Za hV;have HD:=Za hd;have HL:=Za hl;refine Bc _ rfl rfl (fun K' hK=>?_)
   conv=>arg 2;whnf
   go_wp2_with fail
   exact⟨z9,.slice (some ⟨wx.heap.size,0,none⟩) 3 3,z35,z36,z37,z38,z39,z40,z41,z42,z43,⟨hV.fr.trans (SFr.of_below hal),(by rw[Ab L (show 6≠0 by decide)];exact hV.src.old hal),(fun h j hj=>by rw[Ab L (show 11≠0 by decide)]at h;have:=hV.ord h 0 (by decide);rw[hl]at this;cases this),(fun _ _=>⟨wx.heap.size,rfl,hV.fr.size,Ae.new wx (Ci Gf) _⟩),(fun h=>hV.c1 (by rwa[Ab L (show 1≠0 by decide)]at h)),(fun h h11=>by obtain⟨b,e1,e2,e3⟩:=hV.c2 (by rwa[Ab L (show 2≠0 by decide)]at h) (by rwa[Ab L (show 11≠0 by decide)]at h11);exact⟨b,e1,e2,keep b _ _ e2 e3⟩),(fun h=>hV.c3 (by rwa[Ab L (show 3≠0 by decide)]at h)),(fun h h11=>by obtain⟨b,e1,e2,e3⟩:=hV.c4 (by rwa[Ab L (show 4≠0 by decide)]at h) (by rwa[Ab L (show 11≠0 by decide)]at h11);exact⟨b,e1,e2,keep b _ _ e2 e3⟩),(fun h=>hV.c5 (by rwa[Ab L (show 5≠0 by decide)]at h)),(fun h=>hV.c6 (by rwa[Ab L (show 6≠0 by decide)]at h)),(fun h h11=>by obtain⟨b,e1,e2,e3⟩:=hV.c7 (by rwa[Ab L (show 7≠0 by decide)]at h) (by rwa[Ab L (show 11≠0 by decide)]at h11);exact⟨b,e1,e2,keep b _ _ e2 e3⟩),(fun h=>hV.c8 (by rwa[Ab L (show 8≠0 by decide)]at h)),(fun h=>hV.c9 (by rwa[Ab L (show 9≠0 by decide)]at h)),(fun h=>by obtain⟨b,e1,e2,e3⟩:=hV.c10 (by rwa[Ab L (show 10≠0 by decide)]at h);rw[Ab L (show 11≠0 by decide)];exact⟨b,e1,e2,keep b _ _ e2 e3⟩)⟩,rfl⟩
  ·have n11:L 11=false:=by
    cases h:L 11 with
    |false=>rfl
    |true=>have:=hV.ord h 1 (by decide);rw[hl]at this;cases this
   have HV:=Za hV;have HD:=Za hd;have HL:=Za hl;refine Bc _ rfl rfl (fun K' hK=>?_)
   conv=>arg 2;whnf
   go_wp2_with fail
   exact⟨z9,z34,.int .i64 (i:Int),z36,z37,z38,z39,z40,z41,z42,z43,⟨hV.fr,(by rw[Ab L (show 6≠1 by decide)];exact hV.src),(fun h j hj=>by rw[Ab L (show 11≠1 by decide)]at h;have:=hV.ord h 1 (by decide);rw[hl]at this;cases this),(fun h h11=>by obtain⟨b,e1,e2,e3⟩:=hV.c0 (by rwa[Ab L (show 0≠1 by decide)]at h) (by rwa[Ab L (show 11≠1 by decide)]at h11);exact⟨b,e1,e2,e3⟩),(fun _=>rfl),(fun h h11=>by obtain⟨b,e1,e2,e3⟩:=hV.c2 (by rwa[Ab L (show 2≠1 by decide)]at h) (by rwa[Ab L (show 11≠1 by decide)]at h11);exact⟨b,e1,e2,e3⟩),(fun h=>hV.c3 (by rwa[Ab L (show 3≠1 by decide)]at h)),(fun h h11=>by obtain⟨b,e1,e2,e3⟩:=hV.c4 (by rwa[Ab L (show 4≠1 by decide)]at h) (by rwa[Ab L (show 11≠1 by decide)]at h11);exact⟨b,e1,e2,e3⟩),(fun h=>hV.c5 (by rwa[Ab L (show 5≠1 by decide)]at h)),(fun h=>hV.c6 (by rwa[Ab L (show 6≠1 by decide)]at h)),(fun h h11=>by obtain⟨b,e1,e2,e3⟩:=hV.c7 (by rwa[Ab L (show 7≠1 by decide)]at h) (by rwa[Ab L (show 11≠1 by decide)]at h11);exact⟨b,e1,e2,e3⟩),(fun h=>hV.c8 (by rwa[Ab L (show 8≠1 by decide)]at h)),(fun h=>hV.c9 (by rwa[Ab L (show 9≠1 by decide)]at h)),(fun h=>by obtain⟨b,e1,e2,e3⟩:=hV.c10 (by rwa[Ab L (show 10≠1 by decide)]at h);rw[Ab L (show 11≠1 by decide)];exact⟨b,e1,e2,e3⟩)⟩,rfl⟩
  ·have n11:L 11=false:=by
    cases h:L 11 with
    |false=>rfl
    |true=>have:=hV.ord h 2 (by decide);rw[hl]at this;cases this
   have d0:L 0=true:=hd _ rfl ⟨0,.data⟩ (by simp) rfl;have d1:L 1=true:=hd _ rfl ⟨1,.data⟩ (by simp) rfl;obtain⟨b,rfl,hb,ho⟩:=hV.c0 d0 n11;obtain rfl:=hV.c1 d1;have hi3:(i:Int)<3:=by omega
   have HV:=Za hV;have HD:=Za hd;have HL:=Za hl;refine Bc _ rfl rfl (fun K' hK=>?_)
   conv=>arg 2;whnf
   go_wp2_with fail
   exact⟨z9,.slice (some ⟨b,0,none⟩) 3 3,.int .i64 (i:Int),.pointer (some ⟨b,i,none⟩),z37,z38,z39,z40,z41,z42,z43,⟨hV.fr,(by rw[Ab L (show 6≠2 by decide)];exact hV.src),(fun h j hj=>by rw[Ab L (show 11≠2 by decide)]at h;have:=hV.ord h 2 (by decide);rw[hl]at this;cases this),(fun h h11=>by obtain⟨b,e1,e2,e3⟩:=hV.c0 (by rwa[Ab L (show 0≠2 by decide)]at h) (by rwa[Ab L (show 11≠2 by decide)]at h11);exact⟨b,e1,e2,e3⟩),(fun h=>hV.c1 (by rwa[Ab L (show 1≠2 by decide)]at h)),(fun _ _=>⟨b,rfl,hb,ho⟩),(fun h=>hV.c3 (by rwa[Ab L (show 3≠2 by decide)]at h)),(fun h h11=>by obtain⟨b,e1,e2,e3⟩:=hV.c4 (by rwa[Ab L (show 4≠2 by decide)]at h) (by rwa[Ab L (show 11≠2 by decide)]at h11);exact⟨b,e1,e2,e3⟩),(fun h=>hV.c5 (by rwa[Ab L (show 5≠2 by decide)]at h)),(fun h=>hV.c6 (by rwa[Ab L (show 6≠2 by decide)]at h)),(fun h h11=>by obtain⟨b,e1,e2,e3⟩:=hV.c7 (by rwa[Ab L (show 7≠2 by decide)]at h) (by rwa[Ab L (show 11≠2 by decide)]at h11);exact⟨b,e1,e2,e3⟩),(fun h=>hV.c8 (by rwa[Ab L (show 8≠2 by decide)]at h)),(fun h=>hV.c9 (by rwa[Ab L (show 9≠2 by decide)]at h)),(fun h=>by obtain⟨b,e1,e2,e3⟩:=hV.c10 (by rwa[Ab L (show 10≠2 by decide)]at h);rw[Ab L (show 11≠2 by decide)];exact⟨b,e1,e2,e3⟩)⟩,rfl⟩
  ·have n11:L 11=false:=by
    cases h:L 11 with
    |false=>rfl
    |true=>have:=hV.ord h 3 (by decide);rw[hl]at this;cases this
   have d2:L 2=true:=hd _ rfl ⟨2,.data⟩ (by simp) rfl;obtain⟨b,rfl,hb,ho⟩:=hV.c2 d2 n11;have hx:=ho.at i _ (xA ⟨i,by omega⟩);have HV:=Za hV;have HD:=Za hd;have HL:=Za hl;refine Bc _ rfl rfl (fun K' hK=>?_)
   conv=>arg 2;whnf
   go_wp2_with fail
   exact⟨z9,z34,z35,.pointer (some ⟨b,i,none⟩),.string (Aa (Gf.getD i [])),z38,z39,z40,z41,z42,z43,⟨hV.fr,(by rw[Ab L (show 6≠3 by decide)];exact hV.src),(fun h j hj=>by rw[Ab L (show 11≠3 by decide)]at h;have:=hV.ord h 3 (by decide);rw[hl]at this;cases this),(fun h h11=>by obtain⟨b,e1,e2,e3⟩:=hV.c0 (by rwa[Ab L (show 0≠3 by decide)]at h) (by rwa[Ab L (show 11≠3 by decide)]at h11);exact⟨b,e1,e2,e3⟩),(fun h=>hV.c1 (by rwa[Ab L (show 1≠3 by decide)]at h)),(fun h h11=>by obtain⟨b,e1,e2,e3⟩:=hV.c2 (by rwa[Ab L (show 2≠3 by decide)]at h) (by rwa[Ab L (show 11≠3 by decide)]at h11);exact⟨b,e1,e2,e3⟩),(fun _=>rfl),(fun h h11=>by obtain⟨b,e1,e2,e3⟩:=hV.c4 (by rwa[Ab L (show 4≠3 by decide)]at h) (by rwa[Ab L (show 11≠3 by decide)]at h11);exact⟨b,e1,e2,e3⟩),(fun h=>hV.c5 (by rwa[Ab L (show 5≠3 by decide)]at h)),(fun h=>hV.c6 (by rwa[Ab L (show 6≠3 by decide)]at h)),(fun h h11=>by obtain⟨b,e1,e2,e3⟩:=hV.c7 (by rwa[Ab L (show 7≠3 by decide)]at h) (by rwa[Ab L (show 11≠3 by decide)]at h11);exact⟨b,e1,e2,e3⟩),(fun h=>hV.c8 (by rwa[Ab L (show 8≠3 by decide)]at h)),(fun h=>hV.c9 (by rwa[Ab L (show 9≠3 by decide)]at h)),(fun h=>by obtain⟨b,e1,e2,e3⟩:=hV.c10 (by rwa[Ab L (show 10≠3 by decide)]at h);rw[Ab L (show 11≠3 by decide)];exact⟨b,e1,e2,e3⟩)⟩,rfl⟩
  ·have n11:L 11=false:=by
    cases h:L 11 with
    |false=>rfl
    |true=>have:=hV.ord h 4 (by decide);rw[hl]at this;cases this
   have hal:Below wx.heap.size wx (wx.alloc (.cells (Tx Ge).toArray 3)):=bA;have keep:∀b cs T,W.heap.size≤b→Ae wx b cs T→Ae (wx.alloc (.cells (Tx Ge).toArray 3)) b cs T:=fun b cs T _ h=>h.old hal
   have HV:=Za hV;have HD:=Za hd;have HL:=Za hl;refine Bc _ rfl rfl (fun K' hK=>?_)
   conv=>arg 2;whnf
   go_wp2_with fail
   exact⟨z9,z34,z35,z36,z37,.slice (some ⟨wx.heap.size,0,none⟩) 4 4,z39,z40,z41,z42,z43,⟨hV.fr.trans (SFr.of_below hal),(by rw[Ab L (show 6≠4 by decide)];exact hV.src.old hal),(fun h j hj=>by rw[Ab L (show 11≠4 by decide)]at h;have:=hV.ord h 4 (by decide);rw[hl]at this;cases this),(fun h h11=>by obtain⟨b,e1,e2,e3⟩:=hV.c0 (by rwa[Ab L (show 0≠4 by decide)]at h) (by rwa[Ab L (show 11≠4 by decide)]at h11);exact⟨b,e1,e2,keep b _ _ e2 e3⟩),(fun h=>hV.c1 (by rwa[Ab L (show 1≠4 by decide)]at h)),(fun h h11=>by obtain⟨b,e1,e2,e3⟩:=hV.c2 (by rwa[Ab L (show 2≠4 by decide)]at h) (by rwa[Ab L (show 11≠4 by decide)]at h11);exact⟨b,e1,e2,keep b _ _ e2 e3⟩),(fun h=>hV.c3 (by rwa[Ab L (show 3≠4 by decide)]at h)),(fun _ _=>⟨wx.heap.size,rfl,hV.fr.size,Ae.new wx (Tx Ge) _⟩),(fun h=>hV.c5 (by rwa[Ab L (show 5≠4 by decide)]at h)),(fun h=>hV.c6 (by rwa[Ab L (show 6≠4 by decide)]at h)),(fun h h11=>by obtain⟨b,e1,e2,e3⟩:=hV.c7 (by rwa[Ab L (show 7≠4 by decide)]at h) (by rwa[Ab L (show 11≠4 by decide)]at h11);exact⟨b,e1,e2,keep b _ _ e2 e3⟩),(fun h=>hV.c8 (by rwa[Ab L (show 8≠4 by decide)]at h)),(fun h=>hV.c9 (by rwa[Ab L (show 9≠4 by decide)]at h)),(fun h=>by obtain⟨b,e1,e2,e3⟩:=hV.c10 (by rwa[Ab L (show 10≠4 by decide)]at h);rw[Ab L (show 11≠4 by decide)];exact⟨b,e1,e2,keep b _ _ e2 e3⟩)⟩,rfl⟩
  ·have n11:L 11=false:=by
    cases h:L 11 with
    |false=>rfl
    |true=>have:=hV.ord h 5 (by decide);rw[hl]at this;cases this
   have HV:=Za hV;have HD:=Za hd;have HL:=Za hl;refine Bc _ rfl rfl (fun K' hK=>?_)
   conv=>arg 2;whnf
   go_wp2_with fail
   exact⟨z9,z34,z35,z36,z37,z38,.pointer (some ⟨S,0,none⟩),z40,z41,z42,z43,⟨hV.fr,(by rw[Ab L (show 6≠5 by decide)];exact hV.src),(fun h j hj=>by rw[Ab L (show 11≠5 by decide)]at h;have:=hV.ord h 5 (by decide);rw[hl]at this;cases this),(fun h h11=>by obtain⟨b,e1,e2,e3⟩:=hV.c0 (by rwa[Ab L (show 0≠5 by decide)]at h) (by rwa[Ab L (show 11≠5 by decide)]at h11);exact⟨b,e1,e2,e3⟩),(fun h=>hV.c1 (by rwa[Ab L (show 1≠5 by decide)]at h)),(fun h h11=>by obtain⟨b,e1,e2,e3⟩:=hV.c2 (by rwa[Ab L (show 2≠5 by decide)]at h) (by rwa[Ab L (show 11≠5 by decide)]at h11);exact⟨b,e1,e2,e3⟩),(fun h=>hV.c3 (by rwa[Ab L (show 3≠5 by decide)]at h)),(fun h h11=>by obtain⟨b,e1,e2,e3⟩:=hV.c4 (by rwa[Ab L (show 4≠5 by decide)]at h) (by rwa[Ab L (show 11≠5 by decide)]at h11);exact⟨b,e1,e2,e3⟩),(fun _=>rfl),(fun h=>hV.c6 (by rwa[Ab L (show 6≠5 by decide)]at h)),(fun h h11=>by obtain⟨b,e1,e2,e3⟩:=hV.c7 (by rwa[Ab L (show 7≠5 by decide)]at h) (by rwa[Ab L (show 11≠5 by decide)]at h11);exact⟨b,e1,e2,e3⟩),(fun h=>hV.c8 (by rwa[Ab L (show 8≠5 by decide)]at h)),(fun h=>hV.c9 (by rwa[Ab L (show 9≠5 by decide)]at h)),(fun h=>by obtain⟨b,e1,e2,e3⟩:=hV.c10 (by rwa[Ab L (show 10≠5 by decide)]at h);rw[Ab L (show 11≠5 by decide)];exact⟨b,e1,e2,e3⟩)⟩,rfl⟩
  ·have n11:L 11=false:=by
    cases h:L 11 with
    |false=>rfl
    |true=>have:=hV.ord h 6 (by decide);rw[hl]at this;cases this
   have d5:L 5=true:=hd _ rfl ⟨5,.data⟩ (by simp) rfl;obtain rfl:=hV.c5 d5;have hsrc:=hV.src;rw[if_neg (by rw[hl];decide)]at hsrc;have hsS:=hs.lt;have HV:=Za hV;have HD:=Za hd;have HL:=Za hl;refine Bc _ rfl rfl (fun K' hK=>?_)
   conv=>arg 2;whnf
   go_wp2_with fail
   refine(Cj S raw a 4 wx hsrc (by decide) (by decide)).mono ?_;rintro r w2 ⟨rfl,hs2,hf2⟩;have keep:∀b cs T,W.heap.size≤b→Ae wx b cs T→Ae w2 b cs T:=fun b cs T hb h=>h.sfr hf2 (by omega)
   go_wp2_with fail
   exact⟨z9,z34,z35,z36,z37,z38,.pointer (some ⟨S,0,none⟩),.int .i64 (Ac raw a 4).1,z41,z42,z43,⟨hV.fr.trans hf2,(by rw[Bb,if_pos rfl];exact hs2),(fun h j hj=>by rw[Ab L (show 11≠6 by decide)]at h;have:=hV.ord h 6 (by decide);rw[hl]at this;cases this),(fun h h11=>by obtain⟨b,e1,e2,e3⟩:=hV.c0 (by rwa[Ab L (show 0≠6 by decide)]at h) (by rwa[Ab L (show 11≠6 by decide)]at h11);exact⟨b,e1,e2,keep b _ _ e2 e3⟩),(fun h=>hV.c1 (by rwa[Ab L (show 1≠6 by decide)]at h)),(fun h h11=>by obtain⟨b,e1,e2,e3⟩:=hV.c2 (by rwa[Ab L (show 2≠6 by decide)]at h) (by rwa[Ab L (show 11≠6 by decide)]at h11);exact⟨b,e1,e2,keep b _ _ e2 e3⟩),(fun h=>hV.c3 (by rwa[Ab L (show 3≠6 by decide)]at h)),(fun h h11=>by obtain⟨b,e1,e2,e3⟩:=hV.c4 (by rwa[Ab L (show 4≠6 by decide)]at h) (by rwa[Ab L (show 11≠6 by decide)]at h11);exact⟨b,e1,e2,keep b _ _ e2 e3⟩),(fun h=>hV.c5 (by rwa[Ab L (show 5≠6 by decide)]at h)),(fun _=>rfl),(fun h h11=>by obtain⟨b,e1,e2,e3⟩:=hV.c7 (by rwa[Ab L (show 7≠6 by decide)]at h) (by rwa[Ab L (show 11≠6 by decide)]at h11);exact⟨b,e1,e2,keep b _ _ e2 e3⟩),(fun h=>hV.c8 (by rwa[Ab L (show 8≠6 by decide)]at h)),(fun h=>hV.c9 (by rwa[Ab L (show 9≠6 by decide)]at h)),(fun h=>by obtain⟨b,e1,e2,e3⟩:=hV.c10 (by rwa[Ab L (show 10≠6 by decide)]at h);rw[Ab L (show 11≠6 by decide)];exact⟨b,e1,e2,keep b _ _ e2 e3⟩)⟩,rfl⟩
  ·have n11:L 11=false:=by
    cases h:L 11 with
    |false=>rfl
    |true=>have:=hV.ord h 7 (by decide);rw[hl]at this;cases this
   have d4:L 4=true:=hd _ rfl ⟨4,.data⟩ (by simp) rfl;have d6:L 6=true:=hd _ rfl ⟨6,.data⟩ (by simp) rfl;obtain⟨b,rfl,hb,ho⟩:=hV.c4 d4 n11;obtain rfl:=hV.c6 d6;have hr:=Ah raw a 4 (by decide);obtain⟨g0,g1⟩:=hr;have HV:=Za hV;have HD:=Za hd;have HL:=Za hl;refine Bc _ rfl rfl (fun K' hK=>?_)
   conv=>arg 2;whnf
   go_wp2_with fail
   exact⟨z9,z34,z35,z36,z37,.slice (some ⟨b,0,none⟩) 4 4,z39,.int .i64 (Ac raw a 4).1,.pointer (some ⟨b,(Ac raw a 4).1.toNat,none⟩),z42,z43,⟨hV.fr,(by rw[Ab L (show 6≠7 by decide)];exact hV.src),(fun h j hj=>by rw[Ab L (show 11≠7 by decide)]at h;have:=hV.ord h 7 (by decide);rw[hl]at this;cases this),(fun h h11=>by obtain⟨b,e1,e2,e3⟩:=hV.c0 (by rwa[Ab L (show 0≠7 by decide)]at h) (by rwa[Ab L (show 11≠7 by decide)]at h11);exact⟨b,e1,e2,e3⟩),(fun h=>hV.c1 (by rwa[Ab L (show 1≠7 by decide)]at h)),(fun h h11=>by obtain⟨b,e1,e2,e3⟩:=hV.c2 (by rwa[Ab L (show 2≠7 by decide)]at h) (by rwa[Ab L (show 11≠7 by decide)]at h11);exact⟨b,e1,e2,e3⟩),(fun h=>hV.c3 (by rwa[Ab L (show 3≠7 by decide)]at h)),(fun h h11=>by obtain⟨b,e1,e2,e3⟩:=hV.c4 (by rwa[Ab L (show 4≠7 by decide)]at h) (by rwa[Ab L (show 11≠7 by decide)]at h11);exact⟨b,e1,e2,e3⟩),(fun h=>hV.c5 (by rwa[Ab L (show 5≠7 by decide)]at h)),(fun h=>hV.c6 (by rwa[Ab L (show 6≠7 by decide)]at h)),(fun _ _=>⟨b,rfl,hb,ho⟩),(fun h=>hV.c8 (by rwa[Ab L (show 8≠7 by decide)]at h)),(fun h=>hV.c9 (by rwa[Ab L (show 9≠7 by decide)]at h)),(fun h=>by obtain⟨b,e1,e2,e3⟩:=hV.c10 (by rwa[Ab L (show 10≠7 by decide)]at h);rw[Ab L (show 11≠7 by decide)];exact⟨b,e1,e2,e3⟩)⟩,rfl⟩
  ·have n11:L 11=false:=by
    cases h:L 11 with
    |false=>rfl
    |true=>have:=hV.ord h 8 (by decide);rw[hl]at this;cases this
   have d7:L 7=true:=hd _ rfl ⟨7,.data⟩ (by simp) rfl;obtain⟨b,rfl,hb,ho⟩:=hV.c7 d7 n11;have hr:=Ah raw a 4 (by decide);have hx:=ho.at (Ac raw a 4).1.toNat _ (vD ⟨(Ac raw a 4).1.toNat,by omega⟩);have HV:=Za hV;have HD:=Za hd;have HL:=Za hl;refine Bc _ rfl rfl (fun K' hK=>?_)
   conv=>arg 2;whnf
   go_wp2_with fail
   exact⟨z9,z34,z35,z36,z37,z38,z39,z40,.pointer (some ⟨b,(Ac raw a 4).1.toNat,none⟩),.int .i64 (Ge.getD (Ac raw a 4).1.toNat 0),z43,⟨hV.fr,(by rw[Ab L (show 6≠8 by decide)];exact hV.src),(fun h j hj=>by rw[Ab L (show 11≠8 by decide)]at h;have:=hV.ord h 8 (by decide);rw[hl]at this;cases this),(fun h h11=>by obtain⟨b,e1,e2,e3⟩:=hV.c0 (by rwa[Ab L (show 0≠8 by decide)]at h) (by rwa[Ab L (show 11≠8 by decide)]at h11);exact⟨b,e1,e2,e3⟩),(fun h=>hV.c1 (by rwa[Ab L (show 1≠8 by decide)]at h)),(fun h h11=>by obtain⟨b,e1,e2,e3⟩:=hV.c2 (by rwa[Ab L (show 2≠8 by decide)]at h) (by rwa[Ab L (show 11≠8 by decide)]at h11);exact⟨b,e1,e2,e3⟩),(fun h=>hV.c3 (by rwa[Ab L (show 3≠8 by decide)]at h)),(fun h h11=>by obtain⟨b,e1,e2,e3⟩:=hV.c4 (by rwa[Ab L (show 4≠8 by decide)]at h) (by rwa[Ab L (show 11≠8 by decide)]at h11);exact⟨b,e1,e2,e3⟩),(fun h=>hV.c5 (by rwa[Ab L (show 5≠8 by decide)]at h)),(fun h=>hV.c6 (by rwa[Ab L (show 6≠8 by decide)]at h)),(fun h h11=>by obtain⟨b,e1,e2,e3⟩:=hV.c7 (by rwa[Ab L (show 7≠8 by decide)]at h) (by rwa[Ab L (show 11≠8 by decide)]at h11);exact⟨b,e1,e2,e3⟩),(fun _=>rfl),(fun h=>hV.c9 (by rwa[Ab L (show 9≠8 by decide)]at h)),(fun h=>by obtain⟨b,e1,e2,e3⟩:=hV.c10 (by rwa[Ab L (show 10≠8 by decide)]at h);rw[Ab L (show 11≠8 by decide)];exact⟨b,e1,e2,e3⟩)⟩,rfl⟩
  ·have n11:L 11=false:=by
    cases h:L 11 with
    |false=>rfl
    |true=>have:=hV.ord h 9 (by decide);rw[hl]at this;cases this
   have d3:L 3=true:=hd _ rfl ⟨3,.data⟩ (by simp) rfl;have d8:L 8=true:=hd _ rfl ⟨8,.data⟩ (by simp) rfl;obtain rfl:=hV.c3 d3;obtain rfl:=hV.c8 d8;have HV:=Za hV;have HD:=Za hd;have HL:=Za hl;refine Bc _ rfl rfl (fun K' hK=>?_)
   conv=>arg 2;whnf
   go_wp2_with fail
   exact⟨z9,z34,z35,z36,.string (Aa (Gf.getD i [])),z38,z39,z40,z41,.int .i64 (Ge.getD (Ac raw a 4).1.toNat 0),.agg #[.string (Aa (Gf.getD i [])),.int .i64 (Ge.getD (Ac raw a 4).1.toNat 0)],⟨hV.fr,(by rw[Ab L (show 6≠9 by decide)];exact hV.src),(fun h j hj=>by rw[Ab L (show 11≠9 by decide)]at h;have:=hV.ord h 9 (by decide);rw[hl]at this;cases this),(fun h h11=>by obtain⟨b,e1,e2,e3⟩:=hV.c0 (by rwa[Ab L (show 0≠9 by decide)]at h) (by rwa[Ab L (show 11≠9 by decide)]at h11);exact⟨b,e1,e2,e3⟩),(fun h=>hV.c1 (by rwa[Ab L (show 1≠9 by decide)]at h)),(fun h h11=>by obtain⟨b,e1,e2,e3⟩:=hV.c2 (by rwa[Ab L (show 2≠9 by decide)]at h) (by rwa[Ab L (show 11≠9 by decide)]at h11);exact⟨b,e1,e2,e3⟩),(fun h=>hV.c3 (by rwa[Ab L (show 3≠9 by decide)]at h)),(fun h h11=>by obtain⟨b,e1,e2,e3⟩:=hV.c4 (by rwa[Ab L (show 4≠9 by decide)]at h) (by rwa[Ab L (show 11≠9 by decide)]at h11);exact⟨b,e1,e2,e3⟩),(fun h=>hV.c5 (by rwa[Ab L (show 5≠9 by decide)]at h)),(fun h=>hV.c6 (by rwa[Ab L (show 6≠9 by decide)]at h)),(fun h h11=>by obtain⟨b,e1,e2,e3⟩:=hV.c7 (by rwa[Ab L (show 7≠9 by decide)]at h) (by rwa[Ab L (show 11≠9 by decide)]at h11);exact⟨b,e1,e2,e3⟩),(fun h=>hV.c8 (by rwa[Ab L (show 8≠9 by decide)]at h)),(fun _=>rfl),(fun h=>by obtain⟨b,e1,e2,e3⟩:=hV.c10 (by rwa[Ab L (show 10≠9 by decide)]at h);rw[Ab L (show 11≠9 by decide)];exact⟨b,e1,e2,e3⟩)⟩,rfl⟩
  ·have n11:L 11=false:=by
    cases h:L 11 with
    |false=>rfl
    |true=>have:=hV.ord h 10 (by decide);rw[hl]at this;cases this
   have hal:Below wx.heap.size wx (wx.alloc (.cells #[.string ⟨#[]⟩,.int .i64 0] 85)):=bA;have keep:∀b cs T,W.heap.size≤b→Ae wx b cs T→Ae (wx.alloc (.cells #[.string ⟨#[]⟩,.int .i64 0] 85)) b cs T:=fun b cs T _ h=>h.old hal
   have HV:=Za hV;have HD:=Za hd;have HL:=Za hl;refine Bc _ rfl rfl (fun K' hK=>?_)
   conv=>arg 2;whnf
   go_wp2_with fail
   exact⟨.pointer (some ⟨wx.heap.size,0,none⟩),z34,z35,z36,z37,z38,z39,z40,z41,z42,z43,⟨hV.fr.trans (SFr.of_below hal),(by rw[Ab L (show 6≠10 by decide)];exact hV.src.old hal),(fun h j hj=>by rw[Ab L (show 11≠10 by decide)]at h;have:=hV.ord h 10 (by decide);rw[hl]at this;cases this),(fun h h11=>by obtain⟨b,e1,e2,e3⟩:=hV.c0 (by rwa[Ab L (show 0≠10 by decide)]at h) (by rwa[Ab L (show 11≠10 by decide)]at h11);exact⟨b,e1,e2,keep b _ _ e2 e3⟩),(fun h=>hV.c1 (by rwa[Ab L (show 1≠10 by decide)]at h)),(fun h h11=>by obtain⟨b,e1,e2,e3⟩:=hV.c2 (by rwa[Ab L (show 2≠10 by decide)]at h) (by rwa[Ab L (show 11≠10 by decide)]at h11);exact⟨b,e1,e2,keep b _ _ e2 e3⟩),(fun h=>hV.c3 (by rwa[Ab L (show 3≠10 by decide)]at h)),(fun h h11=>by obtain⟨b,e1,e2,e3⟩:=hV.c4 (by rwa[Ab L (show 4≠10 by decide)]at h) (by rwa[Ab L (show 11≠10 by decide)]at h11);exact⟨b,e1,e2,keep b _ _ e2 e3⟩),(fun h=>hV.c5 (by rwa[Ab L (show 5≠10 by decide)]at h)),(fun h=>hV.c6 (by rwa[Ab L (show 6≠10 by decide)]at h)),(fun h h11=>by obtain⟨b,e1,e2,e3⟩:=hV.c7 (by rwa[Ab L (show 7≠10 by decide)]at h) (by rwa[Ab L (show 11≠10 by decide)]at h11);exact⟨b,e1,e2,keep b _ _ e2 e3⟩),(fun h=>hV.c8 (by rwa[Ab L (show 8≠10 by decide)]at h)),(fun h=>hV.c9 (by rwa[Ab L (show 9≠10 by decide)]at h)),(fun _=>⟨wx.heap.size,rfl,hV.fr.size,by rw[Ab L (show 11≠10 by decide),n11];exact Ae.new wx [.string ⟨#[]⟩,.int .i64 0] _⟩)⟩,rfl⟩
  ·have d9:L 9=true:=hd _ rfl ⟨9,.data⟩ (by simp) rfl
   have d10:L 10=true:=hd _ rfl ⟨10,.data⟩ (by simp) rfl;obtain⟨b,rfl,hb,ho⟩:=hV.c10 d10;obtain rfl:=hV.c9 d9;rw[hl,if_neg (by decide)]at ho;have before:∀j,j<11→L j=true:=fun j hj=>by
    have hj:j=0∨j=1∨j=2∨j=3∨j=4∨j=5∨j=6∨j=7∨j=8∨j=9∨j=10:=by omega
    rcases hj with rfl|rfl|rfl|rfl|rfl|rfl|rfl|rfl|rfl|rfl|rfl
    ·exact hd _ rfl ⟨0,.phase⟩ (by simp) rfl
    ·exact hd _ rfl ⟨1,.phase⟩ (by simp) rfl
    ·exact hd _ rfl ⟨2,.phase⟩ (by simp) rfl
    ·exact hd _ rfl ⟨3,.phase⟩ (by simp) rfl
    ·exact hd _ rfl ⟨4,.phase⟩ (by simp) rfl
    ·exact hd _ rfl ⟨5,.phase⟩ (by simp) rfl
    ·exact hd _ rfl ⟨6,.phase⟩ (by simp) rfl
    ·exact hd _ rfl ⟨7,.phase⟩ (by simp) rfl
    ·exact hd _ rfl ⟨8,.phase⟩ (by simp) rfl
    ·exact hd _ rfl ⟨9,.phase⟩ (by simp) rfl
    ·exact hd _ rfl ⟨10,.phase⟩ (by simp) rfl
   have hx0:=ho.at 0 _ rfl;have hx1:=ho.at 1 _ rfl;have fx0:=ho.fz 0;have fx1:=ho.fz 1;have hbl:=ho.lt;have hsS:=hs.lt;have HV:=Za hV;have HD:=Za hd;have HL:=Za hl;refine Bc _ rfl rfl (fun K' hK=>?_)
   conv=>arg 2;whnf
   go_wp2_with fail
   exact⟨.pointer (some ⟨b,0,none⟩),z34,z35,z36,z37,z38,z39,z40,z41,z42,.agg #[.string (Aa (Gf.getD i [])),.int .i64 (Ge.getD (Ac raw a 4).1.toNat 0)],⟨(hV.fr.setNew hb 0 (.string (Aa (Gf.getD i [])))).setNew hb 1 (.int .i64 (Ge.getD (Ac raw a 4).1.toNat 0)),(by rw[Ab L (show 6≠11 by decide)];exact(hV.src.other (by omega) 0 (.string (Aa (Gf.getD i [])))).other (by omega) 1 (.int .i64 (Ge.getD (Ac raw a 4).1.toNat 0))),(fun _ j hj=>by rw[Ab L (show j≠11 by omega)];exact before j hj),(fun _ h11=>by rw[Bb]at h11;cases h11),(fun h=>hV.c1 (by rwa[Ab L (show 1≠11 by decide)]at h)),(fun _ h11=>by rw[Bb]at h11;cases h11),(fun h=>hV.c3 (by rwa[Ab L (show 3≠11 by decide)]at h)),(fun _ h11=>by rw[Bb]at h11;cases h11),(fun h=>hV.c5 (by rwa[Ab L (show 5≠11 by decide)]at h)),(fun h=>hV.c6 (by rwa[Ab L (show 6≠11 by decide)]at h)),(fun _ h11=>by rw[Bb]at h11;cases h11),(fun h=>hV.c8 (by rwa[Ab L (show 8≠11 by decide)]at h)),(fun h=>hV.c9 (by rwa[Ab L (show 9≠11 by decide)]at h)),(fun _=>⟨b,rfl,hb,by rw[Bb,if_pos rfl];exact(ho.set 0 (.string (Aa (Gf.getD i [])))).set 1 (.int .i64 (Ge.getD (Ac raw a 4).1.toNat 0))⟩)⟩,rfl⟩
 ·intro L act wx hI hall
  obtain⟨z9,z34,z35,z36,z37,z38,z39,z40,z41,z42,z43,hV,rfl⟩:=hI;obtain⟨b,e1,e2,e3⟩:=hV.c10 (hall 10 (by decide));have hsrc:=hV.src;rw[if_pos (hall 6 (by decide))]at hsrc;rw[if_pos (hall 11 (by decide))]at e3;exact hM _ _ (Met.intro (hJ _ _ ⟨z9,z34,z35,z36,z37,z38,z39,z40,z41,z42,z43,⟨b,e1,e2,e3,hsrc,hV.fr⟩,rfl⟩))
end Go.Proofs.YtcfpfnoldgnloaaGreatDoor
