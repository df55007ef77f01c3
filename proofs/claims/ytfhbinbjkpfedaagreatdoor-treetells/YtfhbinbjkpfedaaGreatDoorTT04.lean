/-
  Codes of Prog. No condition.
-/
import Derived.Test.YtfhbinbjkpfedaaGreatDoorTT03
import Derived.Deep.CutRange
import Derived.ChangeSlices
import Derived.OpenShut
import Derived.ProofKit
set_option linter.unusedVariables false
set_option linter.unusedSimpArgs false
namespace Go.Proofs.YtfhbinbjkpfedaaGreatDoor
open Go.RowKit Go.Proofs.Tryz
set_option maxHeartbeats 20000000
set_option maxRecDepth 100000
open Go.Lib renaming hid→Za
open Go.Proofs.Tryz renaming prog→Zb
open List renaming length_map→Zc,getElem?_eq_getElem→Zd,length_eq_zero_iff→Ze
theorem aI(raw:List Int)(d a:Nat):0≤Oo raw d a∧Oo raw d a<14∧(7≤Oo raw d a→Oo raw d a<11→2≤d):=by
 have:=Ak raw a 14 (by decide);unfold Oo;split<;>omega
def Uq(w:World)(s:Nat)(raw:List Int)(one:Nat→St ×Nat)(a0:Nat)(scs:List Value)(k:Nat)(v:Value)(wr:World):Prop:=
 ∃ps,ps.map (·.x)=(Gy one k a0).1∧As wr s raw (Gy one k a0).2∧SFr s w wr∧Al wr w.heap.size scs 62∧Ef wr (w.heap.size+1) ps v
def Mx(w:World)(s d:Nat)(c:Nat)(raw:List Int)(one:Nat→St ×Nat)(a0:Nat)(scs:List Value)(k j:Nat)(a':Act)(w':World):Prop:=
 ∃v q0 q4 q5 q6 q10 q11 q12 q13 q14 q15 q16 q17 q18 q19 q20 q21 q22 q23 q24 q25 q26 q27 q28 q29 q30 q31 q32 q33 q34 q35 q36 q37 q38 q39 q40 q41 q42 q43 q44 q45 q46 q47 q48 q49 q50 q51 q52 q53 q54 q55 q56 q57 q58 q59 q60 q61 q62 q63 q64 q65 q66 q67 q68 q69 q70 q71 q72 q73 q74 q75 q76 q77 q78 q79 q80 q81 q82 q83 q84 q85 q86 q87 q88 q89 q90 q91 q92 q93 q94 q95 q96 q97 q98 q99 q100 q101 q102 q103 q104 q105 q106 q107 q108 q109 q110 q111 q112 q113 q114 q115 q116 q117 q118 q119 q120 q121 q122 q123 q124 q125 q126 q127 q128 q129 q130 q131 q132 q133 q134 q135 q136 q137 q138 q139 q140 q141 q142 q143 q144 q145 q146 q147 q148 q149 q150 q151 q152 q153 q154 q155 q156 q157 q158 q159 q160 q161 q162 q163 q164 q165 q166 q167 q168 q169 q170 q171 q172 q173 q174 q175 q176 q177 q178 q179 q180 q181 q182 q183 q184 q185 q186 q187 q188 q189 q190 q191 q192 q193 q194 q195 q196 q197 q198 q199 q200 q201 q202 q203 q204 q205 q206 q207 q208 q209 q210 q211 q212 q213 q214 q215 q216 q217 q218 q219 q220 q221 q222 q223 q224 q225:Value,Uq w s raw one a0 scs j v w'∧a'=⟨[q0,.pointer (some ⟨s,0,none⟩),.int .i64 d,.pointer (some ⟨w.heap.size,0,none⟩),q4,q5,q6,v,.int .i64 c,.int .i64 k,q10,q11,q12,q13,q14,q15,q16,q17,q18,q19,q20,q21,q22,q23,q24,q25,q26,q27,q28,q29,q30,q31,q32,q33,q34,q35,q36,q37,q38,q39,q40,q41,q42,q43,q44,q45,q46,q47,q48,q49,q50,q51,q52,q53,q54,q55,q56,q57,q58,q59,q60,q61,q62,q63,q64,q65,q66,q67,q68,q69,q70,q71,q72,q73,q74,q75,q76,q77,q78,q79,q80,q81,q82,q83,q84,q85,q86,q87,q88,q89,q90,q91,q92,q93,q94,q95,q96,q97,q98,q99,q100,q101,q102,q103,q104,q105,q106,q107,q108,q109,q110,q111,q112,q113,q114,q115,q116,q117,q118,q119,q120,q121,q122,q123,q124,q125,q126,q127,q128,q129,q130,q131,q132,q133,q134,q135,q136,q137,q138,q139,q140,q141,q142,q143,q144,q145,q146,q147,q148,q149,q150,q151,q152,q153,q154,q155,q156,q157,q158,q159,q160,q161,q162,q163,q164,q165,q166,q167,q168,q169,q170,q171,q172,q173,q174,q175,q176,q177,q178,q179,q180,q181,q182,q183,q184,q185,q186,q187,q188,q189,q190,q191,q192,q193,q194,q195,q196,q197,q198,q199,q200,q201,q202,q203,q204,q205,q206,q207,q208,q209,q210,q211,q212,q213,q214,q215,q216,q217,q218,q219,q220,q221,q222,q223,q224,q225].toArray,[]⟩
theorem fV(sc:Sc)(raw:List Int)(gs gl:Nat→List St ×Nat)(k:Int)(a:Nat):Cx (Cb sc raw gs gl k a).1.kind≤(Cb sc raw gs gl k a).1.args.length+1:=by
 have h:∀(k:Int) (n:Bs) (l:List Ex) (t e:List St),Cx k≤l.length+1→Cx (St.mk k n l t e).kind≤(St.mk k n l t e).args.length+1:=fun _ _ _ _ _ h=>h
 unfold Cb;split
 ·exact h _ _ _ _ _ (by decide)
 split
 ·exact h _ _ _ _ _ (by show Cx 2≤1+1;decide)
 split
 ·exact h _ _ _ _ _ (by show Cx 10≤1+1;decide)
 split
 ·dsimp only
  split
  ·exact h _ _ _ _ _ (by decide)
  ·exact h _ _ _ _ _ (by decide)
 split
 ·exact h _ _ _ _ _ (by show Cx 3≤1+1;decide)
 split
 ·exact h _ _ _ _ _ (by show Cx 4≤1+1;decide)
 split
 ·dsimp only
  split
  ·exact h _ _ _ _ _ (by decide)
  ·exact h _ _ _ _ _ (by decide)
 ·exact h _ _ _ _ _ (by decide)
theorem Fk {P:Program}{c:Code}{K:Act→World→Prop}{Q:Exit→Act→World→Prop}{a:Act}{w:World}(h:c.wp P (Exit.then K (fun _ _ _=>False)) a w):c.wp P (Exit.then K Q) a w:=
 wp_mono h (fun e a w q=>by cases e with
  |normal=>exact q
  |_=>exact False.elim q)
noncomputable def eC:Code:=match(Tryz.f29.body.bind (Hp isLoop))with
 |some (.loop c)=>c
 |_=>.skip
theorem dK(sc:Sc)(raw:List Int)(gs gl:Nat→List St ×Nat)(k:Int)(a:Nat):(Cb sc raw gs gl k a).1.args.length≤1:=by
 have h:∀(k:Int) (n:Bs) (l:List Ex) (t e:List St),l.length≤1→(St.mk k n l t e).args.length≤1:=fun _ _ _ _ _ h=>h
 unfold Cb;split
 ·exact h _ _ _ _ _ (by simp)
 split
 ·exact h _ _ _ _ _ (by simp)
 split
 ·exact h _ _ _ _ _ (by simp)
 split
 ·dsimp only
  split
  ·exact h _ _ _ _ _ (by simp)
  ·exact h _ _ _ _ _ (by simp)
 split
 ·exact h _ _ _ _ _ (by simp)
 split
 ·exact h _ _ _ _ _ (by simp)
 split
 ·dsimp only
  split
  ·exact h _ _ _ _ _ (by simp)
  ·exact h _ _ _ _ _ (by simp)
 ·exact h _ _ _ _ _ (by simp)
theorem bR(sc:Sc)(raw:List Int)(x:St)(a:Nat)(h:x.args.length≤1):(Ib sc raw x a).1.args.length≤2:=by
 unfold Ib;split
 ·show(x.args++[_]).length≤2
  rw[List.length_append,List.length_singleton];omega
 ·show x.args.length≤2;omega
theorem wp_to {P:Program}{c:Code}{Q:Exit→Act→World→Prop}{a:Act}{w:World}(h:c.wp P (Exit.then (fun a w=>Q .normal a w) (fun _ _ _=>False)) a w):c.wp P Q a w:=
 wp_mono h (fun e a w q=>by cases e with
  |normal=>exact q
  |_=>exact False.elim q)
def gH(n:Nat):Code→Bool
 |.region k _ _=>k==n
 |_=>false
def Jg(n:Nat):Code→Option Code
 |.loop c=>Jg n c
 |.seq a b=>if gH n a then some b else match Jg n a with
  |some c=>some c
  |none=>Jg n b
 |.block _ c=>Jg n c
 |.scope c=>Jg n c
 |.cond _ a b=>match Jg n a with
  |some c=>some c
  |none=>Jg n b
 |_=>none
noncomputable def midCode:Code:=((Tryz.f29.body.bind (Jg 9)).getD .skip)
def Kh(n:Nat):Code→Option Code
 |.loop c=>Kh n c
 |.seq a b=>if Ls n a then some b else match Kh n a with
  |some c=>some c
  |none=>Kh n b
 |.block _ c=>Kh n c
 |.scope c=>Kh n c
 |.cond _ a b=>match Kh n a with
  |some c=>some c
  |none=>Kh n b
 |_=>none
noncomputable def iP:Code:=((Tryz.f29.body.bind (Kh 2)).getD .skip)
noncomputable def appCode:Code:=((Tryz.f29.body.bind (Kh 3)).getD .skip)
theorem jP(s d c k:Nat)(raw:List Int)(sc:Sc)(v1 a1 f1:Option Addr)(v2 a2 f2:Nat)(one:Nat→St ×Nat)(a0:Nat)(w wr:World)(v:Value)(X:Nat)(y:St ×Nat)(we:World)
  (hsl:s<w.heap.size) (hc6:c≤4) (hlt:k<c) (ls:List StV) (lk:List St) (bk:Nat) (hps:ls.map (·.x)=lk) (hfr:SFr s w wr) (hC:Al wr w.heap.size [.slice v1 sc.vars.length v2,.slice a1 sc.arrays.length a2,.slice f1 sc.funcs.length f2,.bool sc.free,.bool sc.loop] 62) (hO:Ef wr (w.heap.size+1) ls v)
  (hnx:Gy one (k+1) a0=(lk++[(one bk).1],(one bk).2)) (hlk:ls.length=k) (hone:one bk=y) (hCX:w.heap.size<X) (hargs:y.1.args.length≤2) (hcut:Nk wr X s raw y we)
  (q0 q4 q5 q6 q10 q12 q13 q14 q15 q16 q17 q18 q19 q20 q21 q22 q23 q24 q25 q26 q27 q28 q29 q30 q31 q32 q33 q34 q35 q36 q37 q38 q39 q40 q41 q42 q43 q44 q45 q46 q47 q48 q49 q50 q51 q52 q53 q54 q55 q56 q57 q58 q59 q60 q61 q62 q63 q64 q65 q66 q67 q68 q69 q70 q71 q72 q73 q74 q75 q76 q77 q78 q79 q80 q81 q82 q83 q84 q85 q86 q87 q88 q89 q90 q91 q92 q93 q94 q95 q96 q97 q98 q99 q100 q101 q102 q103 q104 q105 q106 q107 q108 q109 q110 q111 q112 q113 q114 q115 q116 q117 q118 q119 q120 q121 q122 q123 q124 q125 q126 q127 q128 q129 q130 q131 q132 q133 q134 q135 q136 q137 q138 q139 q140 q141 q142 q143 q144 q145 q146 q147 q148 q149 q150 q151 q152 q153 q154 q155 q156 q157 q158 q159 q160 q161 q162 q163 q164 q165 q166 q167 q168 q169 q170 q171 q172 q173 q174 q175 q176 q177 q178 q179 q180 q181 q182 q183 q184 q185 q186 q187 q188 q189 q190 q191 q192 q193 q194 q195 q196 q197 q198 q199 q200 q201 q202 q203 q204 q205 q206 q207 q208 q209 q210 q211 q212 q213 q214 q215 q216 q217 q218 q219 q220 q221 q222 q223 q224 q225:Value) (J K':Act→World→Prop) (hJ:∀a' w',Mx w s d c raw one a0 [.slice v1 sc.vars.length v2,.slice a1 sc.arrays.length a2,.slice f1 sc.funcs.length f2,.bool sc.free,.bool sc.loop] k (k+1) a' w'→J a' w') (hM:∀a' w',Met J a' w'→K' a' w'):
  Code.wp Zb appCode (Exit.then K' (fun _ _ _=>False)) ⟨[q0,.pointer (some ⟨s,0,none⟩),.int .i64 d,.pointer (some ⟨w.heap.size,0,none⟩),q4,q5,q6,v,.int .i64 c,.int .i64 k,q10,.pointer (some ⟨X,0,none⟩),q12,q13,q14,q15,q16,q17,q18,q19,q20,q21,q22,q23,q24,q25,q26,q27,q28,q29,q30,q31,q32,q33,q34,q35,q36,q37,q38,q39,q40,q41,q42,q43,q44,q45,q46,q47,q48,q49,q50,q51,q52,q53,q54,q55,q56,q57,q58,q59,q60,q61,q62,q63,q64,q65,q66,q67,q68,q69,q70,q71,q72,q73,q74,q75,q76,q77,q78,q79,q80,q81,q82,q83,q84,q85,q86,q87,q88,q89,q90,q91,q92,q93,q94,q95,q96,q97,q98,q99,q100,q101,q102,q103,q104,q105,q106,q107,q108,q109,q110,q111,q112,q113,q114,q115,q116,q117,q118,q119,q120,q121,q122,q123,q124,q125,q126,q127,q128,q129,q130,q131,q132,q133,q134,q135,q136,q137,q138,q139,q140,q141,q142,q143,q144,q145,q146,q147,q148,q149,q150,q151,q152,q153,q154,q155,q156,q157,q158,q159,q160,q161,q162,q163,q164,q165,q166,q167,q168,q169,q170,q171,q172,q173,q174,q175,q176,q177,q178,q179,q180,q181,q182,q183,q184,q185,q186,q187,q188,q189,q190,q191,q192,q193,q194,q195,q196,q197,q198,q199,q200,q201,q202,q203,q204,q205,q206,q207,q208,q209,q210,q211,q212,q213,q214,q215,q216,q217,q218,q219,q220,q221,q222,q223,q224,q225].toArray,[]⟩ we:=by
 have HY:Hid (w.heap.size≠s):=by show _≠_;omega
 obtain⟨oa,oc,rfl⟩:=hO.shape;have HPS:=Za hps;have HFK:=Za hfr;have HCK:=Za hC;have HOK:=Za hO;have HLN:=Za hlk;have HCX:Hid (w.heap.size<X):=hCX;rw[hone]at hnx;have HNX:=Za hnx;have harg:=hargs;clear hps hfr hC hO hnx hone hlk hargs
 conv=>arg 2;whnf
 obtain⟨⟨yk,ynm,yargs,yt,ye⟩,ya⟩:=y;obtain⟨ps,va,vc,xt,xe,hps,hh⟩:=hcut;dsimp only[St.kind,St.name,St.args,St.thn,St.els]at HNX hps hh harg;subst hps;rw[Zc]at harg;obtain⟨ta,tc,rfl⟩:=hh.thn.shape;obtain⟨ea,ec,rfl⟩:=hh.els.shape;have HHA:=Za hh;have x0:=hh.own.at 0 _ rfl;have x1:=hh.own.at 1 _ rfl;have x2:=hh.own.at 2 _ rfl;have x3:=hh.own.at 3 _ rfl;have x4:=hh.own.at 4 _ rfl;have hXl:=hh.lt;have hout:∀k,(Value.slice oa ls.length oc).ownBlock=some k→k<X:=fun k e=>by have:=(HOK.o.ge e).2;have:=hh.ge;omega
 have hpar:Et (fun b=>w.heap.size+1≤b∧(Value.slice oa ls.length oc).ownBlock≠some b) we ⟨.mk yk ynm (ps.map (·.1)) yt ye,.slice va ps.length vc,.slice ta yt.length tc,.slice ea ye.length ec⟩:=by
  have hf:Ci ps.length:=Nat.le_trans harg (by decide);exact⟨(hh.exs.exs hf).mono (fun b hb=>⟨by have:=HCX.o;omega,fun e=>by have:=hout b e;omega⟩),hh.thn.mono (fun b hb=>⟨by have:=HCX.o;have:=hb.1;omega,fun e=>by have:=hout b e;have:=hb.1;omega⟩),hh.els.mono (fun b hb=>⟨by have:=HCX.o;have:=hb.1;omega,fun e=>by have:=hout b e;have:=hb.1;omega⟩)⟩
 have hb10:Below we.heap.size we (we.alloc (.cells #[.int .i64 yk,.string (Aa ynm),.slice va ps.length vc,.slice ta yt.length tc,.slice ea ye.length ec] 56)):=bA;have HO9:=HOK.o.sfr hh.fr (show s<w.heap.size+1 by omega);have HO10:=Za (HO9.keep (w':=we.alloc (.cells #[.int .i64 yk,.string (Aa ynm),.slice va ps.length vc,.slice ta yt.length tc,.slice ea ye.length ec] 56)) (fun k h1 h2=>hb10.block k h1));have HP10:=Za (hpar.keep (Dp hb10));have HS10:=Za (hh.src.old hb10);have HF10:=Za ((HFK.o.trans hh.fr).trans (SFr.of_below hb10));have HC10:=Za ((HCK.o.sfr hh.fr HY.o).old hb10);have HN10:=Za (Bx.new we (Bl (.mk yk ynm (ps.map (·.1)) yt ye) (.slice va ps.length vc) (.slice ta yt.length tc) (.slice ea ye.length ec)) 56);clear hb10 hpar HO9 hh hout;obtain⟨i0,hi0,hz0,hz1,hz2⟩:=info_parts Yz;have HI0:=Za hi0;have HZ0:=Za hz0;have HZ1:=Za hz1;have HZ2:=Za hz2;clear hi0 hz0 hz1 hz2;go_wp2_with (at_builtin;(refine wpList_append_lies (P:=Zb) _ rfl _ _ 45 rfl (w.heap.size+1) 56 i0 _ 5 96 underlying45 HI0.o HZ0.o HZ1.o HZ2.o rfl (by decide) (.slice oa ls.length oc) ls.length (Di ls) rfl HO10.o.1 ⟨we.heap.size,0,none⟩ 1 1 (Bl (.mk yk ynm (ps.map (·.1)) yt ye) (.slice va ps.length vc) (.slice ta yt.length tc) (.slice ea ye.length ec)) rfl rfl (Ew HN10.o) (Vd _ _ _ _ _ _ _ _ _ _) (by decide) (by have:=HLN.o;unfold maxLen;omega) (by have:=HLN.o;omega) (by have:=HC10.o.lt;omega) _ rfl ?_;intro g cap w11 hown hgrow hat hlt11;have hge8:∀k,(Value.slice oa ls.length oc).ownBlock=some k→w.heap.size+1≤k:=fun k e=>(HO10.o.ge e).1;have HS11:=Za (HS10.o.low (w':=w11) (fun k hk=>hgrow.block k (Nat.lt_of_le_of_lt hk HS10.o.lt) (fun e=>by have:=hge8 k e.symm;omega)));have HF11:=Za (HF10.o.grow hgrow (fun k e=>by have:=hge8 k e;omega));have HC11:=Za (HC10.o.low (hgrow.block _ HC10.o.lt (fun e=>by have:=hge8 _ e.symm;omega)));have HO11:=Za (HO10.o.snoc _ HP10.o hown hgrow hat);clear hown hgrow hat hge8))
 go_meet;exact⟨ls++[⟨.mk yk ynm (ps.map (·.1)) yt ye,.slice va ps.length vc,.slice ta yt.length tc,.slice ea ye.length ec⟩],by rw[HNX.o,List.map_append,HPS.o];rfl,by rw[HNX.o];exact HS11.o,HF11.o,HC11.o,HO11.o⟩
theorem fO(s d c k:Nat)(raw:List Int)(sc:Sc)(v1 a1 f1:Option Addr)(v2 a2 f2:Nat)(one:Nat→St ×Nat)(a0:Nat)(w wr:World)(v:Value)(X:Nat)(y:St ×Nat)(wc:World)
  (hsc:Ec s w sc (.slice v1 sc.vars.length v2) (.slice a1 sc.arrays.length a2) (.slice f1 sc.funcs.length f2)) (hsl:s<w.heap.size) (hc6:c≤4) (hlt:k<c) (ls:List StV) (lk:List St) (bk:Nat) (hps:ls.map (·.x)=lk) (hfr:SFr s w wr) (hC:Al wr w.heap.size [.slice v1 sc.vars.length v2,.slice a1 sc.arrays.length a2,.slice f1 sc.funcs.length f2,.bool sc.free,.bool sc.loop] 62) (hO:Ef wr (w.heap.size+1) ls v)
  (hnx:Gy one (k+1) a0=(lk++[(one bk).1],(one bk).2)) (hlk:ls.length=k) (hone:one bk=Ib sc raw y.1 y.2) (hCX:w.heap.size<X) (hmany:Cx y.1.kind≤y.1.args.length+1) (hargs:y.1.args.length≤1) (hcut:Nk wr X s raw y wc)
  (q0 q4 q5 q6 q10 q12 q13 q14 q15 q16 q17 q18 q19 q20 q21 q22 q23 q24 q25 q26 q27 q28 q29 q30 q31 q32 q33 q34 q35 q36 q37 q38 q39 q40 q41 q42 q43 q44 q45 q46 q47 q48 q49 q50 q51 q52 q53 q54 q55 q56 q57 q58 q59 q60 q61 q62 q63 q64 q65 q66 q67 q68 q69 q70 q71 q72 q73 q74 q75 q76 q77 q78 q79 q80 q81 q82 q83 q84 q85 q86 q87 q88 q89 q90 q91 q92 q93 q94 q95 q96 q97 q98 q99 q100 q101 q102 q103 q104 q105 q106 q107 q108 q109 q110 q111 q112 q113 q114 q115 q116 q117 q118 q119 q120 q121 q122 q123 q124 q125 q126 q127 q128 q129 q130 q131 q132 q133 q134 q135 q136 q137 q138 q139 q140 q141 q142 q143 q144 q145 q146 q147 q148 q149 q150 q151 q152 q153 q154 q155 q156 q157 q158 q159 q160 q161 q162 q163 q164 q165 q166 q167 q168 q169 q170 q171 q172 q173 q174 q175 q176 q177 q178 q179 q180 q181 q182 q183 q184 q185 q186 q187 q188 q189 q190 q191 q192 q193 q194 q195 q196 q197 q198 q199 q200 q201 q202 q203 q204 q205 q206 q207 q208 q209 q210 q211 q212 q213 q214 q215 q216 q217 q218 q219 q220 q221 q222 q223 q224 q225:Value) (J K':Act→World→Prop) (hJ:∀a' w',Mx w s d c raw one a0 [.slice v1 sc.vars.length v2,.slice a1 sc.arrays.length a2,.slice f1 sc.funcs.length f2,.bool sc.free,.bool sc.loop] k (k+1) a' w'→J a' w') (hM:∀a' w',Met J a' w'→K' a' w'):
  Code.wp Zb iP (Exit.then K' (fun _ _ _=>False)) ⟨[q0,.pointer (some ⟨s,0,none⟩),.int .i64 d,.pointer (some ⟨w.heap.size,0,none⟩),q4,q5,q6,v,.int .i64 c,.int .i64 k,q10,.pointer (some ⟨X,0,none⟩),q12,q13,q14,q15,q16,q17,q18,q19,q20,q21,q22,q23,q24,q25,q26,q27,q28,q29,q30,q31,q32,q33,q34,q35,q36,q37,q38,q39,q40,q41,q42,q43,q44,q45,q46,q47,q48,q49,q50,q51,q52,q53,q54,q55,q56,q57,q58,q59,q60,q61,q62,q63,q64,q65,q66,q67,q68,q69,q70,q71,q72,q73,q74,q75,q76,q77,q78,q79,q80,q81,q82,q83,q84,q85,q86,q87,q88,q89,q90,q91,q92,q93,q94,q95,q96,q97,q98,q99,q100,q101,q102,q103,q104,q105,q106,q107,q108,q109,q110,q111,q112,q113,q114,q115,q116,q117,q118,q119,q120,q121,q122,q123,q124,q125,q126,q127,q128,q129,q130,q131,q132,q133,q134,q135,q136,q137,q138,q139,q140,q141,q142,q143,q144,q145,q146,q147,q148,q149,q150,q151,q152,q153,q154,q155,q156,q157,q158,q159,q160,q161,q162,q163,q164,q165,q166,q167,q168,q169,q170,q171,q172,q173,q174,q175,q176,q177,q178,q179,q180,q181,q182,q183,q184,q185,q186,q187,q188,q189,q190,q191,q192,q193,q194,q195,q196,q197,q198,q199,q200,q201,q202,q203,q204,q205,q206,q207,q208,q209,q210,q211,q212,q213,q214,q215,q216,q217,q218,q219,q220,q221,q222,q223,q224,q225].toArray,[]⟩ wc:=by
 have HSC:=Za hsc;have HY:Hid (w.heap.size≠s):=by show _≠_;omega
 obtain⟨oa,oc,rfl⟩:=hO.shape;have HPS:=Za hps;have HFK:=Za hfr;have HCK:=Za hC;have HOK:=Za hO;have HNX:=Za hnx;have HONE:=Za hone;have HLN:=Za hlk;have HCX:Hid (w.heap.size<X):=hCX;have HMANY:=Za hmany;have HARGS:=Za (bR sc raw y.1 y.2 hargs);clear hps hfr hC hO hsc hnx hone hlk hmany hargs
 conv=>arg 2;whnf
 obtain⟨y0,hy0⟩:∃y0,y0=Ib sc raw y.1 y.2:=⟨_,rfl⟩;rw[←hy0]at HONE HARGS;have HY0:=Za hy0;clear hy0;obtain⟨⟨yk,ynm,yargs,yt,ye⟩,ya⟩:=y;obtain⟨ps,va,vc,xt,xe,hps,hh⟩:=hcut;dsimp only[St.kind,St.name,St.args,St.thn,St.els]at HMANY HY0 hps hh;subst hps;have HHA:=Za hh;have x0:=hh.own.at 0 _ rfl;have hXl:=hh.lt;clear hh
 go_upto_if 199 with(fail)
 go_cut [16]from 19 to 224 (fun q wx=>q=.int .i64 (if yk=2 then 2 else 1)∧wc=wx)
 case first=>
  by_cases h:yk=2
  ·subst h
   go_wp2_with fail
   go_meet;exact⟨rfl,rfl⟩
  ·have h2:(yk==2)=false:=beq_eq_false_iff_ne.2 h
   have e:Hid ((if yk=2 then(2:Int)else 1)=1):=if_neg h;clear h;go_wp2_with fail
   go_meet;exact⟨by rw[e.out],rfl⟩
 case rest=>
 obtain⟨rfl,rfl⟩:=hcut;obtain⟨t2,ht2⟩:∃t2,t2=(if yk=2 then(2:Int)else 1):=⟨_,rfl⟩;rw[←ht2];have HT2:=Za ht2;clear ht2;go_upto_region 41 with(fail)
 go_cut [207]from 19 to 224 (fun q wx=>q=.bool (decide (yk=5∨yk=6))∧wc=wx)
 case first=>
  by_cases h:yk=5
  ·subst h
   go_wp2_with fail
   go_meet;exact⟨rfl,rfl⟩
  ·by_cases h6:yk=6
   ·subst h6
    go_wp2_with fail
    go_meet;exact⟨rfl,rfl⟩
   ·have e:Hid (decide (yk=5∨yk=6)=false):=by show _=_;exact decide_eq_false (by omega)
    have n5:(yk==5)=false:=beq_eq_false_iff_ne.2 h;have n6:(yk==6)=false:=beq_eq_false_iff_ne.2 h6;clear h h6;go_wp2_with fail
    go_meet;exact⟨by rw[e.out],rfl⟩
 case rest=>
 obtain⟨rfl,rfl⟩:=hcut;obtain⟨b56,hb56⟩:∃b56,b56=decide (yk=5∨yk=6):=⟨_,rfl⟩;rw[←hb56];have HM:Hid ((Cx yk:Int)=if b56=true then 0 else t2):=by
  show _=_
  rw[HT2.o,hb56];unfold Cx
  by_cases h2:yk=2
  ·subst h2;rfl
  ·by_cases h56:yk=5∨yk=6<;>simp [h2,h56]
 clear HT2 hb56
 go_upto_if 207 with(fail)
 go_cut [16]from 19 to 224 (fun q wx=>q=.int .i64 (Cx yk:Nat)∧wc=wx)
 case first=>
  have hm:=HM.o
  cases b56
  ·have e:Hid ((Cx yk:Int)=t2):=hm
   clear hm;go_wp2_with fail
   go_meet;exact⟨by rw[e.out],rfl⟩
  ·have e:Hid ((Cx yk:Int)=0):=hm
   clear hm;go_wp2_with fail
   go_meet;exact⟨by rw[e.out],rfl⟩
 case rest=>
 obtain⟨rfl,rfl⟩:=hcut;clear HM x0
 go_upto_block 3 with(fail)
 refine wp_cut (fun a' w'=>FillR s sc raw w.heap.size X yk wr (Ib sc raw (.mk yk ynm (ps.map (·.1)) yt ye) ya) _ _ _ _ _ _ _ _ _ _ _ _ _ _ _ _ _ _ _ _ _ _ _ _ _ _ _ _ _ _ _ _ _ _ _ _ _ _ _ _ _ _ _ _ _ _ _ _ _ _ _ _ _ _ _ _ _ _ _ _ _ _ _ _ _ _ _ _ _ _ _ _ _ _ _ _ _ _ _ _ _ _ _ _ _ _ _ _ _ _ _ _ _ _ _ _ _ _ _ _ _ _ _ _ _ _ _ _ _ _ _ _ _ _ _ _ _ _ _ _ _ _ _ _ _ _ _ _ _ _ _ _ _ _ _ _ _ _ _ _ _ _ _ _ _ _ _ _ _ _ _ _ _ _ _ _ _ _ _ _ _ _ _ _ _ _ _ _ _ _ _ _ _ _ _ _ _ _ _ _ _ _ _ _ _ _ _ _ _ _ _ _ _ _ _ _ _ _ _ _ _ _ _ _ _ _ _ _ _ a' w') ?rest (fun J K' hJ hM=>Fk (fP s raw sc v1 a1 f1 v2 a2 f2 w.heap.size X yk ynm ps va vc yt ye xt xe ya wr wc (HSC.o.sfr HFK.o) HCK.o HHA.o HCX.o hsl (by have:=HMANY.o;rwa[Zc]at this) _ _ _ _ _ _ _ _ _ _ _ _ _ _ _ _ _ _ _ _ _ _ _ _ _ _ _ _ _ _ _ _ _ _ _ _ _ _ _ _ _ _ _ _ _ _ _ _ _ _ _ _ _ _ _ _ _ _ _ _ _ _ _ _ _ _ _ _ _ _ _ _ _ _ _ _ _ _ _ _ _ _ _ _ _ _ _ _ _ _ _ _ _ _ _ _ _ _ _ _ _ _ _ _ _ _ _ _ _ _ _ _ _ _ _ _ _ _ _ _ _ _ _ _ _ _ _ _ _ _ _ _ _ _ _ _ _ _ _ _ _ _ _ _ _ _ _ _ _ _ _ _ _ _ _ _ _ _ _ _ _ _ _ _ _ _ _ _ _ _ _ _ _ _ _ _ _ _ _ _ _ _ _ _ _ _ _ _ _ _ _ _ _ _ _ _ _ _ _ _ _ _ _ _ _ _ _ _ _ _ _ _ _ _ _ _ _ _ _ _ _ _ J K' hJ hM))
 case rest=>
 intro a' we hcut;obtain⟨z208,z209,z210,z211,z212,z213,z214,z215,z216,z217,z218,z219,z220,hcut⟩:=hcut;obtain⟨hcut,ha'⟩:=hcut;subst ha';clear HHA HMANY;rw[←HY0.o]at hcut;apply_assumption
 exact jP s d c k raw sc v1 a1 f1 v2 a2 f2 one a0 w wr (.slice oa ls.length oc) X y0 we hsl hc6 hlt ls lk bk HPS.o HFK.o HCK.o HOK.o HNX.o HLN.o HONE.o HCX.o HARGS.o hcut _ _ _ _ _ _ _ _ _ _ _ _ _ _ _ _ _ _ _ _ _ _ _ _ _ _ _ _ _ _ _ _ _ _ _ _ _ _ _ _ _ _ _ _ _ _ _ _ _ _ _ _ _ _ _ _ _ _ _ _ _ _ _ _ _ _ _ _ _ _ _ _ _ _ _ _ _ _ _ _ _ _ _ _ _ _ _ _ _ _ _ _ _ _ _ _ _ _ _ _ _ _ _ _ _ _ _ _ _ _ _ _ _ _ _ _ _ _ _ _ _ _ _ _ _ _ _ _ _ _ _ _ _ _ _ _ _ _ _ _ _ _ _ _ _ _ _ _ _ _ _ _ _ _ _ _ _ _ _ _ _ _ _ _ _ _ _ _ _ _ _ _ _ _ _ _ _ _ _ _ _ _ _ _ _ _ _ _ _ _ _ _ _ _ _ _ _ _ _ _ _ _ _ _ _ _ _ _ _ _ _ _ _ _ _ _ _ _ _ J K' hJ hM
theorem kI(d s c k:Nat)(raw:List Int)(sc:Sc)(v1 a1 f1:Option Addr)(v2 a2 f2:Nat)(gs gl:Nat→List St ×Nat)(a0:Nat)(w wr:World)(v:Value)(hd1:d≤1000)(hsc:Ec s w sc (.slice v1 sc.vars.length v2) (.slice a1 sc.arrays.length a2) (.slice f1 sc.funcs.length f2))(hsl:s<w.heap.size)(hc6:c≤4)(hIH:2≤d→∀w1 b,As w1 s raw b→Ec s w1 sc (.slice v1 sc.vars.length v2) (.slice a1 sc.arrays.length a2) (.slice f1 sc.funcs.length f2)→Calls Zb 29 #[.agg #[.slice v1 sc.vars.length v2,.slice a1 sc.arrays.length a2,.slice f1 sc.funcs.length f2,.bool sc.free,.bool sc.loop],.pointer (some ⟨s,0,none⟩),.int .i64 ((d:Int)-1)] w1 (Gl w1 s raw (gs b)))(hIL:2≤d→∀w1 b,As w1 s raw b→Ec s w1 sc (.slice v1 sc.vars.length v2) (.slice a1 sc.arrays.length a2) (.slice f1 sc.funcs.length f2)→Calls Zb 29 #[.agg #[.slice v1 sc.vars.length v2,.slice a1 sc.arrays.length a2,.slice f1 sc.funcs.length f2,.bool sc.free,.bool true],.pointer (some ⟨s,0,none⟩),.int .i64 ((d:Int)-1)] w1 (Gl w1 s raw (gl b)))(hlt:k<c)(ls:List StV)(lk:List St)(bk:Nat)(hps:ls.map (·.x)=lk)(hfr:SFr s w wr)(hC:Al wr w.heap.size [.slice v1 sc.vars.length v2,.slice a1 sc.arrays.length a2,.slice f1 sc.funcs.length f2,.bool sc.free,.bool sc.loop] 62)(hO:Ef wr (w.heap.size+1) ls v)
  (hnx:Gy (gSt sc raw gs gl d) (k+1) a0=(lk++[((gSt sc raw gs gl d) bk).1],((gSt sc raw gs gl d) bk).2)) (hlk:ls.length=k) (X:Nat) (K:Int) (ka:Nat) (W3:World) (hone:gSt sc raw gs gl d bk=Ib sc raw (Cb sc raw gs gl K ka).1 (Cb sc raw gs gl K ka).2)
  (hCX:w.heap.size<X) (hK0:0≤K) (hK1:K<14) (hKd:7≤K→K<11→2≤d) (hC3:Al W3 w.heap.size [.slice v1 sc.vars.length v2,.slice a1 sc.arrays.length a2,.slice f1 sc.funcs.length f2,.bool sc.free,.bool sc.loop] 62) (hH3:Cg wr X s raw 8 [] [] none 0 [] [] (.slice none 0 0) (.slice none 0 0) ka W3)
  (q0 q4 q5 q6 q12 q13 q14 q15 q16 q17 q18 q19 q20 q21 q22 q23 q24 q25 q26 q27 q28 q29 q30 q31 q32 q33 q34 q35 q36 q37 q38 q39 q40 q41 q42 q43 q44 q45 q46 q47 q48 q49 q50 q51 q52 q53 q54 q55 q56 q57 q58 q59 q60 q61 q62 q63 q64 q65 q66 q67 q68 q69 q70 q71 q72 q73 q74 q75 q76 q77 q78 q79 q80 q81 q82 q83 q84 q85 q86 q87 q88 q89 q90 q91 q92 q93 q94 q95 q96 q97 q98 q99 q100 q101 q102 q103 q104 q105 q106 q107 q108 q109 q110 q111 q112 q113 q114 q115 q116 q117 q118 q119 q120 q121 q122 q123 q124 q125 q126 q127 q128 q129 q130 q131 q132 q133 q134 q135 q136 q137 q138 q139 q140 q141 q142 q143 q144 q145 q146 q147 q148 q149 q150 q151 q152 q153 q154 q155 q156 q157 q158 q159 q160 q161 q162 q163 q164 q165 q166 q167 q168 q169 q170 q171 q172 q173 q174 q175 q176 q177 q178 q179 q180 q181 q182 q183 q184 q185 q186 q187 q188 q189 q190 q191 q192 q193 q194 q195 q196 q197 q198 q199 q200 q201 q202 q203 q204 q205 q206 q207 q208 q209 q210 q211 q212 q213 q214 q215 q216 q217 q218 q219 q220 q221 q222 q223 q224 q225:Value) (J K':Act→World→Prop) (hJ:∀a' w',Mx w s d c raw (gSt sc raw gs gl d) a0 [.slice v1 sc.vars.length v2,.slice a1 sc.arrays.length a2,.slice f1 sc.funcs.length f2,.bool sc.free,.bool sc.loop] k (k+1) a' w'→J a' w') (hM:∀a' w',Met J a' w'→K' a' w'):
  Code.wp Zb midCode (Exit.then K' (fun _ _ _=>False)) ⟨[q0,.pointer (some ⟨s,0,none⟩),.int .i64 d,.pointer (some ⟨w.heap.size,0,none⟩),q4,q5,q6,v,.int .i64 c,.int .i64 k,.int .i64 K,.pointer (some ⟨X,0,none⟩),q12,q13,q14,q15,q16,q17,q18,q19,q20,q21,q22,q23,q24,q25,q26,q27,q28,q29,q30,q31,q32,q33,q34,q35,q36,q37,q38,q39,q40,q41,q42,q43,q44,q45,q46,q47,q48,q49,q50,q51,q52,q53,q54,q55,q56,q57,q58,q59,q60,q61,q62,q63,q64,q65,q66,q67,q68,q69,q70,q71,q72,q73,q74,q75,q76,q77,q78,q79,q80,q81,q82,q83,q84,q85,q86,q87,q88,q89,q90,q91,q92,q93,q94,q95,q96,q97,q98,q99,q100,q101,q102,q103,q104,q105,q106,q107,q108,q109,q110,q111,q112,q113,q114,q115,q116,q117,q118,q119,q120,q121,q122,q123,q124,q125,q126,q127,q128,q129,q130,q131,q132,q133,q134,q135,q136,q137,q138,q139,q140,q141,q142,q143,q144,q145,q146,q147,q148,q149,q150,q151,q152,q153,q154,q155,q156,q157,q158,q159,q160,q161,q162,q163,q164,q165,q166,q167,q168,q169,q170,q171,q172,q173,q174,q175,q176,q177,q178,q179,q180,q181,q182,q183,q184,q185,q186,q187,q188,q189,q190,q191,q192,q193,q194,q195,q196,q197,q198,q199,q200,q201,q202,q203,q204,q205,q206,q207,q208,q209,q210,q211,q212,q213,q214,q215,q216,q217,q218,q219,q220,q221,q222,q223,q224,q225].toArray,[]⟩ W3:=by
 have lf:=hsc.f1;have lv:=hsc.v1;have la:=hsc.a1;have hva:Hid (sc.hasVars=(decide (0<sc.vars.length)||sc.free)):=Ry sc;have haa:Hid (sc.hasArrays=(decide (0<sc.arrays.length)||sc.free)):=Oa sc;have hfa:Hid (sc.hasFuncs=(decide (0<sc.funcs.length)||sc.free)):=Pv sc;have HSC:=Za hsc;have HIH:=Za hIH;have HIL:=Za hIL;have HY:Hid (w.heap.size≠s):=by show _≠_;omega
 obtain⟨oa,oc,rfl⟩:=hO.shape;have HPS:=Za hps;have HFK:=Za hfr;have HCK:=Za hC;have HOK:=Za hO;have HNX:=Za hnx;have HLN:=Za hlk;have HONE:=Za hone;have HCX:Hid (w.heap.size<X):=hCX;have HKD:=Za hKd;have HC3:=Za hC3;have HH3:=Za hH3;clear hps hfr hC hO hsc hIH hIL hnx hlk hone hKd hC3 hH3
 conv=>arg 2;whnf
 dsimp only;have b0:=HC3.o.at 0 _ rfl;have b1:=HC3.o.at 1 _ rfl;have b2:=HC3.o.at 2 _ rfl;have b3:=HC3.o.at 3 _ rfl;have b4:=HC3.o.at 4 _ rfl;go_upto_region 10 with(fail)
 go_cut [12]from 19 to 224 (fun q wx=>q=.bool sc.hasArrays∧W3=wx)
 case first=>
  by_cases hlv:0<sc.arrays.length
  ·have hlv':(0:Int)<(sc.arrays.length:Int):=by omega
   go_wp2_with fail
   go_meet;exact⟨by rw[haa.out,decide_eq_true hlv];rfl,rfl⟩
  ·have hlv':(sc.arrays.length:Int)≤0:=by omega
   go_wp2_with fail
   go_meet;exact⟨by rw[haa.out,decide_eq_false hlv];rfl,rfl⟩
 case rest=>
 obtain⟨rfl,rfl⟩:=hcut;go_upto_region 11 with(fail)
 go_cut [13]from 19 to 224 (fun q wx=>q=.bool sc.hasVars∧W3=wx)
 case first=>
  by_cases hlv:0<sc.vars.length
  ·have hlv':(0:Int)<(sc.vars.length:Int):=by omega
   go_wp2_with fail
   go_meet;exact⟨by rw[hva.out,decide_eq_true hlv];rfl,rfl⟩
  ·have hlv':(sc.vars.length:Int)≤0:=by omega
   go_wp2_with fail
   go_meet;exact⟨by rw[hva.out,decide_eq_false hlv];rfl,rfl⟩
 case rest=>
 obtain⟨rfl,rfl⟩:=hcut;go_upto_region 12 with(fail)
 go_cut [14]from 19 to 224 (fun q wx=>q=.bool sc.hasFuncs∧W3=wx)
 case first=>
  by_cases hlv:0<sc.funcs.length
  ·have hlv':(0:Int)<(sc.funcs.length:Int):=by omega
   go_wp2_with fail
   go_meet;exact⟨by rw[hfa.out,decide_eq_true hlv];rfl,rfl⟩
  ·have hlv':(sc.funcs.length:Int)≤0:=by omega
   go_wp2_with fail
   go_meet;exact⟨by rw[hfa.out,decide_eq_false hlv];rfl,rfl⟩
 case rest=>
 obtain⟨rfl,rfl⟩:=hcut;clear b0 b1 b2 b3 b4 haa hva hfa
 go_upto_block 2 with(fail)
 refine wp_cut (fun a' w'=>SwR d s w.heap.size X K sc.hasArrays sc.hasVars sc.hasFuncs wr raw (Cb sc raw gs gl K ka) _ _ _ _ _ _ _ _ _ _ _ _ _ _ _ _ _ _ _ _ _ _ _ _ _ _ _ _ _ _ _ _ _ _ _ _ _ _ _ _ _ _ _ _ _ _ _ _ _ _ _ _ _ _ _ _ _ _ _ _ _ _ _ _ _ _ _ _ _ _ _ _ _ _ _ _ _ _ _ _ _ a' w') ?rest (fun J K' hJ hM=>Fk (sw_all (gs:=gs) (gl:=gl) ⟨hd1,(HSC.o.sfr HFK.o),HC3.o,HH3.o,HCX.o,hsl,hK0,hK1,HKD.o,rfl,rfl,rfl⟩ HIH.o HIL.o _ _ _ _ _ _ _ _ _ _ _ _ _ _ _ _ _ _ _ _ _ _ _ _ _ _ _ _ _ _ _ _ _ _ _ _ _ _ _ _ _ _ _ _ _ _ _ _ _ _ _ _ _ _ _ _ _ _ _ _ _ _ _ _ _ _ _ _ _ _ _ _ _ _ _ _ _ _ _ _ _ _ _ _ _ _ _ _ _ _ _ _ _ _ _ _ _ _ _ _ _ _ _ _ _ _ _ _ _ _ _ _ _ _ _ _ _ _ _ _ _ _ _ _ _ _ _ _ _ _ _ _ _ _ _ _ _ _ _ _ _ _ _ _ _ _ _ _ _ _ _ _ _ _ _ _ _ _ _ _ _ _ _ _ _ _ _ _ _ _ _ _ _ _ _ _ _ _ _ _ _ _ _ _ _ _ _ _ _ _ _ _ _ _ _ _ _ _ _ _ _ _ _ _ _ _ _ _ _ _ _ _ _ _ _ _ _ _ J K' hJ hM))
 case rest=>
 intro a' wc hcut;obtain⟨z15,z61,z62,z63,z64,z65,z66,z67,z68,z69,z70,z71,z72,z73,z74,z75,z76,z77,z78,z79,hcut⟩:=hcut;obtain⟨z80,z81,z82,z83,z84,z85,z86,z87,z88,z89,z90,z91,z92,z93,z94,z95,z96,z97,z98,z99,hcut⟩:=hcut;obtain⟨z100,z101,z102,z103,z104,z105,z106,z107,z108,z109,z110,z111,z112,z113,z114,z115,z116,z117,z118,z119,hcut⟩:=hcut;obtain⟨z120,z121,z122,z123,z124,z125,z126,z127,z128,z129,z130,z131,z132,z133,z134,z135,z136,z137,z138,z139,hcut⟩:=hcut;obtain⟨z140,z141,z142,z143,z144,z145,z146,z147,z148,z149,z150,z151,z152,z153,z154,z155,z156,z157,z158,z159,hcut⟩:=hcut;obtain⟨z160,z161,z162,z163,z164,z165,z166,z167,z168,z169,z170,z171,z172,z173,z174,z175,z176,z177,z178,z179,hcut⟩:=hcut;obtain⟨z180,z181,z182,z183,z184,z185,z186,z187,z188,z189,z190,z191,z192,z193,z194,z195,z196,hcut⟩:=hcut;obtain⟨hcut,ha'⟩:=hcut;subst ha';have hmany:=fV sc raw gs gl K ka;have hargs:=dK sc raw gs gl K ka;clear HKD HH3 HC3;apply_assumption
 exact fO s d c k raw sc v1 a1 f1 v2 a2 f2 (gSt sc raw gs gl d) a0 w wr (.slice oa ls.length oc) X (Cb sc raw gs gl K ka) wc HSC.o hsl hc6 hlt ls lk bk HPS.o HFK.o HCK.o HOK.o HNX.o HLN.o HONE.o HCX.o hmany hargs hcut _ _ _ _ _ _ _ _ _ _ _ _ _ _ _ _ _ _ _ _ _ _ _ _ _ _ _ _ _ _ _ _ _ _ _ _ _ _ _ _ _ _ _ _ _ _ _ _ _ _ _ _ _ _ _ _ _ _ _ _ _ _ _ _ _ _ _ _ _ _ _ _ _ _ _ _ _ _ _ _ _ _ _ _ _ _ _ _ _ _ _ _ _ _ _ _ _ _ _ _ _ _ _ _ _ _ _ _ _ _ _ _ _ _ _ _ _ _ _ _ _ _ _ _ _ _ _ _ _ _ _ _ _ _ _ _ _ _ _ _ _ _ _ _ _ _ _ _ _ _ _ _ _ _ _ _ _ _ _ _ _ _ _ _ _ _ _ _ _ _ _ _ _ _ _ _ _ _ _ _ _ _ _ _ _ _ _ _ _ _ _ _ _ _ _ _ _ _ _ _ _ _ _ _ _ _ _ _ _ _ _ _ _ _ _ _ _ _ _ J K' hJ hM
theorem bG(d s c k:Nat)(raw:List Int)(sc:Sc)(v1 a1 f1:Option Addr)(v2 a2 f2:Nat)(gs gl:Nat→List St ×Nat)(a0:Nat)(w wr:World)(v:Value)(hd1:d≤1000)(hsc:Ec s w sc (.slice v1 sc.vars.length v2) (.slice a1 sc.arrays.length a2) (.slice f1 sc.funcs.length f2))(hsl:s<w.heap.size)(hc6:c≤4)(hIH:2≤d→∀w1 b,As w1 s raw b→Ec s w1 sc (.slice v1 sc.vars.length v2) (.slice a1 sc.arrays.length a2) (.slice f1 sc.funcs.length f2)→Calls Zb 29 #[.agg #[.slice v1 sc.vars.length v2,.slice a1 sc.arrays.length a2,.slice f1 sc.funcs.length f2,.bool sc.free,.bool sc.loop],.pointer (some ⟨s,0,none⟩),.int .i64 ((d:Int)-1)] w1 (Gl w1 s raw (gs b)))(hIL:2≤d→∀w1 b,As w1 s raw b→Ec s w1 sc (.slice v1 sc.vars.length v2) (.slice a1 sc.arrays.length a2) (.slice f1 sc.funcs.length f2)→Calls Zb 29 #[.agg #[.slice v1 sc.vars.length v2,.slice a1 sc.arrays.length a2,.slice f1 sc.funcs.length f2,.bool sc.free,.bool true],.pointer (some ⟨s,0,none⟩),.int .i64 ((d:Int)-1)] w1 (Gl w1 s raw (gl b)))(hlt:k<c)(hinv:Uq w s raw (gSt sc raw gs gl d) a0 [.slice v1 sc.vars.length v2,.slice a1 sc.arrays.length a2,.slice f1 sc.funcs.length f2,.bool sc.free,.bool sc.loop] k v wr)(q0 q4 q5 q6 q10 q11 q12 q13 q14 q15 q16 q17 q18 q19 q20 q21 q22 q23 q24 q25 q26 q27 q28 q29 q30 q31 q32 q33 q34 q35 q36 q37 q38 q39 q40 q41 q42 q43 q44 q45 q46 q47 q48 q49 q50 q51 q52 q53 q54 q55 q56 q57 q58 q59 q60 q61 q62 q63 q64 q65 q66 q67 q68 q69 q70 q71 q72 q73 q74 q75 q76 q77 q78 q79 q80 q81 q82 q83 q84 q85 q86 q87 q88 q89 q90 q91 q92 q93 q94 q95 q96 q97 q98 q99 q100 q101 q102 q103 q104 q105 q106 q107 q108 q109 q110 q111 q112 q113 q114 q115 q116 q117 q118 q119 q120 q121 q122 q123 q124 q125 q126 q127 q128 q129 q130 q131 q132 q133 q134 q135 q136 q137 q138 q139 q140 q141 q142 q143 q144 q145 q146 q147 q148 q149 q150 q151 q152 q153 q154 q155 q156 q157 q158 q159 q160 q161 q162 q163 q164 q165 q166 q167 q168 q169 q170 q171 q172 q173 q174 q175 q176 q177 q178 q179 q180 q181 q182 q183 q184 q185 q186 q187 q188 q189 q190 q191 q192 q193 q194 q195 q196 q197 q198 q199 q200 q201 q202 q203 q204 q205 q206 q207 q208 q209 q210 q211 q212 q213 q214 q215 q216 q217 q218 q219 q220 q221 q222 q223 q224 q225:Value)(J K':Act→World→Prop)(hJ:∀a' w',Mx w s d c raw (gSt sc raw gs gl d) a0 [.slice v1 sc.vars.length v2,.slice a1 sc.arrays.length a2,.slice f1 sc.funcs.length f2,.bool sc.free,.bool sc.loop] (k+1) (k+1) a' w'→J a' w')(hM:∀a' w',Met J a' w'→K' a' w'):
  Code.wp Zb eC (Exit.then K' (fun _ _ _=>False)) ⟨[q0,.pointer (some ⟨s,0,none⟩),.int .i64 d,.pointer (some ⟨w.heap.size,0,none⟩),q4,q5,q6,v,.int .i64 c,.int .i64 k,q10,q11,q12,q13,q14,q15,q16,q17,q18,q19,q20,q21,q22,q23,q24,q25,q26,q27,q28,q29,q30,q31,q32,q33,q34,q35,q36,q37,q38,q39,q40,q41,q42,q43,q44,q45,q46,q47,q48,q49,q50,q51,q52,q53,q54,q55,q56,q57,q58,q59,q60,q61,q62,q63,q64,q65,q66,q67,q68,q69,q70,q71,q72,q73,q74,q75,q76,q77,q78,q79,q80,q81,q82,q83,q84,q85,q86,q87,q88,q89,q90,q91,q92,q93,q94,q95,q96,q97,q98,q99,q100,q101,q102,q103,q104,q105,q106,q107,q108,q109,q110,q111,q112,q113,q114,q115,q116,q117,q118,q119,q120,q121,q122,q123,q124,q125,q126,q127,q128,q129,q130,q131,q132,q133,q134,q135,q136,q137,q138,q139,q140,q141,q142,q143,q144,q145,q146,q147,q148,q149,q150,q151,q152,q153,q154,q155,q156,q157,q158,q159,q160,q161,q162,q163,q164,q165,q166,q167,q168,q169,q170,q171,q172,q173,q174,q175,q176,q177,q178,q179,q180,q181,q182,q183,q184,q185,q186,q187,q188,q189,q190,q191,q192,q193,q194,q195,q196,q197,q198,q199,q200,q201,q202,q203,q204,q205,q206,q207,q208,q209,q210,q211,q212,q213,q214,q215,q216,q217,q218,q219,q220,q221,q222,q223,q224,q225].toArray,[]⟩ wr:=by
 have lf:=hsc.f1;have lv:=hsc.v1;have la:=hsc.a1;have HSC:=Za hsc;have HIH:=Za hIH;have HIL:=Za hIL;have HY:Hid (w.heap.size≠s):=by show _≠_;omega
 obtain⟨ls,hps,hsr,hfr,hC,hO⟩:=hinv;obtain⟨oa,oc,rfl⟩:=hO.shape;have HPS:=Za hps;have HSK:=Za hsr;have HFK:=Za hfr;have HCK:=Za hC;have HOK:=Za hO;clear hps hsr hfr hC hO hsc hIH hIL;have HNX:=Za (bK (gSt sc raw gs gl d) k a0);have HLN:Hid (ls.length=k):=by show _=_;have h1:=congrArg List.length HPS.o;rw[Zc,Jt]at h1;exact h1
 generalize Gy (gSt sc raw gs gl d) k a0=mk at HPS HSK HNX;obtain⟨lk,bk⟩:=mk;dsimp only at HPS HSK HNX;have HN:Hid (Calls Zb 24 #[.pointer (some ⟨s,0,none⟩),.int .i64 14] wr (Dr wr s raw (.int .i64 (Ad raw bk 14).1) (Ad raw bk 14).2)):=Bn s raw bk 14 wr HSK.o (by decide) (by decide);have hr:=Ak raw bk 14 (by decide);have hkr:=aI raw d bk;obtain⟨K,hK⟩:∃K,K=Oo raw d bk:=⟨_,rfl⟩;obtain⟨B,hB⟩:∃B,B=decide (d<2∧7≤(Ad raw bk 14).1∧(Ad raw bk 14).1<11):=⟨_,rfl⟩;have hKB:K=if B=true then 0 else(Ad raw bk 14).1:=by rw[hK,hB];unfold Oo;by_cases h:d<2∧7≤(Ad raw bk 14).1∧(Ad raw bk 14).1<11<;>simp [h]
 have hone:gSt sc raw gs gl d bk=Ib sc raw (Cb sc raw gs gl K (Ad raw bk 14).2).1 (Cb sc raw gs gl K (Ad raw bk 14).2).2:=by rw[hK];rfl
 have HONE:=Za hone;rw[←hK]at hkr;obtain⟨hK0,hK1,hKd⟩:=hkr;clear hone hK;generalize Ad raw bk 14=g at*;obtain⟨k0,ka⟩:=g;obtain⟨hk0,hk1⟩:=hr;dsimp only at HN hB hKB HONE hk0 hk1;have HB:=Za hB;have HKB:=Za hKB;have HKD:=Za hKd;clear hB hKB hKd;have hltI:(k:Int)<(c:Int):=by omega
 conv=>arg 2;whnf
 go_wp2_with fail
 refine HN.o.mono ?_;rintro r w2 ⟨rfl,hs2,hf2⟩;have HH3:=Za (Cg.new 8 hs2 hf2);have HC3:=Za ((HCK.o.sfr hf2 HY.o).alloc (.cells #[.int .i64 8,.string ⟨#[]⟩,.slice none 0 0,.slice none 0 0,.slice none 0 0] 56));have hgX:=hf2.size;have hwX:=HCK.o.lt;have hsX:s<w2.heap.size:=hs2.lt;clear hs2 hf2 HN;go_upto_region 7 with(fail)
 go_cut [35]from 19 to 224 (fun q wx=>q=.bool B∧w2=wx)
 case first=>
  by_cases h1:(d:Int)<2
  ·by_cases h2:7≤k0
   ·by_cases h3:k0<11
    ·have e:Hid (B=true):=by show _=_;rw[HB.o];exact decide_eq_true ⟨by omega,h2,h3⟩
     go_wp2_with fail
     go_meet;exact⟨by rw[e.out],rfl⟩
    ·have e:Hid (B=false):=by show _=_;rw[HB.o];exact decide_eq_false (fun h=>h3 h.2.2)
     go_wp2_with fail
     go_meet;exact⟨by rw[e.out],rfl⟩
   ·have e:Hid (B=false):=by show _=_;rw[HB.o];exact decide_eq_false (fun h=>h2 h.2.1)
    go_wp2_with fail
    go_meet;exact⟨by rw[e.out],rfl⟩
  ·have e:Hid (B=false):=by show _=_;rw[HB.o];exact decide_eq_false (fun h=>h1 (by omega))
   go_wp2_with fail
   go_meet;exact⟨by rw[e.out],rfl⟩
 case rest=>
 obtain⟨rfl,rfl⟩:=hcut
 go_upto_if 35 with(fail)
 go_cut [10]from 19 to 224 (fun q wx=>q=.int .i64 K∧w2=wx)
 case first=>
  have hkb:=HKB.o
  cases B
  ·have e:Hid (K=k0):=hkb
   clear hkb;go_wp2_with fail
   go_meet;exact⟨by rw[e.out],rfl⟩
  ·have e:Hid (K=0):=hkb
   clear hkb;go_wp2_with fail
   go_meet;exact⟨by rw[e.out],rfl⟩
 case rest=>
 obtain⟨rfl,rfl⟩:=hcut;clear HB HKB hk0 hk1 HSK;go_upto_region 9 with(fail)
 go_cut [11]from 19 to 224 (fun q wx=>q=.pointer (some ⟨w2.heap.size,0,none⟩)∧w2.alloc (.cells #[.int .i64 8,.string ⟨#[]⟩,.slice none 0 0,.slice none 0 0,.slice none 0 0] 56)=wx)
 case first=>
  go_wp2_with fail
  go_meet;exact⟨rfl,rfl⟩
 case rest=>
 obtain⟨rfl,rfl⟩:=hcut;generalize w2.alloc (.cells #[.int .i64 8,.string ⟨#[]⟩,.slice none 0 0,.slice none 0 0,.slice none 0 0] 56)=W3 at*;generalize w2.heap.size=X at*;apply_assumption
 refine wp_to (kI d s c k raw sc v1 a1 f1 v2 a2 f2 gs gl a0 w wr (.slice oa ls.length oc) hd1 HSC.o hsl hc6 HIH.o HIL.o hlt ls lk bk HPS.o HFK.o HCK.o HOK.o HNX.o HLN.o X K ka W3 HONE.o (show w.heap.size<X by omega) hK0 hK1 HKD.o HC3.o HH3.o _ _ _ _ _ _ _ _ _ _ _ _ _ _ _ _ _ _ _ _ _ _ _ _ _ _ _ _ _ _ _ _ _ _ _ _ _ _ _ _ _ _ _ _ _ _ _ _ _ _ _ _ _ _ _ _ _ _ _ _ _ _ _ _ _ _ _ _ _ _ _ _ _ _ _ _ _ _ _ _ _ _ _ _ _ _ _ _ _ _ _ _ _ _ _ _ _ _ _ _ _ _ _ _ _ _ _ _ _ _ _ _ _ _ _ _ _ _ _ _ _ _ _ _ _ _ _ _ _ _ _ _ _ _ _ _ _ _ _ _ _ _ _ _ _ _ _ _ _ _ _ _ _ _ _ _ _ _ _ _ _ _ _ _ _ _ _ _ _ _ _ _ _ _ _ _ _ _ _ _ _ _ _ _ _ _ _ _ _ _ _ _ _ _ _ _ _ _ _ _ _ _ _ _ _ _ _ _ _ _ _ _ _ _ _ _ _ _ _ _ (fun a' w' hT=>?_) (fun _ _ h=>h));dsimp only[Exit.inBlock,Exit.then];apply_assumption
 obtain⟨v,z0,z4,z5,z6,z10,z11,z12,z13,z14,z15,z16,z17,z18,z19,z20,z21,z22,z23,z24,hT⟩:=hT;obtain⟨z25,z26,z27,z28,z29,z30,z31,z32,z33,z34,z35,z36,z37,z38,z39,z40,z41,z42,z43,z44,hT⟩:=hT;obtain⟨z45,z46,z47,z48,z49,z50,z51,z52,z53,z54,z55,z56,z57,z58,z59,z60,z61,z62,z63,z64,hT⟩:=hT;obtain⟨z65,z66,z67,z68,z69,z70,z71,z72,z73,z74,z75,z76,z77,z78,z79,z80,z81,z82,z83,z84,hT⟩:=hT;obtain⟨z85,z86,z87,z88,z89,z90,z91,z92,z93,z94,z95,z96,z97,z98,z99,z100,z101,z102,z103,z104,hT⟩:=hT;obtain⟨z105,z106,z107,z108,z109,z110,z111,z112,z113,z114,z115,z116,z117,z118,z119,z120,z121,z122,z123,z124,hT⟩:=hT;obtain⟨z125,z126,z127,z128,z129,z130,z131,z132,z133,z134,z135,z136,z137,z138,z139,z140,z141,z142,z143,z144,hT⟩:=hT;obtain⟨z145,z146,z147,z148,z149,z150,z151,z152,z153,z154,z155,z156,z157,z158,z159,z160,z161,z162,z163,z164,hT⟩:=hT;obtain⟨z165,z166,z167,z168,z169,z170,z171,z172,z173,z174,z175,z176,z177,z178,z179,z180,z181,z182,z183,z184,hT⟩:=hT;obtain⟨z185,z186,z187,z188,z189,z190,z191,z192,z193,z194,z195,z196,z197,z198,z199,z200,z201,z202,z203,z204,hT⟩:=hT;obtain⟨z205,z206,z207,z208,z209,z210,z211,z212,z213,z214,z215,z216,z217,z218,z219,z220,z221,z222,z223,z224,hT⟩:=hT;obtain⟨z225,hT⟩:=hT;obtain⟨hT,ha'⟩:=hT;subst ha';have HT:=Za hT;clear hT;go_wp2_with fail
 go_meet;exact HT.o
noncomputable def gF:Code:=((Tryz.f29.body.bind (Hp (Ls 0))).getD .skip)
theorem Mx.meas {w:World}{s d c:Nat}{raw:List Int}{one:Nat→St ×Nat}{a0:Nat}{scs:List Value}{k j:Nat}{a':Act}{w':World}(h:Mx w s d c raw one a0 scs k j a' w'):(intOf (a'.tmps.getD 9 undef)).toNat=k:=by
 obtain⟨v,z0,z4,z5,z6,z10,z11,z12,z13,z14,z15,z16,z17,z18,z19,z20,z21,z22,z23,z24,h⟩:=h;obtain⟨z25,z26,z27,z28,z29,z30,z31,z32,z33,z34,z35,z36,z37,z38,z39,z40,z41,z42,z43,z44,h⟩:=h;obtain⟨z45,z46,z47,z48,z49,z50,z51,z52,z53,z54,z55,z56,z57,z58,z59,z60,z61,z62,z63,z64,h⟩:=h;obtain⟨z65,z66,z67,z68,z69,z70,z71,z72,z73,z74,z75,z76,z77,z78,z79,z80,z81,z82,z83,z84,h⟩:=h;obtain⟨z85,z86,z87,z88,z89,z90,z91,z92,z93,z94,z95,z96,z97,z98,z99,z100,z101,z102,z103,z104,h⟩:=h;obtain⟨z105,z106,z107,z108,z109,z110,z111,z112,z113,z114,z115,z116,z117,z118,z119,z120,z121,z122,z123,z124,h⟩:=h;obtain⟨z125,z126,z127,z128,z129,z130,z131,z132,z133,z134,z135,z136,z137,z138,z139,z140,z141,z142,z143,z144,h⟩:=h;obtain⟨z145,z146,z147,z148,z149,z150,z151,z152,z153,z154,z155,z156,z157,z158,z159,z160,z161,z162,z163,z164,h⟩:=h;obtain⟨z165,z166,z167,z168,z169,z170,z171,z172,z173,z174,z175,z176,z177,z178,z179,z180,z181,z182,z183,z184,h⟩:=h;obtain⟨z185,z186,z187,z188,z189,z190,z191,z192,z193,z194,z195,z196,z197,z198,z199,z200,z201,z202,z203,z204,h⟩:=h;obtain⟨z205,z206,z207,z208,z209,z210,z211,z212,z213,z214,z215,z216,z217,z218,z219,z220,z221,z222,z223,z224,h⟩:=h;obtain⟨z225,h⟩:=h;obtain⟨_,ha'⟩:=h;subst ha';show(intOf (.int .i64 (k:Int))).toNat=k
 simp [intOf]
theorem dM(d s c:Nat)(raw:List Int)(sc:Sc)(v1 a1 f1:Option Addr)(v2 a2 f2:Nat)(gs gl:Nat→List St ×Nat)(a0:Nat)(w w2:World)(hd1:d≤1000)(hsc:Ec s w sc (.slice v1 sc.vars.length v2) (.slice a1 sc.arrays.length a2) (.slice f1 sc.funcs.length f2))(hsl:s<w.heap.size)(hc6:c≤4)(hIH:2≤d→∀w1 b,As w1 s raw b→Ec s w1 sc (.slice v1 sc.vars.length v2) (.slice a1 sc.arrays.length a2) (.slice f1 sc.funcs.length f2)→Calls Zb 29 #[.agg #[.slice v1 sc.vars.length v2,.slice a1 sc.arrays.length a2,.slice f1 sc.funcs.length f2,.bool sc.free,.bool sc.loop],.pointer (some ⟨s,0,none⟩),.int .i64 ((d:Int)-1)] w1 (Gl w1 s raw (gs b)))(hIL:2≤d→∀w1 b,As w1 s raw b→Ec s w1 sc (.slice v1 sc.vars.length v2) (.slice a1 sc.arrays.length a2) (.slice f1 sc.funcs.length f2)→Calls Zb 29 #[.agg #[.slice v1 sc.vars.length v2,.slice a1 sc.arrays.length a2,.slice f1 sc.funcs.length f2,.bool sc.free,.bool true],.pointer (some ⟨s,0,none⟩),.int .i64 ((d:Int)-1)] w1 (Gl w1 s raw (gl b)))(hinv:Uq w s raw (gSt sc raw gs gl d) a0 [.slice v1 sc.vars.length v2,.slice a1 sc.arrays.length a2,.slice f1 sc.funcs.length f2,.bool sc.free,.bool sc.loop] 0 (.slice none 0 0) w2)(q0 q4 q5 q6 q10 q11 q12 q13 q14 q15 q16 q17 q18 q19 q20 q21 q22 q23 q24 q25 q26 q27 q28 q29 q30 q31 q32 q33 q34 q35 q36 q37 q38 q39 q40 q41 q42 q43 q44 q45 q46 q47 q48 q49 q50 q51 q52 q53 q54 q55 q56 q57 q58 q59 q60 q61 q62 q63 q64 q65 q66 q67 q68 q69 q70 q71 q72 q73 q74 q75 q76 q77 q78 q79 q80 q81 q82 q83 q84 q85 q86 q87 q88 q89 q90 q91 q92 q93 q94 q95 q96 q97 q98 q99 q100 q101 q102 q103 q104 q105 q106 q107 q108 q109 q110 q111 q112 q113 q114 q115 q116 q117 q118 q119 q120 q121 q122 q123 q124 q125 q126 q127 q128 q129 q130 q131 q132 q133 q134 q135 q136 q137 q138 q139 q140 q141 q142 q143 q144 q145 q146 q147 q148 q149 q150 q151 q152 q153 q154 q155 q156 q157 q158 q159 q160 q161 q162 q163 q164 q165 q166 q167 q168 q169 q170 q171 q172 q173 q174 q175 q176 q177 q178 q179 q180 q181 q182 q183 q184 q185 q186 q187 q188 q189 q190 q191 q192 q193 q194 q195 q196 q197 q198 q199 q200 q201 q202 q203 q204 q205 q206 q207 q208 q209 q210 q211 q212 q213 q214 q215 q216 q217 q218 q219 q220 q221 q222 q223 q224 q225:Value)(J K':Act→World→Prop)(hJ:∀a' w',Mx w s d c raw (gSt sc raw gs gl d) a0 [.slice v1 sc.vars.length v2,.slice a1 sc.arrays.length a2,.slice f1 sc.funcs.length f2,.bool sc.free,.bool sc.loop] c c a' w'→J a' w')(hM:∀a' w',Met J a' w'→K' a' w'):
  Code.wp Zb gF (Exit.then K' (fun _ _ _=>False)) ⟨[q0,.pointer (some ⟨s,0,none⟩),.int .i64 d,.pointer (some ⟨w.heap.size,0,none⟩),q4,q5,q6,.slice none 0 0,.int .i64 c,.int .i64 (0:Nat),q10,q11,q12,q13,q14,q15,q16,q17,q18,q19,q20,q21,q22,q23,q24,q25,q26,q27,q28,q29,q30,q31,q32,q33,q34,q35,q36,q37,q38,q39,q40,q41,q42,q43,q44,q45,q46,q47,q48,q49,q50,q51,q52,q53,q54,q55,q56,q57,q58,q59,q60,q61,q62,q63,q64,q65,q66,q67,q68,q69,q70,q71,q72,q73,q74,q75,q76,q77,q78,q79,q80,q81,q82,q83,q84,q85,q86,q87,q88,q89,q90,q91,q92,q93,q94,q95,q96,q97,q98,q99,q100,q101,q102,q103,q104,q105,q106,q107,q108,q109,q110,q111,q112,q113,q114,q115,q116,q117,q118,q119,q120,q121,q122,q123,q124,q125,q126,q127,q128,q129,q130,q131,q132,q133,q134,q135,q136,q137,q138,q139,q140,q141,q142,q143,q144,q145,q146,q147,q148,q149,q150,q151,q152,q153,q154,q155,q156,q157,q158,q159,q160,q161,q162,q163,q164,q165,q166,q167,q168,q169,q170,q171,q172,q173,q174,q175,q176,q177,q178,q179,q180,q181,q182,q183,q184,q185,q186,q187,q188,q189,q190,q191,q192,q193,q194,q195,q196,q197,q198,q199,q200,q201,q202,q203,q204,q205,q206,q207,q208,q209,q210,q211,q212,q213,q214,q215,q216,q217,q218,q219,q220,q221,q222,q223,q224,q225].toArray,[]⟩ w2:=by
 conv=>arg 2;whnf
 refine wp_block (wp_loop (fun a' w'=> ∃k,k≤c∧Mx w s d c raw (gSt sc raw gs gl d) a0 [.slice v1 sc.vars.length v2,.slice a1 sc.arrays.length a2,.slice f1 sc.funcs.length f2,.bool sc.free,.bool sc.loop] k k a' w') (fun a' _=>c-(intOf (a'.tmps.getD 9 undef)).toNat) ⟨0,Nat.zero_le _,.slice none 0 0,q0,q4,q5,q6,q10,q11,q12,q13,q14,q15,q16,q17,q18,q19,q20,q21,q22,q23,q24,q25,q26,q27,q28,q29,q30,q31,q32,q33,q34,q35,q36,q37,q38,q39,q40,q41,q42,q43,q44,q45,q46,q47,q48,q49,q50,q51,q52,q53,q54,q55,q56,q57,q58,q59,q60,q61,q62,q63,q64,q65,q66,q67,q68,q69,q70,q71,q72,q73,q74,q75,q76,q77,q78,q79,q80,q81,q82,q83,q84,q85,q86,q87,q88,q89,q90,q91,q92,q93,q94,q95,q96,q97,q98,q99,q100,q101,q102,q103,q104,q105,q106,q107,q108,q109,q110,q111,q112,q113,q114,q115,q116,q117,q118,q119,q120,q121,q122,q123,q124,q125,q126,q127,q128,q129,q130,q131,q132,q133,q134,q135,q136,q137,q138,q139,q140,q141,q142,q143,q144,q145,q146,q147,q148,q149,q150,q151,q152,q153,q154,q155,q156,q157,q158,q159,q160,q161,q162,q163,q164,q165,q166,q167,q168,q169,q170,q171,q172,q173,q174,q175,q176,q177,q178,q179,q180,q181,q182,q183,q184,q185,q186,q187,q188,q189,q190,q191,q192,q193,q194,q195,q196,q197,q198,q199,q200,q201,q202,q203,q204,q205,q206,q207,q208,q209,q210,q211,q212,q213,q214,q215,q216,q217,q218,q219,q220,q221,q222,q223,q224,q225,hinv,rfl⟩ ?_);intro a' w' hI;obtain⟨k,hk,hI⟩:=hI;have hme:=hI.meas;obtain⟨v,z0,z4,z5,z6,z10,z11,z12,z13,z14,z15,z16,z17,z18,z19,z20,z21,z22,z23,z24,hI⟩:=hI;obtain⟨z25,z26,z27,z28,z29,z30,z31,z32,z33,z34,z35,z36,z37,z38,z39,z40,z41,z42,z43,z44,hI⟩:=hI
 obtain⟨z45,z46,z47,z48,z49,z50,z51,z52,z53,z54,z55,z56,z57,z58,z59,z60,z61,z62,z63,z64,hI⟩:=hI;obtain⟨z65,z66,z67,z68,z69,z70,z71,z72,z73,z74,z75,z76,z77,z78,z79,z80,z81,z82,z83,z84,hI⟩:=hI;obtain⟨z85,z86,z87,z88,z89,z90,z91,z92,z93,z94,z95,z96,z97,z98,z99,z100,z101,z102,z103,z104,hI⟩:=hI;obtain⟨z105,z106,z107,z108,z109,z110,z111,z112,z113,z114,z115,z116,z117,z118,z119,z120,z121,z122,z123,z124,hI⟩:=hI;obtain⟨z125,z126,z127,z128,z129,z130,z131,z132,z133,z134,z135,z136,z137,z138,z139,z140,z141,z142,z143,z144,hI⟩:=hI;obtain⟨z145,z146,z147,z148,z149,z150,z151,z152,z153,z154,z155,z156,z157,z158,z159,z160,z161,z162,z163,z164,hI⟩:=hI;obtain⟨z165,z166,z167,z168,z169,z170,z171,z172,z173,z174,z175,z176,z177,z178,z179,z180,z181,z182,z183,z184,hI⟩:=hI;obtain⟨z185,z186,z187,z188,z189,z190,z191,z192,z193,z194,z195,z196,z197,z198,z199,z200,z201,z202,z203,z204,hI⟩:=hI;obtain⟨z205,z206,z207,z208,z209,z210,z211,z212,z213,z214,z215,z216,z217,z218,z219,z220,z221,z222,z223,z224,hI⟩:=hI;obtain⟨z225,hI⟩:=hI;obtain⟨hI,ha'⟩:=hI;subst ha'
 by_cases hlt:k<c
 ·refine Fk (bG d s c k raw sc v1 a1 f1 v2 a2 f2 gs gl a0 w w' v hd1 hsc hsl hc6 hIH hIL hlt hI z0 z4 z5 z6 z10 z11 z12 z13 z14 z15 z16 z17 z18 z19 z20 z21 z22 z23 z24 z25 z26 z27 z28 z29 z30 z31 z32 z33 z34 z35 z36 z37 z38 z39 z40 z41 z42 z43 z44 z45 z46 z47 z48 z49 z50 z51 z52 z53 z54 z55 z56 z57 z58 z59 z60 z61 z62 z63 z64 z65 z66 z67 z68 z69 z70 z71 z72 z73 z74 z75 z76 z77 z78 z79 z80 z81 z82 z83 z84 z85 z86 z87 z88 z89 z90 z91 z92 z93 z94 z95 z96 z97 z98 z99 z100 z101 z102 z103 z104 z105 z106 z107 z108 z109 z110 z111 z112 z113 z114 z115 z116 z117 z118 z119 z120 z121 z122 z123 z124 z125 z126 z127 z128 z129 z130 z131 z132 z133 z134 z135 z136 z137 z138 z139 z140 z141 z142 z143 z144 z145 z146 z147 z148 z149 z150 z151 z152 z153 z154 z155 z156 z157 z158 z159 z160 z161 z162 z163 z164 z165 z166 z167 z168 z169 z170 z171 z172 z173 z174 z175 z176 z177 z178 z179 z180 z181 z182 z183 z184 z185 z186 z187 z188 z189 z190 z191 z192 z193 z194 z195 z196 z197 z198 z199 z200 z201 z202 z203 z204 z205 z206 z207 z208 z209 z210 z211 z212 z213 z214 z215 z216 z217 z218 z219 z220 z221 z222 z223 z224 z225 _ _ (fun a' w' hT=>⟨⟨k+1,hlt,hT⟩,?_⟩) (fun _ _ h=>h))
  rw[hT.meas,hme];omega
 ·obtain rfl:k=c:=by omega
  have HI:=Za hI;clear hI hme hk hlt hIH hIL hinv;go_wp2_with fail
  go_meet;exact HI.o
def Nv(w:World)(s:Nat)(raw:List Int)(x:List St ×Nat)(r:Ending)(w':World):Prop:=
 ∃v ls,r=.returned v∧As w' s raw x.2∧SFr s w w'∧ls.map (·.x)=x.1∧ls.length≤4∧Ef w' (w.heap.size+1) ls v
theorem Nv.sts {w w':World}{s:Nat}{raw:List Int}{x:List St ×Nat}{r:Ending}(h:Nv w s raw x r w'):Gl w s raw x r w':=by
 obtain⟨v,ls,h1,h2,h3,h4,h5,h6⟩:=h;have q:=h6.sts (show ls.length≤140737488355328 by omega);rw[h4]at q;exact⟨v,h1,h2,h3,q.mono (fun b h=>(Nat.le_trans (by omega) h:w.heap.size≤b))⟩
def Wn(d:Nat):Prop:= ∀(s:Nat) (raw:List Int) (a:Nat) (sc:Sc) (vv av fv:Value) (w:World),As w s raw a→Ec s w sc vv av fv→
 Calls Zb 29 #[scV sc vv av fv,.pointer (some ⟨s,0,none⟩),.int .i64 d] w (Nv w s raw (Fi raw d sc a))
theorem Xt(d:Nat)(hd1:d≤1000)(ih:2≤d→Lu (d-1)):Wn d:=by
 intro s raw a sc vv av fv w hs hsc;obtain⟨gs,gl,E,hgs⟩:=Yf raw d sc;rw[E];clear E;obtain⟨v1,v2,rfl⟩:=hsc.vars.shape;obtain⟨a1,a2,rfl⟩:=hsc.arrays.shape;obtain⟨f1,f2,rfl⟩:=hsc.funcs.shape;have hsl:=hs.lt;have hb1:Below w.heap.size w (w.alloc (.cells #[.slice v1 sc.vars.length v2,.slice a1 sc.arrays.length a2,.slice f1 sc.funcs.length f2,.bool sc.free,.bool sc.loop] 62)):=bA;have HC1:=Za (Al.new w [.slice v1 sc.vars.length v2,.slice a1 sc.arrays.length a2,.slice f1 sc.funcs.length f2,.bool sc.free,.bool sc.loop] 62);have HS1:=Za (hs.old hb1);have HF1:Hid (SFr s w (w.alloc (.cells #[.slice v1 sc.vars.length v2,.slice a1 sc.arrays.length a2,.slice f1 sc.funcs.length f2,.bool sc.free,.bool sc.loop] 62))):=SFr.of_below hb1;have HSC:=Za hsc;have HY:Hid (w.heap.size≠s):=by show _≠_;omega
 have HN:Hid (∀w1,As w1 s raw a→Calls Zb 24 #[.pointer (some ⟨s,0,none⟩),.int .i64 5] w1 (Dr w1 s raw (.int .i64 (Ad raw a 5).1) (Ad raw a 5).2)):=fun w1 h1=>Bn s raw a 5 w1 h1 (by decide) (by decide)
 have HIH:Hid (2≤d→∀w1 b,As w1 s raw b→Ec s w1 sc (.slice v1 sc.vars.length v2) (.slice a1 sc.arrays.length a2) (.slice f1 sc.funcs.length f2)→Calls Zb 29 #[.agg #[.slice v1 sc.vars.length v2,.slice a1 sc.arrays.length a2,.slice f1 sc.funcs.length f2,.bool sc.free,.bool sc.loop],.pointer (some ⟨s,0,none⟩),.int .i64 ((d:Int)-1)] w1 (Gl w1 s raw (gs b))):=fun h w1 b h1 h2=>by
  have q:=ih h s raw b sc _ _ _ w1 h1 h2;rw[(hgs h).1];rw[show((d-1:Nat):Int)=(d:Int)-1 by omega]at q;exact q
 have HIL:Hid (2≤d→∀w1 b,As w1 s raw b→Ec s w1 sc (.slice v1 sc.vars.length v2) (.slice a1 sc.arrays.length a2) (.slice f1 sc.funcs.length f2)→Calls Zb 29 #[.agg #[.slice v1 sc.vars.length v2,.slice a1 sc.arrays.length a2,.slice f1 sc.funcs.length f2,.bool sc.free,.bool true],.pointer (some ⟨s,0,none⟩),.int .i64 ((d:Int)-1)] w1 (Gl w1 s raw (gl b))):=fun h w1 b h1 h2=>by
  have q:=ih h s raw b sc.inLoop _ _ _ w1 h1 h2.inLoop;rw[(hgs h).2];rw[show((d-1:Nat):Int)=(d:Int)-1 by omega]at q;exact q
 have hr:=Ak raw a 5 (by decide);generalize Ad raw a 5=g at*;obtain⟨c,a0⟩:=g;obtain⟨c0,c1⟩:=hr;dsimp only at*;obtain⟨c,rfl⟩:=Int.eq_ofNat_of_zero_le c0;rw[Int.toNat_natCast];have hc6:c≤4:=by omega
 clear hb1 hs hsc ih hgs c0 c1;unfold scV;go_enter func29,ntmps29
 go_wp2_with fail
 refine(HN.o _ HS1.o).mono ?_;rintro r w2 ⟨rfl,hs2,hf2⟩;have HI2:Hid (Uq w s raw (gSt sc raw gs gl d) a0 [.slice v1 sc.vars.length v2,.slice a1 sc.arrays.length a2,.slice f1 sc.funcs.length f2,.bool sc.free,.bool sc.loop] 0 (.slice none 0 0) w2):=⟨[],rfl,hs2,HF1.o.trans hf2,HC1.o.sfr hf2 HY.o,Ef.zero _ _⟩;clear hs2 hf2 HS1 HF1 HC1 HN
 go_upto_block 0 with(fail)
 refine wp_cut (fun a' w'=>Mx w s d c raw (gSt sc raw gs gl d) a0 [.slice v1 sc.vars.length v2,.slice a1 sc.arrays.length a2,.slice f1 sc.funcs.length f2,.bool sc.free,.bool sc.loop] c c a' w') ?rest (fun J K' hJ hM=>Fk (dM d s c raw sc v1 a1 f1 v2 a2 f2 gs gl a0 w w2 hd1 HSC.o hsl hc6 HIH.o HIL.o HI2.o _ _ _ _ _ _ _ _ _ _ _ _ _ _ _ _ _ _ _ _ _ _ _ _ _ _ _ _ _ _ _ _ _ _ _ _ _ _ _ _ _ _ _ _ _ _ _ _ _ _ _ _ _ _ _ _ _ _ _ _ _ _ _ _ _ _ _ _ _ _ _ _ _ _ _ _ _ _ _ _ _ _ _ _ _ _ _ _ _ _ _ _ _ _ _ _ _ _ _ _ _ _ _ _ _ _ _ _ _ _ _ _ _ _ _ _ _ _ _ _ _ _ _ _ _ _ _ _ _ _ _ _ _ _ _ _ _ _ _ _ _ _ _ _ _ _ _ _ _ _ _ _ _ _ _ _ _ _ _ _ _ _ _ _ _ _ _ _ _ _ _ _ _ _ _ _ _ _ _ _ _ _ _ _ _ _ _ _ _ _ _ _ _ _ _ _ _ _ _ _ _ _ _ _ _ _ _ _ _ _ _ _ _ _ _ _ _ _ _ _ J K' hJ hM))
 case rest=>
 intro a' wc hT;obtain⟨v,z0,z4,z5,z6,z10,z11,z12,z13,z14,z15,z16,z17,z18,z19,z20,z21,z22,z23,z24,hT⟩:=hT;obtain⟨z25,z26,z27,z28,z29,z30,z31,z32,z33,z34,z35,z36,z37,z38,z39,z40,z41,z42,z43,z44,hT⟩:=hT;obtain⟨z45,z46,z47,z48,z49,z50,z51,z52,z53,z54,z55,z56,z57,z58,z59,z60,z61,z62,z63,z64,hT⟩:=hT;obtain⟨z65,z66,z67,z68,z69,z70,z71,z72,z73,z74,z75,z76,z77,z78,z79,z80,z81,z82,z83,z84,hT⟩:=hT;obtain⟨z85,z86,z87,z88,z89,z90,z91,z92,z93,z94,z95,z96,z97,z98,z99,z100,z101,z102,z103,z104,hT⟩:=hT;obtain⟨z105,z106,z107,z108,z109,z110,z111,z112,z113,z114,z115,z116,z117,z118,z119,z120,z121,z122,z123,z124,hT⟩:=hT;obtain⟨z125,z126,z127,z128,z129,z130,z131,z132,z133,z134,z135,z136,z137,z138,z139,z140,z141,z142,z143,z144,hT⟩:=hT;obtain⟨z145,z146,z147,z148,z149,z150,z151,z152,z153,z154,z155,z156,z157,z158,z159,z160,z161,z162,z163,z164,hT⟩:=hT;obtain⟨z165,z166,z167,z168,z169,z170,z171,z172,z173,z174,z175,z176,z177,z178,z179,z180,z181,z182,z183,z184,hT⟩:=hT;obtain⟨z185,z186,z187,z188,z189,z190,z191,z192,z193,z194,z195,z196,z197,z198,z199,z200,z201,z202,z203,z204,hT⟩:=hT;obtain⟨z205,z206,z207,z208,z209,z210,z211,z212,z213,z214,z215,z216,z217,z218,z219,z220,z221,z222,z223,z224,hT⟩:=hT;obtain⟨z225,hT⟩:=hT;obtain⟨hT,ha'⟩:=hT;subst ha';obtain⟨ls,hps,hsr,hfr,hC,hO⟩:=hT;obtain⟨oa,oc,rfl⟩:=hO.shape;have hlen:ls.length≤4:=by have h1:=congrArg List.length hps;rw[Zc,Jt]at h1;omega
 have HX9:=Za hO;have HPS:=Za hps;have HLE:=Za hlen;have HSR:=Za hsr;have HFR:=Za hfr;clear hps hsr hfr hC hO hlen HIH HIL HI2;go_wp2_with fail
 go_ret
 exact⟨_,ls,rfl,HSR.o,HFR.o,HPS.o,HLE.o,HX9.o⟩
theorem Tq(d:Nat)(hd1:d≤1000)(ih:2≤d→Lu (d-1)):Lu d:=fun s raw a sc vv av fv w h1 h2=>(Xt d hd1 ih s raw a sc vv av fv w h1 h2).mono (fun _ _ h=>h.sts)
theorem Sx:∀d:Nat,d≤1000→Lu d
 |0,h=>Tq 0 h (fun h=>absurd h (by decide))
 |d+1,h=>Tq (d+1) h (fun _=>Sx d (by omega))
theorem eS(d:Nat)(h:d≤1000):Wn d:=Xt d h (fun _=>Sx (d-1) (by omega))
theorem fY:(Tryz.prog.info? 66).map (fun i=>(i.zero,i.size,i.bytes))=some (some (.agg #[.string ⟨#[]⟩,.int .i64 0]),2,24):=by kernel_rfl
theorem bM:(Tryz.prog.info? 47).map (fun i=>(i.zero,i.size,i.bytes))=some (some (.agg #[.string ⟨#[]⟩,.slice none 0 0,.slice none 0 0,.slice none 0 0]),4,88):=by kernel_rfl
theorem infoStr:(Tryz.prog.info? 9).map (fun i=>(i.zero,i.size,i.bytes))=some (some (.string ⟨#[]⟩),1,16):=by kernel_rfl
def Ax(D:Nat→Prop)(w w':World):Prop:= ∀k,D k→k<w.heap.size→w'.heap[k]? =w.heap[k]?
theorem Ax.keeps {D:Nat→Prop}{w w':World}(h:Ax D w w'):Fe D w w':=fun b off x hD hx=>by
 rw[World.cell?_of_block (w:=w) (h b hD (World.block_lt_of_cell? _ _ hx))];exact hx
theorem Ax.mono {D D':Nat→Prop}{w w':World}(h:Ax D' w w')(hD:∀b,D b→D' b):Ax D w w':=fun k hk hl=>h k (hD k hk) hl
theorem Ax.below {D:Nat→Prop}{w w':World}(h:Below w.heap.size w w'):Ax D w w':=fun k _ hl=>h.block k hl
theorem Ax.sfr {s:Nat}{D:Nat→Prop}{w w':World}(h:SFr s w w')(hD:∀b,D b→b≠s):Ax D w w':=fun k hk hl=>h.block k hl (hD k hk)
theorem Ax.set {D:Nat→Prop}(w:World){k:Nat}(hD:¬D k)(i:Nat)(v:Value):Ax D w (w.setCell ⟨k,i,none⟩ v):=fun b hb hl=>Below.heap_setCell _ _ _ _ (by rintro rfl;exact hD hb)
theorem Bz {D:Nat→Prop}{w w':World}{base size n:Nat}{e:TypeId}{v:Value}{xs:List Value}(h:w.ownsRow base e size v n xs)(hD:∀k,v.ownBlock=some k→D k)(hk:Ax D w w'):w'.ownsRow base e size v n xs:=by
 refine⟨h.1,?_⟩;rcases h.2 with hn|⟨g,cap,cur,rfl,hb,hg,r⟩
 ·exact .inl hn
 ·refine .inr ⟨g,cap,cur,rfl,hb,?_,r⟩
  rw[hk g (hD g rfl) (by
   rcases Nat.lt_or_ge g w.heap.size with h'|h'
   ·exact h'
   ·simp [Array.getElem?_eq_none h']at hg)]
  exact hg
theorem Es {w:World}{base size n g:Nat}{e:TypeId}{cap:Nat}{xs:List Value}(h:w.ownsRow base e size (.slice (some ⟨g,0,none⟩) n cap) n xs)(j:Nat)(u:Value)(hu:xs[j]? =some u):w.cell? ⟨g,0+j,none⟩=some u:=by
 have h1:=h.cells (g:=g) rfl j u hu;have h2:(⟨g,0,none⟩:Addr).add j=⟨g,0+j,none⟩:=by unfold Addr.add;split<;>simp_all
 rwa[h2]at h1
theorem Ia {α:Type}(f:α→List Value)(k:Nat)(hf:∀x,(f x).length=k):∀(l:List α) (i q:Nat) (p:α),l[i]? =some p→q<k→(l.flatMap f)[i*k+q]? =(f p)[q]?
 |[],i,q,p,h,_=>by simp at h
 |x::l,0,q,p,h,hq=>by
  simp at h;subst h;rw[List.flatMap_cons,List.getElem?_append_left (by rw[hf];omega)];simp
 |x::l,i+1,q,p,h,hq=>by
  simp at h;have:=Ia f k hf l i q p h hq;rw[List.flatMap_cons,List.getElem?_append_right (by rw[hf,Nat.add_mul];omega),←this];congr 1;rw[hf,Nat.add_mul];omega
def Cs(a:Ar):List Value:=[.string (Aa a.name),.int .i64 a.size]
def Df(w:World)(base:Nat)(l:List Ar)(v:Value):Prop:=w.ownsRow base 66 2 v l.length (l.flatMap Cs)
theorem Df.zero(w:World)(base:Nat):Df w base [] (.slice none 0 0):=⟨rfl,.inl ⟨rfl,rfl⟩⟩
theorem Df.shape {w:World}{base:Nat}{l:List Ar}{v:Value}(h:Df w base l v):∃a cap,v=.slice a l.length cap:=by
 rcases h.2 with⟨rfl,h0⟩|⟨g,cap,cur,rfl,_⟩
 ·exact⟨none,0,by rw[h0]⟩
 ·exact⟨_,_,rfl⟩
theorem Df.ge {w:World}{base:Nat}{l:List Ar}{v:Value}(h:Df w base l v){k:Nat}(hk:v.ownBlock=some k):base≤k∧k<w.heap.size:=World.ownsRow.lt h k hk
theorem Df.keep {w w':World}{base:Nat}{l:List Ar}{v:Value}(h:Df w base l v)(hk:Ax (base≤ ·) w w'):Df w' base l v:=Bz h (fun k e=>(h.ge e).1) hk
theorem Df.ars {w:World}{base:Nat}{l:List Ar}{v:Value}(h:Df w base l v)(hf:Ci l.length):Bp (base≤ ·) w l v:=by
 have h0:=h;rcases h.2 with⟨rfl,hz⟩|⟨g,cap,cur,rfl,hb,hg,hc,hm,hs,ht⟩
 ·have:l=[]:=Ze.1 hz
  subst this;exact Bp.zero
 ·refine⟨_,cap,g,0,rfl,hc,hf,.inr ⟨rfl,hb⟩,fun i hi=>?_⟩
  have hp:l[i]? =some (Dj l i):=by simp [Dj,Zd hi]
  have f0:=Ia Cs 2 (fun _=>rfl) l i 0 _ hp (by decide);have f1:=Ia Cs 2 (fun _=>rfl) l i 1 _ hp (by decide);have c0:=Es h0 (i*2+0) _ f0;have c1:=Es h0 (i*2+1) _ f1;rw[show 0+(i*2+0)=0+i*2 by omega]at c0;rw[show 0+(i*2+1)=0+i*2+1 by omega]at c1;exact⟨c0,c1⟩
theorem Df.snoc {w':World}{base:Nat}{l:List Ar}(a:Ar){g cap:Nat}(hown:w'.ownsRow base 66 2 (.slice (some ⟨g,0,none⟩) (l.length+1) cap) (l.length+1) (l.flatMap Cs++Cs a)):
  Df w' base (l++[a]) (.slice (some ⟨g,0,none⟩) (l.length+1) cap):=by
 unfold Df;rw[List.length_append,List.flatMap_append];simpa using hown
theorem Pq(a:Ar):∀u,u∈Cs a→u.oneCell'=true:=by
 intro u hu;simp only[Cs,List.mem_cons,List.not_mem_nil,or_false]at hu;rcases hu with rfl|rfl<;>rfl
def Dm(w:World)(D:Nat→Prop)(ls:List StV)(v:Value):Prop:=
 w.ownsRow 0 56 5 v ls.length (Di ls)∧(∀k,v.ownBlock=some k→D k∧k<w.heap.size)∧∀p,p∈ls→Et (fun k=>D k∧v.ownBlock≠some k) w p
theorem Ie {w:World}{base size n:Nat}{e:TypeId}{v:Value}{xs:List Value}(h:w.ownsRow base e size v n xs){b':Nat}(hb:∀k,v.ownBlock=some k→b'≤k):w.ownsRow b' e size v n xs:=by
 refine⟨h.1,?_⟩;rcases h.2 with hn|⟨g,cap,cur,rfl,_,r⟩
 ·exact .inl hn
 ·exact .inr ⟨g,cap,cur,rfl,hb g rfl,r⟩
theorem Ef.toD {w:World}{base:Nat}{ls:List StV}{v:Value}(h:Ef w base ls v):Dm w (base≤ ·) ls v:=
 ⟨Ie h.1 (fun _ _=>Nat.zero_le _),fun k e=>h.ge e,h.2⟩
theorem Dm.zero(w:World)(D:Nat→Prop):Dm w D [] (.slice none 0 0):=⟨⟨rfl,.inl ⟨rfl,rfl⟩⟩,fun k e=>(by cases e),fun p hp=>(by cases hp)⟩
theorem Dm.keep {D:Nat→Prop}{w w':World}{ls:List StV}{v:Value}(h:Dm w D ls v)(hk:Ax D w w')(hz:w.heap.size≤w'.heap.size):Dm w' D ls v:=
 ⟨Bz h.1 (fun k e=>(h.2.1 k e).1) hk,fun k e=>⟨(h.2.1 k e).1,Nat.lt_of_lt_of_le (h.2.1 k e).2 hz⟩,fun p hp=>(h.2.2 p hp).keep (hk.mono (fun b hb=>hb.1)).keeps⟩
theorem Dm.mono {D D':Nat→Prop}{w:World}{ls:List StV}{v:Value}(h:Dm w D ls v)(hD:∀b,D b→b<w.heap.size→D' b):Dm w D' ls v:=
 ⟨h.1,fun k e=>⟨hD k (h.2.1 k e).1 (h.2.1 k e).2,(h.2.1 k e).2⟩,fun p hp=>(h.2.2 p hp).strong.mono (fun b hb=>⟨hD b hb.1.1 hb.2,hb.1.2⟩)⟩
theorem Dm.shape {D:Nat→Prop}{w:World}{ps:List StV}{v:Value}(h:Dm w D ps v):∃a cap,v=.slice a ps.length cap:=by
 rcases h.1.2 with⟨rfl,h0⟩|⟨g,cap,cur,rfl,_⟩
 ·exact⟨none,0,by rw[h0]⟩
 ·exact⟨_,_,rfl⟩
theorem Dm.sts {D:Nat→Prop}{w:World}{ps:List StV}{v:Value}(h:Dm w D ps v)(hf:Ci ps.length):Ap D w (ps.map (·.x)) v:=by
 have hl:(ps.map (·.x)).length=ps.length:=Zc _;rcases h.1.2 with⟨rfl,h0⟩|⟨g,cap,cur,rfl,hb,hg,hc,hm,hs,ht⟩
 ·have:ps=[]:=Ze.1 h0
  subst this;exact Ap.zero
 ·have cell:∀i q p u,ps[i]? =some p→q<5→(Bl p.x p.a p.t p.e)[q]? =some u→w.cell? ⟨g,0+i*5+q,none⟩=some u:=by
   intro i q p u hp hq hu;have h1:=Es h.1 (i*5+q) u (by rw[Oj ps i q p hp hq];exact hu)
   rwa[show 0+(i*5+q)=0+i*5+q by omega]at h1
  have gp:∀i,i<ps.length→∃p,ps[i]? =some p∧Db (ps.map (·.x)) i=p.x∧p∈ps:=by
   intro i hi;refine⟨ps[i],Zd hi,?_,List.getElem_mem hi⟩;simp [Db,Zd hi]
  let z:StV:=⟨St.nil,undef,undef,undef⟩
  have e:=Ap.mk (D:=D) (w:=w) (ps.map (·.x)) (some ⟨g,0,none⟩) cap g 0 (fun i=>(ps.getD i z).a) (fun i=>(ps.getD i z).t) (fun i=>(ps.getD i z).e) (by rw[hl];exact hc) (by rw[hl];exact hf) (.inr ⟨rfl,(h.2.1 g rfl).1⟩);rw[hl]at e;have sv:∀i p,ps[i]? =some p→ps.getD i z=p:=fun i p hp=>by rw[List.getD_eq_getElem?_getD,hp];rfl
  refine e (fun i hi=>?_) (fun i hi=>?_) (fun i hi=>?_) (fun i hi=>?_) (fun i hi=>?_) (fun i hi=>?_) (fun i hi=>?_) (fun i hi=>?_)
  all_goals
   obtain⟨p,hp,hx,hm⟩:=gp i hi
   try rw[hx]
   try rw[sv i p hp]
  ·exact cell i 0 p _ hp (by omega) rfl
  ·exact cell i 1 p _ hp (by omega) rfl
  ·exact cell i 2 p _ hp (by omega) rfl
  ·exact cell i 3 p _ hp (by omega) rfl
  ·exact cell i 4 p _ hp (by omega) rfl
  ·exact(h.2.2 p hm).1.mono (fun b hb=>hb.1)
  ·exact(h.2.2 p hm).2.1.mono (fun b hb=>hb.1)
  ·exact(h.2.2 p hm).2.2.mono (fun b hb=>hb.1)
theorem Ay.strong {D:Nat→Prop}{w:World}{l:List Bs}{v:Value}(h:Ay D w l v):Ay (fun b=>D b∧b<w.heap.size) w l v:=by
 obtain⟨a,cap,b,off,hv,h1,h2,h3,h4⟩:=h;refine⟨a,cap,b,off,hv,h1,h2,?_,h4⟩;rcases h3 with h3|⟨ha,hD⟩
 ·exact .inl h3
 ·rcases Nat.eq_zero_or_pos l.length with hz|hz
  ·exact .inl hz
  ·exact .inr ⟨ha,hD,World.block_lt_of_cell? _ _ (h4 0 hz)⟩
structure FuV where
 x:Fu
 p:Value
 l:Value
 b:Value
def Bq(p:FuV):List Value:=[.string (Aa p.x.name),p.p,p.l,p.b]
def Ct(D:Nat→Prop)(w:World)(p:FuV):Prop:=Ay D w p.x.params p.p∧Ay D w p.x.locals p.l∧∃ls,ls.map (·.x)=p.x.body∧ls.length≤4∧Dm w D ls p.b
theorem Ct.keep {D:Nat→Prop}{w w':World}{p:FuV}(h:Ct D w p)(hk:Ax D w w')(hz:w.heap.size≤w'.heap.size):Ct D w' p:=by
 obtain⟨h1,h2,ls,h3,h4,h5⟩:=h;exact⟨h1.keep hk.keeps,h2.keep hk.keeps,ls,h3,h4,h5.keep hk hz⟩
theorem Ct.mono {D D':Nat→Prop}{w:World}{p:FuV}(h:Ct D w p)(hD:∀b,D b→b<w.heap.size→D' b):Ct D' w p:=by
 obtain⟨h1,h2,ls,h3,h4,h5⟩:=h;exact⟨h1.strong.mono (fun b hb=>hD b hb.1 hb.2),h2.strong.mono (fun b hb=>hD b hb.1 hb.2),ls,h3,h4,h5.mono hD⟩
def Dg(w:World)(base:Nat)(ps:List FuV)(v:Value):Prop:=
 w.ownsRow base 47 4 v ps.length (ps.flatMap Bq)∧∀p,p∈ps→Ct (fun b=>base≤b∧v.ownBlock≠some b) w p
theorem Dg.zero(w:World)(base:Nat):Dg w base [] (.slice none 0 0):=⟨⟨rfl,.inl ⟨rfl,rfl⟩⟩,fun p hp=>by cases hp⟩
theorem Dg.shape {w:World}{base:Nat}{ps:List FuV}{v:Value}(h:Dg w base ps v):∃a cap,v=.slice a ps.length cap:=by
 rcases h.1.2 with⟨rfl,h0⟩|⟨g,cap,cur,rfl,_⟩
 ·exact⟨none,0,by rw[h0]⟩
 ·exact⟨_,_,rfl⟩
theorem Dg.ge {w:World}{base:Nat}{ps:List FuV}{v:Value}(h:Dg w base ps v){k:Nat}(hk:v.ownBlock=some k):base≤k∧k<w.heap.size:=World.ownsRow.lt h.1 k hk
theorem Dg.keep {w w':World}{base:Nat}{ps:List FuV}{v:Value}(h:Dg w base ps v)(hk:Ax (base≤ ·) w w')(hz:w.heap.size≤w'.heap.size):Dg w' base ps v:=
 ⟨Bz h.1 (fun k e=>(h.ge e).1) hk,fun p hp=>(h.2 p hp).keep (hk.mono (fun b hb=>hb.1)) hz⟩
theorem Dg.fus {w:World}{base:Nat}{ps:List FuV}{v:Value}(h:Dg w base ps v)(hf:Ci ps.length):Bk (base≤ ·) w (ps.map (·.x)) v:=by
 have hl:(ps.map (·.x)).length=ps.length:=Zc _;rcases h.1.2 with⟨rfl,hz⟩|⟨g,cap,cur,rfl,hb,hg,hc,hm,hs,ht⟩
 ·have:ps=[]:=Ze.1 hz
  subst this;exact Bk.zero
 ·let z:FuV:=⟨Fu.nil,undef,undef,undef⟩
  refine⟨some ⟨g,0,none⟩,cap,g,0,(fun i=>(ps.getD i z).p),(fun i=>(ps.getD i z).l),(fun i=>(ps.getD i z).b),by rw[hl],by rw[hl];exact hc,by rw[hl];exact hf,.inr ⟨rfl,hb⟩,fun i hi=>?_⟩;rw[hl]at hi;obtain⟨p,hp,hx,hm⟩:∃p,ps[i]? =some p∧Bc (ps.map (·.x)) i=p.x∧p∈ps:=⟨ps[i],Zd hi,by simp [Bc,Zd hi],List.getElem_mem hi⟩;have sv:ps.getD i z=p:=by rw[List.getD_eq_getElem?_getD,hp];rfl
  rw[hx];dsimp only;rw[sv];have cell:∀q u,q<4→(Bq p)[q]? =some u→w.cell? ⟨g,0+i*4+q,none⟩=some u:=by
   intro q u hq hu;have h1:=Es h.1 (i*4+q) u (by rw[Ia Bq 4 (fun _=>rfl) ps i q p hp hq];exact hu)
   rwa[show 0+(i*4+q)=0+i*4+q by omega]at h1
  obtain⟨h1,h2,ls,h3,h4,h5⟩:=h.2 p hm;have h6:=h5.sts (show ls.length≤140737488355328 by omega);rw[h3]at h6;exact⟨⟨cell 0 _ (by decide) rfl,cell 1 _ (by decide) rfl,cell 2 _ (by decide) rfl,cell 3 _ (by decide) rfl⟩,h1.mono (fun b hb=>hb.1),h2.mono (fun b hb=>hb.1),h6.mono (fun b hb=>hb.1)⟩
theorem Dg.snoc {w w':World}{base:Nat}{ps:List FuV}{v:Value}(h:Dg w base ps v)(p:FuV)(hx:Ct (fun b=>base≤b∧v.ownBlock≠some b) w p){g cap:Nat}
  (hown:w'.ownsRow base 47 4 (.slice (some ⟨g,0,none⟩) (ps.length+1) cap) (ps.length+1) (ps.flatMap Bq++Bq p)) (hgrow:w.grownBy w' v.ownBlock) (hg:v.ownBlock=some g∨g=w.heap.size):
  Dg w' base (ps++[p]) (.slice (some ⟨g,0,none⟩) (ps.length+1) cap):=by
 have keep:∀q:FuV,Ct (fun b=>base≤b∧v.ownBlock≠some b) w q→Ct (fun b=>base≤b∧(Value.slice (some ⟨g,0,none⟩) (ps.length+1) cap).ownBlock≠some b) w' q:=by
  intro q hu;have h1:Ct (fun b=>base≤b∧(v.ownBlock≠some b∧b<w.heap.size)) w q:=hu.mono (fun b hb hl=>⟨hb.1,hb.2,hl⟩);have h2:=h1.keep (w':=w') (fun k hk hl=>hgrow.block k hl (fun e=>hk.2.1 e.symm)) hgrow.size;refine h2.mono (fun b hb _=>⟨hb.1,?_⟩);show some g≠some b
  intro e
  cases e
  rcases hg with hg|hg
  ·exact hb.2.1 hg
  ·have:=hb.2.2;omega
 refine⟨?_,fun q hq=>?_⟩
 ·rw[List.length_append,List.flatMap_append];simpa using hown
 ·rcases List.mem_append.1 hq with hq|hq
  ·exact keep _ (h.2 q hq)
  ·rw[List.mem_singleton.1 hq];exact keep _ hx
theorem Uz(n:Bs)(x:Fu)(a b c:Option Addr)(i j k i' j' k':Nat):∀u,u∈Bq ⟨x,.slice a i i',.slice b j j',.slice c k k'⟩→u.oneCell'=true:=by
 intro u hu;simp only[Bq,List.mem_cons,List.not_mem_nil,or_false]at hu;rcases hu with rfl|rfl|rfl|rfl<;>rfl
end Go.Proofs.YtfhbinbjkpfedaaGreatDoor
namespace Go.Proofs.YtfhbinbjkpfedaaGreatDoor
open Go.ChangeShapes Go.WideShapes Go.ChangeAt Go.RowKit
set_option maxHeartbeats 4000000
set_option maxRecDepth 100000
def Fj(D:Nat→Prop)(w:World)(l:List Int)(v:Value):Prop:=
 ∃a cap b off,v=.slice a l.length cap∧l.length≤cap∧cap≤9223372036854775807∧(l.length=0∨(a=some ⟨b,off,none⟩∧D b))∧
  (∀i,i<l.length→w.cell? ⟨b,off+i,none⟩=some (.int .i64 (l.getD i 0)))∧∀i,i<l.length→I64 (l.getD i 0)
theorem Fj.keep {D:Nat→Prop}{w w':World}(hk:Fe D w w'){l:List Int}{v:Value}(h:Fj D w l v):Fj D w' l v:=by
 obtain⟨a,cap,b,off,hv,h1,h2,h3,h4,h5⟩:=h;refine⟨a,cap,b,off,hv,h1,h2,h3,fun i hi=>?_,h5⟩;rcases h3 with h3|⟨_,hD⟩
 ·omega
 ·exact hk _ _ _ hD (h4 i hi)
theorem Fj.mono {D D':Nat→Prop}(hD:∀b,D b→D' b){w:World}{l:List Int}{v:Value}(h:Fj D w l v):Fj D' w l v:=by
 obtain⟨a,cap,b,off,hv,h1,h2,h3,h4,h5⟩:=h;exact⟨a,cap,b,off,hv,h1,h2,h3.imp id (fun q=>⟨q.1,hD _ q.2⟩),h4,h5⟩
theorem Fj.old {w w':World}{l:List Int}{v:Value}(hb:Below w.heap.size w w')(h:Fj (· <w.heap.size) w l v):Fj (· <w'.heap.size) w' l v:=
 (h.keep (Dp hb)).mono (fun b hl=>Nat.lt_of_lt_of_le hl hb.size)
theorem Fj.shape {D:Nat→Prop}{w:World}{l:List Int}{v:Value}(h:Fj D w l v):∃a cap,v=.slice a l.length cap:=by
 obtain⟨a,cap,b,off,hv,_⟩:=h;exact⟨a,cap,hv⟩
theorem Fj.len {D:Nat→Prop}{w:World}{l:List Int}{v:Value}(h:Fj D w l v):l.length≤9223372036854775807:=by
 obtain⟨a,cap,b,off,hv,h1,h2,_⟩:=h;omega
theorem Fj.take {D:Nat→Prop}{w:World}{l:List Int}{a:Option Addr}{n cap:Nat}(h:Fj D w l (.slice a n cap))(k:Nat)(hk:k≤l.length)(h4:k≤1000):Ez D w (l.take k) (.slice a k cap):=by
 obtain⟨a',cap',b,off,hv,h1,h2,h3,h5,h6⟩:=h
 cases hv
 have e:(l.take k).length=k:=by rw[List.length_take];omega
 refine⟨a,cap,b,off,by rw[e],by rw[e];omega,by rw[e];show k≤_;omega,?_,fun i hi=>?_,fun i hi=>?_⟩
 ·rcases h3 with h3|h3
  ·left;rw[e];omega
  ·exact .inr h3
 ·rw[e]at hi
  have:=h5 i (by omega);rw[List.getD_eq_getElem?_getD,List.getElem?_take,if_pos hi,←List.getD_eq_getElem?_getD];exact this
 ·rw[e]at hi
  have:=h6 i (by omega);rw[List.getD_eq_getElem?_getD,List.getElem?_take,if_pos hi,←List.getD_eq_getElem?_getD];exact this
theorem eD {n:Int}(h:(Lit.int .i64 n).wf=true):I64 n:=by
 simp only[Lit.wf,Bool.and_eq_true,decide_eq_true_eq]at h;exact h
theorem Qv:Tryz.prog.cellsOf 3=1:=by kernel_rfl
theorem Rh {H:Type}{enc:TypeId ×Value→H}{W:World}{base:Nat}{x:Value}{d:DataW H}{p:List MemPlace}(hv:Value.okWide Tryz.prog W .any base 22 x)(h:DataW.Trod enc Tryz.prog W 0 (fun _=>true) true 22 x d p):
  ∃raw,Fj (· <W.heap.size) W raw x∧∀(W':World) (sp:Nat→Bool) (hd:Bool),Below W.heap.size W W'→(∀q,q∈p→sp q.block=true)→DataW.Trod enc Tryz.prog W' 0 sp hd 22 x d p:=by
 obtain⟨a0,len,cap,rfl⟩:=okWide_slice Tryz.underlying22 hv;obtain⟨fuel,hf⟩:=h;rcases open_ints Tryz.underlying22 Tryz.underlying3 Qv hf with⟨hcs,hx⟩|⟨a,len',cap',zs,hcs,hb,hl,hm,hz,hx,hcell,hwz⟩
 ·cases hcs;cases hx
  exact⟨[],⟨none,0,0,0,rfl,Nat.le_refl _,Nat.zero_le _,.inl rfl,fun i hi=>(by cases hi),fun i hi=>(by cases hi)⟩,fun W' sp hd _ _=>⟨2,rfl⟩⟩
 ·cases hcs;cases hx
  rw[if_pos rfl]at hz;have e:(zs.take len).length=len:=by rw[List.length_take];omega
  have hmax:cap≤9223372036854775807:=by unfold maxLen at hm;omega
  have wf0:∀i,i<zs.length→I64 (zs.getD i 0):=fun i hi=>eD (hwz _ (by rw[List.getD_eq_getElem?_getD,List.getElem?_eq_getElem hi];exact List.getElem_mem hi))
  rcases Nat.eq_zero_or_pos zs.length with h0|h0
  ·have hl0:len=0:=by omega
   subst hl0;refine⟨[],⟨some a,cap,0,0,rfl,Nat.zero_le _,hmax,.inl rfl,fun i hi=>(by cases hi),fun i hi=>(by cases hi)⟩,fun W' sp hd _ _=>⟨2,?_⟩⟩;exact shut_ints 0 Tryz.underlying22 Tryz.underlying3 Qv (Nat.zero_le _) hl hm (by split<;>omega) (fun i hi=>by omega) hwz
  ·obtain⟨b,off,rfl,hc⟩:=ints_at hcell h0
   have hbl:b<W.heap.size:=World.block_lt_of_cell? _ _ (hc 0 h0);refine⟨zs.take len,⟨some ⟨b,off,none⟩,cap,b,off,by rw[e],by rw[e];exact hl,hmax,.inr ⟨rfl,hbl⟩,fun i hi=>?_,fun i hi=>?_⟩,fun W' sp hd hB hsp=>⟨2,?_⟩⟩
   ·rw[e]at hi
    have:=hc i (by omega);rw[List.getD_eq_getElem?_getD,List.getElem?_take,if_pos hi,←List.getD_eq_getElem?_getD];exact this
   ·rw[e]at hi
    have:=wf0 i (by omega);rw[List.getD_eq_getElem?_getD,List.getElem?_take,if_pos hi,←List.getD_eq_getElem?_getD];exact this
   ·have hs:sp b=true:=hsp (.cell b (off+0)) (MemPlace.mem_row.2 ⟨0,h0,rfl⟩)
    exact shut_ints' 0 Tryz.underlying22 Tryz.underlying3 Qv (Nat.zero_le _) hl hm (by rw[hs];simpa using hz) (fun i hi=>Ac hB (hc i hi)) hwz
end Go.Proofs.YtfhbinbjkpfedaaGreatDoor
namespace Go.Proofs.YtfhbinbjkpfedaaGreatDoor
open Go.RowKit
set_option maxHeartbeats 20000000
set_option maxRecDepth 100000
def Is:List Bool→Nat
 |[]=>0
 |b::l=>(if b then 0 else 1)+Is l
theorem Qt:∀(l:List Bool) (i:Nat),l[i]? =some false→Is (l.set i true)+1=Is l
 |[],i,h=>by simp at h
 |b::l,0,h=>by simp at h;subst h;simp [Is];omega
 |b::l,i+1,h=>by
  simp at h;have:=Qt l i h;simp only[List.set_cons_succ,Is];omega
theorem Qm:∀(l:List Bool) (i:Nat),l[i]? =some false→0<Is l
 |[],i,h=>by simp at h
 |b::l,0,h=>by simp at h;subst h;simp [Is];omega
 |b::l,i+1,h=>by
  simp at h;have:=Qm l i h;simp only[Is];omega
theorem Th {md:Region.Mode}{ops:Array Oper}{listed:Array Bool}{i:Nat}(h:i∈Region.ready md ops listed):i<ops.size∧listed.toList[i]? =some false∧∀o,ops[i]? =some o→∀e,e∈o.after→Region.binds md e=true→listed.getD e.on false=true:=by
 unfold Region.ready at h;rw[List.mem_filter]at h;obtain⟨h1,h2⟩:=h;simp only[Bool.and_eq_true,Bool.not_eq_true']at h2;refine⟨List.mem_range.1 h1,?_,fun o ho e he hb=>?_⟩
 ·have h3:=h2.1
  rw[Array.getD_eq_getD_getElem?]at h3;rw[Array.getElem?_toList]
  cases hl:listed[i]? with
  |none=>rw[hl]at h3;simp at h3
  |some b=>rw[hl]at h3;simp at h3;rw[h3]
 ·have h3:=h2.2
  rw[ho]at h3;simp only[Option.map_some,Option.getD_some]at h3;have h4:=Array.all_eq_true_iff_forall_mem.1 h3 e he;simpa [hb]using h4
theorem dC {P:Program}{ops:Array Oper}{Q:Exit→Act→World→Prop}(I:Array Bool→Act→World→Prop)
  (step:∀listed a w i,I listed a w→i<ops.size→listed.toList[i]? =some false→(∀o,ops[i]? =some o→∀e,e∈o.after→Region.binds .any e=true→listed.getD e.on false=true)→wpOp P ops Q i (I (listed.setIfInBounds i true)) a w)
  (fin:∀listed a w,I listed a w→Region.ready .any ops listed=[]→Q .normal a w):∀(fuel:Nat) (listed:Array Bool) (a:Act) (w:World),Is listed.toList≤fuel→I listed a w→wpAny P .any ops Q fuel listed a w
 |0,listed,a,w,hu,hI=>by
  have hr:Region.ready .any ops listed=[]:=by
   cases hl:Region.ready .any ops listed with
   |nil=>rfl
   |cons i l=>
    have:=Qm _ _ (Th (show i∈Region.ready .any ops listed by rw[hl];exact List.mem_cons_self)).2.1;omega
  exact⟨hr,fin _ _ _ hI hr⟩
 |fuel+1,listed,a,w,hu,hI=>by
  refine⟨fin _ _ _ hI,fun i hi=>?_⟩;obtain⟨h1,h2,h3⟩:=Th hi;refine wpOp_mono (fun a' w' hI'=>dC I step fin fuel _ a' w' ?_ hI') (step listed a w i hI h1 h2 h3);have:=Qt _ _ h2;rw[Array.toList_setIfInBounds];omega
theorem Qn:∀n,Is (List.replicate n false)=n
 |0=>rfl
 |n+1=>by rw[List.replicate_succ,Is,Qn n];simp;omega
theorem aZ {P:Program}{id:Nat}{ops:Array Oper}{Q:Exit→Act→World→Prop}{a:Act}{w:World}(hm:P.follows .mixedOrders=true)(I:Array Bool→Act→World→Prop)(h0:I (Array.replicate ops.size false) a w.drew)
  (step:∀listed a w i,I listed a w→i<ops.size→listed.toList[i]? =some false→(∀o,ops[i]? =some o→∀e,e∈o.after→Region.binds .any e=true→listed.getD e.on false=true)→wpOp P ops Q i (I (listed.setIfInBounds i true)) a w)
  (fin:∀listed a w,I listed a w→Region.ready .any ops listed=[]→Q .normal a w):(Code.region id ops true).wp P Q a w:=
 wp_region_any hm (dC I step fin _ _ _ _ (by rw[Array.toList_replicate,Qn];exact Nat.le_refl _) h0)
def upd(L:Nat→Bool)(i:Nat):Nat→Bool:=fun j=>if j=i then true else L j
theorem Eh(L:Nat→Bool)(i:Nat):upd L i i=true:=if_pos rfl
theorem Ab(L:Nat→Bool){i j:Nat}(h:j≠i):upd L i j=L j:=if_neg h
def Hr(listed:Array Bool):Nat→Bool:=fun j=>listed.getD j false
theorem bI(listed:Array Bool)(i:Nat)(h:i<listed.size):Hr (listed.setIfInBounds i true)=upd (Hr listed) i:=by
 funext j
 unfold Hr upd
 by_cases hj:j=i
 ·subst hj;simp [Array.getD_eq_getD_getElem?,h]
 ·have:¬i=j:=fun e=>hj e.symm
  simp [Array.getD_eq_getD_getElem?,Array.getElem?_setIfInBounds,hj,this]
def lowOk(ops:Array Oper):Bool:=(List.range ops.size).all fun i=>((ops[i]?).map (fun o=>o.after.all fun e=> !(Region.binds .any e)||decide (e.on<i))).getD true
theorem iH {ops:Array Oper}{listed:Array Bool}(hlow:lowOk ops=true)(hs:listed.size=ops.size)(h:Region.ready .any ops listed=[]):∀i,i<ops.size→Hr listed i=true:=by
 intro i
 induction i using Nat.strongRecOn with
 |_ i ih=>
  intro hi
  cases hd:Hr listed i with
  |true=>rfl
  |false=>
   exfalso
   have hm:i∈Region.ready .any ops listed:=by
    unfold Region.ready;rw[List.mem_filter];refine⟨List.mem_range.2 hi,?_⟩;rw[Bool.and_eq_true];constructor
    ·have hli:i<listed.size:=by omega
     unfold Hr at hd;simp only[Array.getD_eq_getD_getElem?,Array.getElem?_eq_getElem hli,Option.getD_some]at hd ⊢;rw[hd];rfl
    ·have ho:ops[i]? =some ops[i]:=Array.getElem?_eq_getElem hi
     rw[ho];simp only[Option.map_some,Option.getD_some];rw[Array.all_eq_true_iff_forall_mem];intro e he;have h1:=List.all_eq_true.1 hlow i (List.mem_range.2 hi);rw[ho]at h1;simp only[Option.map_some,Option.getD_some]at h1;have h2:=Array.all_eq_true_iff_forall_mem.1 h1 e he
     cases hb:Region.binds .any e with
     |false=>rfl
     |true=>
      rw[hb]at h2;have h4:e.on<i:=by simpa using h2
      have h3:=ih e.on h4 (by omega);unfold Hr at h3;rw[h3,Bool.or_true]
   rw[h]at hm;cases hm
theorem Ov {P:Program}{id:Nat}{ops:Array Oper}{Q:Exit→Act→World→Prop}{a:Act}{w:World}(hm:P.follows .mixedOrders=true)(hlow:lowOk ops=true)(I:(Nat→Bool)→Act→World→Prop)(h0:I (fun _=>false) a w.drew)
  (step:∀L a w i,I L a w→i<ops.size→L i=false→(∀o,ops[i]? =some o→∀e,e∈o.after→Region.binds .any e=true→L e.on=true)→wpOp P ops Q i (I (upd L i)) a w)
  (fin:∀L a w,I L a w→(∀i,i<ops.size→L i=true)→Q .normal a w):(Code.region id ops true).wp P Q a w:=by
 refine aZ hm (fun listed a w=>listed.size=ops.size∧I (Hr listed) a w) ⟨by simp,?_⟩ ?_ ?_
 ·have:Hr (Array.replicate ops.size false)=fun _=>false:=by
   funext j;unfold Hr
   rw[Array.getD_eq_getD_getElem?,Array.getElem?_replicate];split<;>rfl
  rw[this];exact h0
 ·intro listed a w i hI hi hl hd
  have hli:Hr listed i=false:=by
   unfold Hr;rw[Array.getElem?_toList]at hl;rw[Array.getD_eq_getD_getElem?,hl];rfl
  refine wpOp_mono (fun a' w' h=>⟨by rw[Array.size_setIfInBounds];exact hI.1,?_⟩) (step (Hr listed) a w i hI.2 hi hli hd);rw[bI _ _ (by rw[hI.1];exact hi)];exact h
 ·intro listed a w hI hr
  exact fin _ _ _ hI.2 (iH hlow hI.1 hr)
theorem En {P:Program}{ops:Array Oper}{Q:Exit→Act→World→Prop}{i:Nat}{K:Act→World→Prop}{a:Act}{w:World}(o:Oper)(ho:ops[i]? =some o)(hg:o.guard=none)(h:∀K':Act→World→Prop,(∀a w,K a w→K' a w)→o.wp P a w K' Q):wpOp P ops Q i K a w:=by
 unfold wpOp;rw[ho];simp only[Region.wanted,hg,if_true];exact .inl (h K (fun _ _ q=>q))
theorem kb {L:Nat→Bool}{j k:Nat}{b:Bool}(h:upd L k j=b)(hn:j≠k:=by decide):L j=b:=by rwa[Ab L hn]at h
theorem kn {L:Nat→Bool}{j k:Nat}{P:Prop}(h:L j=true→L k=true)(hl:L k=false)(hn:j≠k:=by decide):upd L k j=true→P:=fun e=>by
 have:=h (kb e hn);rw[hl]at this;cases this
theorem kd {L:Nat→Bool}{j i k:Nat}(h:L i=true)(hm:i≠k:=by decide):upd L k j=true→upd L k i=true:=fun _=>by rw[Ab L hm];exact h
def Nw(n:Nat):Code→Option Code
 |.region k o b=>if k==n then some (.region k o b)else none
 |.loop c=>Nw n c
 |.seq a b=>match Nw n a with
  |some c=>some c
  |none=>Nw n b
 |.block _ c=>Nw n c
 |.scope c=>Nw n c
 |.cond _ a b=>match Nw n a with
  |some c=>some c
  |none=>Nw n b
 |_=>none
noncomputable def jW (n:Nat):Code:=((Tryz.f8.body.bind (Nw n)).getD .skip)
noncomputable def Ve (n:Nat):Code:=((Tryz.f8.body.bind (Hp (Ls n))).getD .skip)
def Bo(l:List Bs):List Value:=l.map fun x=>.string (Aa x)
def Oy(l:List Int):List Value:=l.map fun x=>.int .i64 x
theorem gB:∀j:Fin 3,(Bo Fc)[j.val]? =some (.string (Aa (Fc.getD j.val []))):=by
 intro j;match j with
 |⟨0,_⟩=>rfl
 |⟨1,_⟩=>rfl
 |⟨2,_⟩=>rfl
theorem gD:∀j:Fin 4,(Oy Ey)[j.val]? =some (.int .i64 (Ey.getD j.val 0)):=by
 intro j;match j with
 |⟨0,_⟩=>rfl
 |⟨1,_⟩=>rfl
 |⟨2,_⟩=>rfl
 |⟨3,_⟩=>rfl
end Go.Proofs.YtfhbinbjkpfedaaGreatDoor
