/-
  The end of a round of scope.stmts.
-/
import Derived.Test.YtcfpfnoldgnloaaGreatDoorBk20
import Derived.Deep.CutRange
set_option linter.unusedVariables false
set_option linter.unusedSimpArgs false
namespace Go.Proofs.YtcfpfnoldgnloaaGreatDoor
open Go.RowKit
set_option maxHeartbeats 20000000
set_option maxRecDepth 100000
open Go.Lib renaming hid→Za
open Go.Proofs.Tryz renaming prog→Zb
theorem tV(raw:List Int)(d a:Nat):0≤lh raw d a∧lh raw d a<14∧(7≤lh raw d a→lh raw d a<11→2≤d):=by
 have:=aM raw a 14 (by decide);unfold lh;split<;>omega
def qF(w:World)(s:Nat)(raw:List Int)(one:Nat→St ×Nat)(a0:Nat)(scs:List Value)(k:Nat)(v:Value)(wr:World):Prop:=
 ∃ps,ps.map (·.x)=(fH one k a0).1∧aZ wr s raw (fH one k a0).2∧SFr s w wr∧aG wr w.heap.size scs 73∧cS wr (w.heap.size+1) ps v
def lP(w:World)(s d:Nat)(c:Nat)(raw:List Int)(one:Nat→St ×Nat)(a0:Nat)(scs:List Value)(k j:Nat)(a':Act)(w':World):Prop:=
 ∃v q0 q4 q5 q6 q10 q11 q12 q13 q14 q15 q16 q17 q18 q19 q20 q21 q22 q23 q24 q25 q26 q27 q28 q29 q30 q31 q32 q33 q34 q35 q36 q37 q38 q39 q40 q41 q42 q43 q44 q45 q46 q47 q48 q49 q50 q51 q52 q53 q54 q55 q56 q57 q58 q59 q60 q61 q62 q63 q64 q65 q66 q67 q68 q69 q70 q71 q72 q73 q74 q75 q76 q77 q78 q79 q80 q81 q82 q83 q84 q85 q86 q87 q88 q89 q90 q91 q92 q93 q94 q95 q96 q97 q98 q99 q100 q101 q102 q103 q104 q105 q106 q107 q108 q109 q110 q111 q112 q113 q114 q115 q116 q117 q118 q119 q120 q121 q122 q123 q124 q125 q126 q127 q128 q129 q130 q131 q132 q133 q134 q135 q136 q137 q138 q139 q140 q141 q142 q143 q144 q145 q146 q147 q148 q149 q150 q151 q152 q153 q154 q155 q156 q157 q158 q159 q160 q161 q162 q163 q164 q165 q166 q167 q168 q169 q170 q171 q172 q173 q174 q175 q176 q177 q178 q179 q180 q181 q182 q183 q184 q185 q186 q187 q188 q189 q190 q191 q192 q193 q194 q195 q196 q197 q198 q199 q200 q201 q202 q203 q204 q205 q206 q207 q208 q209 q210 q211 q212 q213 q214 q215 q216 q217 q218 q219 q220 q221 q222 q223 q224 q225:Value,qF w s raw one a0 scs j v w'∧a'=⟨[q0,.pointer (some ⟨s,0,none⟩),.int .i64 d,.pointer (some ⟨w.heap.size,0,none⟩),q4,q5,q6,v,.int .i64 c,.int .i64 k,q10,q11,q12,q13,q14,q15,q16,q17,q18,q19,q20,q21,q22,q23,q24,q25,q26,q27,q28,q29,q30,q31,q32,q33,q34,q35,q36,q37,q38,q39,q40,q41,q42,q43,q44,q45,q46,q47,q48,q49,q50,q51,q52,q53,q54,q55,q56,q57,q58,q59,q60,q61,q62,q63,q64,q65,q66,q67,q68,q69,q70,q71,q72,q73,q74,q75,q76,q77,q78,q79,q80,q81,q82,q83,q84,q85,q86,q87,q88,q89,q90,q91,q92,q93,q94,q95,q96,q97,q98,q99,q100,q101,q102,q103,q104,q105,q106,q107,q108,q109,q110,q111,q112,q113,q114,q115,q116,q117,q118,q119,q120,q121,q122,q123,q124,q125,q126,q127,q128,q129,q130,q131,q132,q133,q134,q135,q136,q137,q138,q139,q140,q141,q142,q143,q144,q145,q146,q147,q148,q149,q150,q151,q152,q153,q154,q155,q156,q157,q158,q159,q160,q161,q162,q163,q164,q165,q166,q167,q168,q169,q170,q171,q172,q173,q174,q175,q176,q177,q178,q179,q180,q181,q182,q183,q184,q185,q186,q187,q188,q189,q190,q191,q192,q193,q194,q195,q196,q197,q198,q199,q200,q201,q202,q203,q204,q205,q206,q207,q208,q209,q210,q211,q212,q213,q214,q215,q216,q217,q218,q219,q220,q221,q222,q223,q224,q225].toArray,[]⟩
theorem vS(sc:Sc)(raw:List Int)(gs gl:Nat→List St ×Nat)(k:Int)(a:Nat):cD (bO sc raw gs gl k a).1.kind≤(bO sc raw gs gl k a).1.args.length+1:=by
 have h:∀(k:Int) (n:Bs) (l:List Ex) (t e:List St),cD k≤l.length+1→cD (St.mk k n l t e).kind≤(St.mk k n l t e).args.length+1:=fun _ _ _ _ _ h=>h
 unfold bO;split
 ·exact h _ _ _ _ _ (by decide)
 split
 ·exact h _ _ _ _ _ (by show cD 2≤1+1;decide)
 split
 ·exact h _ _ _ _ _ (by show cD 10≤1+1;decide)
 split
 ·dsimp only
  split
  ·exact h _ _ _ _ _ (by decide)
  ·exact h _ _ _ _ _ (by decide)
 split
 ·exact h _ _ _ _ _ (by show cD 3≤1+1;decide)
 split
 ·exact h _ _ _ _ _ (by show cD 4≤1+1;decide)
 split
 ·dsimp only
  split
  ·exact h _ _ _ _ _ (by decide)
  ·exact h _ _ _ _ _ (by decide)
 ·exact h _ _ _ _ _ (by decide)
theorem eB {P:Program}{c:Code}{K:Act→World→Prop}{Q:Exit→Act→World→Prop}{a:Act}{w:World}(h:c.wp P (Exit.then K (fun _ _ _=>False)) a w):c.wp P (Exit.then K Q) a w:=
 wp_mono h (fun e a w q=>by cases e with
  |normal=>exact q
  |_=>exact False.elim q)
noncomputable def wi:Code:=match(Tryz.f39.body.bind (gF isLoop))with
 |some (.loop c)=>c
 |_=> .skip
theorem wM(sc:Sc)(raw:List Int)(gs gl:Nat→List St ×Nat)(k:Int)(a:Nat):(bO sc raw gs gl k a).1.args.length≤1:=by
 have h:∀(k:Int) (n:Bs) (l:List Ex) (t e:List St),l.length≤1→(St.mk k n l t e).args.length≤1:=fun _ _ _ _ _ h=>h
 unfold bO;split
 ·exact h _ _ _ _ _ (by simp)
 split
 ·exact h _ _ _ _ _ (by simp)
 split
 ·exact h _ _ _ _ _ (by simp)
 split
 ·dsimp only
  split
  ·exact h _ _ _ _ _ (by simp)
  ·exact h _ _ _ _ _ (by simp)
 split
 ·exact h _ _ _ _ _ (by simp)
 split
 ·exact h _ _ _ _ _ (by simp)
 split
 ·dsimp only
  split
  ·exact h _ _ _ _ _ (by simp)
  ·exact h _ _ _ _ _ (by simp)
 ·exact h _ _ _ _ _ (by simp)
theorem tE(sc:Sc)(raw:List Int)(x:St)(a:Nat)(h:x.args.length≤1):(gR sc raw x a).1.args.length≤2:=by
 unfold gR;split
 ·show(x.args++[_]).length≤2
  rw[List.length_append,List.length_singleton];omega
 ·show x.args.length≤2;omega
theorem wp_to {P:Program}{c:Code}{Q:Exit→Act→World→Prop}{a:Act}{w:World}(h:c.wp P (Exit.then (fun a w=>Q .normal a w) (fun _ _ _=>False)) a w):c.wp P Q a w:=
 wp_mono h (fun e a w q=>by cases e with
  |normal=>exact q
  |_=>exact False.elim q)
def yY(n:Nat):Code→Bool
 | .region k _ _=>k==n
 |_=>false
def iH(n:Nat):Code→Option Code
 | .loop c=>iH n c
 | .seq a b=>if yY n a then some b else match iH n a with
  |some c=>some c
  |none=>iH n b
 | .block _ c=>iH n c
 | .scope c=>iH n c
 | .cond _ a b=>match iH n a with
  |some c=>some c
  |none=>iH n b
 |_=>none
noncomputable def midCode:Code:=((Tryz.f39.body.bind (iH 9)).getD .skip)
def g7(n:Nat):Code→Option Code
 | .loop c=>g7 n c
 | .seq a b=>if jk n a then some b else match g7 n a with
  |some c=>some c
  |none=>g7 n b
 | .block _ c=>g7 n c
 | .scope c=>g7 n c
 | .cond _ a b=>match g7 n a with
  |some c=>some c
  |none=>g7 n b
 |_=>none
noncomputable def yB:Code:=((Tryz.f39.body.bind (g7 2)).getD .skip)
noncomputable def appCode:Code:=((Tryz.f39.body.bind (g7 3)).getD .skip)
theorem xW(s d c k:Nat)(raw:List Int)(sc:Sc)(v1 a1 f1:Option Addr)(v2 a2 f2:Nat)(one:Nat→St ×Nat)(a0:Nat)(w wr:World)(v:Value)(X:Nat)(y:St ×Nat)(we:World)
  (hsl:s<w.heap.size) (hc6:c≤4) (hlt:k<c) (ls:List StV) (lk:List St) (bk:Nat) (hps:ls.map (·.x)=lk) (hfr:SFr s w wr) (hC:aG wr w.heap.size [.slice v1 sc.vars.length v2,.slice a1 sc.arrays.length a2,.slice f1 sc.funcs.length f2,.bool sc.free,.bool sc.loop] 73) (hO:cS wr (w.heap.size+1) ls v)
  (hnx:fH one (k+1) a0=(lk++[(one bk).1],(one bk).2)) (hlk:ls.length=k) (hone:one bk=y) (hCX:w.heap.size<X) (hargs:y.1.args.length≤2) (hcut:k8 wr X s raw y we)
  (q0 q4 q5 q6 q10 q12 q13 q14 q15 q16 q17 q18 q19 q20 q21 q22 q23 q24 q25 q26 q27 q28 q29 q30 q31 q32 q33 q34 q35 q36 q37 q38 q39 q40 q41 q42 q43 q44 q45 q46 q47 q48 q49 q50 q51 q52 q53 q54 q55 q56 q57 q58 q59 q60 q61 q62 q63 q64 q65 q66 q67 q68 q69 q70 q71 q72 q73 q74 q75 q76 q77 q78 q79 q80 q81 q82 q83 q84 q85 q86 q87 q88 q89 q90 q91 q92 q93 q94 q95 q96 q97 q98 q99 q100 q101 q102 q103 q104 q105 q106 q107 q108 q109 q110 q111 q112 q113 q114 q115 q116 q117 q118 q119 q120 q121 q122 q123 q124 q125 q126 q127 q128 q129 q130 q131 q132 q133 q134 q135 q136 q137 q138 q139 q140 q141 q142 q143 q144 q145 q146 q147 q148 q149 q150 q151 q152 q153 q154 q155 q156 q157 q158 q159 q160 q161 q162 q163 q164 q165 q166 q167 q168 q169 q170 q171 q172 q173 q174 q175 q176 q177 q178 q179 q180 q181 q182 q183 q184 q185 q186 q187 q188 q189 q190 q191 q192 q193 q194 q195 q196 q197 q198 q199 q200 q201 q202 q203 q204 q205 q206 q207 q208 q209 q210 q211 q212 q213 q214 q215 q216 q217 q218 q219 q220 q221 q222 q223 q224 q225:Value) (J K':Act→World→Prop) (hJ:∀a' w',lP w s d c raw one a0 [.slice v1 sc.vars.length v2,.slice a1 sc.arrays.length a2,.slice f1 sc.funcs.length f2,.bool sc.free,.bool sc.loop] k (k+1) a' w'→J a' w') (hM:∀a' w',Met J a' w'→K' a' w'):
  Code.wp Zb appCode (Exit.then K' (fun _ _ _=>False)) ⟨[q0,.pointer (some ⟨s,0,none⟩),.int .i64 d,.pointer (some ⟨w.heap.size,0,none⟩),q4,q5,q6,v,.int .i64 c,.int .i64 k,q10,.pointer (some ⟨X,0,none⟩),q12,q13,q14,q15,q16,q17,q18,q19,q20,q21,q22,q23,q24,q25,q26,q27,q28,q29,q30,q31,q32,q33,q34,q35,q36,q37,q38,q39,q40,q41,q42,q43,q44,q45,q46,q47,q48,q49,q50,q51,q52,q53,q54,q55,q56,q57,q58,q59,q60,q61,q62,q63,q64,q65,q66,q67,q68,q69,q70,q71,q72,q73,q74,q75,q76,q77,q78,q79,q80,q81,q82,q83,q84,q85,q86,q87,q88,q89,q90,q91,q92,q93,q94,q95,q96,q97,q98,q99,q100,q101,q102,q103,q104,q105,q106,q107,q108,q109,q110,q111,q112,q113,q114,q115,q116,q117,q118,q119,q120,q121,q122,q123,q124,q125,q126,q127,q128,q129,q130,q131,q132,q133,q134,q135,q136,q137,q138,q139,q140,q141,q142,q143,q144,q145,q146,q147,q148,q149,q150,q151,q152,q153,q154,q155,q156,q157,q158,q159,q160,q161,q162,q163,q164,q165,q166,q167,q168,q169,q170,q171,q172,q173,q174,q175,q176,q177,q178,q179,q180,q181,q182,q183,q184,q185,q186,q187,q188,q189,q190,q191,q192,q193,q194,q195,q196,q197,q198,q199,q200,q201,q202,q203,q204,q205,q206,q207,q208,q209,q210,q211,q212,q213,q214,q215,q216,q217,q218,q219,q220,q221,q222,q223,q224,q225].toArray,[]⟩ we:=by
 have HY:Hid (w.heap.size≠s):=by show _≠_;omega
 obtain⟨oa,oc,rfl⟩:=hO.shape;have HPS:=Za hps;have HFK:=Za hfr;have HCK:=Za hC;have HOK:=Za hO;have HLN:=Za hlk;have HCX:Hid (w.heap.size<X):=hCX;rw[hone]at hnx;have HNX:=Za hnx;have harg:=hargs;clear hps hfr hC hO hnx hone hlk hargs
 conv=>arg 2;whnf
 obtain⟨⟨yk,ynm,yargs,yt,ye⟩,ya⟩:=y;obtain⟨ps,va,vc,xt,xe,hps,hh⟩:=hcut;dsimp only[St.kind,St.name,St.args,St.thn,St.els]at HNX hps hh harg;subst hps;rw[List.length_map]at harg;obtain⟨ta,tc,rfl⟩:=hh.thn.shape;obtain⟨ea,ec,rfl⟩:=hh.els.shape;have HHA:=Za hh;have x0:=hh.own.at 0 _ rfl;have x1:=hh.own.at 1 _ rfl;have x2:=hh.own.at 2 _ rfl;have x3:=hh.own.at 3 _ rfl;have x4:=hh.own.at 4 _ rfl;have hXl:=hh.lt;have hout:∀k,(Value.slice oa ls.length oc).ownBlock=some k→k<X:=fun k e=>by have:=(HOK.out.ge e).2;have:=hh.ge;omega
 have hpar:dV (fun b=>w.heap.size+1≤b∧(Value.slice oa ls.length oc).ownBlock≠some b) we ⟨.mk yk ynm (ps.map (·.1)) yt ye,.slice va ps.length vc,.slice ta yt.length tc,.slice ea ye.length ec⟩:=by
  have hf:br ps.length:=Nat.le_trans harg (by decide);exact⟨(hh.exs.exs hf).mono (fun b hb=>⟨by have:=HCX.out;omega,fun e=>by have:=hout b e;omega⟩),hh.thn.mono (fun b hb=>⟨by have:=HCX.out;have:=hb.1;omega,fun e=>by have:=hout b e;have:=hb.1;omega⟩),hh.els.mono (fun b hb=>⟨by have:=HCX.out;have:=hb.1;omega,fun e=>by have:=hout b e;have:=hb.1;omega⟩)⟩
 have hb10:Below we.heap.size we (we.alloc (.cells #[.int .i64 yk,.string (aB ynm),.slice va ps.length vc,.slice ta yt.length tc,.slice ea ye.length ec] 60)):=bA;have HO9:=HOK.out.sfr hh.fr (show s<w.heap.size+1 by omega);have HO10:=Za (HO9.keep (w':=we.alloc (.cells #[.int .i64 yk,.string (aB ynm),.slice va ps.length vc,.slice ta yt.length tc,.slice ea ye.length ec] 60)) (fun k h1 h2=>hb10.block k h1));have HP10:=Za (hpar.keep (aw hb10));have HS10:=Za (hh.src.old hb10);have HF10:=Za ((HFK.out.trans hh.fr).trans (SFr.of_below hb10));have HC10:=Za ((HCK.out.sfr hh.fr HY.out).old hb10);have HN10:=Za (cN.new we (dr (.mk yk ynm (ps.map (·.1)) yt ye) (.slice va ps.length vc) (.slice ta yt.length tc) (.slice ea ye.length ec)) 60);clear hb10 hpar HO9 hh hout;obtain⟨i0,hi0,hz0,hz1,hz2⟩:=info_parts xf;have HI0:=Za hi0;have HZ0:=Za hz0;have HZ1:=Za hz1;have HZ2:=Za hz2;clear hi0 hz0 hz1 hz2;go_wp2_with (at_builtin;(refine wpList_append_lies (P:=Zb) _ rfl _ _ 56 rfl (w.heap.size+1) 60 i0 _ 5 96 Tryz.underlying56 HI0.out HZ0.out HZ1.out HZ2.out rfl (by decide) (.slice oa ls.length oc) ls.length (fP ls) rfl HO10.out.1 ⟨we.heap.size,0,none⟩ 1 1 (dr (.mk yk ynm (ps.map (·.1)) yt ye) (.slice va ps.length vc) (.slice ta yt.length tc) (.slice ea ye.length ec)) rfl rfl (fM HN10.out) (yg _ _ _ _ _ _ _ _ _ _) (by decide) (by have:=HLN.out;unfold maxLen;omega) (by have:=HLN.out;omega) (by have:=HC10.out.lt;omega) _ rfl ?_;intro g cap w11 hown hgrow hat hlt11;have hge8:∀k,(Value.slice oa ls.length oc).ownBlock=some k→w.heap.size+1≤k:=fun k e=>(HO10.out.ge e).1;have HS11:=Za (HS10.out.low (w':=w11) (fun k hk=>hgrow.block k (Nat.lt_of_le_of_lt hk HS10.out.lt) (fun e=>by have:=hge8 k e.symm;omega)));have HF11:=Za (HF10.out.grow hgrow (fun k e=>by have:=hge8 k e;omega));have HC11:=Za (HC10.out.low (hgrow.block _ HC10.out.lt (fun e=>by have:=hge8 _ e.symm;omega)));have HO11:=Za (HO10.out.snoc _ HP10.out hown hgrow hat);clear hown hgrow hat hge8))
 go_meet;exact⟨ls++[⟨.mk yk ynm (ps.map (·.1)) yt ye,.slice va ps.length vc,.slice ta yt.length tc,.slice ea ye.length ec⟩],by rw[HNX.out,List.map_append,HPS.out];rfl,by rw[HNX.out];exact HS11.out,HF11.out,HC11.out,HO11.out⟩
theorem wS(s d c k:Nat)(raw:List Int)(sc:Sc)(v1 a1 f1:Option Addr)(v2 a2 f2:Nat)(one:Nat→St ×Nat)(a0:Nat)(w wr:World)(v:Value)(X:Nat)(y:St ×Nat)(wc:World)
  (hsc:dg s w sc (.slice v1 sc.vars.length v2) (.slice a1 sc.arrays.length a2) (.slice f1 sc.funcs.length f2)) (hsl:s<w.heap.size) (hc6:c≤4) (hlt:k<c) (ls:List StV) (lk:List St) (bk:Nat) (hps:ls.map (·.x)=lk) (hfr:SFr s w wr) (hC:aG wr w.heap.size [.slice v1 sc.vars.length v2,.slice a1 sc.arrays.length a2,.slice f1 sc.funcs.length f2,.bool sc.free,.bool sc.loop] 73) (hO:cS wr (w.heap.size+1) ls v)
  (hnx:fH one (k+1) a0=(lk++[(one bk).1],(one bk).2)) (hlk:ls.length=k) (hone:one bk=gR sc raw y.1 y.2) (hCX:w.heap.size<X) (hmany:cD y.1.kind≤y.1.args.length+1) (hargs:y.1.args.length≤1) (hcut:k8 wr X s raw y wc)
  (q0 q4 q5 q6 q10 q12 q13 q14 q15 q16 q17 q18 q19 q20 q21 q22 q23 q24 q25 q26 q27 q28 q29 q30 q31 q32 q33 q34 q35 q36 q37 q38 q39 q40 q41 q42 q43 q44 q45 q46 q47 q48 q49 q50 q51 q52 q53 q54 q55 q56 q57 q58 q59 q60 q61 q62 q63 q64 q65 q66 q67 q68 q69 q70 q71 q72 q73 q74 q75 q76 q77 q78 q79 q80 q81 q82 q83 q84 q85 q86 q87 q88 q89 q90 q91 q92 q93 q94 q95 q96 q97 q98 q99 q100 q101 q102 q103 q104 q105 q106 q107 q108 q109 q110 q111 q112 q113 q114 q115 q116 q117 q118 q119 q120 q121 q122 q123 q124 q125 q126 q127 q128 q129 q130 q131 q132 q133 q134 q135 q136 q137 q138 q139 q140 q141 q142 q143 q144 q145 q146 q147 q148 q149 q150 q151 q152 q153 q154 q155 q156 q157 q158 q159 q160 q161 q162 q163 q164 q165 q166 q167 q168 q169 q170 q171 q172 q173 q174 q175 q176 q177 q178 q179 q180 q181 q182 q183 q184 q185 q186 q187 q188 q189 q190 q191 q192 q193 q194 q195 q196 q197 q198 q199 q200 q201 q202 q203 q204 q205 q206 q207 q208 q209 q210 q211 q212 q213 q214 q215 q216 q217 q218 q219 q220 q221 q222 q223 q224 q225:Value) (J K':Act→World→Prop) (hJ:∀a' w',lP w s d c raw one a0 [.slice v1 sc.vars.length v2,.slice a1 sc.arrays.length a2,.slice f1 sc.funcs.length f2,.bool sc.free,.bool sc.loop] k (k+1) a' w'→J a' w') (hM:∀a' w',Met J a' w'→K' a' w'):
  Code.wp Zb yB (Exit.then K' (fun _ _ _=>False)) ⟨[q0,.pointer (some ⟨s,0,none⟩),.int .i64 d,.pointer (some ⟨w.heap.size,0,none⟩),q4,q5,q6,v,.int .i64 c,.int .i64 k,q10,.pointer (some ⟨X,0,none⟩),q12,q13,q14,q15,q16,q17,q18,q19,q20,q21,q22,q23,q24,q25,q26,q27,q28,q29,q30,q31,q32,q33,q34,q35,q36,q37,q38,q39,q40,q41,q42,q43,q44,q45,q46,q47,q48,q49,q50,q51,q52,q53,q54,q55,q56,q57,q58,q59,q60,q61,q62,q63,q64,q65,q66,q67,q68,q69,q70,q71,q72,q73,q74,q75,q76,q77,q78,q79,q80,q81,q82,q83,q84,q85,q86,q87,q88,q89,q90,q91,q92,q93,q94,q95,q96,q97,q98,q99,q100,q101,q102,q103,q104,q105,q106,q107,q108,q109,q110,q111,q112,q113,q114,q115,q116,q117,q118,q119,q120,q121,q122,q123,q124,q125,q126,q127,q128,q129,q130,q131,q132,q133,q134,q135,q136,q137,q138,q139,q140,q141,q142,q143,q144,q145,q146,q147,q148,q149,q150,q151,q152,q153,q154,q155,q156,q157,q158,q159,q160,q161,q162,q163,q164,q165,q166,q167,q168,q169,q170,q171,q172,q173,q174,q175,q176,q177,q178,q179,q180,q181,q182,q183,q184,q185,q186,q187,q188,q189,q190,q191,q192,q193,q194,q195,q196,q197,q198,q199,q200,q201,q202,q203,q204,q205,q206,q207,q208,q209,q210,q211,q212,q213,q214,q215,q216,q217,q218,q219,q220,q221,q222,q223,q224,q225].toArray,[]⟩ wc:=by
 have HSC:=Za hsc;have HY:Hid (w.heap.size≠s):=by show _≠_;omega
 obtain⟨oa,oc,rfl⟩:=hO.shape;have HPS:=Za hps;have HFK:=Za hfr;have HCK:=Za hC;have HOK:=Za hO;have HNX:=Za hnx;have HONE:=Za hone;have HLN:=Za hlk;have HCX:Hid (w.heap.size<X):=hCX;have HMANY:=Za hmany;have HARGS:=Za (tE sc raw y.1 y.2 hargs);clear hps hfr hC hO hsc hnx hone hlk hmany hargs
 conv=>arg 2;whnf
 obtain⟨y0,hy0⟩:∃y0,y0=gR sc raw y.1 y.2:=⟨_,rfl⟩;rw[←hy0]at HONE HARGS;have HY0:=Za hy0;clear hy0;obtain⟨⟨yk,ynm,yargs,yt,ye⟩,ya⟩:=y;obtain⟨ps,va,vc,xt,xe,hps,hh⟩:=hcut;dsimp only[St.kind,St.name,St.args,St.thn,St.els]at HMANY HY0 hps hh;subst hps;have HHA:=Za hh;have x0:=hh.own.at 0 _ rfl;have hXl:=hh.lt;clear hh
 go_upto_if 199 with(fail)
 go_cut [16]from 19 to 224 (fun q wx=>q= .int .i64 (if yk=2 then 2 else 1)∧wc=wx)
 case first=>
  by_cases h:yk=2
  ·subst h
   go_wp2_with fail
   go_meet;exact⟨rfl,rfl⟩
  ·have h2:(yk==2)=false:=beq_eq_false_iff_ne.2 h
   have e:Hid ((if yk=2 then(2:Int)else 1)=1):=if_neg h;clear h;go_wp2_with fail
   go_meet;exact⟨by rw[e.out],rfl⟩
 case rest=>
 obtain⟨rfl,rfl⟩:=hcut;obtain⟨t2,ht2⟩:∃t2,t2=(if yk=2 then(2:Int)else 1):=⟨_,rfl⟩;rw[←ht2];have HT2:=Za ht2;clear ht2;go_upto_region 41 with(fail)
 go_cut [207]from 19 to 224 (fun q wx=>q= .bool (decide (yk=5∨yk=6))∧wc=wx)
 case first=>
  by_cases h:yk=5
  ·subst h
   go_wp2_with fail
   go_meet;exact⟨rfl,rfl⟩
  ·by_cases h6:yk=6
   ·subst h6
    go_wp2_with fail
    go_meet;exact⟨rfl,rfl⟩
   ·have e:Hid (decide (yk=5∨yk=6)=false):=by show _=_;exact decide_eq_false (by omega)
    have n5:(yk==5)=false:=beq_eq_false_iff_ne.2 h;have n6:(yk==6)=false:=beq_eq_false_iff_ne.2 h6;clear h h6;go_wp2_with fail
    go_meet;exact⟨by rw[e.out],rfl⟩
 case rest=>
 obtain⟨rfl,rfl⟩:=hcut;obtain⟨b56,hb56⟩:∃b56,b56=decide (yk=5∨yk=6):=⟨_,rfl⟩;rw[←hb56];have HM:Hid ((cD yk:Int)=if b56=true then 0 else t2):=by
  show _=_
  rw[HT2.out,hb56];unfold cD
  by_cases h2:yk=2
  ·subst h2;rfl
  ·by_cases h56:yk=5∨yk=6<;>simp [h2,h56]
 clear HT2 hb56
 go_upto_if 207 with(fail)
 go_cut [16]from 19 to 224 (fun q wx=>q= .int .i64 (cD yk:Nat)∧wc=wx)
 case first=>
  have hm:=HM.out
  cases b56
  ·have e:Hid ((cD yk:Int)=t2):=hm
   clear hm;go_wp2_with fail
   go_meet;exact⟨by rw[e.out],rfl⟩
  ·have e:Hid ((cD yk:Int)=0):=hm
   clear hm;go_wp2_with fail
   go_meet;exact⟨by rw[e.out],rfl⟩
 case rest=>
 obtain⟨rfl,rfl⟩:=hcut;clear HM x0
 go_upto_block 3 with(fail)
 refine wp_cut (fun a' w'=>FillR s sc raw w.heap.size X yk wr (gR sc raw (.mk yk ynm (ps.map (·.1)) yt ye) ya) _ _ _ _ _ _ _ _ _ _ _ _ _ _ _ _ _ _ _ _ _ _ _ _ _ _ _ _ _ _ _ _ _ _ _ _ _ _ _ _ _ _ _ _ _ _ _ _ _ _ _ _ _ _ _ _ _ _ _ _ _ _ _ _ _ _ _ _ _ _ _ _ _ _ _ _ _ _ _ _ _ _ _ _ _ _ _ _ _ _ _ _ _ _ _ _ _ _ _ _ _ _ _ _ _ _ _ _ _ _ _ _ _ _ _ _ _ _ _ _ _ _ _ _ _ _ _ _ _ _ _ _ _ _ _ _ _ _ _ _ _ _ _ _ _ _ _ _ _ _ _ _ _ _ _ _ _ _ _ _ _ _ _ _ _ _ _ _ _ _ _ _ _ _ _ _ _ _ _ _ _ _ _ _ _ _ _ _ _ _ _ _ _ _ _ _ _ _ _ _ _ _ _ _ _ _ _ _ _ a' w') ?rest (fun J K' hJ hM=>eB (xD s raw sc v1 a1 f1 v2 a2 f2 w.heap.size X yk ynm ps va vc yt ye xt xe ya wr wc (HSC.out.sfr HFK.out) HCK.out HHA.out HCX.out hsl (by have:=HMANY.out;rwa[List.length_map]at this) _ _ _ _ _ _ _ _ _ _ _ _ _ _ _ _ _ _ _ _ _ _ _ _ _ _ _ _ _ _ _ _ _ _ _ _ _ _ _ _ _ _ _ _ _ _ _ _ _ _ _ _ _ _ _ _ _ _ _ _ _ _ _ _ _ _ _ _ _ _ _ _ _ _ _ _ _ _ _ _ _ _ _ _ _ _ _ _ _ _ _ _ _ _ _ _ _ _ _ _ _ _ _ _ _ _ _ _ _ _ _ _ _ _ _ _ _ _ _ _ _ _ _ _ _ _ _ _ _ _ _ _ _ _ _ _ _ _ _ _ _ _ _ _ _ _ _ _ _ _ _ _ _ _ _ _ _ _ _ _ _ _ _ _ _ _ _ _ _ _ _ _ _ _ _ _ _ _ _ _ _ _ _ _ _ _ _ _ _ _ _ _ _ _ _ _ _ _ _ _ _ _ _ _ _ _ _ _ _ _ _ _ _ _ _ _ _ _ _ _ _ _ J K' hJ hM))
 case rest=>
 intro a' we hcut;obtain⟨z208,z209,z210,z211,z212,z213,z214,z215,z216,z217,z218,z219,z220,hcut⟩:=hcut;obtain⟨hcut,ha'⟩:=hcut;subst ha';clear HHA HMANY;rw[←HY0.out]at hcut;apply_assumption
 exact xW s d c k raw sc v1 a1 f1 v2 a2 f2 one a0 w wr (.slice oa ls.length oc) X y0 we hsl hc6 hlt ls lk bk HPS.out HFK.out HCK.out HOK.out HNX.out HLN.out HONE.out HCX.out HARGS.out hcut _ _ _ _ _ _ _ _ _ _ _ _ _ _ _ _ _ _ _ _ _ _ _ _ _ _ _ _ _ _ _ _ _ _ _ _ _ _ _ _ _ _ _ _ _ _ _ _ _ _ _ _ _ _ _ _ _ _ _ _ _ _ _ _ _ _ _ _ _ _ _ _ _ _ _ _ _ _ _ _ _ _ _ _ _ _ _ _ _ _ _ _ _ _ _ _ _ _ _ _ _ _ _ _ _ _ _ _ _ _ _ _ _ _ _ _ _ _ _ _ _ _ _ _ _ _ _ _ _ _ _ _ _ _ _ _ _ _ _ _ _ _ _ _ _ _ _ _ _ _ _ _ _ _ _ _ _ _ _ _ _ _ _ _ _ _ _ _ _ _ _ _ _ _ _ _ _ _ _ _ _ _ _ _ _ _ _ _ _ _ _ _ _ _ _ _ _ _ _ _ _ _ _ _ _ _ _ _ _ _ _ _ _ _ _ _ _ _ _ J K' hJ hM
theorem zC(d s c k:Nat)(raw:List Int)(sc:Sc)(v1 a1 f1:Option Addr)(v2 a2 f2:Nat)(gs gl:Nat→List St ×Nat)(a0:Nat)(w wr:World)(v:Value)(hd1:d≤1000)(hsc:dg s w sc (.slice v1 sc.vars.length v2) (.slice a1 sc.arrays.length a2) (.slice f1 sc.funcs.length f2))(hsl:s<w.heap.size)(hc6:c≤4)(hIH:2≤d→∀w1 b,aZ w1 s raw b→dg s w1 sc (.slice v1 sc.vars.length v2) (.slice a1 sc.arrays.length a2) (.slice f1 sc.funcs.length f2)→Calls Zb 39 #[.agg #[.slice v1 sc.vars.length v2,.slice a1 sc.arrays.length a2,.slice f1 sc.funcs.length f2,.bool sc.free,.bool sc.loop],.pointer (some ⟨s,0,none⟩),.int .i64 ((d:Int) - 1)] w1 (em w1 s raw (gs b)))(hIL:2≤d→∀w1 b,aZ w1 s raw b→dg s w1 sc (.slice v1 sc.vars.length v2) (.slice a1 sc.arrays.length a2) (.slice f1 sc.funcs.length f2)→Calls Zb 39 #[.agg #[.slice v1 sc.vars.length v2,.slice a1 sc.arrays.length a2,.slice f1 sc.funcs.length f2,.bool sc.free,.bool true],.pointer (some ⟨s,0,none⟩),.int .i64 ((d:Int) - 1)] w1 (em w1 s raw (gl b)))(hlt:k<c)(ls:List StV)(lk:List St)(bk:Nat)(hps:ls.map (·.x)=lk)(hfr:SFr s w wr)(hC:aG wr w.heap.size [.slice v1 sc.vars.length v2,.slice a1 sc.arrays.length a2,.slice f1 sc.funcs.length f2,.bool sc.free,.bool sc.loop] 73)(hO:cS wr (w.heap.size+1) ls v)
  (hnx:fH (gSt sc raw gs gl d) (k+1) a0=(lk++[((gSt sc raw gs gl d) bk).1],((gSt sc raw gs gl d) bk).2)) (hlk:ls.length=k) (X:Nat) (K:Int) (ka:Nat) (W3:World) (hone:gSt sc raw gs gl d bk=gR sc raw (bO sc raw gs gl K ka).1 (bO sc raw gs gl K ka).2)
  (hCX:w.heap.size<X) (hK0:0≤K) (hK1:K<14) (hKd:7≤K→K<11→2≤d) (hC3:aG W3 w.heap.size [.slice v1 sc.vars.length v2,.slice a1 sc.arrays.length a2,.slice f1 sc.funcs.length f2,.bool sc.free,.bool sc.loop] 73) (hH3:bw wr X s raw 8 [] [] none 0 [] [] (.slice none 0 0) (.slice none 0 0) ka W3)
  (q0 q4 q5 q6 q12 q13 q14 q15 q16 q17 q18 q19 q20 q21 q22 q23 q24 q25 q26 q27 q28 q29 q30 q31 q32 q33 q34 q35 q36 q37 q38 q39 q40 q41 q42 q43 q44 q45 q46 q47 q48 q49 q50 q51 q52 q53 q54 q55 q56 q57 q58 q59 q60 q61 q62 q63 q64 q65 q66 q67 q68 q69 q70 q71 q72 q73 q74 q75 q76 q77 q78 q79 q80 q81 q82 q83 q84 q85 q86 q87 q88 q89 q90 q91 q92 q93 q94 q95 q96 q97 q98 q99 q100 q101 q102 q103 q104 q105 q106 q107 q108 q109 q110 q111 q112 q113 q114 q115 q116 q117 q118 q119 q120 q121 q122 q123 q124 q125 q126 q127 q128 q129 q130 q131 q132 q133 q134 q135 q136 q137 q138 q139 q140 q141 q142 q143 q144 q145 q146 q147 q148 q149 q150 q151 q152 q153 q154 q155 q156 q157 q158 q159 q160 q161 q162 q163 q164 q165 q166 q167 q168 q169 q170 q171 q172 q173 q174 q175 q176 q177 q178 q179 q180 q181 q182 q183 q184 q185 q186 q187 q188 q189 q190 q191 q192 q193 q194 q195 q196 q197 q198 q199 q200 q201 q202 q203 q204 q205 q206 q207 q208 q209 q210 q211 q212 q213 q214 q215 q216 q217 q218 q219 q220 q221 q222 q223 q224 q225:Value) (J K':Act→World→Prop) (hJ:∀a' w',lP w s d c raw (gSt sc raw gs gl d) a0 [.slice v1 sc.vars.length v2,.slice a1 sc.arrays.length a2,.slice f1 sc.funcs.length f2,.bool sc.free,.bool sc.loop] k (k+1) a' w'→J a' w') (hM:∀a' w',Met J a' w'→K' a' w'):
  Code.wp Zb midCode (Exit.then K' (fun _ _ _=>False)) ⟨[q0,.pointer (some ⟨s,0,none⟩),.int .i64 d,.pointer (some ⟨w.heap.size,0,none⟩),q4,q5,q6,v,.int .i64 c,.int .i64 k,.int .i64 K,.pointer (some ⟨X,0,none⟩),q12,q13,q14,q15,q16,q17,q18,q19,q20,q21,q22,q23,q24,q25,q26,q27,q28,q29,q30,q31,q32,q33,q34,q35,q36,q37,q38,q39,q40,q41,q42,q43,q44,q45,q46,q47,q48,q49,q50,q51,q52,q53,q54,q55,q56,q57,q58,q59,q60,q61,q62,q63,q64,q65,q66,q67,q68,q69,q70,q71,q72,q73,q74,q75,q76,q77,q78,q79,q80,q81,q82,q83,q84,q85,q86,q87,q88,q89,q90,q91,q92,q93,q94,q95,q96,q97,q98,q99,q100,q101,q102,q103,q104,q105,q106,q107,q108,q109,q110,q111,q112,q113,q114,q115,q116,q117,q118,q119,q120,q121,q122,q123,q124,q125,q126,q127,q128,q129,q130,q131,q132,q133,q134,q135,q136,q137,q138,q139,q140,q141,q142,q143,q144,q145,q146,q147,q148,q149,q150,q151,q152,q153,q154,q155,q156,q157,q158,q159,q160,q161,q162,q163,q164,q165,q166,q167,q168,q169,q170,q171,q172,q173,q174,q175,q176,q177,q178,q179,q180,q181,q182,q183,q184,q185,q186,q187,q188,q189,q190,q191,q192,q193,q194,q195,q196,q197,q198,q199,q200,q201,q202,q203,q204,q205,q206,q207,q208,q209,q210,q211,q212,q213,q214,q215,q216,q217,q218,q219,q220,q221,q222,q223,q224,q225].toArray,[]⟩ W3:=by
 have lf:=hsc.f1;have lv:=hsc.v1;have la:=hsc.a1;have hva:Hid (sc.hasVars=(decide (0<sc.vars.length)||sc.free)):=nK sc;have haa:Hid (sc.hasArrays=(decide (0<sc.arrays.length)||sc.free)):=ko sc;have hfa:Hid (sc.hasFuncs=(decide (0<sc.funcs.length)||sc.free)):=mi sc;have HSC:=Za hsc;have HIH:=Za hIH;have HIL:=Za hIL;have HY:Hid (w.heap.size≠s):=by show _≠_;omega
 obtain⟨oa,oc,rfl⟩:=hO.shape;have HPS:=Za hps;have HFK:=Za hfr;have HCK:=Za hC;have HOK:=Za hO;have HNX:=Za hnx;have HLN:=Za hlk;have HONE:=Za hone;have HCX:Hid (w.heap.size<X):=hCX;have HKD:=Za hKd;have HC3:=Za hC3;have HH3:=Za hH3;clear hps hfr hC hO hsc hIH hIL hnx hlk hone hKd hC3 hH3
 conv=>arg 2;whnf
 dsimp only;have b0:=HC3.out.at 0 _ rfl;have b1:=HC3.out.at 1 _ rfl;have b2:=HC3.out.at 2 _ rfl;have b3:=HC3.out.at 3 _ rfl;have b4:=HC3.out.at 4 _ rfl;go_upto_region 10 with(fail)
 go_cut [12]from 19 to 224 (fun q wx=>q= .bool sc.hasArrays∧W3=wx)
 case first=>
  by_cases hlv:0<sc.arrays.length
  ·have hlv':(0:Int)<(sc.arrays.length:Int):=by omega
   go_wp2_with fail
   go_meet;exact⟨by rw[haa.out,decide_eq_true hlv];rfl,rfl⟩
  ·have hlv':(sc.arrays.length:Int)≤0:=by omega
   go_wp2_with fail
   go_meet;exact⟨by rw[haa.out,decide_eq_false hlv];rfl,rfl⟩
 case rest=>
 obtain⟨rfl,rfl⟩:=hcut;go_upto_region 11 with(fail)
 go_cut [13]from 19 to 224 (fun q wx=>q= .bool sc.hasVars∧W3=wx)
 case first=>
  by_cases hlv:0<sc.vars.length
  ·have hlv':(0:Int)<(sc.vars.length:Int):=by omega
   go_wp2_with fail
   go_meet;exact⟨by rw[hva.out,decide_eq_true hlv];rfl,rfl⟩
  ·have hlv':(sc.vars.length:Int)≤0:=by omega
   go_wp2_with fail
   go_meet;exact⟨by rw[hva.out,decide_eq_false hlv];rfl,rfl⟩
 case rest=>
 obtain⟨rfl,rfl⟩:=hcut;go_upto_region 12 with(fail)
 go_cut [14]from 19 to 224 (fun q wx=>q= .bool sc.hasFuncs∧W3=wx)
 case first=>
  by_cases hlv:0<sc.funcs.length
  ·have hlv':(0:Int)<(sc.funcs.length:Int):=by omega
   go_wp2_with fail
   go_meet;exact⟨by rw[hfa.out,decide_eq_true hlv];rfl,rfl⟩
  ·have hlv':(sc.funcs.length:Int)≤0:=by omega
   go_wp2_with fail
   go_meet;exact⟨by rw[hfa.out,decide_eq_false hlv];rfl,rfl⟩
 case rest=>
 obtain⟨rfl,rfl⟩:=hcut;clear b0 b1 b2 b3 b4 haa hva hfa
 go_upto_block 2 with(fail)
 refine wp_cut (fun a' w'=>SwR d s w.heap.size X K sc.hasArrays sc.hasVars sc.hasFuncs wr raw (bO sc raw gs gl K ka) _ _ _ _ _ _ _ _ _ _ _ _ _ _ _ _ _ _ _ _ _ _ _ _ _ _ _ _ _ _ _ _ _ _ _ _ _ _ _ _ _ _ _ _ _ _ _ _ _ _ _ _ _ _ _ _ _ _ _ _ _ _ _ _ _ _ _ _ _ _ _ _ _ _ _ _ _ _ _ _ _ a' w') ?rest (fun J K' hJ hM=>eB (sw_all (gs:=gs) (gl:=gl) ⟨hd1,(HSC.out.sfr HFK.out),HC3.out,HH3.out,HCX.out,hsl,hK0,hK1,HKD.out,rfl,rfl,rfl⟩ HIH.out HIL.out _ _ _ _ _ _ _ _ _ _ _ _ _ _ _ _ _ _ _ _ _ _ _ _ _ _ _ _ _ _ _ _ _ _ _ _ _ _ _ _ _ _ _ _ _ _ _ _ _ _ _ _ _ _ _ _ _ _ _ _ _ _ _ _ _ _ _ _ _ _ _ _ _ _ _ _ _ _ _ _ _ _ _ _ _ _ _ _ _ _ _ _ _ _ _ _ _ _ _ _ _ _ _ _ _ _ _ _ _ _ _ _ _ _ _ _ _ _ _ _ _ _ _ _ _ _ _ _ _ _ _ _ _ _ _ _ _ _ _ _ _ _ _ _ _ _ _ _ _ _ _ _ _ _ _ _ _ _ _ _ _ _ _ _ _ _ _ _ _ _ _ _ _ _ _ _ _ _ _ _ _ _ _ _ _ _ _ _ _ _ _ _ _ _ _ _ _ _ _ _ _ _ _ _ _ _ _ _ _ _ _ _ _ _ _ _ _ _ J K' hJ hM))
 case rest=>
 intro a' wc hcut;obtain⟨z15,z61,z62,z63,z64,z65,z66,z67,z68,z69,z70,z71,z72,z73,z74,z75,z76,z77,z78,z79,hcut⟩:=hcut;obtain⟨z80,z81,z82,z83,z84,z85,z86,z87,z88,z89,z90,z91,z92,z93,z94,z95,z96,z97,z98,z99,hcut⟩:=hcut;obtain⟨z100,z101,z102,z103,z104,z105,z106,z107,z108,z109,z110,z111,z112,z113,z114,z115,z116,z117,z118,z119,hcut⟩:=hcut;obtain⟨z120,z121,z122,z123,z124,z125,z126,z127,z128,z129,z130,z131,z132,z133,z134,z135,z136,z137,z138,z139,hcut⟩:=hcut;obtain⟨z140,z141,z142,z143,z144,z145,z146,z147,z148,z149,z150,z151,z152,z153,z154,z155,z156,z157,z158,z159,hcut⟩:=hcut;obtain⟨z160,z161,z162,z163,z164,z165,z166,z167,z168,z169,z170,z171,z172,z173,z174,z175,z176,z177,z178,z179,hcut⟩:=hcut;obtain⟨z180,z181,z182,z183,z184,z185,z186,z187,z188,z189,z190,z191,z192,z193,z194,z195,z196,hcut⟩:=hcut;obtain⟨hcut,ha'⟩:=hcut;subst ha';have hmany:=vS sc raw gs gl K ka;have hargs:=wM sc raw gs gl K ka;clear HKD HH3 HC3;apply_assumption
 exact wS s d c k raw sc v1 a1 f1 v2 a2 f2 (gSt sc raw gs gl d) a0 w wr (.slice oa ls.length oc) X (bO sc raw gs gl K ka) wc HSC.out hsl hc6 hlt ls lk bk HPS.out HFK.out HCK.out HOK.out HNX.out HLN.out HONE.out HCX.out hmany hargs hcut _ _ _ _ _ _ _ _ _ _ _ _ _ _ _ _ _ _ _ _ _ _ _ _ _ _ _ _ _ _ _ _ _ _ _ _ _ _ _ _ _ _ _ _ _ _ _ _ _ _ _ _ _ _ _ _ _ _ _ _ _ _ _ _ _ _ _ _ _ _ _ _ _ _ _ _ _ _ _ _ _ _ _ _ _ _ _ _ _ _ _ _ _ _ _ _ _ _ _ _ _ _ _ _ _ _ _ _ _ _ _ _ _ _ _ _ _ _ _ _ _ _ _ _ _ _ _ _ _ _ _ _ _ _ _ _ _ _ _ _ _ _ _ _ _ _ _ _ _ _ _ _ _ _ _ _ _ _ _ _ _ _ _ _ _ _ _ _ _ _ _ _ _ _ _ _ _ _ _ _ _ _ _ _ _ _ _ _ _ _ _ _ _ _ _ _ _ _ _ _ _ _ _ _ _ _ _ _ _ _ _ _ _ _ _ _ _ _ _ J K' hJ hM
theorem tD(d s c k:Nat)(raw:List Int)(sc:Sc)(v1 a1 f1:Option Addr)(v2 a2 f2:Nat)(gs gl:Nat→List St ×Nat)(a0:Nat)(w wr:World)(v:Value)(hd1:d≤1000)(hsc:dg s w sc (.slice v1 sc.vars.length v2) (.slice a1 sc.arrays.length a2) (.slice f1 sc.funcs.length f2))(hsl:s<w.heap.size)(hc6:c≤4)(hIH:2≤d→∀w1 b,aZ w1 s raw b→dg s w1 sc (.slice v1 sc.vars.length v2) (.slice a1 sc.arrays.length a2) (.slice f1 sc.funcs.length f2)→Calls Zb 39 #[.agg #[.slice v1 sc.vars.length v2,.slice a1 sc.arrays.length a2,.slice f1 sc.funcs.length f2,.bool sc.free,.bool sc.loop],.pointer (some ⟨s,0,none⟩),.int .i64 ((d:Int) - 1)] w1 (em w1 s raw (gs b)))(hIL:2≤d→∀w1 b,aZ w1 s raw b→dg s w1 sc (.slice v1 sc.vars.length v2) (.slice a1 sc.arrays.length a2) (.slice f1 sc.funcs.length f2)→Calls Zb 39 #[.agg #[.slice v1 sc.vars.length v2,.slice a1 sc.arrays.length a2,.slice f1 sc.funcs.length f2,.bool sc.free,.bool true],.pointer (some ⟨s,0,none⟩),.int .i64 ((d:Int) - 1)] w1 (em w1 s raw (gl b)))(hlt:k<c)(hinv:qF w s raw (gSt sc raw gs gl d) a0 [.slice v1 sc.vars.length v2,.slice a1 sc.arrays.length a2,.slice f1 sc.funcs.length f2,.bool sc.free,.bool sc.loop] k v wr)(q0 q4 q5 q6 q10 q11 q12 q13 q14 q15 q16 q17 q18 q19 q20 q21 q22 q23 q24 q25 q26 q27 q28 q29 q30 q31 q32 q33 q34 q35 q36 q37 q38 q39 q40 q41 q42 q43 q44 q45 q46 q47 q48 q49 q50 q51 q52 q53 q54 q55 q56 q57 q58 q59 q60 q61 q62 q63 q64 q65 q66 q67 q68 q69 q70 q71 q72 q73 q74 q75 q76 q77 q78 q79 q80 q81 q82 q83 q84 q85 q86 q87 q88 q89 q90 q91 q92 q93 q94 q95 q96 q97 q98 q99 q100 q101 q102 q103 q104 q105 q106 q107 q108 q109 q110 q111 q112 q113 q114 q115 q116 q117 q118 q119 q120 q121 q122 q123 q124 q125 q126 q127 q128 q129 q130 q131 q132 q133 q134 q135 q136 q137 q138 q139 q140 q141 q142 q143 q144 q145 q146 q147 q148 q149 q150 q151 q152 q153 q154 q155 q156 q157 q158 q159 q160 q161 q162 q163 q164 q165 q166 q167 q168 q169 q170 q171 q172 q173 q174 q175 q176 q177 q178 q179 q180 q181 q182 q183 q184 q185 q186 q187 q188 q189 q190 q191 q192 q193 q194 q195 q196 q197 q198 q199 q200 q201 q202 q203 q204 q205 q206 q207 q208 q209 q210 q211 q212 q213 q214 q215 q216 q217 q218 q219 q220 q221 q222 q223 q224 q225:Value)(J K':Act→World→Prop)(hJ:∀a' w',lP w s d c raw (gSt sc raw gs gl d) a0 [.slice v1 sc.vars.length v2,.slice a1 sc.arrays.length a2,.slice f1 sc.funcs.length f2,.bool sc.free,.bool sc.loop] (k+1) (k+1) a' w'→J a' w')(hM:∀a' w',Met J a' w'→K' a' w'):
  Code.wp Zb wi (Exit.then K' (fun _ _ _=>False)) ⟨[q0,.pointer (some ⟨s,0,none⟩),.int .i64 d,.pointer (some ⟨w.heap.size,0,none⟩),q4,q5,q6,v,.int .i64 c,.int .i64 k,q10,q11,q12,q13,q14,q15,q16,q17,q18,q19,q20,q21,q22,q23,q24,q25,q26,q27,q28,q29,q30,q31,q32,q33,q34,q35,q36,q37,q38,q39,q40,q41,q42,q43,q44,q45,q46,q47,q48,q49,q50,q51,q52,q53,q54,q55,q56,q57,q58,q59,q60,q61,q62,q63,q64,q65,q66,q67,q68,q69,q70,q71,q72,q73,q74,q75,q76,q77,q78,q79,q80,q81,q82,q83,q84,q85,q86,q87,q88,q89,q90,q91,q92,q93,q94,q95,q96,q97,q98,q99,q100,q101,q102,q103,q104,q105,q106,q107,q108,q109,q110,q111,q112,q113,q114,q115,q116,q117,q118,q119,q120,q121,q122,q123,q124,q125,q126,q127,q128,q129,q130,q131,q132,q133,q134,q135,q136,q137,q138,q139,q140,q141,q142,q143,q144,q145,q146,q147,q148,q149,q150,q151,q152,q153,q154,q155,q156,q157,q158,q159,q160,q161,q162,q163,q164,q165,q166,q167,q168,q169,q170,q171,q172,q173,q174,q175,q176,q177,q178,q179,q180,q181,q182,q183,q184,q185,q186,q187,q188,q189,q190,q191,q192,q193,q194,q195,q196,q197,q198,q199,q200,q201,q202,q203,q204,q205,q206,q207,q208,q209,q210,q211,q212,q213,q214,q215,q216,q217,q218,q219,q220,q221,q222,q223,q224,q225].toArray,[]⟩ wr:=by
 have lf:=hsc.f1;have lv:=hsc.v1;have la:=hsc.a1;have HSC:=Za hsc;have HIH:=Za hIH;have HIL:=Za hIL;have HY:Hid (w.heap.size≠s):=by show _≠_;omega
 obtain⟨ls,hps,hsr,hfr,hC,hO⟩:=hinv;obtain⟨oa,oc,rfl⟩:=hO.shape;have HPS:=Za hps;have HSK:=Za hsr;have HFK:=Za hfr;have HCK:=Za hC;have HOK:=Za hO;clear hps hsr hfr hC hO hsc hIH hIL;have HNX:=Za (th (gSt sc raw gs gl d) k a0);have HLN:Hid (ls.length=k):=by show _=_;have h1:=congrArg List.length HPS.out;rw[List.length_map,iS]at h1;exact h1
 generalize fH (gSt sc raw gs gl d) k a0=mk at HPS HSK HNX;obtain⟨lk,bk⟩:=mk;dsimp only at HPS HSK HNX;have HN:Hid (Calls Zb 37 #[.pointer (some ⟨s,0,none⟩),.int .i64 14] wr (cp wr s raw (.int .i64 (aC raw bk 14).1) (aC raw bk 14).2)):=bQ s raw bk 14 wr HSK.out (by decide) (by decide);have hr:=aM raw bk 14 (by decide);have hkr:=tV raw d bk;obtain⟨K,hK⟩:∃K,K=lh raw d bk:=⟨_,rfl⟩;obtain⟨B,hB⟩:∃B,B=decide (d<2∧7≤(aC raw bk 14).1∧(aC raw bk 14).1<11):=⟨_,rfl⟩;have hKB:K=if B=true then 0 else(aC raw bk 14).1:=by rw[hK,hB];unfold lh;by_cases h:d<2∧7≤(aC raw bk 14).1∧(aC raw bk 14).1<11<;>simp [h]
 have hone:gSt sc raw gs gl d bk=gR sc raw (bO sc raw gs gl K (aC raw bk 14).2).1 (bO sc raw gs gl K (aC raw bk 14).2).2:=by rw[hK];rfl
 have HONE:=Za hone;rw[←hK]at hkr;obtain⟨hK0,hK1,hKd⟩:=hkr;clear hone hK;generalize aC raw bk 14=g at*;obtain⟨k0,ka⟩:=g;obtain⟨hk0,hk1⟩:=hr;dsimp only at HN hB hKB HONE hk0 hk1;have HB:=Za hB;have HKB:=Za hKB;have HKD:=Za hKd;clear hB hKB hKd;have hltI:(k:Int)<(c:Int):=by omega
 conv=>arg 2;whnf
 go_wp2_with fail
 refine HN.out.mono ?_;rintro r w2 ⟨rfl,hs2,hf2⟩;have HH3:=Za (bw.new 8 hs2 hf2);have HC3:=Za ((HCK.out.sfr hf2 HY.out).alloc (.cells #[.int .i64 8,.string ⟨#[]⟩,.slice none 0 0,.slice none 0 0,.slice none 0 0] 60));have hgX:=hf2.size;have hwX:=HCK.out.lt;have hsX:s<w2.heap.size:=hs2.lt;clear hs2 hf2 HN;go_upto_region 7 with(fail)
 go_cut [35]from 19 to 224 (fun q wx=>q= .bool B∧w2=wx)
 case first=>
  by_cases h1:(d:Int)<2
  ·by_cases h2:7≤k0
   ·by_cases h3:k0<11
    ·have e:Hid (B=true):=by show _=_;rw[HB.out];exact decide_eq_true ⟨by omega,h2,h3⟩
     go_wp2_with fail
     go_meet;exact⟨by rw[e.out],rfl⟩
    ·have e:Hid (B=false):=by show _=_;rw[HB.out];exact decide_eq_false (fun h=>h3 h.2.2)
     go_wp2_with fail
     go_meet;exact⟨by rw[e.out],rfl⟩
   ·have e:Hid (B=false):=by show _=_;rw[HB.out];exact decide_eq_false (fun h=>h2 h.2.1)
    go_wp2_with fail
    go_meet;exact⟨by rw[e.out],rfl⟩
  ·have e:Hid (B=false):=by show _=_;rw[HB.out];exact decide_eq_false (fun h=>h1 (by omega))
   go_wp2_with fail
   go_meet;exact⟨by rw[e.out],rfl⟩
 case rest=>
 obtain⟨rfl,rfl⟩:=hcut
 go_upto_if 35 with(fail)
 go_cut [10]from 19 to 224 (fun q wx=>q= .int .i64 K∧w2=wx)
 case first=>
  have hkb:=HKB.out
  cases B
  ·have e:Hid (K=k0):=hkb
   clear hkb;go_wp2_with fail
   go_meet;exact⟨by rw[e.out],rfl⟩
  ·have e:Hid (K=0):=hkb
   clear hkb;go_wp2_with fail
   go_meet;exact⟨by rw[e.out],rfl⟩
 case rest=>
 obtain⟨rfl,rfl⟩:=hcut;clear HB HKB hk0 hk1 HSK;go_upto_region 9 with(fail)
 go_cut [11]from 19 to 224 (fun q wx=>q= .pointer (some ⟨w2.heap.size,0,none⟩)∧w2.alloc (.cells #[.int .i64 8,.string ⟨#[]⟩,.slice none 0 0,.slice none 0 0,.slice none 0 0] 60)=wx)
 case first=>
  go_wp2_with fail
  go_meet;exact⟨rfl,rfl⟩
 case rest=>
 obtain⟨rfl,rfl⟩:=hcut;generalize w2.alloc (.cells #[.int .i64 8,.string ⟨#[]⟩,.slice none 0 0,.slice none 0 0,.slice none 0 0] 60)=W3 at*;generalize w2.heap.size=X at*;apply_assumption
 refine wp_to (zC d s c k raw sc v1 a1 f1 v2 a2 f2 gs gl a0 w wr (.slice oa ls.length oc) hd1 HSC.out hsl hc6 HIH.out HIL.out hlt ls lk bk HPS.out HFK.out HCK.out HOK.out HNX.out HLN.out X K ka W3 HONE.out (show w.heap.size<X by omega) hK0 hK1 HKD.out HC3.out HH3.out _ _ _ _ _ _ _ _ _ _ _ _ _ _ _ _ _ _ _ _ _ _ _ _ _ _ _ _ _ _ _ _ _ _ _ _ _ _ _ _ _ _ _ _ _ _ _ _ _ _ _ _ _ _ _ _ _ _ _ _ _ _ _ _ _ _ _ _ _ _ _ _ _ _ _ _ _ _ _ _ _ _ _ _ _ _ _ _ _ _ _ _ _ _ _ _ _ _ _ _ _ _ _ _ _ _ _ _ _ _ _ _ _ _ _ _ _ _ _ _ _ _ _ _ _ _ _ _ _ _ _ _ _ _ _ _ _ _ _ _ _ _ _ _ _ _ _ _ _ _ _ _ _ _ _ _ _ _ _ _ _ _ _ _ _ _ _ _ _ _ _ _ _ _ _ _ _ _ _ _ _ _ _ _ _ _ _ _ _ _ _ _ _ _ _ _ _ _ _ _ _ _ _ _ _ _ _ _ _ _ _ _ _ _ _ _ _ _ _ _ (fun a' w' hT=> ?_) (fun _ _ h=>h));dsimp only[Exit.inBlock,Exit.then];apply_assumption
 obtain⟨v,z0,z4,z5,z6,z10,z11,z12,z13,z14,z15,z16,z17,z18,z19,z20,z21,z22,z23,z24,hT⟩:=hT;obtain⟨z25,z26,z27,z28,z29,z30,z31,z32,z33,z34,z35,z36,z37,z38,z39,z40,z41,z42,z43,z44,hT⟩:=hT;obtain⟨z45,z46,z47,z48,z49,z50,z51,z52,z53,z54,z55,z56,z57,z58,z59,z60,z61,z62,z63,z64,hT⟩:=hT;obtain⟨z65,z66,z67,z68,z69,z70,z71,z72,z73,z74,z75,z76,z77,z78,z79,z80,z81,z82,z83,z84,hT⟩:=hT;obtain⟨z85,z86,z87,z88,z89,z90,z91,z92,z93,z94,z95,z96,z97,z98,z99,z100,z101,z102,z103,z104,hT⟩:=hT;obtain⟨z105,z106,z107,z108,z109,z110,z111,z112,z113,z114,z115,z116,z117,z118,z119,z120,z121,z122,z123,z124,hT⟩:=hT;obtain⟨z125,z126,z127,z128,z129,z130,z131,z132,z133,z134,z135,z136,z137,z138,z139,z140,z141,z142,z143,z144,hT⟩:=hT;obtain⟨z145,z146,z147,z148,z149,z150,z151,z152,z153,z154,z155,z156,z157,z158,z159,z160,z161,z162,z163,z164,hT⟩:=hT;obtain⟨z165,z166,z167,z168,z169,z170,z171,z172,z173,z174,z175,z176,z177,z178,z179,z180,z181,z182,z183,z184,hT⟩:=hT;obtain⟨z185,z186,z187,z188,z189,z190,z191,z192,z193,z194,z195,z196,z197,z198,z199,z200,z201,z202,z203,z204,hT⟩:=hT;obtain⟨z205,z206,z207,z208,z209,z210,z211,z212,z213,z214,z215,z216,z217,z218,z219,z220,z221,z222,z223,z224,hT⟩:=hT;obtain⟨z225,hT⟩:=hT;obtain⟨hT,ha'⟩:=hT;subst ha';have HT:=Za hT;clear hT;go_wp2_with fail
 go_meet;exact HT.out
noncomputable def yr:Code:=((Tryz.f39.body.bind (gF (jk 0))).getD .skip)
theorem lP.meas {w:World}{s d c:Nat}{raw:List Int}{one:Nat→St ×Nat}{a0:Nat}{scs:List Value}{k j:Nat}{a':Act}{w':World}(h:lP w s d c raw one a0 scs k j a' w'):(intOf (a'.tmps.getD 9 undef)).toNat=k:=by
 obtain⟨v,z0,z4,z5,z6,z10,z11,z12,z13,z14,z15,z16,z17,z18,z19,z20,z21,z22,z23,z24,h⟩:=h;obtain⟨z25,z26,z27,z28,z29,z30,z31,z32,z33,z34,z35,z36,z37,z38,z39,z40,z41,z42,z43,z44,h⟩:=h;obtain⟨z45,z46,z47,z48,z49,z50,z51,z52,z53,z54,z55,z56,z57,z58,z59,z60,z61,z62,z63,z64,h⟩:=h;obtain⟨z65,z66,z67,z68,z69,z70,z71,z72,z73,z74,z75,z76,z77,z78,z79,z80,z81,z82,z83,z84,h⟩:=h;obtain⟨z85,z86,z87,z88,z89,z90,z91,z92,z93,z94,z95,z96,z97,z98,z99,z100,z101,z102,z103,z104,h⟩:=h;obtain⟨z105,z106,z107,z108,z109,z110,z111,z112,z113,z114,z115,z116,z117,z118,z119,z120,z121,z122,z123,z124,h⟩:=h;obtain⟨z125,z126,z127,z128,z129,z130,z131,z132,z133,z134,z135,z136,z137,z138,z139,z140,z141,z142,z143,z144,h⟩:=h;obtain⟨z145,z146,z147,z148,z149,z150,z151,z152,z153,z154,z155,z156,z157,z158,z159,z160,z161,z162,z163,z164,h⟩:=h;obtain⟨z165,z166,z167,z168,z169,z170,z171,z172,z173,z174,z175,z176,z177,z178,z179,z180,z181,z182,z183,z184,h⟩:=h;obtain⟨z185,z186,z187,z188,z189,z190,z191,z192,z193,z194,z195,z196,z197,z198,z199,z200,z201,z202,z203,z204,h⟩:=h;obtain⟨z205,z206,z207,z208,z209,z210,z211,z212,z213,z214,z215,z216,z217,z218,z219,z220,z221,z222,z223,z224,h⟩:=h;obtain⟨z225,h⟩:=h;obtain⟨_,ha'⟩:=h;subst ha';show(intOf (.int .i64 (k:Int))).toNat=k
 simp [intOf]
theorem vx(d s c:Nat)(raw:List Int)(sc:Sc)(v1 a1 f1:Option Addr)(v2 a2 f2:Nat)(gs gl:Nat→List St ×Nat)(a0:Nat)(w w2:World)(hd1:d≤1000)(hsc:dg s w sc (.slice v1 sc.vars.length v2) (.slice a1 sc.arrays.length a2) (.slice f1 sc.funcs.length f2))(hsl:s<w.heap.size)(hc6:c≤4)(hIH:2≤d→∀w1 b,aZ w1 s raw b→dg s w1 sc (.slice v1 sc.vars.length v2) (.slice a1 sc.arrays.length a2) (.slice f1 sc.funcs.length f2)→Calls Zb 39 #[.agg #[.slice v1 sc.vars.length v2,.slice a1 sc.arrays.length a2,.slice f1 sc.funcs.length f2,.bool sc.free,.bool sc.loop],.pointer (some ⟨s,0,none⟩),.int .i64 ((d:Int) - 1)] w1 (em w1 s raw (gs b)))(hIL:2≤d→∀w1 b,aZ w1 s raw b→dg s w1 sc (.slice v1 sc.vars.length v2) (.slice a1 sc.arrays.length a2) (.slice f1 sc.funcs.length f2)→Calls Zb 39 #[.agg #[.slice v1 sc.vars.length v2,.slice a1 sc.arrays.length a2,.slice f1 sc.funcs.length f2,.bool sc.free,.bool true],.pointer (some ⟨s,0,none⟩),.int .i64 ((d:Int) - 1)] w1 (em w1 s raw (gl b)))(hinv:qF w s raw (gSt sc raw gs gl d) a0 [.slice v1 sc.vars.length v2,.slice a1 sc.arrays.length a2,.slice f1 sc.funcs.length f2,.bool sc.free,.bool sc.loop] 0 (.slice none 0 0) w2)(q0 q4 q5 q6 q10 q11 q12 q13 q14 q15 q16 q17 q18 q19 q20 q21 q22 q23 q24 q25 q26 q27 q28 q29 q30 q31 q32 q33 q34 q35 q36 q37 q38 q39 q40 q41 q42 q43 q44 q45 q46 q47 q48 q49 q50 q51 q52 q53 q54 q55 q56 q57 q58 q59 q60 q61 q62 q63 q64 q65 q66 q67 q68 q69 q70 q71 q72 q73 q74 q75 q76 q77 q78 q79 q80 q81 q82 q83 q84 q85 q86 q87 q88 q89 q90 q91 q92 q93 q94 q95 q96 q97 q98 q99 q100 q101 q102 q103 q104 q105 q106 q107 q108 q109 q110 q111 q112 q113 q114 q115 q116 q117 q118 q119 q120 q121 q122 q123 q124 q125 q126 q127 q128 q129 q130 q131 q132 q133 q134 q135 q136 q137 q138 q139 q140 q141 q142 q143 q144 q145 q146 q147 q148 q149 q150 q151 q152 q153 q154 q155 q156 q157 q158 q159 q160 q161 q162 q163 q164 q165 q166 q167 q168 q169 q170 q171 q172 q173 q174 q175 q176 q177 q178 q179 q180 q181 q182 q183 q184 q185 q186 q187 q188 q189 q190 q191 q192 q193 q194 q195 q196 q197 q198 q199 q200 q201 q202 q203 q204 q205 q206 q207 q208 q209 q210 q211 q212 q213 q214 q215 q216 q217 q218 q219 q220 q221 q222 q223 q224 q225:Value)(J K':Act→World→Prop)(hJ:∀a' w',lP w s d c raw (gSt sc raw gs gl d) a0 [.slice v1 sc.vars.length v2,.slice a1 sc.arrays.length a2,.slice f1 sc.funcs.length f2,.bool sc.free,.bool sc.loop] c c a' w'→J a' w')(hM:∀a' w',Met J a' w'→K' a' w'):
  Code.wp Zb yr (Exit.then K' (fun _ _ _=>False)) ⟨[q0,.pointer (some ⟨s,0,none⟩),.int .i64 d,.pointer (some ⟨w.heap.size,0,none⟩),q4,q5,q6,.slice none 0 0,.int .i64 c,.int .i64 (0:Nat),q10,q11,q12,q13,q14,q15,q16,q17,q18,q19,q20,q21,q22,q23,q24,q25,q26,q27,q28,q29,q30,q31,q32,q33,q34,q35,q36,q37,q38,q39,q40,q41,q42,q43,q44,q45,q46,q47,q48,q49,q50,q51,q52,q53,q54,q55,q56,q57,q58,q59,q60,q61,q62,q63,q64,q65,q66,q67,q68,q69,q70,q71,q72,q73,q74,q75,q76,q77,q78,q79,q80,q81,q82,q83,q84,q85,q86,q87,q88,q89,q90,q91,q92,q93,q94,q95,q96,q97,q98,q99,q100,q101,q102,q103,q104,q105,q106,q107,q108,q109,q110,q111,q112,q113,q114,q115,q116,q117,q118,q119,q120,q121,q122,q123,q124,q125,q126,q127,q128,q129,q130,q131,q132,q133,q134,q135,q136,q137,q138,q139,q140,q141,q142,q143,q144,q145,q146,q147,q148,q149,q150,q151,q152,q153,q154,q155,q156,q157,q158,q159,q160,q161,q162,q163,q164,q165,q166,q167,q168,q169,q170,q171,q172,q173,q174,q175,q176,q177,q178,q179,q180,q181,q182,q183,q184,q185,q186,q187,q188,q189,q190,q191,q192,q193,q194,q195,q196,q197,q198,q199,q200,q201,q202,q203,q204,q205,q206,q207,q208,q209,q210,q211,q212,q213,q214,q215,q216,q217,q218,q219,q220,q221,q222,q223,q224,q225].toArray,[]⟩ w2:=by
 conv=>arg 2;whnf
 refine wp_block (wp_loop (fun a' w'=> ∃k,k≤c∧lP w s d c raw (gSt sc raw gs gl d) a0 [.slice v1 sc.vars.length v2,.slice a1 sc.arrays.length a2,.slice f1 sc.funcs.length f2,.bool sc.free,.bool sc.loop] k k a' w') (fun a' _=>c - (intOf (a'.tmps.getD 9 undef)).toNat) ⟨0,Nat.zero_le _,.slice none 0 0,q0,q4,q5,q6,q10,q11,q12,q13,q14,q15,q16,q17,q18,q19,q20,q21,q22,q23,q24,q25,q26,q27,q28,q29,q30,q31,q32,q33,q34,q35,q36,q37,q38,q39,q40,q41,q42,q43,q44,q45,q46,q47,q48,q49,q50,q51,q52,q53,q54,q55,q56,q57,q58,q59,q60,q61,q62,q63,q64,q65,q66,q67,q68,q69,q70,q71,q72,q73,q74,q75,q76,q77,q78,q79,q80,q81,q82,q83,q84,q85,q86,q87,q88,q89,q90,q91,q92,q93,q94,q95,q96,q97,q98,q99,q100,q101,q102,q103,q104,q105,q106,q107,q108,q109,q110,q111,q112,q113,q114,q115,q116,q117,q118,q119,q120,q121,q122,q123,q124,q125,q126,q127,q128,q129,q130,q131,q132,q133,q134,q135,q136,q137,q138,q139,q140,q141,q142,q143,q144,q145,q146,q147,q148,q149,q150,q151,q152,q153,q154,q155,q156,q157,q158,q159,q160,q161,q162,q163,q164,q165,q166,q167,q168,q169,q170,q171,q172,q173,q174,q175,q176,q177,q178,q179,q180,q181,q182,q183,q184,q185,q186,q187,q188,q189,q190,q191,q192,q193,q194,q195,q196,q197,q198,q199,q200,q201,q202,q203,q204,q205,q206,q207,q208,q209,q210,q211,q212,q213,q214,q215,q216,q217,q218,q219,q220,q221,q222,q223,q224,q225,hinv,rfl⟩ ?_);intro a' w' hI;obtain⟨k,hk,hI⟩:=hI;have hme:=hI.meas;obtain⟨v,z0,z4,z5,z6,z10,z11,z12,z13,z14,z15,z16,z17,z18,z19,z20,z21,z22,z23,z24,hI⟩:=hI;obtain⟨z25,z26,z27,z28,z29,z30,z31,z32,z33,z34,z35,z36,z37,z38,z39,z40,z41,z42,z43,z44,hI⟩:=hI
 obtain⟨z45,z46,z47,z48,z49,z50,z51,z52,z53,z54,z55,z56,z57,z58,z59,z60,z61,z62,z63,z64,hI⟩:=hI;obtain⟨z65,z66,z67,z68,z69,z70,z71,z72,z73,z74,z75,z76,z77,z78,z79,z80,z81,z82,z83,z84,hI⟩:=hI;obtain⟨z85,z86,z87,z88,z89,z90,z91,z92,z93,z94,z95,z96,z97,z98,z99,z100,z101,z102,z103,z104,hI⟩:=hI;obtain⟨z105,z106,z107,z108,z109,z110,z111,z112,z113,z114,z115,z116,z117,z118,z119,z120,z121,z122,z123,z124,hI⟩:=hI;obtain⟨z125,z126,z127,z128,z129,z130,z131,z132,z133,z134,z135,z136,z137,z138,z139,z140,z141,z142,z143,z144,hI⟩:=hI;obtain⟨z145,z146,z147,z148,z149,z150,z151,z152,z153,z154,z155,z156,z157,z158,z159,z160,z161,z162,z163,z164,hI⟩:=hI;obtain⟨z165,z166,z167,z168,z169,z170,z171,z172,z173,z174,z175,z176,z177,z178,z179,z180,z181,z182,z183,z184,hI⟩:=hI;obtain⟨z185,z186,z187,z188,z189,z190,z191,z192,z193,z194,z195,z196,z197,z198,z199,z200,z201,z202,z203,z204,hI⟩:=hI;obtain⟨z205,z206,z207,z208,z209,z210,z211,z212,z213,z214,z215,z216,z217,z218,z219,z220,z221,z222,z223,z224,hI⟩:=hI;obtain⟨z225,hI⟩:=hI;obtain⟨hI,ha'⟩:=hI;subst ha'
 by_cases hlt:k<c
 ·refine eB (tD d s c k raw sc v1 a1 f1 v2 a2 f2 gs gl a0 w w' v hd1 hsc hsl hc6 hIH hIL hlt hI z0 z4 z5 z6 z10 z11 z12 z13 z14 z15 z16 z17 z18 z19 z20 z21 z22 z23 z24 z25 z26 z27 z28 z29 z30 z31 z32 z33 z34 z35 z36 z37 z38 z39 z40 z41 z42 z43 z44 z45 z46 z47 z48 z49 z50 z51 z52 z53 z54 z55 z56 z57 z58 z59 z60 z61 z62 z63 z64 z65 z66 z67 z68 z69 z70 z71 z72 z73 z74 z75 z76 z77 z78 z79 z80 z81 z82 z83 z84 z85 z86 z87 z88 z89 z90 z91 z92 z93 z94 z95 z96 z97 z98 z99 z100 z101 z102 z103 z104 z105 z106 z107 z108 z109 z110 z111 z112 z113 z114 z115 z116 z117 z118 z119 z120 z121 z122 z123 z124 z125 z126 z127 z128 z129 z130 z131 z132 z133 z134 z135 z136 z137 z138 z139 z140 z141 z142 z143 z144 z145 z146 z147 z148 z149 z150 z151 z152 z153 z154 z155 z156 z157 z158 z159 z160 z161 z162 z163 z164 z165 z166 z167 z168 z169 z170 z171 z172 z173 z174 z175 z176 z177 z178 z179 z180 z181 z182 z183 z184 z185 z186 z187 z188 z189 z190 z191 z192 z193 z194 z195 z196 z197 z198 z199 z200 z201 z202 z203 z204 z205 z206 z207 z208 z209 z210 z211 z212 z213 z214 z215 z216 z217 z218 z219 z220 z221 z222 z223 z224 z225 _ _ (fun a' w' hT=>⟨⟨k+1,hlt,hT⟩,?_⟩) (fun _ _ h=>h))
  rw[hT.meas,hme];omega
 ·obtain rfl:k=c:=by omega
  have HI:=Za hI;clear hI hme hk hlt hIH hIL hinv;go_wp2_with fail
  go_meet;exact HI.out
def lK(w:World)(s:Nat)(raw:List Int)(x:List St ×Nat)(r:Ending)(w':World):Prop:=
 ∃v ls,r= .returned v∧aZ w' s raw x.2∧SFr s w w'∧ls.map (·.x)=x.1∧ls.length≤4∧cS w' (w.heap.size+1) ls v
theorem lK.sts {w w':World}{s:Nat}{raw:List Int}{x:List St ×Nat}{r:Ending}(h:lK w s raw x r w'):em w s raw x r w':=by
 obtain⟨v,ls,h1,h2,h3,h4,h5,h6⟩:=h;have q:=h6.sts (show ls.length≤140737488355328 by omega);rw[h4]at q;exact⟨v,h1,h2,h3,q.mono (fun b h=>(Nat.le_trans (by omega) h:w.heap.size≤b))⟩
def sI(d:Nat):Prop:= ∀(s:Nat) (raw:List Int) (a:Nat) (sc:Sc) (vv av fv:Value) (w:World),aZ w s raw a→dg s w sc vv av fv→
 Calls Zb 39 #[scV sc vv av fv,.pointer (some ⟨s,0,none⟩),.int .i64 d] w (lK w s raw (eE raw d sc a))
theorem sY(d:Nat)(hd1:d≤1000)(ih:2≤d→ju (d - 1)):sI d:=by
 intro s raw a sc vv av fv w hs hsc;obtain⟨gs,gl,E,hgs⟩:=sy raw d sc;rw[E];clear E;obtain⟨v1,v2,rfl⟩:=hsc.vars.shape;obtain⟨a1,a2,rfl⟩:=hsc.arrays.shape;obtain⟨f1,f2,rfl⟩:=hsc.funcs.shape;have hsl:=hs.lt;have hb1:Below w.heap.size w (w.alloc (.cells #[.slice v1 sc.vars.length v2,.slice a1 sc.arrays.length a2,.slice f1 sc.funcs.length f2,.bool sc.free,.bool sc.loop] 73)):=bA;have HC1:=Za (aG.new w [.slice v1 sc.vars.length v2,.slice a1 sc.arrays.length a2,.slice f1 sc.funcs.length f2,.bool sc.free,.bool sc.loop] 73);have HS1:=Za (hs.old hb1);have HF1:Hid (SFr s w (w.alloc (.cells #[.slice v1 sc.vars.length v2,.slice a1 sc.arrays.length a2,.slice f1 sc.funcs.length f2,.bool sc.free,.bool sc.loop] 73))):=SFr.of_below hb1;have HSC:=Za hsc;have HY:Hid (w.heap.size≠s):=by show _≠_;omega
 have HN:Hid (∀w1,aZ w1 s raw a→Calls Zb 37 #[.pointer (some ⟨s,0,none⟩),.int .i64 5] w1 (cp w1 s raw (.int .i64 (aC raw a 5).1) (aC raw a 5).2)):=fun w1 h1=>bQ s raw a 5 w1 h1 (by decide) (by decide)
 have HIH:Hid (2≤d→∀w1 b,aZ w1 s raw b→dg s w1 sc (.slice v1 sc.vars.length v2) (.slice a1 sc.arrays.length a2) (.slice f1 sc.funcs.length f2)→Calls Zb 39 #[.agg #[.slice v1 sc.vars.length v2,.slice a1 sc.arrays.length a2,.slice f1 sc.funcs.length f2,.bool sc.free,.bool sc.loop],.pointer (some ⟨s,0,none⟩),.int .i64 ((d:Int) - 1)] w1 (em w1 s raw (gs b))):=fun h w1 b h1 h2=>by
  have q:=ih h s raw b sc _ _ _ w1 h1 h2;rw[(hgs h).1];rw[show((d - 1:Nat):Int)=(d:Int) - 1 by omega]at q;exact q
 have HIL:Hid (2≤d→∀w1 b,aZ w1 s raw b→dg s w1 sc (.slice v1 sc.vars.length v2) (.slice a1 sc.arrays.length a2) (.slice f1 sc.funcs.length f2)→Calls Zb 39 #[.agg #[.slice v1 sc.vars.length v2,.slice a1 sc.arrays.length a2,.slice f1 sc.funcs.length f2,.bool sc.free,.bool true],.pointer (some ⟨s,0,none⟩),.int .i64 ((d:Int) - 1)] w1 (em w1 s raw (gl b))):=fun h w1 b h1 h2=>by
  have q:=ih h s raw b sc.inLoop _ _ _ w1 h1 h2.inLoop;rw[(hgs h).2];rw[show((d - 1:Nat):Int)=(d:Int) - 1 by omega]at q;exact q
 have hr:=aM raw a 5 (by decide);generalize aC raw a 5=g at*;obtain⟨c,a0⟩:=g;obtain⟨c0,c1⟩:=hr;dsimp only at*;obtain⟨c,rfl⟩:=Int.eq_ofNat_of_zero_le c0;rw[Int.toNat_natCast];have hc6:c≤4:=by omega
 clear hb1 hs hsc ih hgs c0 c1;unfold scV;go_enter Tryz.func39,Tryz.ntmps39
 go_wp2_with fail
 refine(HN.out _ HS1.out).mono ?_;rintro r w2 ⟨rfl,hs2,hf2⟩;have HI2:Hid (qF w s raw (gSt sc raw gs gl d) a0 [.slice v1 sc.vars.length v2,.slice a1 sc.arrays.length a2,.slice f1 sc.funcs.length f2,.bool sc.free,.bool sc.loop] 0 (.slice none 0 0) w2):=⟨[],rfl,hs2,HF1.out.trans hf2,HC1.out.sfr hf2 HY.out,cS.zero _ _⟩;clear hs2 hf2 HS1 HF1 HC1 HN
 go_upto_block 0 with(fail)
 refine wp_cut (fun a' w'=>lP w s d c raw (gSt sc raw gs gl d) a0 [.slice v1 sc.vars.length v2,.slice a1 sc.arrays.length a2,.slice f1 sc.funcs.length f2,.bool sc.free,.bool sc.loop] c c a' w') ?rest (fun J K' hJ hM=>eB (vx d s c raw sc v1 a1 f1 v2 a2 f2 gs gl a0 w w2 hd1 HSC.out hsl hc6 HIH.out HIL.out HI2.out _ _ _ _ _ _ _ _ _ _ _ _ _ _ _ _ _ _ _ _ _ _ _ _ _ _ _ _ _ _ _ _ _ _ _ _ _ _ _ _ _ _ _ _ _ _ _ _ _ _ _ _ _ _ _ _ _ _ _ _ _ _ _ _ _ _ _ _ _ _ _ _ _ _ _ _ _ _ _ _ _ _ _ _ _ _ _ _ _ _ _ _ _ _ _ _ _ _ _ _ _ _ _ _ _ _ _ _ _ _ _ _ _ _ _ _ _ _ _ _ _ _ _ _ _ _ _ _ _ _ _ _ _ _ _ _ _ _ _ _ _ _ _ _ _ _ _ _ _ _ _ _ _ _ _ _ _ _ _ _ _ _ _ _ _ _ _ _ _ _ _ _ _ _ _ _ _ _ _ _ _ _ _ _ _ _ _ _ _ _ _ _ _ _ _ _ _ _ _ _ _ _ _ _ _ _ _ _ _ _ _ _ _ _ _ _ _ _ _ _ J K' hJ hM))
 case rest=>
 intro a' wc hT;obtain⟨v,z0,z4,z5,z6,z10,z11,z12,z13,z14,z15,z16,z17,z18,z19,z20,z21,z22,z23,z24,hT⟩:=hT;obtain⟨z25,z26,z27,z28,z29,z30,z31,z32,z33,z34,z35,z36,z37,z38,z39,z40,z41,z42,z43,z44,hT⟩:=hT;obtain⟨z45,z46,z47,z48,z49,z50,z51,z52,z53,z54,z55,z56,z57,z58,z59,z60,z61,z62,z63,z64,hT⟩:=hT;obtain⟨z65,z66,z67,z68,z69,z70,z71,z72,z73,z74,z75,z76,z77,z78,z79,z80,z81,z82,z83,z84,hT⟩:=hT;obtain⟨z85,z86,z87,z88,z89,z90,z91,z92,z93,z94,z95,z96,z97,z98,z99,z100,z101,z102,z103,z104,hT⟩:=hT;obtain⟨z105,z106,z107,z108,z109,z110,z111,z112,z113,z114,z115,z116,z117,z118,z119,z120,z121,z122,z123,z124,hT⟩:=hT;obtain⟨z125,z126,z127,z128,z129,z130,z131,z132,z133,z134,z135,z136,z137,z138,z139,z140,z141,z142,z143,z144,hT⟩:=hT;obtain⟨z145,z146,z147,z148,z149,z150,z151,z152,z153,z154,z155,z156,z157,z158,z159,z160,z161,z162,z163,z164,hT⟩:=hT;obtain⟨z165,z166,z167,z168,z169,z170,z171,z172,z173,z174,z175,z176,z177,z178,z179,z180,z181,z182,z183,z184,hT⟩:=hT;obtain⟨z185,z186,z187,z188,z189,z190,z191,z192,z193,z194,z195,z196,z197,z198,z199,z200,z201,z202,z203,z204,hT⟩:=hT;obtain⟨z205,z206,z207,z208,z209,z210,z211,z212,z213,z214,z215,z216,z217,z218,z219,z220,z221,z222,z223,z224,hT⟩:=hT;obtain⟨z225,hT⟩:=hT;obtain⟨hT,ha'⟩:=hT;subst ha';obtain⟨ls,hps,hsr,hfr,hC,hO⟩:=hT;obtain⟨oa,oc,rfl⟩:=hO.shape;have hlen:ls.length≤4:=by have h1:=congrArg List.length hps;rw[List.length_map,iS]at h1;omega
 have HX9:=Za hO;have HPS:=Za hps;have HLE:=Za hlen;have HSR:=Za hsr;have HFR:=Za hfr;clear hps hsr hfr hC hO hlen HIH HIL HI2;go_wp2_with fail
 go_ret
 exact⟨_,ls,rfl,HSR.out,HFR.out,HPS.out,HLE.out,HX9.out⟩
theorem pJ(d:Nat)(hd1:d≤1000)(ih:2≤d→ju (d - 1)):ju d:=fun s raw a sc vv av fv w h1 h2=>(sY d hd1 ih s raw a sc vv av fv w h1 h2).mono (fun _ _ h=>h.sts)
theorem pk:∀d:Nat,d≤1000→ju d
 |0,h=>pJ 0 h (fun h=>absurd h (by decide))
 |d+1,h=>pJ (d+1) h (fun _=>pk d (by omega))
theorem wX(d:Nat)(h:d≤1000):sI d:=sY d h (fun _=>pk (d - 1) (by omega))
end Go.Proofs.YtcfpfnoldgnloaaGreatDoor
