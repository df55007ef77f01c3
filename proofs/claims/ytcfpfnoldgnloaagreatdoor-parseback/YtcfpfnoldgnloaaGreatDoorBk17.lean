/-
  A variable's own block in memory.
-/
import Derived.Test.YtcfpfnoldgnloaaGreatDoorBk16
set_option linter.unusedVariables false
set_option linter.unusedSimpArgs false
namespace Go.Proofs.YtcfpfnoldgnloaaGreatDoor
open Go.RowKit
set_option maxHeartbeats 20000000
set_option maxRecDepth 100000
open Go.Lib renaming hid→Za
open Go.Proofs.Tryz renaming prog→Zb
open SFr renaming of_below→Zc
theorem aZ.other {w:World}{s:Nat}{raw:List Int}{a:Nat}(h:aZ w s raw a){k:Nat}(hk:s<k)(i:Nat)(v:Value):aZ (w.setCell ⟨k,i,none⟩ v) s raw a:=by
 obtain⟨u,h1,h2,h3⟩:=h;exact⟨u,(Below.heap_setCell _ _ _ _ (by show s≠k;omega)).trans h1,h2.keep (aN w (by omega) i v),h3⟩
theorem vW(s:Nat)(raw:List Int)(a:Nat)(sc:Sc)(vv av fv:Value)(w:World)(hs:aZ w s raw a)(hl:bK (· ≠s) w sc.arrays av)(h:(sc.free||sc.arrays.isEmpty)=true):
  Calls Zb 38 #[scV sc vv av fv,.pointer (some ⟨s,0,none⟩)] w (cp w s raw (.agg #[.string (aB (bV sc.free sc.arrays raw a).1.name),.int .i64 (bV sc.free sc.arrays raw a).1.size]) (bV sc.free sc.arrays raw a).2):=by
 obtain⟨l1,l2,rfl⟩:=hl.shape;have hsl:=hs.lt;have E:Hid (bV sc.free sc.arrays raw a=(⟨fu (aC raw a 312).1,1+(aC raw (aC raw a 312).2 1000).1⟩,(aC raw (aC raw a 312).2 1000).2)):=by show _=_;unfold bV;rw[if_pos h]
 rw[E.out];have HK:Hid (∀w1,aZ w1 s raw a→Calls Zb 37 #[.pointer (some ⟨s,0,none⟩),.int .i64 312] w1 (cp w1 s raw (.int .i64 (aC raw a 312).1) (aC raw a 312).2)):=fun w1 h1=>bQ s raw a 312 w1 h1 (by decide) (by decide)
 have HV:Hid (∀w,Calls Zb 83 #[.int .i64 (aC raw a 312).1] w fun e w'=>e= .returned (.string (aB (fu (aC raw a 312).1)))∧Below w.heap.size w w'):=fun w=>px _ (jp raw a 312 (by decide) (by decide)) w
 have HN:Hid (∀w1,aZ w1 s raw (aC raw a 312).2→Calls Zb 37 #[.pointer (some ⟨s,0,none⟩),.int .i64 1000] w1 (cp w1 s raw (.int .i64 (aC raw (aC raw a 312).2 1000).1) (aC raw (aC raw a 312).2 1000).2)):=fun w1 h1=>bQ s raw _ 1000 w1 h1 (by decide) (by decide)
 have hr:=aM raw (aC raw a 312).2 1000 (by decide);have hcase:(sc.free=false∧sc.arrays.length=0)∨sc.free=true:=by
  revert h;cases sc.free
  ·intro h;exact .inl ⟨rfl,by simpa using h⟩
  ·intro _;exact .inr rfl
 clear E h hl;unfold scV;generalize aC raw (aC raw a 312).2 1000=q at*;generalize aC raw a 312=g at*;obtain⟨r0,r1⟩:=hr;generalize sc.free=fb at*;generalize sc.arrays.length=n at*;have hb1:Below w.heap.size w ((w.alloc (.cells #[vv,.slice l1 n l2,fv,.bool fb,.bool sc.loop] 73)).alloc (.cells #[.string ⟨#[]⟩,.int .i64 0] 85)):=(bA).alloc (by simp) _;have HS1:=Za (hs.old hb1);have HF1:Hid (SFr s w ((w.alloc (.cells #[vv,.slice l1 n l2,fv,.bool fb,.bool sc.loop] 73)).alloc (.cells #[.string ⟨#[]⟩,.int .i64 0] 85))):=Zc hb1;have hr1:=aG.new (w.alloc (.cells #[vv,.slice l1 n l2,fv,.bool fb,.bool sc.loop] 73)) [.string ⟨#[]⟩,.int .i64 0] 85;rw[show(w.alloc (.cells #[vv,.slice l1 n l2,fv,.bool fb,.bool sc.loop] 73)).heap.size=w.heap.size+1 by simp]at hr1;have HZ:Hid (w.heap.size+1≠s):=by show _≠_;omega
 have HR:=Za hr1;clear hs hb1 hr1;have hsx:s<w.heap.size+1:=by omega
 have hge:w.heap.size≤w.heap.size+1:=by omega
 rcases hcase with⟨rfl,rfl⟩|rfl
 all_goals
  go_enter Tryz.func38,Tryz.ntmps38
  go_wp2_with fail
  refine(HK.out _ HS1.out).mono ?_;rintro r w2 ⟨rfl,hs2,hf2⟩;have HS2:=Za hs2;have HF2:=Za (HF1.out.trans hf2);have HR2:=Za (HR.out.sfr hf2 HZ.out);clear hs2 hf2;go_wp2_with fail
  refine(HV.out _).mono ?_;rintro r w3 ⟨rfl,hb3⟩;have HS3:=Za (HS2.out.old hb3);have HF3:=Za (HF2.out.trans (Zc hb3));have HR3:=Za (HR2.out.old hb3);clear hb3;go_wp2_with fail
  refine(HN.out _ HS3.out).mono ?_;rintro r w4 ⟨rfl,hs4,hf4⟩;have HS4:=Za hs4;have HF4:=Za (HF3.out.trans hf4);have HR4:=Za (HR3.out.sfr hf4 HZ.out);clear hs4 hf4;have c0:=HR4.out.at 0 _ rfl;have c1:=HR4.out.at 1 _ rfl;have z0:=HR4.out.fz 0;have z1:=HR4.out.fz 1;have HR5:=Za ((HR4.out.set 0 (.string (aB (fu g.1)))).set 1 (.int .i64 (1+q.1)));have HS5:=Za ((HS4.out.other hsx 0 (.string (aB (fu g.1)))).other hsx 1 (.int .i64 (1+q.1)));have HF5:=Za ((HF4.out.setNew hge 0 (.string (aB (fu g.1)))).setNew hge 1 (.int .i64 (1+q.1)));go_wp2_with fail
  have d0:=HR5.out.at 0 _ rfl;have d1:=HR5.out.at 1 _ rfl;exact bodyPost_ret (v:= .agg #[.string (aB (fu g.1)),.int .i64 (1+q.1)]) (by simp [results,Tryz.results38,go_sem,d0,d1]) rfl ⟨rfl,HS5.out,HF5.out⟩
theorem zW(s:Nat)(raw:List Int)(a:Nat)(sc:Sc)(vv av fv:Value)(w:World)(hs:aZ w s raw a)(hl:bK (· ≠s) w sc.arrays av)(h:(sc.free||sc.arrays.isEmpty)=false)(hn:sc.arrays.length≤1000000):
  Calls Zb 38 #[scV sc vv av fv,.pointer (some ⟨s,0,none⟩)] w (cp w s raw (.agg #[.string (aB (bV sc.free sc.arrays raw a).1.name),.int .i64 (bV sc.free sc.arrays raw a).1.size]) (bV sc.free sc.arrays raw a).2):=by
 obtain⟨l1,l2,rfl⟩:=hl.shape;have hsl:=hs.lt;have hpos:0<sc.arrays.length:=pu (by rw[h];simp);have hf:sc.free=false:=by revert h;cases sc.free<;>simp
 have E:Hid (bV sc.free sc.arrays raw a=(gV sc.arrays (aC raw a sc.arrays.length).1.toNat,(aC raw a sc.arrays.length).2)):=by show _=_;unfold bV;rw[if_neg (by rw[h];simp)]
 rw[E.out];have HK:Hid (∀w1,aZ w1 s raw a→Calls Zb 37 #[.pointer (some ⟨s,0,none⟩),.int .i64 sc.arrays.length] w1 (cp w1 s raw (.int .i64 (aC raw a sc.arrays.length).1) (aC raw a sc.arrays.length).2)):=fun w1 h1=>bQ s raw a sc.arrays.length w1 h1 (by omega) (by omega)
 have hr:=aM raw a sc.arrays.length (by omega);clear E h;generalize aC raw a sc.arrays.length=g at*;obtain⟨g,ga⟩:=g;obtain⟨g0,g1⟩:=hr;dsimp only at g0 g1 HK ⊢;obtain⟨i,rfl⟩:=Int.eq_ofNat_of_zero_le g0;rw[Int.toNat_natCast];have hi:i<sc.arrays.length:=by omega
 obtain⟨eb,off,rfl,hD,hbl,c0,c1⟩:=bK.cellAt hl i hi;have heb:eb≠s:=hD;generalize gV sc.arrays i=x at*;have hne:((sc.arrays.length:Int)==0)=false:=beq_eq_false_iff_ne.2 (by omega);clear hl hD;unfold scV;rw[hf];clear hf;generalize sc.arrays.length=n at*;have hb1:Below w.heap.size w ((w.alloc (.cells #[vv,.slice (some ⟨eb,off,none⟩) n l2,fv,.bool false,.bool sc.loop] 73)).alloc (.cells #[.string ⟨#[]⟩,.int .i64 0] 85)):=(bA).alloc (by simp) _;have HS1:=Za (hs.old hb1);have HF1:Hid (SFr s w ((w.alloc (.cells #[vv,.slice (some ⟨eb,off,none⟩) n l2,fv,.bool false,.bool sc.loop] 73)).alloc (.cells #[.string ⟨#[]⟩,.int .i64 0] 85))):=Zc hb1;have hr1:=aG.new (w.alloc (.cells #[vv,.slice (some ⟨eb,off,none⟩) n l2,fv,.bool false,.bool sc.loop] 73)) [.string ⟨#[]⟩,.int .i64 0] 85;rw[show(w.alloc (.cells #[vv,.slice (some ⟨eb,off,none⟩) n l2,fv,.bool false,.bool sc.loop] 73)).heap.size=w.heap.size+1 by simp]at hr1;have hc1:=(aG.new w [vv,.slice (some ⟨eb,off,none⟩) n l2,fv,.bool false,.bool sc.loop] 73).alloc (.cells #[.string ⟨#[]⟩,.int .i64 0] 85);have e0:=aE hb1 c0;have e1:=aE hb1 c1;have HZ:Hid (w.heap.size+1≠s):=by show _≠_;omega
 have HY:Hid (w.heap.size≠s):=by show _≠_;omega
 have HR:=Za hr1;have HC:=Za hc1;have hsx:s<w.heap.size+1:=by omega
 have hge:w.heap.size≤w.heap.size+1:=by omega
 clear hs hb1 hr1 hc1 c0 c1;go_enter Tryz.func38,Tryz.ntmps38
 go_wp2_with fail
 generalize (w.alloc (.cells #[vv,.slice (some ⟨eb,off,none⟩) n l2,fv,.bool false,.bool sc.loop] 73)).alloc (.cells #[.string ⟨#[]⟩,.int .i64 0] 85)=W at*;have a1:=HC.out.at 1 _ rfl;have hdr:Below W.heap.size W W.drew:=(Below.refl _ _).drew;have HSd:=Za (HS1.out.old hdr);clear hdr;have hbe:eb≠w.heap.size+1:=by omega
 have hX1:w.heap.size+1<W.heap.size:=HR.out.lt;have z0:W.frozen? ⟨w.heap.size+1,0,none⟩=false:=HR.out.fz 0;have z1:W.frozen? ⟨w.heap.size+1,1,none⟩=false:=HR.out.fz 1;have y0:=HR.out.at 0 _ rfl;have y1:=HR.out.at 1 _ rfl
 go_region_held3 (fun w'=>w'.cell? ⟨w.heap.size,1,none⟩=some (.slice (some ⟨eb,off,none⟩) n l2)∧w'.cell? ⟨eb,off+i*2,none⟩=some (.string (aB x.name))∧w'.cell? ⟨eb,off+i*2+1,none⟩=some (.int .i64 x.size)) (first|(simp [*,World.cell?_alloc_lt,mb];done)|go_keep) (first
  |(go_at_call 37;refine(HK.out _ HSd.out).mono ?_;rintro r w4 ⟨he,hs4,hf4⟩;subst he;have HS4:=Za hs4;have HF4:=Za (HF1.out.trans ((Zc (Below.refl _ _).drew).trans hf4));have hR4:=(HR.out.old (Below.refl _ _).drew).sfr hf4 HZ.out;have HR4:=Za hR4;have k1:w4.cell? ⟨w.heap.size,1,none⟩=some (.slice (some ⟨eb,off,none⟩) n l2):=hf4.cell HY.out a1;have m0:w4.cell? ⟨eb,off+i*2,none⟩=some (.string (aB x.name)):=hf4.cell heb e0;have m1:w4.cell? ⟨eb,off+i*2+1,none⟩=some (.int .i64 x.size):=hf4.cell heb e1;have u0:=hR4.at 0 _ rfl;have u1:=hR4.at 1 _ rfl;have v0:=hR4.fz 0;have v1:=hR4.fz 1;have hX4:w.heap.size+1<w4.heap.size:=hR4.lt;clear hR4 hs4 hf4))
 go_wp2_with fail
 have HR5:=Za ((HR4.out.set 0 (.string (aB x.name))).set 1 (.int .i64 x.size));have HS5:=Za ((HS4.out.other hsx 0 (.string (aB x.name))).other hsx 1 (.int .i64 x.size));have HF5:=Za ((HF4.out.setNew hge 0 (.string (aB x.name))).setNew hge 1 (.int .i64 x.size));have d0:=HR5.out.at 0 _ rfl;have d1:=HR5.out.at 1 _ rfl;exact bodyPost_ret (v:= .agg #[.string (aB x.name),.int .i64 x.size]) (by simp [results,Tryz.results38,go_sem,d0,d1]) rfl ⟨rfl,HS5.out,HF5.out⟩
theorem kE(s:Nat)(raw:List Int)(a:Nat)(sc:Sc)(vv av fv:Value)(w:World)(hs:aZ w s raw a)(hl:bK (· ≠s) w sc.arrays av)(hn:sc.arrays.length≤1000000):
  Calls Zb 38 #[scV sc vv av fv,.pointer (some ⟨s,0,none⟩)] w (cp w s raw (.agg #[.string (aB (bV sc.free sc.arrays raw a).1.name),.int .i64 (bV sc.free sc.arrays raw a).1.size]) (bV sc.free sc.arrays raw a).2):=by
 cases h:(sc.free||sc.arrays.isEmpty)
 ·exact zW s raw a sc vv av fv w hs hl h hn
 ·exact vW s raw a sc vv av fv w hs hl h
structure dg (s:Nat)(w:World)(sc:Sc)(vv av fv:Value):Prop where
 vars:ag (· ≠s) w sc.vars vv
 arrays:bK (· ≠s) w sc.arrays av
 funcs:bM (· ≠s) w sc.funcs fv
 v1:sc.vars.length≤1000000
 a1:sc.arrays.length≤1000000
 f1:sc.funcs.length≤1000000
 p1:∀f,f∈sc.funcs→f.params.length≤1000000
theorem dg.sfr {s:Nat}{w w':World}{sc:Sc}{vv av fv:Value}(h:dg s w sc vv av fv)(hf:SFr s w w'):dg s w' sc vv av fv:=
 ⟨h.vars.keep hf.keeps,h.arrays.keep hf.keeps,h.funcs.keep hf.keeps,h.v1,h.a1,h.f1,h.p1⟩
def dI(w:World)(s:Nat)(raw:List Int)(x:Ex ×Nat)(r:Ending)(w':World):Prop:=
 ∃v,r= .returned (exV x.1 v)∧aZ w' s raw x.2∧SFr s w w'∧aJ (w.heap.size≤ ·) w' x.1.args v∧I64 x.1.n
def fj(d:Nat):Prop:= ∀(s:Nat) (raw:List Int) (a:Nat) (sc:Sc) (vv av fv:Value) (w:World),aZ w s raw a→dg s w sc vv av fv→
 Calls Zb 31 #[scV sc vv av fv,.pointer (some ⟨s,0,none⟩),.int .i64 d] w (dI w s raw (aX sc raw d a))
theorem nK(sc:Sc):sc.hasVars=(decide (0<sc.vars.length)||sc.free):=by
 unfold Sc.hasVars;cases sc.vars<;>simp
theorem ko(sc:Sc):sc.hasArrays=(decide (0<sc.arrays.length)||sc.free):=by
 unfold Sc.hasArrays;cases sc.arrays<;>simp
theorem mi(sc:Sc):sc.hasFuncs=(decide (0<sc.funcs.length)||sc.free):=by
 unfold Sc.hasFuncs;cases sc.funcs<;>simp
def gTop(sc:Sc)(raw:List Int)(d a:Nat):Ex ×Nat:=cE sc raw (aX sc raw (d - 1)) (gK raw d a) (aC raw a 12).2
theorem wY(sc:Sc)(raw:List Int)(g h:Nat→Ex ×Nat)(k:Int)(a:Nat)(hk:k<4):cE sc raw g k a=cE sc raw h k a:=by
 unfold cE;split
 ·rfl
 split
 ·rfl
 simp only[hk,if_true]
theorem wZ(sc:Sc)(raw:List Int)(d a:Nat):aX sc raw d a=gTop sc raw d a:=by
 cases d with
 |zero=>rw[aX];unfold j7 gTop;exact wY _ _ _ _ _ _ (qL raw 0 a (by omega))
 |succ d=>rw[aX];unfold j7 gTop;rw[Nat.add_sub_cancel]
def uE(n:Nat):Code→Option Code
 | .seq (.region k o d) b=>if k==n then some b else uE n b
 | .seq a b=>uE n b
 |_=>none
noncomputable def geCode:Code:=(Tryz.f31.body.bind (uE 6)).getD .skip
structure GeH (d s:Nat)(raw:List Int)(sc:Sc)(v1:Option Addr)(v2:Nat)(a1:Option Addr)(a2:Nat)(f1:Option Addr)(f2:Nat)(ga:Nat)(k:Int)(w w2:World):Prop where
 hd1:d≤1000
 lv:sc.vars.length≤1000000
 la:sc.arrays.length≤1000000
 lf:sc.funcs.length≤1000000
 hsl:s<w.heap.size
 hsc:dg s w sc (.slice v1 sc.vars.length v2) (.slice a1 sc.arrays.length a2) (.slice f1 sc.funcs.length f2)
 hS2:aZ w2 s raw ga
 hF2:SFr s w w2
 hR2:aG w2 (w.heap.size+1) [.int .i64 0,.int .i64 0,.int .i64 0,.string ⟨#[]⟩,.slice none 0 0] 27
 hC2:aG w2 w.heap.size [.slice v1 sc.vars.length v2,.slice a1 sc.arrays.length a2,.slice f1 sc.funcs.length f2,.bool sc.free,.bool sc.loop] 73
 g0:0≤k
 g1:k<12
def GeG(d s:Nat)(raw:List Int)(sc:Sc)(v1:Option Addr)(v2:Nat)(a1:Option Addr)(a2:Nat)(f1:Option Addr)(f2:Nat)(k:Int)(w w2:World)(x:Ex ×Nat):Prop:=
 ∀q4 q5 q11 q12 q13 q14 q15 q16 q17 q18 q19 q20 q21 q22 q23 q24 q25 q26 q27 q28 q29 q30 q31 q32 q33 q34 q35 q36 q37 q38 q39 q40 q41 q42 q43 q44 q45 q46 q47 q48 q49 q50 q51 q52 q53 q54 q55 q56 q57 q58 q59 q60 q61 q62 q63 q64 q65 q66 q67 q68 q69 q70 q71 q72 q73 q74 q75 q76 q77 q78 q79 q80 q81 q82 q83 q84 q85 q86 q87 q88 q89 q90 q91 q92 q93 q94 q95 q96 q97 q98 q99 q100 q101 q102 q103 q104 q105 q106 q107 q108 q109 q110 q111 q112 q113 q114 q115 q116 q117 q118 q119 q120 q121 q122 q123 q124 q125 q126 q127 q128 q129 q130 q131 q132 q133 q134 q135 q136 q137 q138 q139 q140 q141 q142 q143 q144 q145 q146 q147 q148 q149 q150:Value,Code.wp Zb geCode (bodyPost Zb Tryz.f31 (dI w s raw x)) ⟨[scV sc (.slice v1 sc.vars.length v2) (.slice a1 sc.arrays.length a2) (.slice f1 sc.funcs.length f2),.pointer (some ⟨s,0,none⟩),.int .i64 d,.pointer (some ⟨w.heap.size,0,none⟩),q4,q5,.pointer (some ⟨w.heap.size+1,0,none⟩),.int .i64 k,.bool sc.hasVars,.bool sc.hasArrays,.bool sc.hasFuncs,q11,q12,q13,q14,q15,q16,q17,q18,q19,q20,q21,q22,q23,q24,q25,q26,q27,q28,q29,q30,q31,q32,q33,q34,q35,q36,q37,q38,q39,q40,q41,q42,q43,q44,q45,q46,q47,q48,q49,q50,q51,q52,q53,q54,q55,q56,q57,q58,q59,q60,q61,q62,q63,q64,q65,q66,q67,q68,q69,q70,q71,q72,q73,q74,q75,q76,q77,q78,q79,q80,q81,q82,q83,q84,q85,q86,q87,q88,q89,q90,q91,q92,q93,q94,q95,q96,q97,q98,q99,q100,q101,q102,q103,q104,q105,q106,q107,q108,q109,q110,q111,q112,q113,q114,q115,q116,q117,q118,q119,q120,q121,q122,q123,q124,q125,q126,q127,q128,q129,q130,q131,q132,q133,q134,q135,q136,q137,q138,q139,q140,q141,q142,q143,q144,q145,q146,q147,q148,q149,q150].toArray,[]⟩ w2
theorem ge_pre {d s:Nat}(hd1:d≤1000){raw:List Int}{a:Nat}{sc:Sc}{v1:Option Addr}{v2:Nat}{a1:Option Addr}{a2:Nat}{f1:Option Addr}{f2:Nat}{w:World}(hs:aZ w s raw a)(hsc:dg s w sc (.slice v1 sc.vars.length v2) (.slice a1 sc.arrays.length a2) (.slice f1 sc.funcs.length f2)){k:Int}(hkk:gK raw d a=k){x:Ex ×Nat}(H:∀w2,GeH d s raw sc v1 v2 a1 a2 f1 f2 (aC raw a 12).2 k w w2→GeG d s raw sc v1 v2 a1 a2 f1 f2 k w w2 x):
  Calls Zb 31 #[scV sc (.slice v1 sc.vars.length v2) (.slice a1 sc.arrays.length a2) (.slice f1 sc.funcs.length f2),.pointer (some ⟨s,0,none⟩),.int .i64 d] w (dI w s raw x):=by
 have lv:=hsc.v1;have la:=hsc.a1;have lf:=hsc.f1;have hsl:=hs.lt;have HK:Hid (∀w1,aZ w1 s raw a→Calls Zb 37 #[.pointer (some ⟨s,0,none⟩),.int .i64 12] w1 (cp w1 s raw (.int .i64 (aC raw a 12).1) (aC raw a 12).2)):=fun w1 h1=>bQ s raw a 12 w1 h1 (by decide) (by decide)
 have hr:=aM raw a 12 (by decide);have hr0:0≤k∧k<12:=by rw[←hkk];unfold gK;split<;>omega
 have hcase:(d<2∧(aC raw a 12).1 % 4=k)∨(2≤d∧(aC raw a 12).1=k):=by
  unfold gK at hkk;split at hkk
  ·exact .inl ⟨by omega,hkk⟩
  ·exact .inr ⟨by omega,hkk⟩
 clear hkk;have HH:=Za H;clear H;generalize aC raw a 12=g at*;obtain⟨g,ga⟩:=g;obtain⟨g0,g1⟩:=hr0;dsimp only at hr hcase HK HH;have hb1:Below w.heap.size w ((w.alloc (.cells #[.slice v1 sc.vars.length v2,.slice a1 sc.arrays.length a2,.slice f1 sc.funcs.length f2,.bool sc.free,.bool sc.loop] 73)).alloc (.cells #[.int .i64 0,.int .i64 0,.int .i64 0,.string ⟨#[]⟩,.slice none 0 0] 27)):=(bA).alloc (by simp) _;have hr1:=aG.new (w.alloc (.cells #[.slice v1 sc.vars.length v2,.slice a1 sc.arrays.length a2,.slice f1 sc.funcs.length f2,.bool sc.free,.bool sc.loop] 73)) [.int .i64 0,.int .i64 0,.int .i64 0,.string ⟨#[]⟩,.slice none 0 0] 27;rw[show(w.alloc (.cells #[.slice v1 sc.vars.length v2,.slice a1 sc.arrays.length a2,.slice f1 sc.funcs.length f2,.bool sc.free,.bool sc.loop] 73)).heap.size=w.heap.size+1 by simp]at hr1;have HC:=Za ((aG.new w [.slice v1 sc.vars.length v2,.slice a1 sc.arrays.length a2,.slice f1 sc.funcs.length f2,.bool sc.free,.bool sc.loop] 73).alloc (.cells #[.int .i64 0,.int .i64 0,.int .i64 0,.string ⟨#[]⟩,.slice none 0 0] 27));have HR:=Za hr1;have HS1:=Za (hs.old hb1);have HF1:Hid (SFr s w ((w.alloc (.cells #[.slice v1 sc.vars.length v2,.slice a1 sc.arrays.length a2,.slice f1 sc.funcs.length f2,.bool sc.free,.bool sc.loop] 73)).alloc (.cells #[.int .i64 0,.int .i64 0,.int .i64 0,.string ⟨#[]⟩,.slice none 0 0] 27))):=Zc hb1;have HSC:=Za hsc;have HZ:Hid (w.heap.size+1≠s):=by show _≠_;omega
 have HY:Hid (w.heap.size≠s):=by show _≠_;omega
 have hsx:s<w.heap.size+1:=by omega
 have hge:w.heap.size≤w.heap.size+1:=by omega
 have hd0:(0:Int)≤(d:Int):=by omega
 have hdM:(d:Int)≤1000:=by omega
 have hva:Hid (sc.hasVars=(decide (0<sc.vars.length)||sc.free)):=nK sc;have haa:Hid (sc.hasArrays=(decide (0<sc.arrays.length)||sc.free)):=ko sc;have hfa:Hid (sc.hasFuncs=(decide (0<sc.funcs.length)||sc.free)):=mi sc;clear hb1 hr1 hs hsc;rcases hcase with⟨hd,hkk⟩|⟨hd,hkk⟩
 ·have hdI:(d:Int)<2:=by omega
  have HKK:=Za hkk;clear hkk;go_enter Tryz.func31,Tryz.ntmps31
  go_wp2_with fail
  refine(HK.out _ HS1.out).mono ?_;rintro r w2 ⟨rfl,hs2,hf2⟩;have HS2:=Za hs2;have HF2:=Za (HF1.out.trans hf2);have HR2:=Za (HR.out.sfr hf2 HZ.out);have HC2:=Za (HC.out.sfr hf2 HY.out);clear hs2 hf2 HS1 HF1 HR HC HK;have b0:=HC2.out.at 0 _ rfl;have b1:=HC2.out.at 1 _ rfl;have b2:=HC2.out.at 2 _ rfl;have b3:=HC2.out.at 3 _ rfl;have b4:=HC2.out.at 4 _ rfl;go_upto_region 4 with(fail)
  go_cut [8] (fun q wx=>q= .bool sc.hasVars∧w2=wx)
  case first=>
   by_cases hlv:0<sc.vars.length
   ·have hlv':(0:Int)<(sc.vars.length:Int):=by omega
    go_wp2_with fail
    go_meet;exact⟨by rw[hva.out,decide_eq_true hlv];rfl,rfl⟩
   ·have hlv':(sc.vars.length:Int)≤0:=by omega
    go_wp2_with fail
    go_meet;exact⟨by rw[hva.out,decide_eq_false hlv];rfl,rfl⟩
  case rest=>
  obtain⟨rfl,rfl⟩:=hcut;go_upto_region 5 with(fail)
  go_cut [9] (fun q wx=>q= .bool sc.hasArrays∧w2=wx)
  case first=>
   by_cases hlv:0<sc.arrays.length
   ·have hlv':(0:Int)<(sc.arrays.length:Int):=by omega
    go_wp2_with fail
    go_meet;exact⟨by rw[haa.out,decide_eq_true hlv];rfl,rfl⟩
   ·have hlv':(sc.arrays.length:Int)≤0:=by omega
    go_wp2_with fail
    go_meet;exact⟨by rw[haa.out,decide_eq_false hlv];rfl,rfl⟩
  case rest=>
  obtain⟨rfl,rfl⟩:=hcut;go_upto_region 6 with(fail)
  go_cut [10] (fun q wx=>q= .bool sc.hasFuncs∧w2=wx)
  case first=>
   by_cases hlv:0<sc.funcs.length
   ·have hlv':(0:Int)<(sc.funcs.length:Int):=by omega
    go_wp2_with fail
    go_meet;exact⟨by rw[hfa.out,decide_eq_true hlv];rfl,rfl⟩
   ·have hlv':(sc.funcs.length:Int)≤0:=by omega
    go_wp2_with fail
    go_meet;exact⟨by rw[hfa.out,decide_eq_false hlv];rfl,rfl⟩
  case rest=>
  obtain⟨rfl,rfl⟩:=hcut;rw[HKK.out];apply_assumption
  refine HH.out w2 ⟨hd1,lv,la,lf,hsl,HSC.out,HS2.out,HF2.out,HR2.out,HC2.out,g0,g1⟩ _ _ _ _ _ _ _ _ _ _ _ _ _ _ _ _ _ _ _ _ _ _ _ _ _ _ _ _ _ _ _ _ _ _ _ _ _ _ _ _ _ _ _ _ _ _ _ _ _ _ _ _ _ _ _ _ _ _ _ _ _ _ _ _ _ _ _ _ _ _ _ _ _ _ _ _ _ _ _ _ _ _ _ _ _ _ _ _ _ _ _ _ _ _ _ _ _ _ _ _ _ _ _ _ _ _ _ _ _ _ _ _ _ _ _ _ _ _ _ _ _ _ _ _ _ _ _ _ _ _ _ _ _ _ _ _ _ _ _ _ _ _
 ·have hdI:(2:Int)≤(d:Int):=by omega
  subst hkk;go_enter Tryz.func31,Tryz.ntmps31
  go_wp2_with fail
  refine(HK.out _ HS1.out).mono ?_;rintro r w2 ⟨rfl,hs2,hf2⟩;have HS2:=Za hs2;have HF2:=Za (HF1.out.trans hf2);have HR2:=Za (HR.out.sfr hf2 HZ.out);have HC2:=Za (HC.out.sfr hf2 HY.out);clear hs2 hf2 HS1 HF1 HR HC HK;have b0:=HC2.out.at 0 _ rfl;have b1:=HC2.out.at 1 _ rfl;have b2:=HC2.out.at 2 _ rfl;have b3:=HC2.out.at 3 _ rfl;have b4:=HC2.out.at 4 _ rfl;go_upto_region 4 with(fail)
  go_cut [8] (fun q wx=>q= .bool sc.hasVars∧w2=wx)
  case first=>
   by_cases hlv:0<sc.vars.length
   ·have hlv':(0:Int)<(sc.vars.length:Int):=by omega
    go_wp2_with fail
    go_meet;exact⟨by rw[hva.out,decide_eq_true hlv];rfl,rfl⟩
   ·have hlv':(sc.vars.length:Int)≤0:=by omega
    go_wp2_with fail
    go_meet;exact⟨by rw[hva.out,decide_eq_false hlv];rfl,rfl⟩
  case rest=>
  obtain⟨rfl,rfl⟩:=hcut;go_upto_region 5 with(fail)
  go_cut [9] (fun q wx=>q= .bool sc.hasArrays∧w2=wx)
  case first=>
   by_cases hlv:0<sc.arrays.length
   ·have hlv':(0:Int)<(sc.arrays.length:Int):=by omega
    go_wp2_with fail
    go_meet;exact⟨by rw[haa.out,decide_eq_true hlv];rfl,rfl⟩
   ·have hlv':(sc.arrays.length:Int)≤0:=by omega
    go_wp2_with fail
    go_meet;exact⟨by rw[haa.out,decide_eq_false hlv];rfl,rfl⟩
  case rest=>
  obtain⟨rfl,rfl⟩:=hcut;go_upto_region 6 with(fail)
  go_cut [10] (fun q wx=>q= .bool sc.hasFuncs∧w2=wx)
  case first=>
   by_cases hlv:0<sc.funcs.length
   ·have hlv':(0:Int)<(sc.funcs.length:Int):=by omega
    go_wp2_with fail
    go_meet;exact⟨by rw[hfa.out,decide_eq_true hlv];rfl,rfl⟩
   ·have hlv':(sc.funcs.length:Int)≤0:=by omega
    go_wp2_with fail
    go_meet;exact⟨by rw[hfa.out,decide_eq_false hlv];rfl,rfl⟩
  case rest=>
  obtain⟨rfl,rfl⟩:=hcut;apply_assumption
  refine HH.out w2 ⟨hd1,lv,la,lf,hsl,HSC.out,HS2.out,HF2.out,HR2.out,HC2.out,g0,g1⟩ _ _ _ _ _ _ _ _ _ _ _ _ _ _ _ _ _ _ _ _ _ _ _ _ _ _ _ _ _ _ _ _ _ _ _ _ _ _ _ _ _ _ _ _ _ _ _ _ _ _ _ _ _ _ _ _ _ _ _ _ _ _ _ _ _ _ _ _ _ _ _ _ _ _ _ _ _ _ _ _ _ _ _ _ _ _ _ _ _ _ _ _ _ _ _ _ _ _ _ _ _ _ _ _ _ _ _ _ _ _ _ _ _ _ _ _ _ _ _ _ _ _ _ _ _ _ _ _ _ _ _ _ _ _ _ _ _ _ _ _ _ _
theorem xz {d s:Nat}{raw:List Int}{sc:Sc}{v1:Option Addr}{v2:Nat}{a1:Option Addr}{a2:Nat}{f1:Option Addr}{f2:Nat}{ga:Nat}{k:Int}{w w2:World}(h:GeH d s raw sc v1 v2 a1 a2 f1 f2 ga k w w2)(hk:k=1∨k=2)(hv:sc.hasVars=true):GeG d s raw sc v1 v2 a1 a2 f1 f2 k w w2 (cE sc raw (aX sc raw (d - 1)) k ga):=by
 obtain⟨hd1,lv,la,lf,hsl,hsc,hS2,hF2,hR2,hC2,g0,g1⟩:=h;have HSC:=Za hsc;have HS2:=Za hS2;have HF2:=Za hF2;have HR2:=Za hR2;have HC2:=Za hC2;have HZ:Hid (w.heap.size+1≠s):=by show _≠_;omega
 have HY:Hid (w.heap.size≠s):=by show _≠_;omega
 have hsx:s<w.heap.size+1:=by omega
 have hge:w.heap.size≤w.heap.size+1:=by omega
 have hd0:(0:Int)≤(d:Int):=by omega
 have hdM:(d:Int)≤1000:=by omega
 clear hsc hS2 hF2 hR2 hC2;have E:cE sc raw (aX sc raw (d - 1)) k ga=(.mk 2 0 0 (eC sc.free sc.vars raw ga).1 [],(eC sc.free sc.vars raw ga).2):=by unfold cE;rw[if_pos ⟨hk,hv⟩]
 rw[E];clear E;have HNM:Hid (∀w1,aZ w1 s raw ga→ag (· ≠s) w1 sc.vars (.slice v1 sc.vars.length v2)→Calls Zb 69 #[scV sc (.slice v1 sc.vars.length v2) (.slice a1 sc.arrays.length a2) (.slice f1 sc.funcs.length f2),.pointer (some ⟨s,0,none⟩),.slice v1 sc.vars.length v2] w1 (cp w1 s raw (.string (aB (eC sc.free sc.vars raw ga).1)) (eC sc.free sc.vars raw ga).2)):=fun w1 h1 h2=>pj s raw ga sc _ _ _ _ sc.vars w1 h1 h2 lv
 generalize eC sc.free sc.vars raw ga=n at*;unfold GeG;intros
 conv=>arg 2;whnf
 rcases hk with rfl|rfl
 all_goals
  have b0:=HC2.out.at 0 _ rfl;have b1:=HC2.out.at 1 _ rfl;have b2:=HC2.out.at 2 _ rfl;have b3:=HC2.out.at 3 _ rfl;have b4:=HC2.out.at 4 _ rfl;go_wp2_with fail
  refine(HNM.out _ HS2.out (HSC.out.vars.keep HF2.out.keeps)).mono ?_;rintro r w3 ⟨rfl,hs3,hf3⟩;have HS3:=Za hs3;have HF3:=Za (HF2.out.trans hf3);have HR3:=Za (HR2.out.sfr hf3 HZ.out);have HC3:=Za (HC2.out.sfr hf3 HY.out);clear hs3 hf3;have x0:=HR3.out.at 0 _ rfl;have x1:=HR3.out.at 1 _ rfl;have x2:=HR3.out.at 2 _ rfl;have x3:=HR3.out.at 3 _ rfl;have x4:=HR3.out.at 4 _ rfl;have fx0:=HR3.out.fz 0;have fx1:=HR3.out.fz 1;have fx2:=HR3.out.fz 2;have fx3:=HR3.out.fz 3;have fx4:=HR3.out.fz 4;have HRE:=Za (((((HR3.out.set 0 (.int .i64 2)).set 1 (.int .i64 0)).set 2 (.int .i64 0)).set 3 (.string (aB n.1))).set 4 (.slice none 0 0));have HSE:=Za (((((HS3.out.other hsx 0 (.int .i64 2)).other hsx 1 (.int .i64 0)).other hsx 2 (.int .i64 0)).other hsx 3 (.string (aB n.1))).other hsx 4 (.slice none 0 0));have HFE:=Za (((((HF3.out.setNew hge 0 (.int .i64 2)).setNew hge 1 (.int .i64 0)).setNew hge 2 (.int .i64 0)).setNew hge 3 (.string (aB n.1))).setNew hge 4 (.slice none 0 0));go_wp2_with fail
  have d0:=HRE.out.at 0 _ rfl;have d1:=HRE.out.at 1 _ rfl;have d2:=HRE.out.at 2 _ rfl;have d3:=HRE.out.at 3 _ rfl;have d4:=HRE.out.at 4 _ rfl;exact bodyPost_ret (v:= .agg #[.int .i64 2,.int .i64 0,.int .i64 0,.string (aB n.1),.slice none 0 0]) (by simp [results,Tryz.results31,go_sem,d0,d1,d2,d3,d4]) rfl ⟨.slice none 0 0,rfl,HSE.out,HFE.out,aJ.zero,(fV ⟨by show _≤(0:Int);decide,by show(0:Int)≤_;decide⟩)⟩
theorem ge_read {d s:Nat}{raw:List Int}{sc:Sc}{v1:Option Addr}{v2:Nat}{a1:Option Addr}{a2:Nat}{f1:Option Addr}{f2:Nat}{ga:Nat}{k:Int}{w w2:World}(h:GeH d s raw sc v1 v2 a1 a2 f1 f2 ga k w w2)(hk:k=3)(hq:(aC raw ga 3).1=2):GeG d s raw sc v1 v2 a1 a2 f1 f2 k w w2 (cE sc raw (aX sc raw (d - 1)) k ga):=by
 obtain⟨hd1,lv,la,lf,hsl,hsc,hS2,hF2,hR2,hC2,g0,g1⟩:=h;have HSC:=Za hsc;have HS2:=Za hS2;have HF2:=Za hF2;have HR2:=Za hR2;have HC2:=Za hC2;have HZ:Hid (w.heap.size+1≠s):=by show _≠_;omega
 have HY:Hid (w.heap.size≠s):=by show _≠_;omega
 have hsx:s<w.heap.size+1:=by omega
 have hge:w.heap.size≤w.heap.size+1:=by omega
 have hd0:(0:Int)≤(d:Int):=by omega
 have hdM:(d:Int)≤1000:=by omega
 clear hsc hS2 hF2 hR2 hC2;have E:cE sc raw (aX sc raw (d - 1)) k ga=(.mk 7 0 0 [] [],(aC raw ga 3).2):=by unfold cE;rw[if_neg (by omega),if_pos ⟨hk,hq⟩]
 rw[E];clear E;have HN:Hid (∀w1,aZ w1 s raw ga→Calls Zb 37 #[.pointer (some ⟨s,0,none⟩),.int .i64 3] w1 (cp w1 s raw (.int .i64 (aC raw ga 3).1) (aC raw ga 3).2)):=fun w1 h1=>bQ s raw ga 3 w1 h1 (by decide) (by decide)
 have qr:=aM raw ga 3 (by decide);generalize aC raw ga 3=q at*;obtain⟨q,qa⟩:=q;dsimp only at*;subst hq;unfold GeG;intros
 conv=>arg 2;whnf
 subst hk;go_wp2_with fail
 refine(HN.out _ HS2.out).mono ?_;rintro r w3 ⟨rfl,hs3,hf3⟩;have HS3:=Za hs3;have HF3:=Za (HF2.out.trans hf3);have HR3:=Za (HR2.out.sfr hf3 HZ.out);have HC3:=Za (HC2.out.sfr hf3 HY.out);clear hs3 hf3;have x0:=HR3.out.at 0 _ rfl;have x1:=HR3.out.at 1 _ rfl;have x2:=HR3.out.at 2 _ rfl;have x3:=HR3.out.at 3 _ rfl;have x4:=HR3.out.at 4 _ rfl;have fx0:=HR3.out.fz 0;have fx1:=HR3.out.fz 1;have fx2:=HR3.out.fz 2;have fx3:=HR3.out.fz 3;have fx4:=HR3.out.fz 4;have HRE:=Za (((((HR3.out.set 0 (.int .i64 7)).set 1 (.int .i64 0)).set 2 (.int .i64 0)).set 3 (.string ⟨#[]⟩)).set 4 (.slice none 0 0));have HSE:=Za (((((HS3.out.other hsx 0 (.int .i64 7)).other hsx 1 (.int .i64 0)).other hsx 2 (.int .i64 0)).other hsx 3 (.string ⟨#[]⟩)).other hsx 4 (.slice none 0 0));have HFE:=Za (((((HF3.out.setNew hge 0 (.int .i64 7)).setNew hge 1 (.int .i64 0)).setNew hge 2 (.int .i64 0)).setNew hge 3 (.string ⟨#[]⟩)).setNew hge 4 (.slice none 0 0));go_wp2_with fail
 have d0:=HRE.out.at 0 _ rfl;have d1:=HRE.out.at 1 _ rfl;have d2:=HRE.out.at 2 _ rfl;have d3:=HRE.out.at 3 _ rfl;have d4:=HRE.out.at 4 _ rfl;exact bodyPost_ret (v:= .agg #[.int .i64 7,.int .i64 0,.int .i64 0,.string ⟨#[]⟩,.slice none 0 0]) (by simp [results,Tryz.results31,go_sem,d0,d1,d2,d3,d4]) rfl ⟨.slice none 0 0,rfl,HSE.out,HFE.out,aJ.zero,(fV ⟨by show _≤(0:Int);decide,by show(0:Int)≤_;decide⟩)⟩
theorem ge_one {d s:Nat}{raw:List Int}{sc:Sc}{v1:Option Addr}{v2:Nat}{a1:Option Addr}{a2:Nat}{f1:Option Addr}{f2:Nat}{ga:Nat}{k:Int}{w w2:World}(hd:2≤d)(h:GeH d s raw sc v1 v2 a1 a2 f1 f2 ga k w w2)(hk:k=4)(ih:fj (d - 1)):GeG d s raw sc v1 v2 a1 a2 f1 f2 k w w2 (cE sc raw (aX sc raw (d - 1)) k ga):=by
 obtain⟨hd1,lv,la,lf,hsl,hsc,hS2,hF2,hR2,hC2,g0,g1⟩:=h;have HSC:=Za hsc;have HS2:=Za hS2;have HF2:=Za hF2;have HR2:=Za hR2;have HC2:=Za hC2;have HZ:Hid (w.heap.size+1≠s):=by show _≠_;omega
 have HY:Hid (w.heap.size≠s):=by show _≠_;omega
 have hsx:s<w.heap.size+1:=by omega
 have hge:w.heap.size≤w.heap.size+1:=by omega
 have hd0:(0:Int)≤(d:Int):=by omega
 have hdI:(2:Int)≤(d:Int):=by omega
 have hdM:(d:Int)≤1000:=by omega
 clear hsc hS2 hF2 hR2 hC2;have E:cE sc raw (aX sc raw (d - 1)) k ga=(.mk 3 (17+(aC raw ga 3).1) 0 [] [(aX sc raw (d - 1) (aC raw ga 3).2).1],(aX sc raw (d - 1) (aC raw ga 3).2).2):=by unfold cE;rw[if_neg (by omega),if_neg (by omega),if_neg (by omega),if_pos hk]
 rw[E];clear E;have HN:Hid (∀w1,aZ w1 s raw ga→Calls Zb 37 #[.pointer (some ⟨s,0,none⟩),.int .i64 3] w1 (cp w1 s raw (.int .i64 (aC raw ga 3).1) (aC raw ga 3).2)):=fun w1 h1=>bQ s raw ga 3 w1 h1 (by decide) (by decide)
 have qr:=aM raw ga 3 (by decide);generalize aC raw ga 3=q at*;obtain⟨q,qa⟩:=q;dsimp only at*;have HDM:Hid (((d - 1:Nat):Int)=(d:Int) - 1):=by show _=_;omega
 have HIH:Hid (∀w1 b,aZ w1 s raw b→dg s w1 sc (.slice v1 sc.vars.length v2) (.slice a1 sc.arrays.length a2) (.slice f1 sc.funcs.length f2)→Calls Zb 31 #[scV sc (.slice v1 sc.vars.length v2) (.slice a1 sc.arrays.length a2) (.slice f1 sc.funcs.length f2),.pointer (some ⟨s,0,none⟩),.int .i64 ((d:Int) - 1)] w1 (dI w1 s raw (aX sc raw (d - 1) b))):=fun w1 b h1 h2=>by have q:=ih s raw b sc _ _ _ w1 h1 h2;rw[HDM.out]at q;exact q
 obtain⟨q0,q1⟩:=qr;unfold GeG;intros
 conv=>arg 2;whnf
 subst hk;have b0:=HC2.out.at 0 _ rfl;have b1:=HC2.out.at 1 _ rfl;have b2:=HC2.out.at 2 _ rfl;have b3:=HC2.out.at 3 _ rfl;have b4:=HC2.out.at 4 _ rfl;go_wp2_with fail
 refine(HN.out _ HS2.out).mono ?_;rintro r w3 ⟨rfl,hs3,hf3⟩;have HS3:=Za hs3;have HF3:=Za (HF2.out.trans hf3);have HR3:=Za (HR2.out.sfr hf3 HZ.out);have HC3:=Za (HC2.out.sfr hf3 HY.out);clear hs3 hf3;clear b0 b1 b2 b3 b4;have b0:=HC3.out.at 0 _ rfl;have b1:=HC3.out.at 1 _ rfl;have b2:=HC3.out.at 2 _ rfl;have b3:=HC3.out.at 3 _ rfl;have b4:=HC3.out.at 4 _ rfl;go_wp2_with fail
 refine(HIH.out _ qa HS3.out (HSC.out.sfr HF3.out)).mono ?_;generalize aX sc raw (d - 1) qa=x at*;obtain⟨x,xa⟩:=x;rintro r w4 ⟨xv,rfl,hs4,hf4,hx4,hn4⟩;obtain⟨xs,xc,rfl⟩:=hx4.shape;dsimp only at hs4 hx4 hn4 ⊢;have HS4:=Za hs4;have HF4:=Za (HF3.out.trans hf4);have HR4:=Za (HR3.out.sfr hf4 HZ.out);have HC4:=Za (HC3.out.sfr hf4 HY.out);have hg4:w.heap.size+2≤w3.heap.size:=by have:=HR3.out.lt;omega
 have Hx:=Za (hx4.mono (D':=(w.heap.size+2≤ ·)) (fun b h=>Nat.le_trans hg4 h));have HNx:=Za hn4;have HFJ4:=Za hf4;clear hs4 hf4 hx4 hn4;clear b0 b1 b2 b3 b4;have hB:w.heap.size+1<w.heap.size+2:=by omega
 have hw5:Below w4.heap.size w4 (w4.alloc (.cells #[.int .i64 x.kind,.int .i64 x.op,.int .i64 x.n,.string (aB x.name),.slice xs x.args.length xc] 27)):=bA;have HS5:=Za (HS4.out.old hw5);have HF5:=Za (HF4.out.trans (Zc hw5));have HR5:=Za (HR4.out.old hw5);have HC5:=Za (HC4.out.old hw5);have HX5:Hid (aJ (w.heap.size+2≤ ·) (w4.alloc (.cells #[.int .i64 x.kind,.int .i64 x.op,.int .i64 x.n,.string (aB x.name),.slice xs x.args.length xc] 27)) [x] (.slice (some ⟨w4.heap.size,0,none⟩) 1 1)):= .one x (.slice xs x.args.length xc) (by show _≤_;have:=HR4.out.lt;omega) (cN.new w4 (aj x (.slice xs x.args.length xc)) 27) (Hx.out.old hw5) HNx.out;clear hw5;have HW5:Hid True:=trivial;have HS5':=HS5;have x0:=HR5.out.at 0 _ rfl;have x1:=HR5.out.at 1 _ rfl;have x2:=HR5.out.at 2 _ rfl;have x3:=HR5.out.at 3 _ rfl;have x4:=HR5.out.at 4 _ rfl;have fx0:=HR5.out.fz 0;have fx1:=HR5.out.fz 1;have fx2:=HR5.out.fz 2;have fx3:=HR5.out.fz 3;have fx4:=HR5.out.fz 4;have HRE:=Za (((((HR5.out.set 0 (.int .i64 3)).set 1 (.int .i64 (17+q))).set 2 (.int .i64 0)).set 3 (.string ⟨#[]⟩)).set 4 (.slice (some ⟨w4.heap.size,0,none⟩) 1 1));have HSE:=Za (((((HS5.out.other hsx 0 (.int .i64 3)).other hsx 1 (.int .i64 (17+q))).other hsx 2 (.int .i64 0)).other hsx 3 (.string ⟨#[]⟩)).other hsx 4 (.slice (some ⟨w4.heap.size,0,none⟩) 1 1));have HFE:=Za (((((HF5.out.setNew hge 0 (.int .i64 3)).setNew hge 1 (.int .i64 (17+q))).setNew hge 2 (.int .i64 0)).setNew hge 3 (.string ⟨#[]⟩)).setNew hge 4 (.slice (some ⟨w4.heap.size,0,none⟩) 1 1))
 go_wp2_with fail
 have d0:=HRE.out.at 0 _ rfl;have d1:=HRE.out.at 1 _ rfl;have d2:=HRE.out.at 2 _ rfl;have d3:=HRE.out.at 3 _ rfl;have d4:=HRE.out.at 4 _ rfl;exact bodyPost_ret (v:= .agg #[.int .i64 3,.int .i64 (17+q),.int .i64 0,.string ⟨#[]⟩,.slice (some ⟨w4.heap.size,0,none⟩) 1 1]) (by simp [results,Tryz.results31,go_sem,d0,d1,d2,d3,d4]) rfl ⟨.slice (some ⟨w4.heap.size,0,none⟩) 1 1,rfl,HSE.out,HFE.out,((((((HX5.out.keep (ax _ hB 0 _)).keep (ax _ hB 1 _)).keep (ax _ hB 2 _)).keep (ax _ hB 3 _)).keep (ax _ hB 4 _)).mono (fun b h=>(Nat.le_trans (by omega) h:w.heap.size≤b))),(fV ⟨by show _≤(0:Int);decide,by show(0:Int)≤_;decide⟩)⟩
@[go_sem] theorem field_ar0 (a b:Value) (w:World):(Instr.field 85 (.agg #[a,b]) 0).run Zb w= .ok a w:=by kernel_rfl
theorem zN {d s:Nat}{raw:List Int}{sc:Sc}{v1:Option Addr}{v2:Nat}{a1:Option Addr}{a2:Nat}{f1:Option Addr}{f2:Nat}{ga:Nat}{k:Int}{w w2:World}(hd:2≤d)(h:GeH d s raw sc v1 v2 a1 a2 f1 f2 ga k w w2)(hk:k=5)(hA:sc.hasArrays=true)(ih:fj (d - 1)):GeG d s raw sc v1 v2 a1 a2 f1 f2 k w w2 (cE sc raw (aX sc raw (d - 1)) k ga):=by
 obtain⟨hd1,lv,la,lf,hsl,hsc,hS2,hF2,hR2,hC2,g0,g1⟩:=h;have HSC:=Za hsc;have HS2:=Za hS2;have HF2:=Za hF2;have HR2:=Za hR2;have HC2:=Za hC2;have HZ:Hid (w.heap.size+1≠s):=by show _≠_;omega
 have HY:Hid (w.heap.size≠s):=by show _≠_;omega
 have hsx:s<w.heap.size+1:=by omega
 have hge:w.heap.size≤w.heap.size+1:=by omega
 have hd0:(0:Int)≤(d:Int):=by omega
 have hdI:(2:Int)≤(d:Int):=by omega
 have hdM:(d:Int)≤1000:=by omega
 clear hsc hS2 hF2 hR2 hC2;have E:cE sc raw (aX sc raw (d - 1)) k ga=(.mk 6 0 0 (bV sc.free sc.arrays raw ga).1.name [(aX sc raw (d - 1) (bV sc.free sc.arrays raw ga).2).1],(aX sc raw (d - 1) (bV sc.free sc.arrays raw ga).2).2):=by unfold cE;rw[if_neg (by omega),if_neg (by omega),if_neg (by omega),if_neg (by omega),if_pos ⟨hk,hA⟩]
 rw[E];clear E;have HN:Hid (∀w1,aZ w1 s raw ga→bK (· ≠s) w1 sc.arrays (.slice a1 sc.arrays.length a2)→Calls Zb 38 #[scV sc (.slice v1 sc.vars.length v2) (.slice a1 sc.arrays.length a2) (.slice f1 sc.funcs.length f2),.pointer (some ⟨s,0,none⟩)] w1 (cp w1 s raw (.agg #[.string (aB (bV sc.free sc.arrays raw ga).1.name),.int .i64 (bV sc.free sc.arrays raw ga).1.size]) (bV sc.free sc.arrays raw ga).2)):=fun w1 h1 h2=>kE s raw ga sc _ _ _ w1 h1 h2 la
 generalize bV sc.free sc.arrays raw ga=q at*;obtain⟨⟨qn,qz⟩,qa⟩:=q;dsimp only at*;have HDM:Hid (((d - 1:Nat):Int)=(d:Int) - 1):=by show _=_;omega
 have HIH:Hid (∀w1 b,aZ w1 s raw b→dg s w1 sc (.slice v1 sc.vars.length v2) (.slice a1 sc.arrays.length a2) (.slice f1 sc.funcs.length f2)→Calls Zb 31 #[scV sc (.slice v1 sc.vars.length v2) (.slice a1 sc.arrays.length a2) (.slice f1 sc.funcs.length f2),.pointer (some ⟨s,0,none⟩),.int .i64 ((d:Int) - 1)] w1 (dI w1 s raw (aX sc raw (d - 1) b))):=fun w1 b h1 h2=>by have q:=ih s raw b sc _ _ _ w1 h1 h2;rw[HDM.out]at q;exact q
 unfold GeG;intros
 conv=>arg 2;whnf
 subst hk;have b0:=HC2.out.at 0 _ rfl;have b1:=HC2.out.at 1 _ rfl;have b2:=HC2.out.at 2 _ rfl;have b3:=HC2.out.at 3 _ rfl;have b4:=HC2.out.at 4 _ rfl;go_wp2_with fail
 refine(HN.out _ HS2.out (HSC.out.arrays.keep HF2.out.keeps)).mono ?_;rintro r w3 ⟨rfl,hs3,hf3⟩;have HS3:=Za hs3;have HF3:=Za (HF2.out.trans hf3);have HR3:=Za (HR2.out.sfr hf3 HZ.out);have HC3:=Za (HC2.out.sfr hf3 HY.out);clear hs3 hf3;clear b0 b1 b2 b3 b4;have b0:=HC3.out.at 0 _ rfl;have b1:=HC3.out.at 1 _ rfl;have b2:=HC3.out.at 2 _ rfl;have b3:=HC3.out.at 3 _ rfl;have b4:=HC3.out.at 4 _ rfl;go_wp2_with fail
 refine(HIH.out _ qa HS3.out (HSC.out.sfr HF3.out)).mono ?_;generalize aX sc raw (d - 1) qa=x at*;obtain⟨x,xa⟩:=x;rintro r w4 ⟨xv,rfl,hs4,hf4,hx4,hn4⟩;obtain⟨xs,xc,rfl⟩:=hx4.shape;dsimp only at hs4 hx4 hn4 ⊢;have HS4:=Za hs4;have HF4:=Za (HF3.out.trans hf4);have HR4:=Za (HR3.out.sfr hf4 HZ.out);have HC4:=Za (HC3.out.sfr hf4 HY.out);have hg4:w.heap.size+2≤w3.heap.size:=by have:=HR3.out.lt;omega
 have Hx:=Za (hx4.mono (D':=(w.heap.size+2≤ ·)) (fun b h=>Nat.le_trans hg4 h));have HNx:=Za hn4;have HFJ4:=Za hf4;clear hs4 hf4 hx4 hn4;clear b0 b1 b2 b3 b4;have hB:w.heap.size+1<w.heap.size+2:=by omega
 have hw5:Below w4.heap.size w4 (w4.alloc (.cells #[.int .i64 x.kind,.int .i64 x.op,.int .i64 x.n,.string (aB x.name),.slice xs x.args.length xc] 27)):=bA;have HS5:=Za (HS4.out.old hw5);have HF5:=Za (HF4.out.trans (Zc hw5));have HR5:=Za (HR4.out.old hw5);have HC5:=Za (HC4.out.old hw5);have HX5:Hid (aJ (w.heap.size+2≤ ·) (w4.alloc (.cells #[.int .i64 x.kind,.int .i64 x.op,.int .i64 x.n,.string (aB x.name),.slice xs x.args.length xc] 27)) [x] (.slice (some ⟨w4.heap.size,0,none⟩) 1 1)):= .one x (.slice xs x.args.length xc) (by show _≤_;have:=HR4.out.lt;omega) (cN.new w4 (aj x (.slice xs x.args.length xc)) 27) (Hx.out.old hw5) HNx.out;clear hw5;have x0:=HR5.out.at 0 _ rfl;have x1:=HR5.out.at 1 _ rfl;have x2:=HR5.out.at 2 _ rfl;have x3:=HR5.out.at 3 _ rfl;have x4:=HR5.out.at 4 _ rfl;have fx0:=HR5.out.fz 0;have fx1:=HR5.out.fz 1;have fx2:=HR5.out.fz 2;have fx3:=HR5.out.fz 3;have fx4:=HR5.out.fz 4;have HRE:=Za (((((HR5.out.set 0 (.int .i64 6)).set 1 (.int .i64 0)).set 2 (.int .i64 0)).set 3 (.string (aB qn))).set 4 (.slice (some ⟨w4.heap.size,0,none⟩) 1 1));have HSE:=Za (((((HS5.out.other hsx 0 (.int .i64 6)).other hsx 1 (.int .i64 0)).other hsx 2 (.int .i64 0)).other hsx 3 (.string (aB qn))).other hsx 4 (.slice (some ⟨w4.heap.size,0,none⟩) 1 1));have HFE:=Za (((((HF5.out.setNew hge 0 (.int .i64 6)).setNew hge 1 (.int .i64 0)).setNew hge 2 (.int .i64 0)).setNew hge 3 (.string (aB qn))).setNew hge 4 (.slice (some ⟨w4.heap.size,0,none⟩) 1 1))
 go_wp2_with fail
 have d0:=HRE.out.at 0 _ rfl;have d1:=HRE.out.at 1 _ rfl;have d2:=HRE.out.at 2 _ rfl;have d3:=HRE.out.at 3 _ rfl;have d4:=HRE.out.at 4 _ rfl;exact bodyPost_ret (v:= .agg #[.int .i64 6,.int .i64 0,.int .i64 0,.string (aB qn),.slice (some ⟨w4.heap.size,0,none⟩) 1 1]) (by simp [results,Tryz.results31,go_sem,d0,d1,d2,d3,d4]) rfl ⟨.slice (some ⟨w4.heap.size,0,none⟩) 1 1,rfl,HSE.out,HFE.out,((((((HX5.out.keep (ax _ hB 0 _)).keep (ax _ hB 1 _)).keep (ax _ hB 2 _)).keep (ax _ hB 3 _)).keep (ax _ hB 4 _)).mono (fun b h=>(Nat.le_trans (by omega) h:w.heap.size≤b))),(fV ⟨by show _≤(0:Int);decide,by show(0:Int)≤_;decide⟩)⟩
end Go.Proofs.YtcfpfnoldgnloaaGreatDoor
