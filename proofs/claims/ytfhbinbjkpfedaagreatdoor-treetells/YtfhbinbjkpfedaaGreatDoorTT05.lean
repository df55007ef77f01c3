/-
  Prog: the names that a body may read. Conditions: the function and the scope lie in memory.
-/
import Derived.Test.YtfhbinbjkpfedaaGreatDoorTT04
import Derived.Maps.AppendAt
set_option linter.unusedVariables false
set_option linter.unusedSimpArgs false
namespace Go.Proofs.YtfhbinbjkpfedaaGreatDoor
open Go.RowKit Go.Proofs.Tryz
set_option maxHeartbeats 20000000
set_option maxRecDepth 100000
open Go.Lib renaming hid→Za
open SFr renaming of_below→Zb
open Below renaming refl→Zc
open List renaming getElem?_eq_getElem→Zd
structure V9 (S i a:Nat)(raw:List Int)(W:World)(L:Nat→Bool)(z9 z34 z35 z36 z37 z38 z39 z40 z41 z42 z43:Value)(wx:World):Prop where
 fr:SFr S W wx
 src:As wx S raw (if L 6=true then(Ad raw a 4).2 else a)
 ord:L 11=true→∀j,j<11→L j=true
 c0:L 0=true→L 11=false→∃b,z34=.slice (some ⟨b,0,none⟩) 3 3∧W.heap.size≤b∧Al wx b (Bo Fc) 9
 c1:L 1=true→z35=.int .i64 (i:Int)
 c2:L 2=true→L 11=false→∃b,z36=.pointer (some ⟨b,i,none⟩)∧W.heap.size≤b∧Al wx b (Bo Fc) 9
 c3:L 3=true→z37=.string (Aa (Fc.getD i []))
 c4:L 4=true→L 11=false→∃b,z38=.slice (some ⟨b,0,none⟩) 4 4∧W.heap.size≤b∧Al wx b (Oy Ey) 3
 c5:L 5=true→z39=.pointer (some ⟨S,0,none⟩)
 c6:L 6=true→z40=.int .i64 (Ad raw a 4).1
 c7:L 7=true→L 11=false→∃b,z41=.pointer (some ⟨b,(Ad raw a 4).1.toNat,none⟩)∧W.heap.size≤b∧Al wx b (Oy Ey) 3
 c8:L 8=true→z42=.int .i64 (Ey.getD (Ad raw a 4).1.toNat 0)
 c9:L 9=true→z43=.agg #[.string (Aa (Fc.getD i [])),.int .i64 (Ey.getD (Ad raw a 4).1.toNat 0)]
 c10:L 10=true→∃b,z9=.pointer (some ⟨b,0,none⟩)∧W.heap.size≤b∧Al wx b (if L 11=true then [.string (Aa (Fc.getD i [])),.int .i64 (Ey.getD (Ad raw a 4).1.toNat 0)]else [.string ⟨#[]⟩,.int .i64 0]) 66
def R9(S i a:Nat)(raw:List Int)(W:World)(q0 q1 q2 q3 q4 q6 q7 q10 q11 q12 q13 q14 q15 q16 q17 q18 q19 q20 q21 q22 q23 q24 q25 q26 q27 q28 q29 q30 q31 q32 q33 q44 q45 q46 q47 q48 q49 q50 q51 q52 q53 q54 q55 q56 q57 q58 q59 q60 q61 q62 q63 q64 q65 q66 q67 q68 q69 q70 q71 q72 q73 q74 q75 q76 q77 q78 q79 q80 q81 q82 q83 q84 q85 q86 q87 q88 q89 q90 q91 q92 q93 q94 q95 q96 q97 q98 q99 q100 q101 q102 q103 q104 q105 q106 q107 q108 q109 q110 q111 q112 q113 q114 q115 q116 q117 q118 q119:Value)(a':Act)(w':World):Prop:=
 ∃z9 z34 z35 z36 z37 z38 z39 z40 z41 z42 z43:Value,(∃b,z9=.pointer (some ⟨b,0,none⟩)∧W.heap.size≤b∧Al w' b [.string (Aa (Fc.getD i [])),.int .i64 (Ey.getD (Ad raw a 4).1.toNat 0)] 66∧As w' S raw (Ad raw a 4).2∧SFr S W w')∧a'=⟨[q0,q1,q2,q3,q4,.pointer (some ⟨S,0,none⟩),q6,q7,.int .i64 (i:Int),z9,q10,q11,q12,q13,q14,q15,q16,q17,q18,q19,q20,q21,q22,q23,q24,q25,q26,q27,q28,q29,q30,q31,q32,q33,z34,z35,z36,z37,z38,z39,z40,z41,z42,z43,q44,q45,q46,q47,q48,q49,q50,q51,q52,q53,q54,q55,q56,q57,q58,q59,q60,q61,q62,q63,q64,q65,q66,q67,q68,q69,q70,q71,q72,q73,q74,q75,q76,q77,q78,q79,q80,q81,q82,q83,q84,q85,q86,q87,q88,q89,q90,q91,q92,q93,q94,q95,q96,q97,q98,q99,q100,q101,q102,q103,q104,q105,q106,q107,q108,q109,q110,q111,q112,q113,q114,q115,q116,q117,q118,q119].toArray,[]⟩
def I9(S i a:Nat)(raw:List Int)(W:World)(q0 q1 q2 q3 q4 q6 q7 q10 q11 q12 q13 q14 q15 q16 q17 q18 q19 q20 q21 q22 q23 q24 q25 q26 q27 q28 q29 q30 q31 q32 q33 q44 q45 q46 q47 q48 q49 q50 q51 q52 q53 q54 q55 q56 q57 q58 q59 q60 q61 q62 q63 q64 q65 q66 q67 q68 q69 q70 q71 q72 q73 q74 q75 q76 q77 q78 q79 q80 q81 q82 q83 q84 q85 q86 q87 q88 q89 q90 q91 q92 q93 q94 q95 q96 q97 q98 q99 q100 q101 q102 q103 q104 q105 q106 q107 q108 q109 q110 q111 q112 q113 q114 q115 q116 q117 q118 q119:Value)(L:Nat→Bool)(a':Act)(w':World):Prop:=
 ∃z9 z34 z35 z36 z37 z38 z39 z40 z41 z42 z43:Value,V9 S i a raw W L z9 z34 z35 z36 z37 z38 z39 z40 z41 z42 z43 w'∧a'=⟨[q0,q1,q2,q3,q4,.pointer (some ⟨S,0,none⟩),q6,q7,.int .i64 (i:Int),z9,q10,q11,q12,q13,q14,q15,q16,q17,q18,q19,q20,q21,q22,q23,q24,q25,q26,q27,q28,q29,q30,q31,q32,q33,z34,z35,z36,z37,z38,z39,z40,z41,z42,z43,q44,q45,q46,q47,q48,q49,q50,q51,q52,q53,q54,q55,q56,q57,q58,q59,q60,q61,q62,q63,q64,q65,q66,q67,q68,q69,q70,q71,q72,q73,q74,q75,q76,q77,q78,q79,q80,q81,q82,q83,q84,q85,q86,q87,q88,q89,q90,q91,q92,q93,q94,q95,q96,q97,q98,q99,q100,q101,q102,q103,q104,q105,q106,q107,q108,q109,q110,q111,q112,q113,q114,q115,q116,q117,q118,q119].toArray,[]⟩
theorem pg_reg9(S i a:Nat)(raw:List Int)(W:World)(hs:As W S raw a)(hi:1≤i∧i≤2)(q0 q1 q2 q3 q4 q6 q7 q9 q10 q11 q12 q13 q14 q15 q16 q17 q18 q19 q20 q21 q22 q23 q24 q25 q26 q27 q28 q29 q30 q31 q32 q33 q34 q35 q36 q37 q38 q39 q40 q41 q42 q43 q44 q45 q46 q47 q48 q49 q50 q51 q52 q53 q54 q55 q56 q57 q58 q59 q60 q61 q62 q63 q64 q65 q66 q67 q68 q69 q70 q71 q72 q73 q74 q75 q76 q77 q78 q79 q80 q81 q82 q83 q84 q85 q86 q87 q88 q89 q90 q91 q92 q93 q94 q95 q96 q97 q98 q99 q100 q101 q102 q103 q104 q105 q106 q107 q108 q109 q110 q111 q112 q113 q114 q115 q116 q117 q118 q119:Value)(J K':Act→World→Prop)(hJ:∀a' w',R9 S i a raw W q0 q1 q2 q3 q4 q6 q7 q10 q11 q12 q13 q14 q15 q16 q17 q18 q19 q20 q21 q22 q23 q24 q25 q26 q27 q28 q29 q30 q31 q32 q33 q44 q45 q46 q47 q48 q49 q50 q51 q52 q53 q54 q55 q56 q57 q58 q59 q60 q61 q62 q63 q64 q65 q66 q67 q68 q69 q70 q71 q72 q73 q74 q75 q76 q77 q78 q79 q80 q81 q82 q83 q84 q85 q86 q87 q88 q89 q90 q91 q92 q93 q94 q95 q96 q97 q98 q99 q100 q101 q102 q103 q104 q105 q106 q107 q108 q109 q110 q111 q112 q113 q114 q115 q116 q117 q118 q119 a' w'→J a' w')(hM:∀a' w',Met J a' w'→K' a' w'):
  Code.wp Tryz.prog (jW 9) (Exit.then K' (fun _ _ _=>False)) ⟨[q0,q1,q2,q3,q4,.pointer (some ⟨S,0,none⟩),q6,q7,.int .i64 (i:Int),q9,q10,q11,q12,q13,q14,q15,q16,q17,q18,q19,q20,q21,q22,q23,q24,q25,q26,q27,q28,q29,q30,q31,q32,q33,q34,q35,q36,q37,q38,q39,q40,q41,q42,q43,q44,q45,q46,q47,q48,q49,q50,q51,q52,q53,q54,q55,q56,q57,q58,q59,q60,q61,q62,q63,q64,q65,q66,q67,q68,q69,q70,q71,q72,q73,q74,q75,q76,q77,q78,q79,q80,q81,q82,q83,q84,q85,q86,q87,q88,q89,q90,q91,q92,q93,q94,q95,q96,q97,q98,q99,q100,q101,q102,q103,q104,q105,q106,q107,q108,q109,q110,q111,q112,q113,q114,q115,q116,q117,q118,q119].toArray,[]⟩ W:=by
 conv=>arg 2;whnf
 dsimp only;refine Ov (by kernel_rfl) (by kernel_rfl) (I9 S i a raw W q0 q1 q2 q3 q4 q6 q7 q10 q11 q12 q13 q14 q15 q16 q17 q18 q19 q20 q21 q22 q23 q24 q25 q26 q27 q28 q29 q30 q31 q32 q33 q44 q45 q46 q47 q48 q49 q50 q51 q52 q53 q54 q55 q56 q57 q58 q59 q60 q61 q62 q63 q64 q65 q66 q67 q68 q69 q70 q71 q72 q73 q74 q75 q76 q77 q78 q79 q80 q81 q82 q83 q84 q85 q86 q87 q88 q89 q90 q91 q92 q93 q94 q95 q96 q97 q98 q99 q100 q101 q102 q103 q104 q105 q106 q107 q108 q109 q110 q111 q112 q113 q114 q115 q116 q117 q118 q119) ?_ ?_ ?_
 ·refine⟨q9,q34,q35,q36,q37,q38,q39,q40,q41,q42,q43,⟨Zb (Zc _ _).drew,by rw[if_neg (by decide)];exact hs.old (Zc _ _).drew,fun h=>(by cases h),fun h=>(by cases h),fun h=>(by cases h),fun h=>(by cases h),fun h=>(by cases h),fun h=>(by cases h),fun h=>(by cases h),fun h=>(by cases h),fun h=>(by cases h),fun h=>(by cases h),fun h=>(by cases h),fun h=>(by cases h)⟩,rfl⟩
 ·intro L act wx k hI hk hl hd
  obtain⟨z9,z34,z35,z36,z37,z38,z39,z40,z41,z42,z43,hV,rfl⟩:=hI;have hk:k=0∨k=1∨k=2∨k=3∨k=4∨k=5∨k=6∨k=7∨k=8∨k=9∨k=10∨k=11:=by
   have:k<12:=hk;omega
  rcases hk with rfl|rfl|rfl|rfl|rfl|rfl|rfl|rfl|rfl|rfl|rfl|rfl
  ·have n11:L 11=false:=by
    cases h:L 11 with
    |false=>rfl
    |true=>have:=hV.ord h 0 (by decide);rw[hl]at this;cases this
   have hal:Below wx.heap.size wx (wx.alloc (.cells (Bo Fc).toArray 9)):=bA;have keep:∀b cs T,W.heap.size≤b→Al wx b cs T→Al (wx.alloc (.cells (Bo Fc).toArray 9)) b cs T:=fun b cs T _ h=>h.old hal
   have HV:=Za hV;have HD:=Za hd;have HL:=Za hl;refine En _ rfl rfl (fun K' hK=>?_)
   conv=>arg 2;whnf
   go_wp2_with fail
   exact⟨z9,.slice (some ⟨wx.heap.size,0,none⟩) 3 3,z35,z36,z37,z38,z39,z40,z41,z42,z43,⟨hV.fr.trans (Zb hal),(by rw[Ab L (show 6≠0 by decide)];exact hV.src.old hal),(fun h j hj=>by rw[Ab L (show 11≠0 by decide)]at h;have:=hV.ord h 0 (by decide);rw[hl]at this;cases this),(fun _ _=>⟨wx.heap.size,rfl,hV.fr.size,Al.new wx (Bo Fc) _⟩),(fun h=>hV.c1 (by rwa[Ab L (show 1≠0 by decide)]at h)),(fun h h11=>by obtain⟨b,e1,e2,e3⟩:=hV.c2 (by rwa[Ab L (show 2≠0 by decide)]at h) (by rwa[Ab L (show 11≠0 by decide)]at h11);exact⟨b,e1,e2,keep b _ _ e2 e3⟩),(fun h=>hV.c3 (by rwa[Ab L (show 3≠0 by decide)]at h)),(fun h h11=>by obtain⟨b,e1,e2,e3⟩:=hV.c4 (by rwa[Ab L (show 4≠0 by decide)]at h) (by rwa[Ab L (show 11≠0 by decide)]at h11);exact⟨b,e1,e2,keep b _ _ e2 e3⟩),(fun h=>hV.c5 (by rwa[Ab L (show 5≠0 by decide)]at h)),(fun h=>hV.c6 (by rwa[Ab L (show 6≠0 by decide)]at h)),(fun h h11=>by obtain⟨b,e1,e2,e3⟩:=hV.c7 (by rwa[Ab L (show 7≠0 by decide)]at h) (by rwa[Ab L (show 11≠0 by decide)]at h11);exact⟨b,e1,e2,keep b _ _ e2 e3⟩),(fun h=>hV.c8 (by rwa[Ab L (show 8≠0 by decide)]at h)),(fun h=>hV.c9 (by rwa[Ab L (show 9≠0 by decide)]at h)),(fun h=>by obtain⟨b,e1,e2,e3⟩:=hV.c10 (by rwa[Ab L (show 10≠0 by decide)]at h);rw[Ab L (show 11≠0 by decide)];exact⟨b,e1,e2,keep b _ _ e2 e3⟩)⟩,rfl⟩
  ·have n11:L 11=false:=by
    cases h:L 11 with
    |false=>rfl
    |true=>have:=hV.ord h 1 (by decide);rw[hl]at this;cases this
   have HV:=Za hV;have HD:=Za hd;have HL:=Za hl;refine En _ rfl rfl (fun K' hK=>?_)
   conv=>arg 2;whnf
   go_wp2_with fail
   exact⟨z9,z34,.int .i64 (i:Int),z36,z37,z38,z39,z40,z41,z42,z43,⟨hV.fr,(by rw[Ab L (show 6≠1 by decide)];exact hV.src),(fun h j hj=>by rw[Ab L (show 11≠1 by decide)]at h;have:=hV.ord h 1 (by decide);rw[hl]at this;cases this),(fun h h11=>by obtain⟨b,e1,e2,e3⟩:=hV.c0 (by rwa[Ab L (show 0≠1 by decide)]at h) (by rwa[Ab L (show 11≠1 by decide)]at h11);exact⟨b,e1,e2,e3⟩),(fun _=>rfl),(fun h h11=>by obtain⟨b,e1,e2,e3⟩:=hV.c2 (by rwa[Ab L (show 2≠1 by decide)]at h) (by rwa[Ab L (show 11≠1 by decide)]at h11);exact⟨b,e1,e2,e3⟩),(fun h=>hV.c3 (by rwa[Ab L (show 3≠1 by decide)]at h)),(fun h h11=>by obtain⟨b,e1,e2,e3⟩:=hV.c4 (by rwa[Ab L (show 4≠1 by decide)]at h) (by rwa[Ab L (show 11≠1 by decide)]at h11);exact⟨b,e1,e2,e3⟩),(fun h=>hV.c5 (by rwa[Ab L (show 5≠1 by decide)]at h)),(fun h=>hV.c6 (by rwa[Ab L (show 6≠1 by decide)]at h)),(fun h h11=>by obtain⟨b,e1,e2,e3⟩:=hV.c7 (by rwa[Ab L (show 7≠1 by decide)]at h) (by rwa[Ab L (show 11≠1 by decide)]at h11);exact⟨b,e1,e2,e3⟩),(fun h=>hV.c8 (by rwa[Ab L (show 8≠1 by decide)]at h)),(fun h=>hV.c9 (by rwa[Ab L (show 9≠1 by decide)]at h)),(fun h=>by obtain⟨b,e1,e2,e3⟩:=hV.c10 (by rwa[Ab L (show 10≠1 by decide)]at h);rw[Ab L (show 11≠1 by decide)];exact⟨b,e1,e2,e3⟩)⟩,rfl⟩
  ·have n11:L 11=false:=by
    cases h:L 11 with
    |false=>rfl
    |true=>have:=hV.ord h 2 (by decide);rw[hl]at this;cases this
   have d0:L 0=true:=hd _ rfl ⟨0,.data⟩ (by simp) rfl;have d1:L 1=true:=hd _ rfl ⟨1,.data⟩ (by simp) rfl;obtain⟨b,rfl,hb,ho⟩:=hV.c0 d0 n11;obtain rfl:=hV.c1 d1;have hi3:(i:Int)<3:=by omega
   have HV:=Za hV;have HD:=Za hd;have HL:=Za hl;refine En _ rfl rfl (fun K' hK=>?_)
   conv=>arg 2;whnf
   go_wp2_with fail
   exact⟨z9,.slice (some ⟨b,0,none⟩) 3 3,.int .i64 (i:Int),.pointer (some ⟨b,i,none⟩),z37,z38,z39,z40,z41,z42,z43,⟨hV.fr,(by rw[Ab L (show 6≠2 by decide)];exact hV.src),(fun h j hj=>by rw[Ab L (show 11≠2 by decide)]at h;have:=hV.ord h 2 (by decide);rw[hl]at this;cases this),(fun h h11=>by obtain⟨b,e1,e2,e3⟩:=hV.c0 (by rwa[Ab L (show 0≠2 by decide)]at h) (by rwa[Ab L (show 11≠2 by decide)]at h11);exact⟨b,e1,e2,e3⟩),(fun h=>hV.c1 (by rwa[Ab L (show 1≠2 by decide)]at h)),(fun _ _=>⟨b,rfl,hb,ho⟩),(fun h=>hV.c3 (by rwa[Ab L (show 3≠2 by decide)]at h)),(fun h h11=>by obtain⟨b,e1,e2,e3⟩:=hV.c4 (by rwa[Ab L (show 4≠2 by decide)]at h) (by rwa[Ab L (show 11≠2 by decide)]at h11);exact⟨b,e1,e2,e3⟩),(fun h=>hV.c5 (by rwa[Ab L (show 5≠2 by decide)]at h)),(fun h=>hV.c6 (by rwa[Ab L (show 6≠2 by decide)]at h)),(fun h h11=>by obtain⟨b,e1,e2,e3⟩:=hV.c7 (by rwa[Ab L (show 7≠2 by decide)]at h) (by rwa[Ab L (show 11≠2 by decide)]at h11);exact⟨b,e1,e2,e3⟩),(fun h=>hV.c8 (by rwa[Ab L (show 8≠2 by decide)]at h)),(fun h=>hV.c9 (by rwa[Ab L (show 9≠2 by decide)]at h)),(fun h=>by obtain⟨b,e1,e2,e3⟩:=hV.c10 (by rwa[Ab L (show 10≠2 by decide)]at h);rw[Ab L (show 11≠2 by decide)];exact⟨b,e1,e2,e3⟩)⟩,rfl⟩
  ·have n11:L 11=false:=by
    cases h:L 11 with
    |false=>rfl
    |true=>have:=hV.ord h 3 (by decide);rw[hl]at this;cases this
   have d2:L 2=true:=hd _ rfl ⟨2,.data⟩ (by simp) rfl;obtain⟨b,rfl,hb,ho⟩:=hV.c2 d2 n11;have hx:=ho.at i _ (gB ⟨i,by omega⟩);have HV:=Za hV;have HD:=Za hd;have HL:=Za hl;refine En _ rfl rfl (fun K' hK=>?_)
   conv=>arg 2;whnf
   go_wp2_with fail
   exact⟨z9,z34,z35,.pointer (some ⟨b,i,none⟩),.string (Aa (Fc.getD i [])),z38,z39,z40,z41,z42,z43,⟨hV.fr,(by rw[Ab L (show 6≠3 by decide)];exact hV.src),(fun h j hj=>by rw[Ab L (show 11≠3 by decide)]at h;have:=hV.ord h 3 (by decide);rw[hl]at this;cases this),(fun h h11=>by obtain⟨b,e1,e2,e3⟩:=hV.c0 (by rwa[Ab L (show 0≠3 by decide)]at h) (by rwa[Ab L (show 11≠3 by decide)]at h11);exact⟨b,e1,e2,e3⟩),(fun h=>hV.c1 (by rwa[Ab L (show 1≠3 by decide)]at h)),(fun h h11=>by obtain⟨b,e1,e2,e3⟩:=hV.c2 (by rwa[Ab L (show 2≠3 by decide)]at h) (by rwa[Ab L (show 11≠3 by decide)]at h11);exact⟨b,e1,e2,e3⟩),(fun _=>rfl),(fun h h11=>by obtain⟨b,e1,e2,e3⟩:=hV.c4 (by rwa[Ab L (show 4≠3 by decide)]at h) (by rwa[Ab L (show 11≠3 by decide)]at h11);exact⟨b,e1,e2,e3⟩),(fun h=>hV.c5 (by rwa[Ab L (show 5≠3 by decide)]at h)),(fun h=>hV.c6 (by rwa[Ab L (show 6≠3 by decide)]at h)),(fun h h11=>by obtain⟨b,e1,e2,e3⟩:=hV.c7 (by rwa[Ab L (show 7≠3 by decide)]at h) (by rwa[Ab L (show 11≠3 by decide)]at h11);exact⟨b,e1,e2,e3⟩),(fun h=>hV.c8 (by rwa[Ab L (show 8≠3 by decide)]at h)),(fun h=>hV.c9 (by rwa[Ab L (show 9≠3 by decide)]at h)),(fun h=>by obtain⟨b,e1,e2,e3⟩:=hV.c10 (by rwa[Ab L (show 10≠3 by decide)]at h);rw[Ab L (show 11≠3 by decide)];exact⟨b,e1,e2,e3⟩)⟩,rfl⟩
  ·have n11:L 11=false:=by
    cases h:L 11 with
    |false=>rfl
    |true=>have:=hV.ord h 4 (by decide);rw[hl]at this;cases this
   have hal:Below wx.heap.size wx (wx.alloc (.cells (Oy Ey).toArray 3)):=bA;have keep:∀b cs T,W.heap.size≤b→Al wx b cs T→Al (wx.alloc (.cells (Oy Ey).toArray 3)) b cs T:=fun b cs T _ h=>h.old hal
   have HV:=Za hV;have HD:=Za hd;have HL:=Za hl;refine En _ rfl rfl (fun K' hK=>?_)
   conv=>arg 2;whnf
   go_wp2_with fail
   exact⟨z9,z34,z35,z36,z37,.slice (some ⟨wx.heap.size,0,none⟩) 4 4,z39,z40,z41,z42,z43,⟨hV.fr.trans (Zb hal),(by rw[Ab L (show 6≠4 by decide)];exact hV.src.old hal),(fun h j hj=>by rw[Ab L (show 11≠4 by decide)]at h;have:=hV.ord h 4 (by decide);rw[hl]at this;cases this),(fun h h11=>by obtain⟨b,e1,e2,e3⟩:=hV.c0 (by rwa[Ab L (show 0≠4 by decide)]at h) (by rwa[Ab L (show 11≠4 by decide)]at h11);exact⟨b,e1,e2,keep b _ _ e2 e3⟩),(fun h=>hV.c1 (by rwa[Ab L (show 1≠4 by decide)]at h)),(fun h h11=>by obtain⟨b,e1,e2,e3⟩:=hV.c2 (by rwa[Ab L (show 2≠4 by decide)]at h) (by rwa[Ab L (show 11≠4 by decide)]at h11);exact⟨b,e1,e2,keep b _ _ e2 e3⟩),(fun h=>hV.c3 (by rwa[Ab L (show 3≠4 by decide)]at h)),(fun _ _=>⟨wx.heap.size,rfl,hV.fr.size,Al.new wx (Oy Ey) _⟩),(fun h=>hV.c5 (by rwa[Ab L (show 5≠4 by decide)]at h)),(fun h=>hV.c6 (by rwa[Ab L (show 6≠4 by decide)]at h)),(fun h h11=>by obtain⟨b,e1,e2,e3⟩:=hV.c7 (by rwa[Ab L (show 7≠4 by decide)]at h) (by rwa[Ab L (show 11≠4 by decide)]at h11);exact⟨b,e1,e2,keep b _ _ e2 e3⟩),(fun h=>hV.c8 (by rwa[Ab L (show 8≠4 by decide)]at h)),(fun h=>hV.c9 (by rwa[Ab L (show 9≠4 by decide)]at h)),(fun h=>by obtain⟨b,e1,e2,e3⟩:=hV.c10 (by rwa[Ab L (show 10≠4 by decide)]at h);rw[Ab L (show 11≠4 by decide)];exact⟨b,e1,e2,keep b _ _ e2 e3⟩)⟩,rfl⟩
  ·have n11:L 11=false:=by
    cases h:L 11 with
    |false=>rfl
    |true=>have:=hV.ord h 5 (by decide);rw[hl]at this;cases this
   have HV:=Za hV;have HD:=Za hd;have HL:=Za hl;refine En _ rfl rfl (fun K' hK=>?_)
   conv=>arg 2;whnf
   go_wp2_with fail
   exact⟨z9,z34,z35,z36,z37,z38,.pointer (some ⟨S,0,none⟩),z40,z41,z42,z43,⟨hV.fr,(by rw[Ab L (show 6≠5 by decide)];exact hV.src),(fun h j hj=>by rw[Ab L (show 11≠5 by decide)]at h;have:=hV.ord h 5 (by decide);rw[hl]at this;cases this),(fun h h11=>by obtain⟨b,e1,e2,e3⟩:=hV.c0 (by rwa[Ab L (show 0≠5 by decide)]at h) (by rwa[Ab L (show 11≠5 by decide)]at h11);exact⟨b,e1,e2,e3⟩),(fun h=>hV.c1 (by rwa[Ab L (show 1≠5 by decide)]at h)),(fun h h11=>by obtain⟨b,e1,e2,e3⟩:=hV.c2 (by rwa[Ab L (show 2≠5 by decide)]at h) (by rwa[Ab L (show 11≠5 by decide)]at h11);exact⟨b,e1,e2,e3⟩),(fun h=>hV.c3 (by rwa[Ab L (show 3≠5 by decide)]at h)),(fun h h11=>by obtain⟨b,e1,e2,e3⟩:=hV.c4 (by rwa[Ab L (show 4≠5 by decide)]at h) (by rwa[Ab L (show 11≠5 by decide)]at h11);exact⟨b,e1,e2,e3⟩),(fun _=>rfl),(fun h=>hV.c6 (by rwa[Ab L (show 6≠5 by decide)]at h)),(fun h h11=>by obtain⟨b,e1,e2,e3⟩:=hV.c7 (by rwa[Ab L (show 7≠5 by decide)]at h) (by rwa[Ab L (show 11≠5 by decide)]at h11);exact⟨b,e1,e2,e3⟩),(fun h=>hV.c8 (by rwa[Ab L (show 8≠5 by decide)]at h)),(fun h=>hV.c9 (by rwa[Ab L (show 9≠5 by decide)]at h)),(fun h=>by obtain⟨b,e1,e2,e3⟩:=hV.c10 (by rwa[Ab L (show 10≠5 by decide)]at h);rw[Ab L (show 11≠5 by decide)];exact⟨b,e1,e2,e3⟩)⟩,rfl⟩
  ·have n11:L 11=false:=by
    cases h:L 11 with
    |false=>rfl
    |true=>have:=hV.ord h 6 (by decide);rw[hl]at this;cases this
   have d5:L 5=true:=hd _ rfl ⟨5,.data⟩ (by simp) rfl;obtain rfl:=hV.c5 d5;have hsrc:=hV.src;rw[if_neg (by rw[hl];decide)]at hsrc;have hsS:=hs.lt;have HV:=Za hV;have HD:=Za hd;have HL:=Za hl;refine En _ rfl rfl (fun K' hK=>?_)
   conv=>arg 2;whnf
   go_wp2_with fail
   refine(Bn S raw a 4 wx hsrc (by decide) (by decide)).mono ?_;rintro r w2 ⟨rfl,hs2,hf2⟩;have keep:∀b cs T,W.heap.size≤b→Al wx b cs T→Al w2 b cs T:=fun b cs T hb h=>h.sfr hf2 (by omega)
   go_wp2_with fail
   exact⟨z9,z34,z35,z36,z37,z38,.pointer (some ⟨S,0,none⟩),.int .i64 (Ad raw a 4).1,z41,z42,z43,⟨hV.fr.trans hf2,(by rw[Eh,if_pos rfl];exact hs2),(fun h j hj=>by rw[Ab L (show 11≠6 by decide)]at h;have:=hV.ord h 6 (by decide);rw[hl]at this;cases this),(fun h h11=>by obtain⟨b,e1,e2,e3⟩:=hV.c0 (by rwa[Ab L (show 0≠6 by decide)]at h) (by rwa[Ab L (show 11≠6 by decide)]at h11);exact⟨b,e1,e2,keep b _ _ e2 e3⟩),(fun h=>hV.c1 (by rwa[Ab L (show 1≠6 by decide)]at h)),(fun h h11=>by obtain⟨b,e1,e2,e3⟩:=hV.c2 (by rwa[Ab L (show 2≠6 by decide)]at h) (by rwa[Ab L (show 11≠6 by decide)]at h11);exact⟨b,e1,e2,keep b _ _ e2 e3⟩),(fun h=>hV.c3 (by rwa[Ab L (show 3≠6 by decide)]at h)),(fun h h11=>by obtain⟨b,e1,e2,e3⟩:=hV.c4 (by rwa[Ab L (show 4≠6 by decide)]at h) (by rwa[Ab L (show 11≠6 by decide)]at h11);exact⟨b,e1,e2,keep b _ _ e2 e3⟩),(fun h=>hV.c5 (by rwa[Ab L (show 5≠6 by decide)]at h)),(fun _=>rfl),(fun h h11=>by obtain⟨b,e1,e2,e3⟩:=hV.c7 (by rwa[Ab L (show 7≠6 by decide)]at h) (by rwa[Ab L (show 11≠6 by decide)]at h11);exact⟨b,e1,e2,keep b _ _ e2 e3⟩),(fun h=>hV.c8 (by rwa[Ab L (show 8≠6 by decide)]at h)),(fun h=>hV.c9 (by rwa[Ab L (show 9≠6 by decide)]at h)),(fun h=>by obtain⟨b,e1,e2,e3⟩:=hV.c10 (by rwa[Ab L (show 10≠6 by decide)]at h);rw[Ab L (show 11≠6 by decide)];exact⟨b,e1,e2,keep b _ _ e2 e3⟩)⟩,rfl⟩
  ·have n11:L 11=false:=by
    cases h:L 11 with
    |false=>rfl
    |true=>have:=hV.ord h 7 (by decide);rw[hl]at this;cases this
   have d4:L 4=true:=hd _ rfl ⟨4,.data⟩ (by simp) rfl;have d6:L 6=true:=hd _ rfl ⟨6,.data⟩ (by simp) rfl;obtain⟨b,rfl,hb,ho⟩:=hV.c4 d4 n11;obtain rfl:=hV.c6 d6;have hr:=Ak raw a 4 (by decide);obtain⟨g0,g1⟩:=hr;have HV:=Za hV;have HD:=Za hd;have HL:=Za hl;refine En _ rfl rfl (fun K' hK=>?_)
   conv=>arg 2;whnf
   go_wp2_with fail
   exact⟨z9,z34,z35,z36,z37,.slice (some ⟨b,0,none⟩) 4 4,z39,.int .i64 (Ad raw a 4).1,.pointer (some ⟨b,(Ad raw a 4).1.toNat,none⟩),z42,z43,⟨hV.fr,(by rw[Ab L (show 6≠7 by decide)];exact hV.src),(fun h j hj=>by rw[Ab L (show 11≠7 by decide)]at h;have:=hV.ord h 7 (by decide);rw[hl]at this;cases this),(fun h h11=>by obtain⟨b,e1,e2,e3⟩:=hV.c0 (by rwa[Ab L (show 0≠7 by decide)]at h) (by rwa[Ab L (show 11≠7 by decide)]at h11);exact⟨b,e1,e2,e3⟩),(fun h=>hV.c1 (by rwa[Ab L (show 1≠7 by decide)]at h)),(fun h h11=>by obtain⟨b,e1,e2,e3⟩:=hV.c2 (by rwa[Ab L (show 2≠7 by decide)]at h) (by rwa[Ab L (show 11≠7 by decide)]at h11);exact⟨b,e1,e2,e3⟩),(fun h=>hV.c3 (by rwa[Ab L (show 3≠7 by decide)]at h)),(fun h h11=>by obtain⟨b,e1,e2,e3⟩:=hV.c4 (by rwa[Ab L (show 4≠7 by decide)]at h) (by rwa[Ab L (show 11≠7 by decide)]at h11);exact⟨b,e1,e2,e3⟩),(fun h=>hV.c5 (by rwa[Ab L (show 5≠7 by decide)]at h)),(fun h=>hV.c6 (by rwa[Ab L (show 6≠7 by decide)]at h)),(fun _ _=>⟨b,rfl,hb,ho⟩),(fun h=>hV.c8 (by rwa[Ab L (show 8≠7 by decide)]at h)),(fun h=>hV.c9 (by rwa[Ab L (show 9≠7 by decide)]at h)),(fun h=>by obtain⟨b,e1,e2,e3⟩:=hV.c10 (by rwa[Ab L (show 10≠7 by decide)]at h);rw[Ab L (show 11≠7 by decide)];exact⟨b,e1,e2,e3⟩)⟩,rfl⟩
  ·have n11:L 11=false:=by
    cases h:L 11 with
    |false=>rfl
    |true=>have:=hV.ord h 8 (by decide);rw[hl]at this;cases this
   have d7:L 7=true:=hd _ rfl ⟨7,.data⟩ (by simp) rfl;obtain⟨b,rfl,hb,ho⟩:=hV.c7 d7 n11;have hr:=Ak raw a 4 (by decide);have hx:=ho.at (Ad raw a 4).1.toNat _ (gD ⟨(Ad raw a 4).1.toNat,by omega⟩);have HV:=Za hV;have HD:=Za hd;have HL:=Za hl;refine En _ rfl rfl (fun K' hK=>?_)
   conv=>arg 2;whnf
   go_wp2_with fail
   exact⟨z9,z34,z35,z36,z37,z38,z39,z40,.pointer (some ⟨b,(Ad raw a 4).1.toNat,none⟩),.int .i64 (Ey.getD (Ad raw a 4).1.toNat 0),z43,⟨hV.fr,(by rw[Ab L (show 6≠8 by decide)];exact hV.src),(fun h j hj=>by rw[Ab L (show 11≠8 by decide)]at h;have:=hV.ord h 8 (by decide);rw[hl]at this;cases this),(fun h h11=>by obtain⟨b,e1,e2,e3⟩:=hV.c0 (by rwa[Ab L (show 0≠8 by decide)]at h) (by rwa[Ab L (show 11≠8 by decide)]at h11);exact⟨b,e1,e2,e3⟩),(fun h=>hV.c1 (by rwa[Ab L (show 1≠8 by decide)]at h)),(fun h h11=>by obtain⟨b,e1,e2,e3⟩:=hV.c2 (by rwa[Ab L (show 2≠8 by decide)]at h) (by rwa[Ab L (show 11≠8 by decide)]at h11);exact⟨b,e1,e2,e3⟩),(fun h=>hV.c3 (by rwa[Ab L (show 3≠8 by decide)]at h)),(fun h h11=>by obtain⟨b,e1,e2,e3⟩:=hV.c4 (by rwa[Ab L (show 4≠8 by decide)]at h) (by rwa[Ab L (show 11≠8 by decide)]at h11);exact⟨b,e1,e2,e3⟩),(fun h=>hV.c5 (by rwa[Ab L (show 5≠8 by decide)]at h)),(fun h=>hV.c6 (by rwa[Ab L (show 6≠8 by decide)]at h)),(fun h h11=>by obtain⟨b,e1,e2,e3⟩:=hV.c7 (by rwa[Ab L (show 7≠8 by decide)]at h) (by rwa[Ab L (show 11≠8 by decide)]at h11);exact⟨b,e1,e2,e3⟩),(fun _=>rfl),(fun h=>hV.c9 (by rwa[Ab L (show 9≠8 by decide)]at h)),(fun h=>by obtain⟨b,e1,e2,e3⟩:=hV.c10 (by rwa[Ab L (show 10≠8 by decide)]at h);rw[Ab L (show 11≠8 by decide)];exact⟨b,e1,e2,e3⟩)⟩,rfl⟩
  ·have n11:L 11=false:=by
    cases h:L 11 with
    |false=>rfl
    |true=>have:=hV.ord h 9 (by decide);rw[hl]at this;cases this
   have d3:L 3=true:=hd _ rfl ⟨3,.data⟩ (by simp) rfl;have d8:L 8=true:=hd _ rfl ⟨8,.data⟩ (by simp) rfl;obtain rfl:=hV.c3 d3;obtain rfl:=hV.c8 d8;have HV:=Za hV;have HD:=Za hd;have HL:=Za hl;refine En _ rfl rfl (fun K' hK=>?_)
   conv=>arg 2;whnf
   go_wp2_with fail
   exact⟨z9,z34,z35,z36,.string (Aa (Fc.getD i [])),z38,z39,z40,z41,.int .i64 (Ey.getD (Ad raw a 4).1.toNat 0),.agg #[.string (Aa (Fc.getD i [])),.int .i64 (Ey.getD (Ad raw a 4).1.toNat 0)],⟨hV.fr,(by rw[Ab L (show 6≠9 by decide)];exact hV.src),(fun h j hj=>by rw[Ab L (show 11≠9 by decide)]at h;have:=hV.ord h 9 (by decide);rw[hl]at this;cases this),(fun h h11=>by obtain⟨b,e1,e2,e3⟩:=hV.c0 (by rwa[Ab L (show 0≠9 by decide)]at h) (by rwa[Ab L (show 11≠9 by decide)]at h11);exact⟨b,e1,e2,e3⟩),(fun h=>hV.c1 (by rwa[Ab L (show 1≠9 by decide)]at h)),(fun h h11=>by obtain⟨b,e1,e2,e3⟩:=hV.c2 (by rwa[Ab L (show 2≠9 by decide)]at h) (by rwa[Ab L (show 11≠9 by decide)]at h11);exact⟨b,e1,e2,e3⟩),(fun h=>hV.c3 (by rwa[Ab L (show 3≠9 by decide)]at h)),(fun h h11=>by obtain⟨b,e1,e2,e3⟩:=hV.c4 (by rwa[Ab L (show 4≠9 by decide)]at h) (by rwa[Ab L (show 11≠9 by decide)]at h11);exact⟨b,e1,e2,e3⟩),(fun h=>hV.c5 (by rwa[Ab L (show 5≠9 by decide)]at h)),(fun h=>hV.c6 (by rwa[Ab L (show 6≠9 by decide)]at h)),(fun h h11=>by obtain⟨b,e1,e2,e3⟩:=hV.c7 (by rwa[Ab L (show 7≠9 by decide)]at h) (by rwa[Ab L (show 11≠9 by decide)]at h11);exact⟨b,e1,e2,e3⟩),(fun h=>hV.c8 (by rwa[Ab L (show 8≠9 by decide)]at h)),(fun _=>rfl),(fun h=>by obtain⟨b,e1,e2,e3⟩:=hV.c10 (by rwa[Ab L (show 10≠9 by decide)]at h);rw[Ab L (show 11≠9 by decide)];exact⟨b,e1,e2,e3⟩)⟩,rfl⟩
  ·have n11:L 11=false:=by
    cases h:L 11 with
    |false=>rfl
    |true=>have:=hV.ord h 10 (by decide);rw[hl]at this;cases this
   have hal:Below wx.heap.size wx (wx.alloc (.cells #[.string ⟨#[]⟩,.int .i64 0] 66)):=bA;have keep:∀b cs T,W.heap.size≤b→Al wx b cs T→Al (wx.alloc (.cells #[.string ⟨#[]⟩,.int .i64 0] 66)) b cs T:=fun b cs T _ h=>h.old hal
   have HV:=Za hV;have HD:=Za hd;have HL:=Za hl;refine En _ rfl rfl (fun K' hK=>?_)
   conv=>arg 2;whnf
   go_wp2_with fail
   exact⟨.pointer (some ⟨wx.heap.size,0,none⟩),z34,z35,z36,z37,z38,z39,z40,z41,z42,z43,⟨hV.fr.trans (Zb hal),(by rw[Ab L (show 6≠10 by decide)];exact hV.src.old hal),(fun h j hj=>by rw[Ab L (show 11≠10 by decide)]at h;have:=hV.ord h 10 (by decide);rw[hl]at this;cases this),(fun h h11=>by obtain⟨b,e1,e2,e3⟩:=hV.c0 (by rwa[Ab L (show 0≠10 by decide)]at h) (by rwa[Ab L (show 11≠10 by decide)]at h11);exact⟨b,e1,e2,keep b _ _ e2 e3⟩),(fun h=>hV.c1 (by rwa[Ab L (show 1≠10 by decide)]at h)),(fun h h11=>by obtain⟨b,e1,e2,e3⟩:=hV.c2 (by rwa[Ab L (show 2≠10 by decide)]at h) (by rwa[Ab L (show 11≠10 by decide)]at h11);exact⟨b,e1,e2,keep b _ _ e2 e3⟩),(fun h=>hV.c3 (by rwa[Ab L (show 3≠10 by decide)]at h)),(fun h h11=>by obtain⟨b,e1,e2,e3⟩:=hV.c4 (by rwa[Ab L (show 4≠10 by decide)]at h) (by rwa[Ab L (show 11≠10 by decide)]at h11);exact⟨b,e1,e2,keep b _ _ e2 e3⟩),(fun h=>hV.c5 (by rwa[Ab L (show 5≠10 by decide)]at h)),(fun h=>hV.c6 (by rwa[Ab L (show 6≠10 by decide)]at h)),(fun h h11=>by obtain⟨b,e1,e2,e3⟩:=hV.c7 (by rwa[Ab L (show 7≠10 by decide)]at h) (by rwa[Ab L (show 11≠10 by decide)]at h11);exact⟨b,e1,e2,keep b _ _ e2 e3⟩),(fun h=>hV.c8 (by rwa[Ab L (show 8≠10 by decide)]at h)),(fun h=>hV.c9 (by rwa[Ab L (show 9≠10 by decide)]at h)),(fun _=>⟨wx.heap.size,rfl,hV.fr.size,by rw[Ab L (show 11≠10 by decide),n11];exact Al.new wx [.string ⟨#[]⟩,.int .i64 0] _⟩)⟩,rfl⟩
  ·have d9:L 9=true:=hd _ rfl ⟨9,.data⟩ (by simp) rfl
   have d10:L 10=true:=hd _ rfl ⟨10,.data⟩ (by simp) rfl;obtain⟨b,rfl,hb,ho⟩:=hV.c10 d10;obtain rfl:=hV.c9 d9;rw[hl,if_neg (by decide)]at ho;have before:∀j,j<11→L j=true:=fun j hj=>by
    have hj:j=0∨j=1∨j=2∨j=3∨j=4∨j=5∨j=6∨j=7∨j=8∨j=9∨j=10:=by omega
    rcases hj with rfl|rfl|rfl|rfl|rfl|rfl|rfl|rfl|rfl|rfl|rfl
    ·exact hd _ rfl ⟨0,.phase⟩ (by simp) rfl
    ·exact hd _ rfl ⟨1,.phase⟩ (by simp) rfl
    ·exact hd _ rfl ⟨2,.phase⟩ (by simp) rfl
    ·exact hd _ rfl ⟨3,.phase⟩ (by simp) rfl
    ·exact hd _ rfl ⟨4,.phase⟩ (by simp) rfl
    ·exact hd _ rfl ⟨5,.phase⟩ (by simp) rfl
    ·exact hd _ rfl ⟨6,.phase⟩ (by simp) rfl
    ·exact hd _ rfl ⟨7,.phase⟩ (by simp) rfl
    ·exact hd _ rfl ⟨8,.phase⟩ (by simp) rfl
    ·exact hd _ rfl ⟨9,.phase⟩ (by simp) rfl
    ·exact hd _ rfl ⟨10,.phase⟩ (by simp) rfl
   have hx0:=ho.at 0 _ rfl;have hx1:=ho.at 1 _ rfl;have fx0:=ho.fz 0;have fx1:=ho.fz 1;have hbl:=ho.lt;have hsS:=hs.lt;have HV:=Za hV;have HD:=Za hd;have HL:=Za hl;refine En _ rfl rfl (fun K' hK=>?_)
   conv=>arg 2;whnf
   go_wp2_with fail
   exact⟨.pointer (some ⟨b,0,none⟩),z34,z35,z36,z37,z38,z39,z40,z41,z42,.agg #[.string (Aa (Fc.getD i [])),.int .i64 (Ey.getD (Ad raw a 4).1.toNat 0)],⟨(hV.fr.setNew hb 0 (.string (Aa (Fc.getD i [])))).setNew hb 1 (.int .i64 (Ey.getD (Ad raw a 4).1.toNat 0)),(by rw[Ab L (show 6≠11 by decide)];exact(hV.src.other (by omega) 0 (.string (Aa (Fc.getD i [])))).other (by omega) 1 (.int .i64 (Ey.getD (Ad raw a 4).1.toNat 0))),(fun _ j hj=>by rw[Ab L (show j≠11 by omega)];exact before j hj),(fun _ h11=>by rw[Eh]at h11;cases h11),(fun h=>hV.c1 (by rwa[Ab L (show 1≠11 by decide)]at h)),(fun _ h11=>by rw[Eh]at h11;cases h11),(fun h=>hV.c3 (by rwa[Ab L (show 3≠11 by decide)]at h)),(fun _ h11=>by rw[Eh]at h11;cases h11),(fun h=>hV.c5 (by rwa[Ab L (show 5≠11 by decide)]at h)),(fun h=>hV.c6 (by rwa[Ab L (show 6≠11 by decide)]at h)),(fun _ h11=>by rw[Eh]at h11;cases h11),(fun h=>hV.c8 (by rwa[Ab L (show 8≠11 by decide)]at h)),(fun h=>hV.c9 (by rwa[Ab L (show 9≠11 by decide)]at h)),(fun _=>⟨b,rfl,hb,by rw[Eh,if_pos rfl];exact(ho.set 0 (.string (Aa (Fc.getD i [])))).set 1 (.int .i64 (Ey.getD (Ad raw a 4).1.toNat 0))⟩)⟩,rfl⟩
 ·intro L act wx hI hall
  obtain⟨z9,z34,z35,z36,z37,z38,z39,z40,z41,z42,z43,hV,rfl⟩:=hI;obtain⟨b,e1,e2,e3⟩:=hV.c10 (hall 10 (by decide));have hsrc:=hV.src;rw[if_pos (hall 6 (by decide))]at hsrc;rw[if_pos (hall 11 (by decide))]at e3;exact hM _ _ (Met.intro (hJ _ _ ⟨z9,z34,z35,z36,z37,z38,z39,z40,z41,z42,z43,⟨b,e1,e2,e3,hsrc,hV.fr⟩,rfl⟩))
theorem kH:∀j:Fin 3,(Bo Em)[j.val]? =some (.string (Aa (Em.getD j.val []))):=by
 intro j;match j with
 |⟨0,_⟩=>rfl
 |⟨1,_⟩=>rfl
 |⟨2,_⟩=>rfl
structure V18 (S i a:Nat)(raw:List Int)(W:World)(L:Nat→Bool)(z11 z69 z70 z71 z72 z73 z74 z75 z76 z77:Value)(wx:World):Prop where
 fr:SFr S W wx
 src:As wx S raw (if L 6=true then(Ad raw a 7).2 else a)
 ord:L 10=true→∀j,j<10→L j=true
 c0:L 0=true→L 10=false→∃b,z69=.slice (some ⟨b,0,none⟩) 3 3∧W.heap.size≤b∧Al wx b (Bo Em) 9
 c1:L 1=true→z70=.int .i64 (i:Int)
 c2:L 2=true→L 10=false→∃b,z71=.pointer (some ⟨b,i,none⟩)∧W.heap.size≤b∧Al wx b (Bo Em) 9
 c3:L 3=true→z72=.string (Aa (Em.getD i []))
 c4:L 4=true→L 10=false→∃b,z73=.slice (some ⟨b,0,none⟩) 6 6∧W.heap.size≤b∧Al wx b (Bo Gp) 9
 c5:L 5=true→z74=.pointer (some ⟨S,0,none⟩)
 c6:L 6=true→z75=.int .i64 (Ad raw a 7).1
 c7:L 7=true→L 10=false→∃b,z76=.slice (some ⟨b,0,none⟩) (Ad raw a 7).1.toNat 6∧W.heap.size≤b∧Al wx b (Bo Gp) 9
 c8:L 8=true→L 10=false→∃b,z77=.agg #[.string (Aa (Em.getD i [])),.slice (some ⟨b,0,none⟩) (Ad raw a 7).1.toNat 6,.slice none 0 0,.slice none 0 0]∧W.heap.size≤b∧Al wx b (Bo Gp) 9
 c9:L 9=true→L 10=false→∃b,z11=.pointer (some ⟨b,0,none⟩)∧W.heap.size≤b∧Al wx b [.string ⟨#[]⟩,.slice none 0 0,.slice none 0 0,.slice none 0 0] 47
 c10:L 10=true→∃b b6,z11=.pointer (some ⟨b,0,none⟩)∧W.heap.size≤b∧Al wx b [.string (Aa (Em.getD i [])),.slice (some ⟨b6,0,none⟩) (Ad raw a 7).1.toNat 6,.slice none 0 0,.slice none 0 0] 47∧W.heap.size≤b6∧Al wx b6 (Bo Gp) 9
def R18(S i a:Nat)(raw:List Int)(W:World)(q0 q1 q2 q3 q4 q6 q7 q8 q9 q12 q13 q14 q15 q16 q17 q18 q19 q20 q21 q22 q23 q24 q25 q26 q27 q28 q29 q30 q31 q32 q33 q34 q35 q36 q37 q38 q39 q40 q41 q42 q43 q44 q45 q46 q47 q48 q49 q50 q51 q52 q53 q54 q55 q56 q57 q58 q59 q60 q61 q62 q63 q64 q65 q66 q67 q68 q78 q79 q80 q81 q82 q83 q84 q85 q86 q87 q88 q89 q90 q91 q92 q93 q94 q95 q96 q97 q98 q99 q100 q101 q102 q103 q104 q105 q106 q107 q108 q109 q110 q111 q112 q113 q114 q115 q116 q117 q118 q119:Value)(a':Act)(w':World):Prop:=
 ∃z11 z69 z70 z71 z72 z73 z74 z75 z76 z77:Value,(∃b b6,z11=.pointer (some ⟨b,0,none⟩)∧W.heap.size≤b∧Al w' b [.string (Aa (Em.getD i [])),.slice (some ⟨b6,0,none⟩) (Ad raw a 7).1.toNat 6,.slice none 0 0,.slice none 0 0] 47∧W.heap.size≤b6∧Al w' b6 (Bo Gp) 9∧As w' S raw (Ad raw a 7).2∧SFr S W w')∧a'=⟨[q0,q1,q2,q3,q4,.pointer (some ⟨S,0,none⟩),q6,q7,q8,q9,.int .i64 (i:Int),z11,q12,q13,q14,q15,q16,q17,q18,q19,q20,q21,q22,q23,q24,q25,q26,q27,q28,q29,q30,q31,q32,q33,q34,q35,q36,q37,q38,q39,q40,q41,q42,q43,q44,q45,q46,q47,q48,q49,q50,q51,q52,q53,q54,q55,q56,q57,q58,q59,q60,q61,q62,q63,q64,q65,q66,q67,q68,z69,z70,z71,z72,z73,z74,z75,z76,z77,q78,q79,q80,q81,q82,q83,q84,q85,q86,q87,q88,q89,q90,q91,q92,q93,q94,q95,q96,q97,q98,q99,q100,q101,q102,q103,q104,q105,q106,q107,q108,q109,q110,q111,q112,q113,q114,q115,q116,q117,q118,q119].toArray,[]⟩
def I18(S i a:Nat)(raw:List Int)(W:World)(q0 q1 q2 q3 q4 q6 q7 q8 q9 q12 q13 q14 q15 q16 q17 q18 q19 q20 q21 q22 q23 q24 q25 q26 q27 q28 q29 q30 q31 q32 q33 q34 q35 q36 q37 q38 q39 q40 q41 q42 q43 q44 q45 q46 q47 q48 q49 q50 q51 q52 q53 q54 q55 q56 q57 q58 q59 q60 q61 q62 q63 q64 q65 q66 q67 q68 q78 q79 q80 q81 q82 q83 q84 q85 q86 q87 q88 q89 q90 q91 q92 q93 q94 q95 q96 q97 q98 q99 q100 q101 q102 q103 q104 q105 q106 q107 q108 q109 q110 q111 q112 q113 q114 q115 q116 q117 q118 q119:Value)(L:Nat→Bool)(a':Act)(w':World):Prop:=
 ∃z11 z69 z70 z71 z72 z73 z74 z75 z76 z77:Value,V18 S i a raw W L z11 z69 z70 z71 z72 z73 z74 z75 z76 z77 w'∧a'=⟨[q0,q1,q2,q3,q4,.pointer (some ⟨S,0,none⟩),q6,q7,q8,q9,.int .i64 (i:Int),z11,q12,q13,q14,q15,q16,q17,q18,q19,q20,q21,q22,q23,q24,q25,q26,q27,q28,q29,q30,q31,q32,q33,q34,q35,q36,q37,q38,q39,q40,q41,q42,q43,q44,q45,q46,q47,q48,q49,q50,q51,q52,q53,q54,q55,q56,q57,q58,q59,q60,q61,q62,q63,q64,q65,q66,q67,q68,z69,z70,z71,z72,z73,z74,z75,z76,z77,q78,q79,q80,q81,q82,q83,q84,q85,q86,q87,q88,q89,q90,q91,q92,q93,q94,q95,q96,q97,q98,q99,q100,q101,q102,q103,q104,q105,q106,q107,q108,q109,q110,q111,q112,q113,q114,q115,q116,q117,q118,q119].toArray,[]⟩
theorem iE(S i a:Nat)(raw:List Int)(W:World)(hs:As W S raw a)(hi:1≤i∧i≤2)(q0 q1 q2 q3 q4 q6 q7 q8 q9 q11 q12 q13 q14 q15 q16 q17 q18 q19 q20 q21 q22 q23 q24 q25 q26 q27 q28 q29 q30 q31 q32 q33 q34 q35 q36 q37 q38 q39 q40 q41 q42 q43 q44 q45 q46 q47 q48 q49 q50 q51 q52 q53 q54 q55 q56 q57 q58 q59 q60 q61 q62 q63 q64 q65 q66 q67 q68 q69 q70 q71 q72 q73 q74 q75 q76 q77 q78 q79 q80 q81 q82 q83 q84 q85 q86 q87 q88 q89 q90 q91 q92 q93 q94 q95 q96 q97 q98 q99 q100 q101 q102 q103 q104 q105 q106 q107 q108 q109 q110 q111 q112 q113 q114 q115 q116 q117 q118 q119:Value)(J K':Act→World→Prop)(hJ:∀a' w',R18 S i a raw W q0 q1 q2 q3 q4 q6 q7 q8 q9 q12 q13 q14 q15 q16 q17 q18 q19 q20 q21 q22 q23 q24 q25 q26 q27 q28 q29 q30 q31 q32 q33 q34 q35 q36 q37 q38 q39 q40 q41 q42 q43 q44 q45 q46 q47 q48 q49 q50 q51 q52 q53 q54 q55 q56 q57 q58 q59 q60 q61 q62 q63 q64 q65 q66 q67 q68 q78 q79 q80 q81 q82 q83 q84 q85 q86 q87 q88 q89 q90 q91 q92 q93 q94 q95 q96 q97 q98 q99 q100 q101 q102 q103 q104 q105 q106 q107 q108 q109 q110 q111 q112 q113 q114 q115 q116 q117 q118 q119 a' w'→J a' w')(hM:∀a' w',Met J a' w'→K' a' w'):
  Code.wp Tryz.prog (jW 18) (Exit.then K' (fun _ _ _=>False)) ⟨[q0,q1,q2,q3,q4,.pointer (some ⟨S,0,none⟩),q6,q7,q8,q9,.int .i64 (i:Int),q11,q12,q13,q14,q15,q16,q17,q18,q19,q20,q21,q22,q23,q24,q25,q26,q27,q28,q29,q30,q31,q32,q33,q34,q35,q36,q37,q38,q39,q40,q41,q42,q43,q44,q45,q46,q47,q48,q49,q50,q51,q52,q53,q54,q55,q56,q57,q58,q59,q60,q61,q62,q63,q64,q65,q66,q67,q68,q69,q70,q71,q72,q73,q74,q75,q76,q77,q78,q79,q80,q81,q82,q83,q84,q85,q86,q87,q88,q89,q90,q91,q92,q93,q94,q95,q96,q97,q98,q99,q100,q101,q102,q103,q104,q105,q106,q107,q108,q109,q110,q111,q112,q113,q114,q115,q116,q117,q118,q119].toArray,[]⟩ W:=by
 conv=>arg 2;whnf
 dsimp only;refine Ov (by kernel_rfl) (by kernel_rfl) (I18 S i a raw W q0 q1 q2 q3 q4 q6 q7 q8 q9 q12 q13 q14 q15 q16 q17 q18 q19 q20 q21 q22 q23 q24 q25 q26 q27 q28 q29 q30 q31 q32 q33 q34 q35 q36 q37 q38 q39 q40 q41 q42 q43 q44 q45 q46 q47 q48 q49 q50 q51 q52 q53 q54 q55 q56 q57 q58 q59 q60 q61 q62 q63 q64 q65 q66 q67 q68 q78 q79 q80 q81 q82 q83 q84 q85 q86 q87 q88 q89 q90 q91 q92 q93 q94 q95 q96 q97 q98 q99 q100 q101 q102 q103 q104 q105 q106 q107 q108 q109 q110 q111 q112 q113 q114 q115 q116 q117 q118 q119) ?_ ?_ ?_
 ·refine⟨q11,q69,q70,q71,q72,q73,q74,q75,q76,q77,⟨Zb (Zc _ _).drew,by rw[if_neg (by decide)];exact hs.old (Zc _ _).drew,fun h=>(by cases h),fun h=>(by cases h),fun h=>(by cases h),fun h=>(by cases h),fun h=>(by cases h),fun h=>(by cases h),fun h=>(by cases h),fun h=>(by cases h),fun h=>(by cases h),fun h=>(by cases h),fun h=>(by cases h),fun h=>(by cases h)⟩,rfl⟩
 ·intro L act wx k hI hk hl hd
  obtain⟨z11,z69,z70,z71,z72,z73,z74,z75,z76,z77,hV,rfl⟩:=hI;have hk:k=0∨k=1∨k=2∨k=3∨k=4∨k=5∨k=6∨k=7∨k=8∨k=9∨k=10:=by
   have:k<11:=hk;omega
  rcases hk with rfl|rfl|rfl|rfl|rfl|rfl|rfl|rfl|rfl|rfl|rfl
  ·have n11:L 10=false:=by
    cases h:L 10 with
    |false=>rfl
    |true=>have:=hV.ord h 0 (by decide);rw[hl]at this;cases this
   have hal:Below wx.heap.size wx (wx.alloc (.cells (Bo Em).toArray 9)):=bA;have keep:∀b cs T,W.heap.size≤b→Al wx b cs T→Al (wx.alloc (.cells (Bo Em).toArray 9)) b cs T:=fun b cs T _ h=>h.old hal
   have HV:=Za hV;have HD:=Za hd;have HL:=Za hl;refine En _ rfl rfl (fun K' hK=>?_)
   conv=>arg 2;whnf
   go_wp2_with fail
   exact⟨z11,.slice (some ⟨wx.heap.size,0,none⟩) 3 3,z70,z71,z72,z73,z74,z75,z76,z77,⟨hV.fr.trans (Zb hal),(by rw[Ab L (show 6≠0 by decide)];exact hV.src.old hal),(fun h j hj=>by rw[Ab L (show 10≠0 by decide)]at h;have:=hV.ord h 0 (by decide);rw[hl]at this;cases this),(fun _ _=>⟨wx.heap.size,rfl,hV.fr.size,Al.new wx (Bo Em) _⟩),(fun h=>hV.c1 (by rwa[Ab L (show 1≠0 by decide)]at h)),(fun h h11=>by obtain⟨b,e1,e2,e3⟩:=hV.c2 (by rwa[Ab L (show 2≠0 by decide)]at h) (by rwa[Ab L (show 10≠0 by decide)]at h11);exact⟨b,e1,e2,keep b _ _ e2 e3⟩),(fun h=>hV.c3 (by rwa[Ab L (show 3≠0 by decide)]at h)),(fun h h11=>by obtain⟨b,e1,e2,e3⟩:=hV.c4 (by rwa[Ab L (show 4≠0 by decide)]at h) (by rwa[Ab L (show 10≠0 by decide)]at h11);exact⟨b,e1,e2,keep b _ _ e2 e3⟩),(fun h=>hV.c5 (by rwa[Ab L (show 5≠0 by decide)]at h)),(fun h=>hV.c6 (by rwa[Ab L (show 6≠0 by decide)]at h)),(fun h h11=>by obtain⟨b,e1,e2,e3⟩:=hV.c7 (by rwa[Ab L (show 7≠0 by decide)]at h) (by rwa[Ab L (show 10≠0 by decide)]at h11);exact⟨b,e1,e2,keep b _ _ e2 e3⟩),(fun h h11=>by obtain⟨b,e1,e2,e3⟩:=hV.c8 (by rwa[Ab L (show 8≠0 by decide)]at h) (by rwa[Ab L (show 10≠0 by decide)]at h11);exact⟨b,e1,e2,keep b _ _ e2 e3⟩),(fun h h11=>by obtain⟨b,e1,e2,e3⟩:=hV.c9 (by rwa[Ab L (show 9≠0 by decide)]at h) (by rwa[Ab L (show 10≠0 by decide)]at h11);exact⟨b,e1,e2,keep b _ _ e2 e3⟩),(fun h=>by rw[Ab L (show 10≠0 by decide)]at h;have:=hV.ord h 0 (by decide);rw[hl]at this;cases this)⟩,rfl⟩
  ·have n11:L 10=false:=by
    cases h:L 10 with
    |false=>rfl
    |true=>have:=hV.ord h 1 (by decide);rw[hl]at this;cases this
   have HV:=Za hV;have HD:=Za hd;have HL:=Za hl;refine En _ rfl rfl (fun K' hK=>?_)
   conv=>arg 2;whnf
   go_wp2_with fail
   exact⟨z11,z69,.int .i64 (i:Int),z71,z72,z73,z74,z75,z76,z77,⟨hV.fr,(by rw[Ab L (show 6≠1 by decide)];exact hV.src),(fun h j hj=>by rw[Ab L (show 10≠1 by decide)]at h;have:=hV.ord h 1 (by decide);rw[hl]at this;cases this),(fun h h11=>by obtain⟨b,e1,e2,e3⟩:=hV.c0 (by rwa[Ab L (show 0≠1 by decide)]at h) (by rwa[Ab L (show 10≠1 by decide)]at h11);exact⟨b,e1,e2,e3⟩),(fun _=>rfl),(fun h h11=>by obtain⟨b,e1,e2,e3⟩:=hV.c2 (by rwa[Ab L (show 2≠1 by decide)]at h) (by rwa[Ab L (show 10≠1 by decide)]at h11);exact⟨b,e1,e2,e3⟩),(fun h=>hV.c3 (by rwa[Ab L (show 3≠1 by decide)]at h)),(fun h h11=>by obtain⟨b,e1,e2,e3⟩:=hV.c4 (by rwa[Ab L (show 4≠1 by decide)]at h) (by rwa[Ab L (show 10≠1 by decide)]at h11);exact⟨b,e1,e2,e3⟩),(fun h=>hV.c5 (by rwa[Ab L (show 5≠1 by decide)]at h)),(fun h=>hV.c6 (by rwa[Ab L (show 6≠1 by decide)]at h)),(fun h h11=>by obtain⟨b,e1,e2,e3⟩:=hV.c7 (by rwa[Ab L (show 7≠1 by decide)]at h) (by rwa[Ab L (show 10≠1 by decide)]at h11);exact⟨b,e1,e2,e3⟩),(fun h h11=>by obtain⟨b,e1,e2,e3⟩:=hV.c8 (by rwa[Ab L (show 8≠1 by decide)]at h) (by rwa[Ab L (show 10≠1 by decide)]at h11);exact⟨b,e1,e2,e3⟩),(fun h h11=>by obtain⟨b,e1,e2,e3⟩:=hV.c9 (by rwa[Ab L (show 9≠1 by decide)]at h) (by rwa[Ab L (show 10≠1 by decide)]at h11);exact⟨b,e1,e2,e3⟩),(fun h=>by rw[Ab L (show 10≠1 by decide)]at h;have:=hV.ord h 1 (by decide);rw[hl]at this;cases this)⟩,rfl⟩
  ·have n11:L 10=false:=by
    cases h:L 10 with
    |false=>rfl
    |true=>have:=hV.ord h 2 (by decide);rw[hl]at this;cases this
   have d0:L 0=true:=hd _ rfl ⟨0,.data⟩ (by simp) rfl;have d1:L 1=true:=hd _ rfl ⟨1,.data⟩ (by simp) rfl;obtain⟨b,rfl,hb,ho⟩:=hV.c0 d0 n11;obtain rfl:=hV.c1 d1;have hi3:(i:Int)<3:=by omega
   have HV:=Za hV;have HD:=Za hd;have HL:=Za hl;refine En _ rfl rfl (fun K' hK=>?_)
   conv=>arg 2;whnf
   go_wp2_with fail
   exact⟨z11,.slice (some ⟨b,0,none⟩) 3 3,.int .i64 (i:Int),.pointer (some ⟨b,i,none⟩),z72,z73,z74,z75,z76,z77,⟨hV.fr,(by rw[Ab L (show 6≠2 by decide)];exact hV.src),(fun h j hj=>by rw[Ab L (show 10≠2 by decide)]at h;have:=hV.ord h 2 (by decide);rw[hl]at this;cases this),(fun h h11=>by obtain⟨b,e1,e2,e3⟩:=hV.c0 (by rwa[Ab L (show 0≠2 by decide)]at h) (by rwa[Ab L (show 10≠2 by decide)]at h11);exact⟨b,e1,e2,e3⟩),(fun h=>hV.c1 (by rwa[Ab L (show 1≠2 by decide)]at h)),(fun _ _=>⟨b,rfl,hb,ho⟩),(fun h=>hV.c3 (by rwa[Ab L (show 3≠2 by decide)]at h)),(fun h h11=>by obtain⟨b,e1,e2,e3⟩:=hV.c4 (by rwa[Ab L (show 4≠2 by decide)]at h) (by rwa[Ab L (show 10≠2 by decide)]at h11);exact⟨b,e1,e2,e3⟩),(fun h=>hV.c5 (by rwa[Ab L (show 5≠2 by decide)]at h)),(fun h=>hV.c6 (by rwa[Ab L (show 6≠2 by decide)]at h)),(fun h h11=>by obtain⟨b,e1,e2,e3⟩:=hV.c7 (by rwa[Ab L (show 7≠2 by decide)]at h) (by rwa[Ab L (show 10≠2 by decide)]at h11);exact⟨b,e1,e2,e3⟩),(fun h h11=>by obtain⟨b,e1,e2,e3⟩:=hV.c8 (by rwa[Ab L (show 8≠2 by decide)]at h) (by rwa[Ab L (show 10≠2 by decide)]at h11);exact⟨b,e1,e2,e3⟩),(fun h h11=>by obtain⟨b,e1,e2,e3⟩:=hV.c9 (by rwa[Ab L (show 9≠2 by decide)]at h) (by rwa[Ab L (show 10≠2 by decide)]at h11);exact⟨b,e1,e2,e3⟩),(fun h=>by rw[Ab L (show 10≠2 by decide)]at h;have:=hV.ord h 2 (by decide);rw[hl]at this;cases this)⟩,rfl⟩
  ·have n11:L 10=false:=by
    cases h:L 10 with
    |false=>rfl
    |true=>have:=hV.ord h 3 (by decide);rw[hl]at this;cases this
   have d2:L 2=true:=hd _ rfl ⟨2,.data⟩ (by simp) rfl;obtain⟨b,rfl,hb,ho⟩:=hV.c2 d2 n11;have hx:=ho.at i _ (kH ⟨i,by omega⟩);have HV:=Za hV;have HD:=Za hd;have HL:=Za hl;refine En _ rfl rfl (fun K' hK=>?_)
   conv=>arg 2;whnf
   go_wp2_with fail
   exact⟨z11,z69,z70,.pointer (some ⟨b,i,none⟩),.string (Aa (Em.getD i [])),z73,z74,z75,z76,z77,⟨hV.fr,(by rw[Ab L (show 6≠3 by decide)];exact hV.src),(fun h j hj=>by rw[Ab L (show 10≠3 by decide)]at h;have:=hV.ord h 3 (by decide);rw[hl]at this;cases this),(fun h h11=>by obtain⟨b,e1,e2,e3⟩:=hV.c0 (by rwa[Ab L (show 0≠3 by decide)]at h) (by rwa[Ab L (show 10≠3 by decide)]at h11);exact⟨b,e1,e2,e3⟩),(fun h=>hV.c1 (by rwa[Ab L (show 1≠3 by decide)]at h)),(fun h h11=>by obtain⟨b,e1,e2,e3⟩:=hV.c2 (by rwa[Ab L (show 2≠3 by decide)]at h) (by rwa[Ab L (show 10≠3 by decide)]at h11);exact⟨b,e1,e2,e3⟩),(fun _=>rfl),(fun h h11=>by obtain⟨b,e1,e2,e3⟩:=hV.c4 (by rwa[Ab L (show 4≠3 by decide)]at h) (by rwa[Ab L (show 10≠3 by decide)]at h11);exact⟨b,e1,e2,e3⟩),(fun h=>hV.c5 (by rwa[Ab L (show 5≠3 by decide)]at h)),(fun h=>hV.c6 (by rwa[Ab L (show 6≠3 by decide)]at h)),(fun h h11=>by obtain⟨b,e1,e2,e3⟩:=hV.c7 (by rwa[Ab L (show 7≠3 by decide)]at h) (by rwa[Ab L (show 10≠3 by decide)]at h11);exact⟨b,e1,e2,e3⟩),(fun h h11=>by obtain⟨b,e1,e2,e3⟩:=hV.c8 (by rwa[Ab L (show 8≠3 by decide)]at h) (by rwa[Ab L (show 10≠3 by decide)]at h11);exact⟨b,e1,e2,e3⟩),(fun h h11=>by obtain⟨b,e1,e2,e3⟩:=hV.c9 (by rwa[Ab L (show 9≠3 by decide)]at h) (by rwa[Ab L (show 10≠3 by decide)]at h11);exact⟨b,e1,e2,e3⟩),(fun h=>by rw[Ab L (show 10≠3 by decide)]at h;have:=hV.ord h 3 (by decide);rw[hl]at this;cases this)⟩,rfl⟩
  ·have n11:L 10=false:=by
    cases h:L 10 with
    |false=>rfl
    |true=>have:=hV.ord h 4 (by decide);rw[hl]at this;cases this
   have hal:Below wx.heap.size wx (wx.alloc (.cells (Bo Gp).toArray 9)):=bA;have keep:∀b cs T,W.heap.size≤b→Al wx b cs T→Al (wx.alloc (.cells (Bo Gp).toArray 9)) b cs T:=fun b cs T _ h=>h.old hal
   have HV:=Za hV;have HD:=Za hd;have HL:=Za hl;refine En _ rfl rfl (fun K' hK=>?_)
   conv=>arg 2;whnf
   go_wp2_with fail
   exact⟨z11,z69,z70,z71,z72,.slice (some ⟨wx.heap.size,0,none⟩) 6 6,z74,z75,z76,z77,⟨hV.fr.trans (Zb hal),(by rw[Ab L (show 6≠4 by decide)];exact hV.src.old hal),(fun h j hj=>by rw[Ab L (show 10≠4 by decide)]at h;have:=hV.ord h 4 (by decide);rw[hl]at this;cases this),(fun h h11=>by obtain⟨b,e1,e2,e3⟩:=hV.c0 (by rwa[Ab L (show 0≠4 by decide)]at h) (by rwa[Ab L (show 10≠4 by decide)]at h11);exact⟨b,e1,e2,keep b _ _ e2 e3⟩),(fun h=>hV.c1 (by rwa[Ab L (show 1≠4 by decide)]at h)),(fun h h11=>by obtain⟨b,e1,e2,e3⟩:=hV.c2 (by rwa[Ab L (show 2≠4 by decide)]at h) (by rwa[Ab L (show 10≠4 by decide)]at h11);exact⟨b,e1,e2,keep b _ _ e2 e3⟩),(fun h=>hV.c3 (by rwa[Ab L (show 3≠4 by decide)]at h)),(fun _ _=>⟨wx.heap.size,rfl,hV.fr.size,Al.new wx (Bo Gp) _⟩),(fun h=>hV.c5 (by rwa[Ab L (show 5≠4 by decide)]at h)),(fun h=>hV.c6 (by rwa[Ab L (show 6≠4 by decide)]at h)),(fun h h11=>by obtain⟨b,e1,e2,e3⟩:=hV.c7 (by rwa[Ab L (show 7≠4 by decide)]at h) (by rwa[Ab L (show 10≠4 by decide)]at h11);exact⟨b,e1,e2,keep b _ _ e2 e3⟩),(fun h h11=>by obtain⟨b,e1,e2,e3⟩:=hV.c8 (by rwa[Ab L (show 8≠4 by decide)]at h) (by rwa[Ab L (show 10≠4 by decide)]at h11);exact⟨b,e1,e2,keep b _ _ e2 e3⟩),(fun h h11=>by obtain⟨b,e1,e2,e3⟩:=hV.c9 (by rwa[Ab L (show 9≠4 by decide)]at h) (by rwa[Ab L (show 10≠4 by decide)]at h11);exact⟨b,e1,e2,keep b _ _ e2 e3⟩),(fun h=>by rw[Ab L (show 10≠4 by decide)]at h;have:=hV.ord h 4 (by decide);rw[hl]at this;cases this)⟩,rfl⟩
  ·have n11:L 10=false:=by
    cases h:L 10 with
    |false=>rfl
    |true=>have:=hV.ord h 5 (by decide);rw[hl]at this;cases this
   have HV:=Za hV;have HD:=Za hd;have HL:=Za hl;refine En _ rfl rfl (fun K' hK=>?_)
   conv=>arg 2;whnf
   go_wp2_with fail
   exact⟨z11,z69,z70,z71,z72,z73,.pointer (some ⟨S,0,none⟩),z75,z76,z77,⟨hV.fr,(by rw[Ab L (show 6≠5 by decide)];exact hV.src),(fun h j hj=>by rw[Ab L (show 10≠5 by decide)]at h;have:=hV.ord h 5 (by decide);rw[hl]at this;cases this),(fun h h11=>by obtain⟨b,e1,e2,e3⟩:=hV.c0 (by rwa[Ab L (show 0≠5 by decide)]at h) (by rwa[Ab L (show 10≠5 by decide)]at h11);exact⟨b,e1,e2,e3⟩),(fun h=>hV.c1 (by rwa[Ab L (show 1≠5 by decide)]at h)),(fun h h11=>by obtain⟨b,e1,e2,e3⟩:=hV.c2 (by rwa[Ab L (show 2≠5 by decide)]at h) (by rwa[Ab L (show 10≠5 by decide)]at h11);exact⟨b,e1,e2,e3⟩),(fun h=>hV.c3 (by rwa[Ab L (show 3≠5 by decide)]at h)),(fun h h11=>by obtain⟨b,e1,e2,e3⟩:=hV.c4 (by rwa[Ab L (show 4≠5 by decide)]at h) (by rwa[Ab L (show 10≠5 by decide)]at h11);exact⟨b,e1,e2,e3⟩),(fun _=>rfl),(fun h=>hV.c6 (by rwa[Ab L (show 6≠5 by decide)]at h)),(fun h h11=>by obtain⟨b,e1,e2,e3⟩:=hV.c7 (by rwa[Ab L (show 7≠5 by decide)]at h) (by rwa[Ab L (show 10≠5 by decide)]at h11);exact⟨b,e1,e2,e3⟩),(fun h h11=>by obtain⟨b,e1,e2,e3⟩:=hV.c8 (by rwa[Ab L (show 8≠5 by decide)]at h) (by rwa[Ab L (show 10≠5 by decide)]at h11);exact⟨b,e1,e2,e3⟩),(fun h h11=>by obtain⟨b,e1,e2,e3⟩:=hV.c9 (by rwa[Ab L (show 9≠5 by decide)]at h) (by rwa[Ab L (show 10≠5 by decide)]at h11);exact⟨b,e1,e2,e3⟩),(fun h=>by rw[Ab L (show 10≠5 by decide)]at h;have:=hV.ord h 5 (by decide);rw[hl]at this;cases this)⟩,rfl⟩
  ·have n11:L 10=false:=by
    cases h:L 10 with
    |false=>rfl
    |true=>have:=hV.ord h 6 (by decide);rw[hl]at this;cases this
   have d5:L 5=true:=hd _ rfl ⟨5,.data⟩ (by simp) rfl;obtain rfl:=hV.c5 d5;have hsrc:=hV.src;rw[if_neg (by rw[hl];decide)]at hsrc;have hsS:=hs.lt;have HV:=Za hV;have HD:=Za hd;have HL:=Za hl;refine En _ rfl rfl (fun K' hK=>?_)
   conv=>arg 2;whnf
   go_wp2_with fail
   refine(Bn S raw a 7 wx hsrc (by decide) (by decide)).mono ?_;rintro r w2 ⟨rfl,hs2,hf2⟩;have keep:∀b cs T,W.heap.size≤b→Al wx b cs T→Al w2 b cs T:=fun b cs T hb h=>h.sfr hf2 (by omega)
   go_wp2_with fail
   exact⟨z11,z69,z70,z71,z72,z73,.pointer (some ⟨S,0,none⟩),.int .i64 (Ad raw a 7).1,z76,z77,⟨hV.fr.trans hf2,(by rw[Eh,if_pos rfl];exact hs2),(fun h j hj=>by rw[Ab L (show 10≠6 by decide)]at h;have:=hV.ord h 6 (by decide);rw[hl]at this;cases this),(fun h h11=>by obtain⟨b,e1,e2,e3⟩:=hV.c0 (by rwa[Ab L (show 0≠6 by decide)]at h) (by rwa[Ab L (show 10≠6 by decide)]at h11);exact⟨b,e1,e2,keep b _ _ e2 e3⟩),(fun h=>hV.c1 (by rwa[Ab L (show 1≠6 by decide)]at h)),(fun h h11=>by obtain⟨b,e1,e2,e3⟩:=hV.c2 (by rwa[Ab L (show 2≠6 by decide)]at h) (by rwa[Ab L (show 10≠6 by decide)]at h11);exact⟨b,e1,e2,keep b _ _ e2 e3⟩),(fun h=>hV.c3 (by rwa[Ab L (show 3≠6 by decide)]at h)),(fun h h11=>by obtain⟨b,e1,e2,e3⟩:=hV.c4 (by rwa[Ab L (show 4≠6 by decide)]at h) (by rwa[Ab L (show 10≠6 by decide)]at h11);exact⟨b,e1,e2,keep b _ _ e2 e3⟩),(fun h=>hV.c5 (by rwa[Ab L (show 5≠6 by decide)]at h)),(fun _=>rfl),(fun h h11=>by obtain⟨b,e1,e2,e3⟩:=hV.c7 (by rwa[Ab L (show 7≠6 by decide)]at h) (by rwa[Ab L (show 10≠6 by decide)]at h11);exact⟨b,e1,e2,keep b _ _ e2 e3⟩),(fun h h11=>by obtain⟨b,e1,e2,e3⟩:=hV.c8 (by rwa[Ab L (show 8≠6 by decide)]at h) (by rwa[Ab L (show 10≠6 by decide)]at h11);exact⟨b,e1,e2,keep b _ _ e2 e3⟩),(fun h h11=>by obtain⟨b,e1,e2,e3⟩:=hV.c9 (by rwa[Ab L (show 9≠6 by decide)]at h) (by rwa[Ab L (show 10≠6 by decide)]at h11);exact⟨b,e1,e2,keep b _ _ e2 e3⟩),(fun h=>by rw[Ab L (show 10≠6 by decide)]at h;have:=hV.ord h 6 (by decide);rw[hl]at this;cases this)⟩,rfl⟩
  ·have n11:L 10=false:=by
    cases h:L 10 with
    |false=>rfl
    |true=>have:=hV.ord h 7 (by decide);rw[hl]at this;cases this
   have d4:L 4=true:=hd _ rfl ⟨4,.data⟩ (by simp) rfl;have d6:L 6=true:=hd _ rfl ⟨6,.data⟩ (by simp) rfl;obtain⟨b,rfl,hb,ho⟩:=hV.c4 d4 n11;obtain rfl:=hV.c6 d6;have hr:=Ak raw a 7 (by decide);obtain⟨g0,g1⟩:=hr;have HV:=Za hV;have HD:=Za hd;have HL:=Za hl;refine En _ rfl rfl (fun K' hK=>?_)
   conv=>arg 2;whnf
   go_wp2_with fail
   exact⟨z11,z69,z70,z71,z72,.slice (some ⟨b,0,none⟩) 6 6,z74,.int .i64 (Ad raw a 7).1,.slice (some ⟨b,0,none⟩) (Ad raw a 7).1.toNat 6,z77,⟨hV.fr,(by rw[Ab L (show 6≠7 by decide)];exact hV.src),(fun h j hj=>by rw[Ab L (show 10≠7 by decide)]at h;have:=hV.ord h 7 (by decide);rw[hl]at this;cases this),(fun h h11=>by obtain⟨b,e1,e2,e3⟩:=hV.c0 (by rwa[Ab L (show 0≠7 by decide)]at h) (by rwa[Ab L (show 10≠7 by decide)]at h11);exact⟨b,e1,e2,e3⟩),(fun h=>hV.c1 (by rwa[Ab L (show 1≠7 by decide)]at h)),(fun h h11=>by obtain⟨b,e1,e2,e3⟩:=hV.c2 (by rwa[Ab L (show 2≠7 by decide)]at h) (by rwa[Ab L (show 10≠7 by decide)]at h11);exact⟨b,e1,e2,e3⟩),(fun h=>hV.c3 (by rwa[Ab L (show 3≠7 by decide)]at h)),(fun h h11=>by obtain⟨b,e1,e2,e3⟩:=hV.c4 (by rwa[Ab L (show 4≠7 by decide)]at h) (by rwa[Ab L (show 10≠7 by decide)]at h11);exact⟨b,e1,e2,e3⟩),(fun h=>hV.c5 (by rwa[Ab L (show 5≠7 by decide)]at h)),(fun h=>hV.c6 (by rwa[Ab L (show 6≠7 by decide)]at h)),(fun _ _=>⟨b,rfl,hb,ho⟩),(fun h h11=>by obtain⟨b,e1,e2,e3⟩:=hV.c8 (by rwa[Ab L (show 8≠7 by decide)]at h) (by rwa[Ab L (show 10≠7 by decide)]at h11);exact⟨b,e1,e2,e3⟩),(fun h h11=>by obtain⟨b,e1,e2,e3⟩:=hV.c9 (by rwa[Ab L (show 9≠7 by decide)]at h) (by rwa[Ab L (show 10≠7 by decide)]at h11);exact⟨b,e1,e2,e3⟩),(fun h=>by rw[Ab L (show 10≠7 by decide)]at h;have:=hV.ord h 7 (by decide);rw[hl]at this;cases this)⟩,rfl⟩
  ·have n11:L 10=false:=by
    cases h:L 10 with
    |false=>rfl
    |true=>have:=hV.ord h 8 (by decide);rw[hl]at this;cases this
   have d3:L 3=true:=hd _ rfl ⟨3,.data⟩ (by simp) rfl;have d7:L 7=true:=hd _ rfl ⟨7,.data⟩ (by simp) rfl;obtain rfl:=hV.c3 d3;obtain⟨b,rfl,hb,ho⟩:=hV.c7 d7 n11;have HV:=Za hV;have HD:=Za hd;have HL:=Za hl;refine En _ rfl rfl (fun K' hK=>?_)
   conv=>arg 2;whnf
   go_wp2_with fail
   exact⟨z11,z69,z70,z71,.string (Aa (Em.getD i [])),z73,z74,z75,.slice (some ⟨b,0,none⟩) (Ad raw a 7).1.toNat 6,.agg #[.string (Aa (Em.getD i [])),.slice (some ⟨b,0,none⟩) (Ad raw a 7).1.toNat 6,.slice none 0 0,.slice none 0 0],⟨hV.fr,(by rw[Ab L (show 6≠8 by decide)];exact hV.src),(fun h j hj=>by rw[Ab L (show 10≠8 by decide)]at h;have:=hV.ord h 8 (by decide);rw[hl]at this;cases this),(fun h h11=>by obtain⟨b,e1,e2,e3⟩:=hV.c0 (by rwa[Ab L (show 0≠8 by decide)]at h) (by rwa[Ab L (show 10≠8 by decide)]at h11);exact⟨b,e1,e2,e3⟩),(fun h=>hV.c1 (by rwa[Ab L (show 1≠8 by decide)]at h)),(fun h h11=>by obtain⟨b,e1,e2,e3⟩:=hV.c2 (by rwa[Ab L (show 2≠8 by decide)]at h) (by rwa[Ab L (show 10≠8 by decide)]at h11);exact⟨b,e1,e2,e3⟩),(fun h=>hV.c3 (by rwa[Ab L (show 3≠8 by decide)]at h)),(fun h h11=>by obtain⟨b,e1,e2,e3⟩:=hV.c4 (by rwa[Ab L (show 4≠8 by decide)]at h) (by rwa[Ab L (show 10≠8 by decide)]at h11);exact⟨b,e1,e2,e3⟩),(fun h=>hV.c5 (by rwa[Ab L (show 5≠8 by decide)]at h)),(fun h=>hV.c6 (by rwa[Ab L (show 6≠8 by decide)]at h)),(fun h h11=>by obtain⟨b,e1,e2,e3⟩:=hV.c7 (by rwa[Ab L (show 7≠8 by decide)]at h) (by rwa[Ab L (show 10≠8 by decide)]at h11);exact⟨b,e1,e2,e3⟩),(fun _ _=>⟨b,rfl,hb,ho⟩),(fun h h11=>by obtain⟨b,e1,e2,e3⟩:=hV.c9 (by rwa[Ab L (show 9≠8 by decide)]at h) (by rwa[Ab L (show 10≠8 by decide)]at h11);exact⟨b,e1,e2,e3⟩),(fun h=>by rw[Ab L (show 10≠8 by decide)]at h;have:=hV.ord h 8 (by decide);rw[hl]at this;cases this)⟩,rfl⟩
  ·have n11:L 10=false:=by
    cases h:L 10 with
    |false=>rfl
    |true=>have:=hV.ord h 9 (by decide);rw[hl]at this;cases this
   have hal:Below wx.heap.size wx (wx.alloc (.cells #[.string ⟨#[]⟩,.slice none 0 0,.slice none 0 0,.slice none 0 0] 47)):=bA;have keep:∀b cs T,W.heap.size≤b→Al wx b cs T→Al (wx.alloc (.cells #[.string ⟨#[]⟩,.slice none 0 0,.slice none 0 0,.slice none 0 0] 47)) b cs T:=fun b cs T _ h=>h.old hal
   have HV:=Za hV;have HD:=Za hd;have HL:=Za hl;refine En _ rfl rfl (fun K' hK=>?_)
   conv=>arg 2;whnf
   go_wp2_with fail
   exact⟨.pointer (some ⟨wx.heap.size,0,none⟩),z69,z70,z71,z72,z73,z74,z75,z76,z77,⟨hV.fr.trans (Zb hal),(by rw[Ab L (show 6≠9 by decide)];exact hV.src.old hal),(fun h j hj=>by rw[Ab L (show 10≠9 by decide)]at h;have:=hV.ord h 9 (by decide);rw[hl]at this;cases this),(fun h h11=>by obtain⟨b,e1,e2,e3⟩:=hV.c0 (by rwa[Ab L (show 0≠9 by decide)]at h) (by rwa[Ab L (show 10≠9 by decide)]at h11);exact⟨b,e1,e2,keep b _ _ e2 e3⟩),(fun h=>hV.c1 (by rwa[Ab L (show 1≠9 by decide)]at h)),(fun h h11=>by obtain⟨b,e1,e2,e3⟩:=hV.c2 (by rwa[Ab L (show 2≠9 by decide)]at h) (by rwa[Ab L (show 10≠9 by decide)]at h11);exact⟨b,e1,e2,keep b _ _ e2 e3⟩),(fun h=>hV.c3 (by rwa[Ab L (show 3≠9 by decide)]at h)),(fun h h11=>by obtain⟨b,e1,e2,e3⟩:=hV.c4 (by rwa[Ab L (show 4≠9 by decide)]at h) (by rwa[Ab L (show 10≠9 by decide)]at h11);exact⟨b,e1,e2,keep b _ _ e2 e3⟩),(fun h=>hV.c5 (by rwa[Ab L (show 5≠9 by decide)]at h)),(fun h=>hV.c6 (by rwa[Ab L (show 6≠9 by decide)]at h)),(fun h h11=>by obtain⟨b,e1,e2,e3⟩:=hV.c7 (by rwa[Ab L (show 7≠9 by decide)]at h) (by rwa[Ab L (show 10≠9 by decide)]at h11);exact⟨b,e1,e2,keep b _ _ e2 e3⟩),(fun h h11=>by obtain⟨b,e1,e2,e3⟩:=hV.c8 (by rwa[Ab L (show 8≠9 by decide)]at h) (by rwa[Ab L (show 10≠9 by decide)]at h11);exact⟨b,e1,e2,keep b _ _ e2 e3⟩),(fun _ _=>⟨wx.heap.size,rfl,hV.fr.size,Al.new wx [.string ⟨#[]⟩,.slice none 0 0,.slice none 0 0,.slice none 0 0] _⟩),(fun h=>by rw[Ab L (show 10≠9 by decide)]at h;have:=hV.ord h 9 (by decide);rw[hl]at this;cases this)⟩,rfl⟩
  ·have n11:=hl
   have d9:L 9=true:=hd _ rfl ⟨9,.data⟩ (by simp) rfl;have d8:L 8=true:=hd _ rfl ⟨8,.data⟩ (by simp) rfl;obtain⟨b,rfl,hb,ho⟩:=hV.c9 d9 n11;obtain⟨b6,rfl,hb6,ho6⟩:=hV.c8 d8 n11;have hbb:b6≠b:=by
    rintro rfl;have e:=ho.symm.trans ho6;simp at e
   have before:∀j,j<10→L j=true:=fun j hj=>by
    have hj:j=0∨j=1∨j=2∨j=3∨j=4∨j=5∨j=6∨j=7∨j=8∨j=9:=by omega
    rcases hj with rfl|rfl|rfl|rfl|rfl|rfl|rfl|rfl|rfl|rfl
    ·exact hd _ rfl ⟨0,.phase⟩ (by simp) rfl
    ·exact hd _ rfl ⟨1,.phase⟩ (by simp) rfl
    ·exact hd _ rfl ⟨2,.phase⟩ (by simp) rfl
    ·exact hd _ rfl ⟨3,.phase⟩ (by simp) rfl
    ·exact hd _ rfl ⟨4,.phase⟩ (by simp) rfl
    ·exact hd _ rfl ⟨5,.phase⟩ (by simp) rfl
    ·exact hd _ rfl ⟨6,.phase⟩ (by simp) rfl
    ·exact hd _ rfl ⟨7,.phase⟩ (by simp) rfl
    ·exact hd _ rfl ⟨8,.phase⟩ (by simp) rfl
    ·exact hd _ rfl ⟨9,.phase⟩ (by simp) rfl
   have hx0:=ho.at 0 _ rfl;have fx0:=ho.fz 0;have hx1:=ho.at 1 _ rfl;have fx1:=ho.fz 1;have hx2:=ho.at 2 _ rfl;have fx2:=ho.fz 2;have hx3:=ho.at 3 _ rfl;have fx3:=ho.fz 3;have hbl:=ho.lt;have hsS:=hs.lt;have hSb:S<b:=by omega
   have HV:=Za hV;have HD:=Za hd;have HL:=Za hl;refine En _ rfl rfl (fun K' hK=>?_)
   conv=>arg 2;whnf
   go_wp2_with fail
   exact⟨.pointer (some ⟨b,0,none⟩),z69,z70,z71,z72,z73,z74,z75,z76,.agg #[.string (Aa (Em.getD i [])),.slice (some ⟨b6,0,none⟩) (Ad raw a 7).1.toNat 6,.slice none 0 0,.slice none 0 0],⟨(((hV.fr.setNew hb 0 (.string (Aa (Em.getD i [])))).setNew hb 1 (.slice (some ⟨b6,0,none⟩) (Ad raw a 7).1.toNat 6)).setNew hb 2 (.slice none 0 0)).setNew hb 3 (.slice none 0 0),(by rw[Ab L (show 6≠10 by decide)];exact(((hV.src.other hSb 0 (.string (Aa (Em.getD i [])))).other hSb 1 (.slice (some ⟨b6,0,none⟩) (Ad raw a 7).1.toNat 6)).other hSb 2 (.slice none 0 0)).other hSb 3 (.slice none 0 0)),(fun _ j hj=>by rw[Ab L (show j≠10 by omega)];exact before j hj),(fun _ h11=>by rw[Eh]at h11;cases h11),(fun h=>hV.c1 (by rwa[Ab L (show 1≠10 by decide)]at h)),(fun _ h11=>by rw[Eh]at h11;cases h11),(fun h=>hV.c3 (by rwa[Ab L (show 3≠10 by decide)]at h)),(fun _ h11=>by rw[Eh]at h11;cases h11),(fun h=>hV.c5 (by rwa[Ab L (show 5≠10 by decide)]at h)),(fun h=>hV.c6 (by rwa[Ab L (show 6≠10 by decide)]at h)),(fun _ h11=>by rw[Eh]at h11;cases h11),(fun _ h11=>by rw[Eh]at h11;cases h11),(fun _ h11=>by rw[Eh]at h11;cases h11),(fun _=>⟨b,b6,rfl,hb,(((ho.set 0 (.string (Aa (Em.getD i [])))).set 1 (.slice (some ⟨b6,0,none⟩) (Ad raw a 7).1.toNat 6)).set 2 (.slice none 0 0)).set 3 (.slice none 0 0),hb6,(((ho6.other hbb 0 (.string (Aa (Em.getD i [])))).other hbb 1 (.slice (some ⟨b6,0,none⟩) (Ad raw a 7).1.toNat 6)).other hbb 2 (.slice none 0 0)).other hbb 3 (.slice none 0 0)⟩)⟩,rfl⟩
 ·intro L act wx hI hall
  obtain⟨z11,z69,z70,z71,z72,z73,z74,z75,z76,z77,hV,rfl⟩:=hI;obtain⟨b,b6,e1,e2,e3,e4,e5⟩:=hV.c10 (hall 10 (by decide));have hsrc:=hV.src;rw[if_pos (hall 6 (by decide))]at hsrc;exact hM _ _ (Met.intro (hJ _ _ ⟨z11,z69,z70,z71,z72,z73,z74,z75,z76,z77,⟨b,b6,e1,e2,e3,e4,e5,hsrc,hV.fr⟩,rfl⟩))
theorem Yg(l:List Bs):∀u,u∈Bo l→u.oneCell'=true:=by
 intro u hu;obtain⟨x,_,rfl⟩:=List.mem_map.1 hu;rfl
theorem Sd(l:List Bs):(Bo l).length=l.length:=List.length_map _
theorem Qd(w:World)(base:Nat)(ty:TypeId)(v:Value)(n:Nat)(xs:List Value)(hown:w.ownsRow base 9 1 v n xs){D:Nat→Prop}(l:List Bs)(sv:Value)(hs:Ay D w l sv)(hn:n+l.length≤1000)(hbase:base≤w.heap.size):
  ∃v' w',(Builtin.append_ #[44,44] ty #[v,sv]).run Tryz.prog w=.ok v' w'∧w'.ownsRow base 9 1 v' (n+l.length) (xs++Bo l)∧w.grownBy w' v.ownBlock∧(v'.ownBlock=v.ownBlock∨v'.ownBlock=some w.heap.size):=by
 obtain⟨i0,hi0,hz0,hz1,hz2⟩:=info_parts infoStr;obtain⟨a,cap,b,off,rfl,h1,h2,h3,h4⟩:=hs
 cases a with
 |none=>
  have h0:l=[]:=by
   rcases h3 with h3|h3
   ·exact List.length_eq_zero_iff.1 h3
   ·cases h3.1
  subst h0;refine⟨v,w,?_,by simpa [Bo]using hown,World.grownBy.refl w _,.inl rfl⟩;rcases hown.2 with⟨rfl,rfl⟩|⟨g,c,cur,rfl,_,_,hnc,_⟩
  ·simp [Builtin.append_,run_underlying underlying44,sizeOf,typeInfo,hi0,Builtin.lenOf,Builtin.firstCells]
  ·simp [Builtin.append_,run_underlying underlying44,sizeOf,typeInfo,hi0,Builtin.lenOf,Builtin.firstCells,hnc,storeCells]
 |some ad=>
  have hc:∀j u,(Bo l)[j]? =some u→w.cell? (ad.add j)=some u:=by
   intro j u hu;have hj:j<l.length:=by
    rcases Nat.lt_or_ge j l.length with h|h
    ·exact h
    ·rw[List.getElem?_eq_none (by rw[Sd];exact h)]at hu;cases hu
   rcases h3 with h3|⟨h3,_⟩
   ·omega
   ·cases h3
    have e:(Bo l)[j]? =some (.string (Aa (l.getD j []))):=by
     unfold Bo;rw[List.getElem?_map,Zd hj,List.getD_eq_getElem?_getD,Zd hj];rfl
    rw[e]at hu
    cases hu
    have h5:(⟨b,off,none⟩:Addr).add j=⟨b,off+j,none⟩:=by unfold Addr.add;split<;>simp_all
    rw[h5];exact h4 j hj
  obtain⟨v',w',hr,h5,h6,_,h7⟩:=run_append_own_at (P:=Tryz.prog) w base 44 ty 9 i0 _ 1 16 underlying44 hi0 hz0 hz1 hz2 rfl (by decide) v n xs hown ad l.length cap (Bo l) (by rw[Sd,Nat.mul_one]) hc (Yg l) (by unfold maxLen;omega) (by omega) hbase;exact⟨v',w',hr,h5,h6,h7⟩
theorem Jd {o:Oper}{a:Act}{w:World}{K:Act→World→Prop}{Q:Exit→Act→World→Prop}(s x:Operand)(ho:o.op=.call {callee:=.builtin .append,args:= #[s,x],argTypes:= #[44,44]})
  (base:Nat) (v:Value) (n:Nat) (xs:List Value) (hs:a.eval s=v) (hown:w.ownsRow base 9 1 v n xs) {D:Nat→Prop} (l:List Bs) (sv:Value) (hx:a.eval x=sv) (hl:Ay D w l sv) (hn:n+l.length≤1000) (hbase:base≤w.heap.size)
  (h:∀v' w',w'.ownsRow base 9 1 v' (n+l.length) (xs++Bo l)→w.grownBy w' v.ownBlock→(v'.ownBlock=v.ownBlock∨v'.ownBlock=some w.heap.size)→K (a.put o.dst v') w'):o.wp Tryz.prog a w K Q:=by
 obtain⟨v',w',hr,h1,h2,h3⟩:=Qd w base o.type v n xs hown l sv hl hn hbase;unfold Oper.wp execOp;simp only[ho,resolve,invoke,builtin,Sem.run_bind,Sem.run_pure,Result.andThen_ok,List.map_toArray,List.map_cons,List.map_nil,hs,hx,hr];exact h v' w' h1 h2 h3
theorem eE {w:World}{base size n:Nat}{e:TypeId}{v:Value}{xs:List Value}(h:w.ownsRow base e size v n xs):∃a k c,v=.slice a k c:=by
 rcases h.2 with⟨rfl,_⟩|⟨g,cap,cur,rfl,_⟩
 ·exact⟨_,_,_,rfl⟩
 ·exact⟨_,_,_,rfl⟩
theorem kJ {w:World}{base:Nat}{v:Value}(l:List Bs)(h:w.ownsRow base 9 1 v l.length (Bo l))(hf:Ci l.length):Ay (base≤ ·) w l v:=by
 have h0:=h;rcases h.2 with⟨rfl,hz⟩|⟨g,cap,cur,rfl,hb,hg,hc,hm,hs,ht⟩
 ·have:l=[]:=List.length_eq_zero_iff.1 hz
  subst this;exact Ay.zero
 ·refine⟨_,cap,g,0,rfl,hc,hf,.inr ⟨rfl,hb⟩,fun i hi=>?_⟩
  refine Es h0 i _ ?_;unfold Bo;rw[List.getElem?_map,Zd hi,List.getD_eq_getElem?_getD,Zd hi];rfl
structure V26 (f n:Nat)(nm:Bs)(ps ls:List Bs)(pv lv bd x1 x2 x3 x4:Value)(W:World)(L:Nat→Bool)(z102 z103 z104 z105 z106 z107 z108:Value)(wx:World):Prop where
 fr:SFr n W wx
 ord:L 7=true→∀j,j<7→L j=true
 own:Al wx n (if L 7=true then [z107,x1,x2,x3,x4]else [.slice none 0 0,x1,x2,x3,x4]) 62
 c0:L 0=true→z102=.pointer (some ⟨f,1,none⟩)
 c1:L 1=true→z103=pv
 c2:L 2=true→L 5=false→wx.ownsRow W.heap.size 9 1 z104 ps.length (Bo ps)
 c3:L 3=true→z105=.pointer (some ⟨f,2,none⟩)
 c4:L 4=true→z106=lv
 c5:L 5=true→wx.ownsRow W.heap.size 9 1 z107 (ps++ls).length (Bo (ps++ls))
 c6:L 6=true→z108=.pointer (some ⟨n,0,none⟩)
 c25:L 5=true→¬L 2=false
def R26(f n:Nat)(nm:Bs)(ps ls:List Bs)(pv lv bd x1 x2 x3 x4:Value)(W:World)(q0 q1 q2 q3 q4 q5 q6 q7 q8 q9 q10 q11 q12 q15 q16 q17 q18 q19 q20 q21 q22 q23 q24 q25 q26 q27 q28 q29 q30 q31 q32 q33 q34 q35 q36 q37 q38 q39 q40 q41 q42 q43 q44 q45 q46 q47 q48 q49 q50 q51 q52 q53 q54 q55 q56 q57 q58 q59 q60 q61 q62 q63 q64 q65 q66 q67 q68 q69 q70 q71 q72 q73 q74 q75 q76 q77 q78 q79 q80 q81 q82 q83 q84 q85 q86 q87 q88 q89 q90 q91 q92 q93 q94 q95 q96 q97 q98 q99 q100 q101 q109 q110 q111 q112 q113 q114 q115 q116 q117 q118 q119:Value)(a':Act)(w':World):Prop:=
 ∃z102 z103 z104 z105 z106 z107 z108:Value,(∃v,Al w' n [v,x1,x2,x3,x4] 62∧Ay (W.heap.size≤ ·) w' (ps++ls) v∧SFr n W w')∧a'=⟨[q0,q1,q2,q3,q4,q5,q6,q7,q8,q9,q10,q11,q12,.pointer (some ⟨f,0,none⟩),.pointer (some ⟨n,0,none⟩),q15,q16,q17,q18,q19,q20,q21,q22,q23,q24,q25,q26,q27,q28,q29,q30,q31,q32,q33,q34,q35,q36,q37,q38,q39,q40,q41,q42,q43,q44,q45,q46,q47,q48,q49,q50,q51,q52,q53,q54,q55,q56,q57,q58,q59,q60,q61,q62,q63,q64,q65,q66,q67,q68,q69,q70,q71,q72,q73,q74,q75,q76,q77,q78,q79,q80,q81,q82,q83,q84,q85,q86,q87,q88,q89,q90,q91,q92,q93,q94,q95,q96,q97,q98,q99,q100,q101,z102,z103,z104,z105,z106,z107,z108,q109,q110,q111,q112,q113,q114,q115,q116,q117,q118,q119].toArray,[]⟩
def I26(f n:Nat)(nm:Bs)(ps ls:List Bs)(pv lv bd x1 x2 x3 x4:Value)(W:World)(q0 q1 q2 q3 q4 q5 q6 q7 q8 q9 q10 q11 q12 q15 q16 q17 q18 q19 q20 q21 q22 q23 q24 q25 q26 q27 q28 q29 q30 q31 q32 q33 q34 q35 q36 q37 q38 q39 q40 q41 q42 q43 q44 q45 q46 q47 q48 q49 q50 q51 q52 q53 q54 q55 q56 q57 q58 q59 q60 q61 q62 q63 q64 q65 q66 q67 q68 q69 q70 q71 q72 q73 q74 q75 q76 q77 q78 q79 q80 q81 q82 q83 q84 q85 q86 q87 q88 q89 q90 q91 q92 q93 q94 q95 q96 q97 q98 q99 q100 q101 q109 q110 q111 q112 q113 q114 q115 q116 q117 q118 q119:Value)(L:Nat→Bool)(a':Act)(w':World):Prop:=
 ∃z102 z103 z104 z105 z106 z107 z108:Value,V26 f n nm ps ls pv lv bd x1 x2 x3 x4 W L z102 z103 z104 z105 z106 z107 z108 w'∧a'=⟨[q0,q1,q2,q3,q4,q5,q6,q7,q8,q9,q10,q11,q12,.pointer (some ⟨f,0,none⟩),.pointer (some ⟨n,0,none⟩),q15,q16,q17,q18,q19,q20,q21,q22,q23,q24,q25,q26,q27,q28,q29,q30,q31,q32,q33,q34,q35,q36,q37,q38,q39,q40,q41,q42,q43,q44,q45,q46,q47,q48,q49,q50,q51,q52,q53,q54,q55,q56,q57,q58,q59,q60,q61,q62,q63,q64,q65,q66,q67,q68,q69,q70,q71,q72,q73,q74,q75,q76,q77,q78,q79,q80,q81,q82,q83,q84,q85,q86,q87,q88,q89,q90,q91,q92,q93,q94,q95,q96,q97,q98,q99,q100,q101,z102,z103,z104,z105,z106,z107,z108,q109,q110,q111,q112,q113,q114,q115,q116,q117,q118,q119].toArray,[]⟩
theorem jJ(f n:Nat)(nm:Bs)(ps ls:List Bs)(pv lv bd x1 x2 x3 x4:Value)(W:World)(hf:Al W f [.string (Aa nm),pv,lv,bd] 47)(hn:Al W n [.slice none 0 0,x1,x2,x3,x4] 62)(hfn:f≠n)(hps:Ay (· ≠n) W ps pv)(hls:Ay (· ≠n) W ls lv)(hlen:ps.length+ls.length≤1000)(q0 q1 q2 q3 q4 q5 q6 q7 q8 q9 q10 q11 q12 q15 q16 q17 q18 q19 q20 q21 q22 q23 q24 q25 q26 q27 q28 q29 q30 q31 q32 q33 q34 q35 q36 q37 q38 q39 q40 q41 q42 q43 q44 q45 q46 q47 q48 q49 q50 q51 q52 q53 q54 q55 q56 q57 q58 q59 q60 q61 q62 q63 q64 q65 q66 q67 q68 q69 q70 q71 q72 q73 q74 q75 q76 q77 q78 q79 q80 q81 q82 q83 q84 q85 q86 q87 q88 q89 q90 q91 q92 q93 q94 q95 q96 q97 q98 q99 q100 q101 q102 q103 q104 q105 q106 q107 q108 q109 q110 q111 q112 q113 q114 q115 q116 q117 q118 q119:Value)(J K':Act→World→Prop)(hJ:∀a' w',R26 f n nm ps ls pv lv bd x1 x2 x3 x4 W q0 q1 q2 q3 q4 q5 q6 q7 q8 q9 q10 q11 q12 q15 q16 q17 q18 q19 q20 q21 q22 q23 q24 q25 q26 q27 q28 q29 q30 q31 q32 q33 q34 q35 q36 q37 q38 q39 q40 q41 q42 q43 q44 q45 q46 q47 q48 q49 q50 q51 q52 q53 q54 q55 q56 q57 q58 q59 q60 q61 q62 q63 q64 q65 q66 q67 q68 q69 q70 q71 q72 q73 q74 q75 q76 q77 q78 q79 q80 q81 q82 q83 q84 q85 q86 q87 q88 q89 q90 q91 q92 q93 q94 q95 q96 q97 q98 q99 q100 q101 q109 q110 q111 q112 q113 q114 q115 q116 q117 q118 q119 a' w'→J a' w')(hM:∀a' w',Met J a' w'→K' a' w'):
  Code.wp Tryz.prog (jW 26) (Exit.then K' (fun _ _ _=>False)) ⟨[q0,q1,q2,q3,q4,q5,q6,q7,q8,q9,q10,q11,q12,.pointer (some ⟨f,0,none⟩),.pointer (some ⟨n,0,none⟩),q15,q16,q17,q18,q19,q20,q21,q22,q23,q24,q25,q26,q27,q28,q29,q30,q31,q32,q33,q34,q35,q36,q37,q38,q39,q40,q41,q42,q43,q44,q45,q46,q47,q48,q49,q50,q51,q52,q53,q54,q55,q56,q57,q58,q59,q60,q61,q62,q63,q64,q65,q66,q67,q68,q69,q70,q71,q72,q73,q74,q75,q76,q77,q78,q79,q80,q81,q82,q83,q84,q85,q86,q87,q88,q89,q90,q91,q92,q93,q94,q95,q96,q97,q98,q99,q100,q101,q102,q103,q104,q105,q106,q107,q108,q109,q110,q111,q112,q113,q114,q115,q116,q117,q118,q119].toArray,[]⟩ W:=by
 have hnl:=hn.lt
 conv=>arg 2;whnf
 dsimp only;refine Ov (by kernel_rfl) (by kernel_rfl) (I26 f n nm ps ls pv lv bd x1 x2 x3 x4 W q0 q1 q2 q3 q4 q5 q6 q7 q8 q9 q10 q11 q12 q15 q16 q17 q18 q19 q20 q21 q22 q23 q24 q25 q26 q27 q28 q29 q30 q31 q32 q33 q34 q35 q36 q37 q38 q39 q40 q41 q42 q43 q44 q45 q46 q47 q48 q49 q50 q51 q52 q53 q54 q55 q56 q57 q58 q59 q60 q61 q62 q63 q64 q65 q66 q67 q68 q69 q70 q71 q72 q73 q74 q75 q76 q77 q78 q79 q80 q81 q82 q83 q84 q85 q86 q87 q88 q89 q90 q91 q92 q93 q94 q95 q96 q97 q98 q99 q100 q101 q109 q110 q111 q112 q113 q114 q115 q116 q117 q118 q119) ?_ ?_ ?_
 ·exact⟨q102,q103,q104,q105,q106,q107,q108,⟨Zb (Zc _ _).drew,fun h=>(by cases h),by rw[if_neg (by decide)];exact hn.old (Zc _ _).drew,fun h=>(by cases h),fun h=>(by cases h),fun h=>(by cases h),fun h=>(by cases h),fun h=>(by cases h),fun h=>(by cases h),fun h=>(by cases h),fun h=>(by cases h)⟩,rfl⟩
 ·intro L act wx k hI hk hl hd
  obtain⟨z102,z103,z104,z105,z106,z107,z108,hV,rfl⟩:=hI;have hk:k=0∨k=1∨k=2∨k=3∨k=4∨k=5∨k=6∨k=7:=by
   have:k<8:=hk;omega
  rcases hk with rfl|rfl|rfl|rfl|rfl|rfl|rfl|rfl
  ·have n7:L 7=false:=by
    cases h:L 7 with
    |false=>rfl
    |true=>have:=hV.ord h 0 (by decide);rw[hl]at this;cases this
   have hown:=hV.own;rw[n7,if_neg (by decide)]at hown;have HV:=Za hV;have HD:=Za hd;have HL:=Za hl;refine En _ rfl rfl (fun K' hK=>?_)
   conv=>arg 2;whnf
   go_wp2_with fail
   exact⟨.pointer (some ⟨f,1,none⟩),z103,z104,z105,z106,z107,z108,⟨hV.fr,(fun h j hj=>by rw[Ab L (show 7≠0 by decide)]at h;have:=hV.ord h 0 (by decide);rw[hl]at this;cases this),(by rw[Ab L (show 7≠0 by decide),n7];exact hown),(fun _=>rfl),(fun h=>hV.c1 (by rwa[Ab L (show 1≠0 by decide)]at h)),(fun h h5=>hV.c2 (by rwa[Ab L (show 2≠0 by decide)]at h) (by rwa[Ab L (show 5≠0 by decide)]at h5)),(fun h=>hV.c3 (by rwa[Ab L (show 3≠0 by decide)]at h)),(fun h=>hV.c4 (by rwa[Ab L (show 4≠0 by decide)]at h)),(fun h=>hV.c5 (by rwa[Ab L (show 5≠0 by decide)]at h)),(fun h=>hV.c6 (by rwa[Ab L (show 6≠0 by decide)]at h)),(fun h=>by rw[Ab L (show 2≠0 by decide)];exact hV.c25 (by rwa[Ab L (show 5≠0 by decide)]at h))⟩,rfl⟩
  ·have n7:L 7=false:=by
    cases h:L 7 with
    |false=>rfl
    |true=>have:=hV.ord h 1 (by decide);rw[hl]at this;cases this
   have d0:L 0=true:=hd _ rfl ⟨0,.data⟩ (by simp) rfl;have hown:=hV.own;rw[n7,if_neg (by decide)]at hown;obtain rfl:=hV.c0 d0;have hfo:=hf.sfr hV.fr hfn;have f1:=hfo.at 1 _ rfl;have f2:=hfo.at 2 _ rfl;have HV:=Za hV;have HD:=Za hd;have HL:=Za hl;refine En _ rfl rfl (fun K' hK=>?_)
   conv=>arg 2;whnf
   go_wp2_with fail
   exact⟨.pointer (some ⟨f,1,none⟩),pv,z104,z105,z106,z107,z108,⟨hV.fr,(fun h j hj=>by rw[Ab L (show 7≠1 by decide)]at h;have:=hV.ord h 1 (by decide);rw[hl]at this;cases this),(by rw[Ab L (show 7≠1 by decide),n7];exact hown),(fun h=>hV.c0 (by rwa[Ab L (show 0≠1 by decide)]at h)),(fun _=>rfl),(fun h h5=>hV.c2 (by rwa[Ab L (show 2≠1 by decide)]at h) (by rwa[Ab L (show 5≠1 by decide)]at h5)),(fun h=>hV.c3 (by rwa[Ab L (show 3≠1 by decide)]at h)),(fun h=>hV.c4 (by rwa[Ab L (show 4≠1 by decide)]at h)),(fun h=>hV.c5 (by rwa[Ab L (show 5≠1 by decide)]at h)),(fun h=>hV.c6 (by rwa[Ab L (show 6≠1 by decide)]at h)),(fun h=>by rw[Ab L (show 2≠1 by decide)];exact hV.c25 (by rwa[Ab L (show 5≠1 by decide)]at h))⟩,rfl⟩
  ·have n7:L 7=false:=by
    cases h:L 7 with
    |false=>rfl
    |true=>have:=hV.ord h 2 (by decide);rw[hl]at this;cases this
   have d1:L 1=true:=hd _ rfl ⟨1,.data⟩ (by simp) rfl;have hown:=hV.own;rw[n7,if_neg (by decide)]at hown;obtain rfl:=hV.c1 d1;have n5:L 5=false:=by
    cases h:L 5 with
    |false=>rfl
    |true=>exact absurd (hV.c25 h) (by rw[hl];decide)
   have hp2:=hps.keep hV.fr.keeps;have HV:=Za hV;have HD:=Za hd;have HL:=Za hl;refine En _ rfl rfl (fun K' hK=>?_)
   conv=>arg 2;whnf
   refine Jd _ _ rfl W.heap.size (.slice none 0 0) 0 [] rfl ⟨rfl,.inl ⟨rfl,rfl⟩⟩ ps z103 rfl hp2 (by omega) hV.fr.size ?_;intro v2 w2 hr2 hg2 ha2;rw[Nat.zero_add,List.nil_append]at hr2;have hf2:SFr n wx w2:=⟨hg2.os,hg2.tape,hg2.output,hg2.size,fun j hj _=>hg2.block j hj (by simp [Value.ownBlock])⟩;have ho2:Al w2 n _ _:=hown.low (hg2.block n hown.lt (by simp [Value.ownBlock]));go_wp2_with fail
   exact⟨z102,z103,v2,z105,z106,z107,z108,⟨hV.fr.trans hf2,(fun h j hj=>by rw[Ab L (show 7≠2 by decide)]at h;have:=hV.ord h 2 (by decide);rw[hl]at this;cases this),(by rw[Ab L (show 7≠2 by decide),n7];exact ho2),(fun h=>hV.c0 (by rwa[Ab L (show 0≠2 by decide)]at h)),(fun h=>hV.c1 (by rwa[Ab L (show 1≠2 by decide)]at h)),(fun _ _=>hr2),(fun h=>hV.c3 (by rwa[Ab L (show 3≠2 by decide)]at h)),(fun h=>hV.c4 (by rwa[Ab L (show 4≠2 by decide)]at h)),(fun h=>by rw[Ab L (show 5≠2 by decide),n5]at h;cases h),(fun h=>hV.c6 (by rwa[Ab L (show 6≠2 by decide)]at h)),(fun _=>by rw[Eh];decide)⟩,rfl⟩
  ·have n7:L 7=false:=by
    cases h:L 7 with
    |false=>rfl
    |true=>have:=hV.ord h 3 (by decide);rw[hl]at this;cases this
   have hown:=hV.own;rw[n7,if_neg (by decide)]at hown;have HV:=Za hV;have HD:=Za hd;have HL:=Za hl;refine En _ rfl rfl (fun K' hK=>?_)
   conv=>arg 2;whnf
   go_wp2_with fail
   exact⟨z102,z103,z104,.pointer (some ⟨f,2,none⟩),z106,z107,z108,⟨hV.fr,(fun h j hj=>by rw[Ab L (show 7≠3 by decide)]at h;have:=hV.ord h 3 (by decide);rw[hl]at this;cases this),(by rw[Ab L (show 7≠3 by decide),n7];exact hown),(fun h=>hV.c0 (by rwa[Ab L (show 0≠3 by decide)]at h)),(fun h=>hV.c1 (by rwa[Ab L (show 1≠3 by decide)]at h)),(fun h h5=>hV.c2 (by rwa[Ab L (show 2≠3 by decide)]at h) (by rwa[Ab L (show 5≠3 by decide)]at h5)),(fun _=>rfl),(fun h=>hV.c4 (by rwa[Ab L (show 4≠3 by decide)]at h)),(fun h=>hV.c5 (by rwa[Ab L (show 5≠3 by decide)]at h)),(fun h=>hV.c6 (by rwa[Ab L (show 6≠3 by decide)]at h)),(fun h=>by rw[Ab L (show 2≠3 by decide)];exact hV.c25 (by rwa[Ab L (show 5≠3 by decide)]at h))⟩,rfl⟩
  ·have n7:L 7=false:=by
    cases h:L 7 with
    |false=>rfl
    |true=>have:=hV.ord h 4 (by decide);rw[hl]at this;cases this
   have d3:L 3=true:=hd _ rfl ⟨3,.data⟩ (by simp) rfl;have hown:=hV.own;rw[n7,if_neg (by decide)]at hown;obtain rfl:=hV.c3 d3;have hfo:=hf.sfr hV.fr hfn;have f1:=hfo.at 1 _ rfl;have f2:=hfo.at 2 _ rfl;have HV:=Za hV;have HD:=Za hd;have HL:=Za hl;refine En _ rfl rfl (fun K' hK=>?_)
   conv=>arg 2;whnf
   go_wp2_with fail
   exact⟨z102,z103,z104,.pointer (some ⟨f,2,none⟩),lv,z107,z108,⟨hV.fr,(fun h j hj=>by rw[Ab L (show 7≠4 by decide)]at h;have:=hV.ord h 4 (by decide);rw[hl]at this;cases this),(by rw[Ab L (show 7≠4 by decide),n7];exact hown),(fun h=>hV.c0 (by rwa[Ab L (show 0≠4 by decide)]at h)),(fun h=>hV.c1 (by rwa[Ab L (show 1≠4 by decide)]at h)),(fun h h5=>hV.c2 (by rwa[Ab L (show 2≠4 by decide)]at h) (by rwa[Ab L (show 5≠4 by decide)]at h5)),(fun h=>hV.c3 (by rwa[Ab L (show 3≠4 by decide)]at h)),(fun _=>rfl),(fun h=>hV.c5 (by rwa[Ab L (show 5≠4 by decide)]at h)),(fun h=>hV.c6 (by rwa[Ab L (show 6≠4 by decide)]at h)),(fun h=>by rw[Ab L (show 2≠4 by decide)];exact hV.c25 (by rwa[Ab L (show 5≠4 by decide)]at h))⟩,rfl⟩
  ·have n7:L 7=false:=by
    cases h:L 7 with
    |false=>rfl
    |true=>have:=hV.ord h 5 (by decide);rw[hl]at this;cases this
   have d2:L 2=true:=hd _ rfl ⟨2,.data⟩ (by simp) rfl;have d4:L 4=true:=hd _ rfl ⟨4,.data⟩ (by simp) rfl;have hown:=hV.own;rw[n7,if_neg (by decide)]at hown;obtain rfl:=hV.c4 d4;have hr1:=hV.c2 d2 hl;have hl2:=hls.keep hV.fr.keeps;have hge:∀k,z104.ownBlock=some k→W.heap.size≤k:=fun k e=>(World.ownsRow.lt hr1 k e).1
   have HV:=Za hV;have HD:=Za hd;have HL:=Za hl;refine En _ rfl rfl (fun K' hK=>?_)
   conv=>arg 2;whnf
   refine Jd _ _ rfl W.heap.size z104 ps.length (Bo ps) rfl hr1 ls z106 rfl hl2 (by omega) hV.fr.size ?_;intro v2 w2 hr2 hg2 ha2;have hf2:SFr n W w2:=hV.fr.grow hg2 hge;have ho2:Al w2 n _ _:=hown.low (hg2.block n hown.lt (fun e=>by have:=hge n e.symm;omega));go_wp2_with fail
   exact⟨z102,z103,z104,z105,z106,v2,z108,⟨hf2,(fun h j hj=>by rw[Ab L (show 7≠5 by decide)]at h;have:=hV.ord h 5 (by decide);rw[hl]at this;cases this),(by rw[Ab L (show 7≠5 by decide),n7];exact ho2),(fun h=>hV.c0 (by rwa[Ab L (show 0≠5 by decide)]at h)),(fun h=>hV.c1 (by rwa[Ab L (show 1≠5 by decide)]at h)),(fun _ h5=>by rw[Eh]at h5;cases h5),(fun h=>hV.c3 (by rwa[Ab L (show 3≠5 by decide)]at h)),(fun h=>hV.c4 (by rwa[Ab L (show 4≠5 by decide)]at h)),(fun _=>by rw[List.length_append,show Bo (ps++ls)=Bo ps++Bo ls from List.map_append];exact hr2),(fun h=>hV.c6 (by rwa[Ab L (show 6≠5 by decide)]at h)),(fun _=>by rw[Ab L (show 2≠5 by decide),d2];decide)⟩,rfl⟩
  ·have n7:L 7=false:=by
    cases h:L 7 with
    |false=>rfl
    |true=>have:=hV.ord h 6 (by decide);rw[hl]at this;cases this
   have hown:=hV.own;rw[n7,if_neg (by decide)]at hown;have HV:=Za hV;have HD:=Za hd;have HL:=Za hl;refine En _ rfl rfl (fun K' hK=>?_)
   conv=>arg 2;whnf
   go_wp2_with fail
   exact⟨z102,z103,z104,z105,z106,z107,.pointer (some ⟨n,0,none⟩),⟨hV.fr,(fun h j hj=>by rw[Ab L (show 7≠6 by decide)]at h;have:=hV.ord h 6 (by decide);rw[hl]at this;cases this),(by rw[Ab L (show 7≠6 by decide),n7];exact hown),(fun h=>hV.c0 (by rwa[Ab L (show 0≠6 by decide)]at h)),(fun h=>hV.c1 (by rwa[Ab L (show 1≠6 by decide)]at h)),(fun h h5=>hV.c2 (by rwa[Ab L (show 2≠6 by decide)]at h) (by rwa[Ab L (show 5≠6 by decide)]at h5)),(fun h=>hV.c3 (by rwa[Ab L (show 3≠6 by decide)]at h)),(fun h=>hV.c4 (by rwa[Ab L (show 4≠6 by decide)]at h)),(fun h=>hV.c5 (by rwa[Ab L (show 5≠6 by decide)]at h)),(fun _=>rfl),(fun h=>by rw[Ab L (show 2≠6 by decide)];exact hV.c25 (by rwa[Ab L (show 5≠6 by decide)]at h))⟩,rfl⟩
  ·have n7:=hl
   have d6:L 6=true:=hd _ rfl ⟨6,.data⟩ (by simp) rfl;have d5:L 5=true:=hd _ rfl ⟨5,.data⟩ (by simp) rfl;have hown:=hV.own;rw[n7,if_neg (by decide)]at hown;obtain rfl:=hV.c6 d6;have hr5:=hV.c5 d5;obtain⟨ra,rk,rc,rfl⟩:=eE hr5;have before:∀j,j<7→L j=true:=fun j hj=>by
    have hj:j=0∨j=1∨j=2∨j=3∨j=4∨j=5∨j=6:=by omega
    rcases hj with rfl|rfl|rfl|rfl|rfl|rfl|rfl
    ·exact hd _ rfl ⟨0,.phase⟩ (by simp) rfl
    ·exact hd _ rfl ⟨1,.phase⟩ (by simp) rfl
    ·exact hd _ rfl ⟨2,.phase⟩ (by simp) rfl
    ·exact hd _ rfl ⟨3,.phase⟩ (by simp) rfl
    ·exact hd _ rfl ⟨4,.phase⟩ (by simp) rfl
    ·exact hd _ rfl ⟨5,.data⟩ (by simp) rfl
    ·exact hd _ rfl ⟨6,.data⟩ (by simp) rfl
   have hx0:=hown.at 0 _ rfl;have fx0:=hown.fz 0;have hnx:=hown.lt;have hfs:SFr n W (wx.setCell ⟨n,0,none⟩ (.slice ra rk rc)):=hV.fr.trans ⟨rfl,rfl,rfl,by simp [World.setCell],fun k hk hs=>Below.heap_setCell _ _ _ _ hs⟩;have hk5:(wx.setCell ⟨n,0,none⟩ (.slice ra rk rc)).ownsRow W.heap.size 9 1 (.slice ra rk rc) (ps++ls).length (Bo (ps++ls)):=Bz hr5 (D:=(W.heap.size≤ ·)) (fun k e=>(World.ownsRow.lt hr5 k e).1) (Ax.set wx (by show ¬W.heap.size≤n;omega) 0 (.slice ra rk rc));have HV:=Za hV;have HD:=Za hd;have HL:=Za hl;refine En _ rfl rfl (fun K' hK=>?_)
   conv=>arg 2;whnf
   go_wp2_with fail
   exact⟨z102,z103,z104,z105,z106,.slice ra rk rc,.pointer (some ⟨n,0,none⟩),⟨hfs,(fun _ j hj=>by rw[Ab L (show j≠7 by omega)];exact before j hj),(by rw[Eh,if_pos rfl];exact hown.set 0 (.slice ra rk rc)),(fun h=>hV.c0 (by rwa[Ab L (show 0≠7 by decide)]at h)),(fun h=>hV.c1 (by rwa[Ab L (show 1≠7 by decide)]at h)),(fun _ h5=>by rw[Ab L (show 5≠7 by decide),d5]at h5;cases h5),(fun h=>hV.c3 (by rwa[Ab L (show 3≠7 by decide)]at h)),(fun h=>hV.c4 (by rwa[Ab L (show 4≠7 by decide)]at h)),(fun _=>hk5),(fun h=>hV.c6 (by rwa[Ab L (show 6≠7 by decide)]at h)),(fun h=>by rw[Ab L (show 2≠7 by decide)];exact hV.c25 (by rwa[Ab L (show 5≠7 by decide)]at h))⟩,rfl⟩
 ·intro L act wx hI hall
  obtain⟨z102,z103,z104,z105,z106,z107,z108,hV,rfl⟩:=hI;have h1:=hV.own;rw[if_pos (hall 7 (by decide))]at h1;exact hM _ _ (Met.intro (hJ _ _ ⟨z102,z103,z104,z105,z106,z107,z108,⟨z107,h1,kJ _ (hV.c5 (hall 5 (by decide))) (by show _≤_;rw[List.length_append];omega),hV.fr⟩,rfl⟩))
end Go.Proofs.YtfhbinbjkpfedaaGreatDoor
