/-
  Prog: a function's name and params, in whatever order.
-/
import Derived.Test.YtcfpfnoldgnloaaGreatDoorBk22
import Derived.Maps.AppendAt
set_option linter.unusedVariables false
set_option linter.unusedSimpArgs false
namespace Go.Proofs.YtcfpfnoldgnloaaGreatDoor
open Go.RowKit
set_option maxHeartbeats 20000000
set_option maxRecDepth 100000
open Go.Lib renaming hid→Za
open Below renaming refl→Zb
open SFr renaming of_below→Zc
open List renaming getElem?_eq_getElem→Zd
theorem zY:∀j:Fin 3,(bT dP)[j.val]? =some (.string (aB (dP.getD j.val []))):=by
 intro j;match j with
 |⟨0,_⟩=>rfl
 |⟨1,_⟩=>rfl
 |⟨2,_⟩=>rfl
structure V18 (S i a:Nat)(raw:List Int)(W:World)(L:Nat→Bool)(z11 z69 z70 z71 z72 z73 z74 z75 z76 z77:Value)(wx:World):Prop where
 fr:SFr S W wx
 src:aZ wx S raw (if L 6=true then(aC raw a 7).2 else a)
 ord:L 10=true→∀j,j<10→L j=true
 c0:L 0=true→L 10=false→∃b,z69= .slice (some ⟨b,0,none⟩) 3 3∧W.heap.size≤b∧aG wx b (bT dP) 9
 c1:L 1=true→z70= .int .i64 (i:Int)
 c2:L 2=true→L 10=false→∃b,z71= .pointer (some ⟨b,i,none⟩)∧W.heap.size≤b∧aG wx b (bT dP) 9
 c3:L 3=true→z72= .string (aB (dP.getD i []))
 c4:L 4=true→L 10=false→∃b,z73= .slice (some ⟨b,0,none⟩) 6 6∧W.heap.size≤b∧aG wx b (bT eZ) 9
 c5:L 5=true→z74= .pointer (some ⟨S,0,none⟩)
 c6:L 6=true→z75= .int .i64 (aC raw a 7).1
 c7:L 7=true→L 10=false→∃b,z76= .slice (some ⟨b,0,none⟩) (aC raw a 7).1.toNat 6∧W.heap.size≤b∧aG wx b (bT eZ) 9
 c8:L 8=true→L 10=false→∃b,z77= .agg #[.string (aB (dP.getD i [])),.slice (some ⟨b,0,none⟩) (aC raw a 7).1.toNat 6,.slice none 0 0,.slice none 0 0]∧W.heap.size≤b∧aG wx b (bT eZ) 9
 c9:L 9=true→L 10=false→∃b,z11= .pointer (some ⟨b,0,none⟩)∧W.heap.size≤b∧aG wx b [.string ⟨#[]⟩,.slice none 0 0,.slice none 0 0,.slice none 0 0] 58
 c10:L 10=true→∃b b6,z11= .pointer (some ⟨b,0,none⟩)∧W.heap.size≤b∧aG wx b [.string (aB (dP.getD i [])),.slice (some ⟨b6,0,none⟩) (aC raw a 7).1.toNat 6,.slice none 0 0,.slice none 0 0] 58∧W.heap.size≤b6∧aG wx b6 (bT eZ) 9
def R18(S i a:Nat)(raw:List Int)(W:World)(q0 q1 q2 q3 q4 q6 q7 q8 q9 q12 q13 q14 q15 q16 q17 q18 q19 q20 q21 q22 q23 q24 q25 q26 q27 q28 q29 q30 q31 q32 q33 q34 q35 q36 q37 q38 q39 q40 q41 q42 q43 q44 q45 q46 q47 q48 q49 q50 q51 q52 q53 q54 q55 q56 q57 q58 q59 q60 q61 q62 q63 q64 q65 q66 q67 q68 q78 q79 q80 q81 q82 q83 q84 q85 q86 q87 q88 q89 q90 q91 q92 q93 q94 q95 q96 q97 q98 q99 q100 q101 q102 q103 q104 q105 q106 q107 q108 q109 q110 q111 q112 q113 q114 q115 q116 q117 q118 q119:Value)(a':Act)(w':World):Prop:=
 ∃z11 z69 z70 z71 z72 z73 z74 z75 z76 z77:Value,(∃b b6,z11= .pointer (some ⟨b,0,none⟩)∧W.heap.size≤b∧aG w' b [.string (aB (dP.getD i [])),.slice (some ⟨b6,0,none⟩) (aC raw a 7).1.toNat 6,.slice none 0 0,.slice none 0 0] 58∧W.heap.size≤b6∧aG w' b6 (bT eZ) 9∧aZ w' S raw (aC raw a 7).2∧SFr S W w')∧a'=⟨[q0,q1,q2,q3,q4,.pointer (some ⟨S,0,none⟩),q6,q7,q8,q9,.int .i64 (i:Int),z11,q12,q13,q14,q15,q16,q17,q18,q19,q20,q21,q22,q23,q24,q25,q26,q27,q28,q29,q30,q31,q32,q33,q34,q35,q36,q37,q38,q39,q40,q41,q42,q43,q44,q45,q46,q47,q48,q49,q50,q51,q52,q53,q54,q55,q56,q57,q58,q59,q60,q61,q62,q63,q64,q65,q66,q67,q68,z69,z70,z71,z72,z73,z74,z75,z76,z77,q78,q79,q80,q81,q82,q83,q84,q85,q86,q87,q88,q89,q90,q91,q92,q93,q94,q95,q96,q97,q98,q99,q100,q101,q102,q103,q104,q105,q106,q107,q108,q109,q110,q111,q112,q113,q114,q115,q116,q117,q118,q119].toArray,[]⟩
def I18(S i a:Nat)(raw:List Int)(W:World)(q0 q1 q2 q3 q4 q6 q7 q8 q9 q12 q13 q14 q15 q16 q17 q18 q19 q20 q21 q22 q23 q24 q25 q26 q27 q28 q29 q30 q31 q32 q33 q34 q35 q36 q37 q38 q39 q40 q41 q42 q43 q44 q45 q46 q47 q48 q49 q50 q51 q52 q53 q54 q55 q56 q57 q58 q59 q60 q61 q62 q63 q64 q65 q66 q67 q68 q78 q79 q80 q81 q82 q83 q84 q85 q86 q87 q88 q89 q90 q91 q92 q93 q94 q95 q96 q97 q98 q99 q100 q101 q102 q103 q104 q105 q106 q107 q108 q109 q110 q111 q112 q113 q114 q115 q116 q117 q118 q119:Value)(L:Nat→Bool)(a':Act)(w':World):Prop:=
 ∃z11 z69 z70 z71 z72 z73 z74 z75 z76 z77:Value,V18 S i a raw W L z11 z69 z70 z71 z72 z73 z74 z75 z76 z77 w'∧a'=⟨[q0,q1,q2,q3,q4,.pointer (some ⟨S,0,none⟩),q6,q7,q8,q9,.int .i64 (i:Int),z11,q12,q13,q14,q15,q16,q17,q18,q19,q20,q21,q22,q23,q24,q25,q26,q27,q28,q29,q30,q31,q32,q33,q34,q35,q36,q37,q38,q39,q40,q41,q42,q43,q44,q45,q46,q47,q48,q49,q50,q51,q52,q53,q54,q55,q56,q57,q58,q59,q60,q61,q62,q63,q64,q65,q66,q67,q68,z69,z70,z71,z72,z73,z74,z75,z76,z77,q78,q79,q80,q81,q82,q83,q84,q85,q86,q87,q88,q89,q90,q91,q92,q93,q94,q95,q96,q97,q98,q99,q100,q101,q102,q103,q104,q105,q106,q107,q108,q109,q110,q111,q112,q113,q114,q115,q116,q117,q118,q119].toArray,[]⟩
theorem yp(S i a:Nat)(raw:List Int)(W:World)(hs:aZ W S raw a)(hi:1≤i∧i≤2)(q0 q1 q2 q3 q4 q6 q7 q8 q9 q11 q12 q13 q14 q15 q16 q17 q18 q19 q20 q21 q22 q23 q24 q25 q26 q27 q28 q29 q30 q31 q32 q33 q34 q35 q36 q37 q38 q39 q40 q41 q42 q43 q44 q45 q46 q47 q48 q49 q50 q51 q52 q53 q54 q55 q56 q57 q58 q59 q60 q61 q62 q63 q64 q65 q66 q67 q68 q69 q70 q71 q72 q73 q74 q75 q76 q77 q78 q79 q80 q81 q82 q83 q84 q85 q86 q87 q88 q89 q90 q91 q92 q93 q94 q95 q96 q97 q98 q99 q100 q101 q102 q103 q104 q105 q106 q107 q108 q109 q110 q111 q112 q113 q114 q115 q116 q117 q118 q119:Value)(J K':Act→World→Prop)(hJ:∀a' w',R18 S i a raw W q0 q1 q2 q3 q4 q6 q7 q8 q9 q12 q13 q14 q15 q16 q17 q18 q19 q20 q21 q22 q23 q24 q25 q26 q27 q28 q29 q30 q31 q32 q33 q34 q35 q36 q37 q38 q39 q40 q41 q42 q43 q44 q45 q46 q47 q48 q49 q50 q51 q52 q53 q54 q55 q56 q57 q58 q59 q60 q61 q62 q63 q64 q65 q66 q67 q68 q78 q79 q80 q81 q82 q83 q84 q85 q86 q87 q88 q89 q90 q91 q92 q93 q94 q95 q96 q97 q98 q99 q100 q101 q102 q103 q104 q105 q106 q107 q108 q109 q110 q111 q112 q113 q114 q115 q116 q117 q118 q119 a' w'→J a' w')(hM:∀a' w',Met J a' w'→K' a' w'):
  Code.wp Tryz.prog (zU 18) (Exit.then K' (fun _ _ _=>False)) ⟨[q0,q1,q2,q3,q4,.pointer (some ⟨S,0,none⟩),q6,q7,q8,q9,.int .i64 (i:Int),q11,q12,q13,q14,q15,q16,q17,q18,q19,q20,q21,q22,q23,q24,q25,q26,q27,q28,q29,q30,q31,q32,q33,q34,q35,q36,q37,q38,q39,q40,q41,q42,q43,q44,q45,q46,q47,q48,q49,q50,q51,q52,q53,q54,q55,q56,q57,q58,q59,q60,q61,q62,q63,q64,q65,q66,q67,q68,q69,q70,q71,q72,q73,q74,q75,q76,q77,q78,q79,q80,q81,q82,q83,q84,q85,q86,q87,q88,q89,q90,q91,q92,q93,q94,q95,q96,q97,q98,q99,q100,q101,q102,q103,q104,q105,q106,q107,q108,q109,q110,q111,q112,q113,q114,q115,q116,q117,q118,q119].toArray,[]⟩ W:=by
 conv=>arg 2;whnf
 dsimp only;refine db (by kernel_rfl) (by kernel_rfl) (I18 S i a raw W q0 q1 q2 q3 q4 q6 q7 q8 q9 q12 q13 q14 q15 q16 q17 q18 q19 q20 q21 q22 q23 q24 q25 q26 q27 q28 q29 q30 q31 q32 q33 q34 q35 q36 q37 q38 q39 q40 q41 q42 q43 q44 q45 q46 q47 q48 q49 q50 q51 q52 q53 q54 q55 q56 q57 q58 q59 q60 q61 q62 q63 q64 q65 q66 q67 q68 q78 q79 q80 q81 q82 q83 q84 q85 q86 q87 q88 q89 q90 q91 q92 q93 q94 q95 q96 q97 q98 q99 q100 q101 q102 q103 q104 q105 q106 q107 q108 q109 q110 q111 q112 q113 q114 q115 q116 q117 q118 q119) ?_ ?_ ?_
 ·refine⟨q11,q69,q70,q71,q72,q73,q74,q75,q76,q77,⟨Zc (Zb _ _).drew,by rw[if_neg (by decide)];exact hs.old (Zb _ _).drew,fun h=>(by cases h),fun h=>(by cases h),fun h=>(by cases h),fun h=>(by cases h),fun h=>(by cases h),fun h=>(by cases h),fun h=>(by cases h),fun h=>(by cases h),fun h=>(by cases h),fun h=>(by cases h),fun h=>(by cases h),fun h=>(by cases h)⟩,rfl⟩
 ·intro L act wx k hI hk hl hd
  obtain⟨z11,z69,z70,z71,z72,z73,z74,z75,z76,z77,hV,rfl⟩:=hI;have hk:k=0∨k=1∨k=2∨k=3∨k=4∨k=5∨k=6∨k=7∨k=8∨k=9∨k=10:=by
   have:k<11:=hk;omega
  rcases hk with rfl|rfl|rfl|rfl|rfl|rfl|rfl|rfl|rfl|rfl|rfl
  ·have n11:L 10=false:=by
    cases h:L 10 with
    |false=>rfl
    |true=>have:=hV.ord h 0 (by decide);rw[hl]at this;cases this
   have hal:Below wx.heap.size wx (wx.alloc (.cells (bT dP).toArray 9)):=bA;have keep:∀b cs T,W.heap.size≤b→aG wx b cs T→aG (wx.alloc (.cells (bT dP).toArray 9)) b cs T:=fun b cs T _ h=>h.old hal
   have HV:=Za hV;have HD:=Za hd;have HL:=Za hl;refine am _ rfl rfl (fun K' hK=> ?_)
   conv=>arg 2;whnf
   go_wp2_with fail
   exact⟨z11,.slice (some ⟨wx.heap.size,0,none⟩) 3 3,z70,z71,z72,z73,z74,z75,z76,z77,⟨hV.fr.trans (Zc hal),(by rw[aI L (show 6≠0 by decide)];exact hV.src.old hal),(fun h j hj=>by rw[aI L (show 10≠0 by decide)]at h;have:=hV.ord h 0 (by decide);rw[hl]at this;cases this),(fun _ _=>⟨wx.heap.size,rfl,hV.fr.size,aG.new wx (bT dP) _⟩),(fun h=>hV.c1 (uo h)),(fun h h11=>by obtain⟨b,e1,e2,e3⟩:=hV.c2 (uo h) (uo h11);exact⟨b,e1,e2,keep b _ _ e2 e3⟩),(fun h=>hV.c3 (uo h)),(fun h h11=>by obtain⟨b,e1,e2,e3⟩:=hV.c4 (uo h) (uo h11);exact⟨b,e1,e2,keep b _ _ e2 e3⟩),(fun h=>hV.c5 (uo h)),(fun h=>hV.c6 (uo h)),(fun h h11=>by obtain⟨b,e1,e2,e3⟩:=hV.c7 (uo h) (uo h11);exact⟨b,e1,e2,keep b _ _ e2 e3⟩),(fun h h11=>by obtain⟨b,e1,e2,e3⟩:=hV.c8 (uo h) (uo h11);exact⟨b,e1,e2,keep b _ _ e2 e3⟩),(fun h h11=>by obtain⟨b,e1,e2,e3⟩:=hV.c9 (uo h) (uo h11);exact⟨b,e1,e2,keep b _ _ e2 e3⟩),(fun h=>by rw[aI L (show 10≠0 by decide)]at h;have:=hV.ord h 0 (by decide);rw[hl]at this;cases this)⟩,rfl⟩
  ·have n11:L 10=false:=by
    cases h:L 10 with
    |false=>rfl
    |true=>have:=hV.ord h 1 (by decide);rw[hl]at this;cases this
   have HV:=Za hV;have HD:=Za hd;have HL:=Za hl;refine am _ rfl rfl (fun K' hK=> ?_)
   conv=>arg 2;whnf
   go_wp2_with fail
   exact⟨z11,z69,.int .i64 (i:Int),z71,z72,z73,z74,z75,z76,z77,⟨hV.fr,(by rw[aI L (show 6≠1 by decide)];exact hV.src),(fun h j hj=>by rw[aI L (show 10≠1 by decide)]at h;have:=hV.ord h 1 (by decide);rw[hl]at this;cases this),(fun h h11=>by obtain⟨b,e1,e2,e3⟩:=hV.c0 (uo h) (uo h11);exact⟨b,e1,e2,e3⟩),(fun _=>rfl),(fun h h11=>by obtain⟨b,e1,e2,e3⟩:=hV.c2 (uo h) (uo h11);exact⟨b,e1,e2,e3⟩),(fun h=>hV.c3 (uo h)),(fun h h11=>by obtain⟨b,e1,e2,e3⟩:=hV.c4 (uo h) (uo h11);exact⟨b,e1,e2,e3⟩),(fun h=>hV.c5 (uo h)),(fun h=>hV.c6 (uo h)),(fun h h11=>by obtain⟨b,e1,e2,e3⟩:=hV.c7 (uo h) (uo h11);exact⟨b,e1,e2,e3⟩),(fun h h11=>by obtain⟨b,e1,e2,e3⟩:=hV.c8 (uo h) (uo h11);exact⟨b,e1,e2,e3⟩),(fun h h11=>by obtain⟨b,e1,e2,e3⟩:=hV.c9 (uo h) (uo h11);exact⟨b,e1,e2,e3⟩),(fun h=>by rw[aI L (show 10≠1 by decide)]at h;have:=hV.ord h 1 (by decide);rw[hl]at this;cases this)⟩,rfl⟩
  ·have n11:L 10=false:=by
    cases h:L 10 with
    |false=>rfl
    |true=>have:=hV.ord h 2 (by decide);rw[hl]at this;cases this
   have d0:L 0=true:=hd _ rfl ⟨0,.data⟩ (by simp) rfl;have d1:L 1=true:=hd _ rfl ⟨1,.data⟩ (by simp) rfl;obtain⟨b,rfl,hb,ho⟩:=hV.c0 d0 n11;obtain rfl:=hV.c1 d1;have hi3:(i:Int)<3:=by omega
   have HV:=Za hV;have HD:=Za hd;have HL:=Za hl;refine am _ rfl rfl (fun K' hK=> ?_)
   conv=>arg 2;whnf
   go_wp2_with fail
   exact⟨z11,.slice (some ⟨b,0,none⟩) 3 3,.int .i64 (i:Int),.pointer (some ⟨b,i,none⟩),z72,z73,z74,z75,z76,z77,⟨hV.fr,(by rw[aI L (show 6≠2 by decide)];exact hV.src),(fun h j hj=>by rw[aI L (show 10≠2 by decide)]at h;have:=hV.ord h 2 (by decide);rw[hl]at this;cases this),(fun h h11=>by obtain⟨b,e1,e2,e3⟩:=hV.c0 (uo h) (uo h11);exact⟨b,e1,e2,e3⟩),(fun h=>hV.c1 (uo h)),(fun _ _=>⟨b,rfl,hb,ho⟩),(fun h=>hV.c3 (uo h)),(fun h h11=>by obtain⟨b,e1,e2,e3⟩:=hV.c4 (uo h) (uo h11);exact⟨b,e1,e2,e3⟩),(fun h=>hV.c5 (uo h)),(fun h=>hV.c6 (uo h)),(fun h h11=>by obtain⟨b,e1,e2,e3⟩:=hV.c7 (uo h) (uo h11);exact⟨b,e1,e2,e3⟩),(fun h h11=>by obtain⟨b,e1,e2,e3⟩:=hV.c8 (uo h) (uo h11);exact⟨b,e1,e2,e3⟩),(fun h h11=>by obtain⟨b,e1,e2,e3⟩:=hV.c9 (uo h) (uo h11);exact⟨b,e1,e2,e3⟩),(fun h=>by rw[aI L (show 10≠2 by decide)]at h;have:=hV.ord h 2 (by decide);rw[hl]at this;cases this)⟩,rfl⟩
  ·have n11:L 10=false:=by
    cases h:L 10 with
    |false=>rfl
    |true=>have:=hV.ord h 3 (by decide);rw[hl]at this;cases this
   have d2:L 2=true:=hd _ rfl ⟨2,.data⟩ (by simp) rfl;obtain⟨b,rfl,hb,ho⟩:=hV.c2 d2 n11;have hx:=ho.at i _ (zY ⟨i,by omega⟩);have HV:=Za hV;have HD:=Za hd;have HL:=Za hl;refine am _ rfl rfl (fun K' hK=> ?_)
   conv=>arg 2;whnf
   go_wp2_with fail
   exact⟨z11,z69,z70,.pointer (some ⟨b,i,none⟩),.string (aB (dP.getD i [])),z73,z74,z75,z76,z77,⟨hV.fr,(by rw[aI L (show 6≠3 by decide)];exact hV.src),(fun h j hj=>by rw[aI L (show 10≠3 by decide)]at h;have:=hV.ord h 3 (by decide);rw[hl]at this;cases this),(fun h h11=>by obtain⟨b,e1,e2,e3⟩:=hV.c0 (uo h) (uo h11);exact⟨b,e1,e2,e3⟩),(fun h=>hV.c1 (uo h)),(fun h h11=>by obtain⟨b,e1,e2,e3⟩:=hV.c2 (uo h) (uo h11);exact⟨b,e1,e2,e3⟩),(fun _=>rfl),(fun h h11=>by obtain⟨b,e1,e2,e3⟩:=hV.c4 (uo h) (uo h11);exact⟨b,e1,e2,e3⟩),(fun h=>hV.c5 (uo h)),(fun h=>hV.c6 (uo h)),(fun h h11=>by obtain⟨b,e1,e2,e3⟩:=hV.c7 (uo h) (uo h11);exact⟨b,e1,e2,e3⟩),(fun h h11=>by obtain⟨b,e1,e2,e3⟩:=hV.c8 (uo h) (uo h11);exact⟨b,e1,e2,e3⟩),(fun h h11=>by obtain⟨b,e1,e2,e3⟩:=hV.c9 (uo h) (uo h11);exact⟨b,e1,e2,e3⟩),(fun h=>by rw[aI L (show 10≠3 by decide)]at h;have:=hV.ord h 3 (by decide);rw[hl]at this;cases this)⟩,rfl⟩
  ·have n11:L 10=false:=by
    cases h:L 10 with
    |false=>rfl
    |true=>have:=hV.ord h 4 (by decide);rw[hl]at this;cases this
   have hal:Below wx.heap.size wx (wx.alloc (.cells (bT eZ).toArray 9)):=bA;have keep:∀b cs T,W.heap.size≤b→aG wx b cs T→aG (wx.alloc (.cells (bT eZ).toArray 9)) b cs T:=fun b cs T _ h=>h.old hal
   have HV:=Za hV;have HD:=Za hd;have HL:=Za hl;refine am _ rfl rfl (fun K' hK=> ?_)
   conv=>arg 2;whnf
   go_wp2_with fail
   exact⟨z11,z69,z70,z71,z72,.slice (some ⟨wx.heap.size,0,none⟩) 6 6,z74,z75,z76,z77,⟨hV.fr.trans (Zc hal),(by rw[aI L (show 6≠4 by decide)];exact hV.src.old hal),(fun h j hj=>by rw[aI L (show 10≠4 by decide)]at h;have:=hV.ord h 4 (by decide);rw[hl]at this;cases this),(fun h h11=>by obtain⟨b,e1,e2,e3⟩:=hV.c0 (uo h) (uo h11);exact⟨b,e1,e2,keep b _ _ e2 e3⟩),(fun h=>hV.c1 (uo h)),(fun h h11=>by obtain⟨b,e1,e2,e3⟩:=hV.c2 (uo h) (uo h11);exact⟨b,e1,e2,keep b _ _ e2 e3⟩),(fun h=>hV.c3 (uo h)),(fun _ _=>⟨wx.heap.size,rfl,hV.fr.size,aG.new wx (bT eZ) _⟩),(fun h=>hV.c5 (uo h)),(fun h=>hV.c6 (uo h)),(fun h h11=>by obtain⟨b,e1,e2,e3⟩:=hV.c7 (uo h) (uo h11);exact⟨b,e1,e2,keep b _ _ e2 e3⟩),(fun h h11=>by obtain⟨b,e1,e2,e3⟩:=hV.c8 (uo h) (uo h11);exact⟨b,e1,e2,keep b _ _ e2 e3⟩),(fun h h11=>by obtain⟨b,e1,e2,e3⟩:=hV.c9 (uo h) (uo h11);exact⟨b,e1,e2,keep b _ _ e2 e3⟩),(fun h=>by rw[aI L (show 10≠4 by decide)]at h;have:=hV.ord h 4 (by decide);rw[hl]at this;cases this)⟩,rfl⟩
  ·have n11:L 10=false:=by
    cases h:L 10 with
    |false=>rfl
    |true=>have:=hV.ord h 5 (by decide);rw[hl]at this;cases this
   have HV:=Za hV;have HD:=Za hd;have HL:=Za hl;refine am _ rfl rfl (fun K' hK=> ?_)
   conv=>arg 2;whnf
   go_wp2_with fail
   exact⟨z11,z69,z70,z71,z72,z73,.pointer (some ⟨S,0,none⟩),z75,z76,z77,⟨hV.fr,(by rw[aI L (show 6≠5 by decide)];exact hV.src),(fun h j hj=>by rw[aI L (show 10≠5 by decide)]at h;have:=hV.ord h 5 (by decide);rw[hl]at this;cases this),(fun h h11=>by obtain⟨b,e1,e2,e3⟩:=hV.c0 (uo h) (uo h11);exact⟨b,e1,e2,e3⟩),(fun h=>hV.c1 (uo h)),(fun h h11=>by obtain⟨b,e1,e2,e3⟩:=hV.c2 (uo h) (uo h11);exact⟨b,e1,e2,e3⟩),(fun h=>hV.c3 (uo h)),(fun h h11=>by obtain⟨b,e1,e2,e3⟩:=hV.c4 (uo h) (uo h11);exact⟨b,e1,e2,e3⟩),(fun _=>rfl),(fun h=>hV.c6 (uo h)),(fun h h11=>by obtain⟨b,e1,e2,e3⟩:=hV.c7 (uo h) (uo h11);exact⟨b,e1,e2,e3⟩),(fun h h11=>by obtain⟨b,e1,e2,e3⟩:=hV.c8 (uo h) (uo h11);exact⟨b,e1,e2,e3⟩),(fun h h11=>by obtain⟨b,e1,e2,e3⟩:=hV.c9 (uo h) (uo h11);exact⟨b,e1,e2,e3⟩),(fun h=>by rw[aI L (show 10≠5 by decide)]at h;have:=hV.ord h 5 (by decide);rw[hl]at this;cases this)⟩,rfl⟩
  ·have n11:L 10=false:=by
    cases h:L 10 with
    |false=>rfl
    |true=>have:=hV.ord h 6 (by decide);rw[hl]at this;cases this
   have d5:L 5=true:=hd _ rfl ⟨5,.data⟩ (by simp) rfl;obtain rfl:=hV.c5 d5;have hsrc:=hV.src;rw[if_neg (by rw[hl];decide)]at hsrc;have hsS:=hs.lt;have HV:=Za hV;have HD:=Za hd;have HL:=Za hl;refine am _ rfl rfl (fun K' hK=> ?_)
   conv=>arg 2;whnf
   go_wp2_with fail
   refine(bQ S raw a 7 wx hsrc (by decide) (by decide)).mono ?_;rintro r w2 ⟨rfl,hs2,hf2⟩;have keep:∀b cs T,W.heap.size≤b→aG wx b cs T→aG w2 b cs T:=fun b cs T hb h=>h.sfr hf2 (by omega)
   go_wp2_with fail
   exact⟨z11,z69,z70,z71,z72,z73,.pointer (some ⟨S,0,none⟩),.int .i64 (aC raw a 7).1,z76,z77,⟨hV.fr.trans hf2,(by rw[ak,if_pos rfl];exact hs2),(fun h j hj=>by rw[aI L (show 10≠6 by decide)]at h;have:=hV.ord h 6 (by decide);rw[hl]at this;cases this),(fun h h11=>by obtain⟨b,e1,e2,e3⟩:=hV.c0 (uo h) (uo h11);exact⟨b,e1,e2,keep b _ _ e2 e3⟩),(fun h=>hV.c1 (uo h)),(fun h h11=>by obtain⟨b,e1,e2,e3⟩:=hV.c2 (uo h) (uo h11);exact⟨b,e1,e2,keep b _ _ e2 e3⟩),(fun h=>hV.c3 (uo h)),(fun h h11=>by obtain⟨b,e1,e2,e3⟩:=hV.c4 (uo h) (uo h11);exact⟨b,e1,e2,keep b _ _ e2 e3⟩),(fun h=>hV.c5 (uo h)),(fun _=>rfl),(fun h h11=>by obtain⟨b,e1,e2,e3⟩:=hV.c7 (uo h) (uo h11);exact⟨b,e1,e2,keep b _ _ e2 e3⟩),(fun h h11=>by obtain⟨b,e1,e2,e3⟩:=hV.c8 (uo h) (uo h11);exact⟨b,e1,e2,keep b _ _ e2 e3⟩),(fun h h11=>by obtain⟨b,e1,e2,e3⟩:=hV.c9 (uo h) (uo h11);exact⟨b,e1,e2,keep b _ _ e2 e3⟩),(fun h=>by rw[aI L (show 10≠6 by decide)]at h;have:=hV.ord h 6 (by decide);rw[hl]at this;cases this)⟩,rfl⟩
  ·have n11:L 10=false:=by
    cases h:L 10 with
    |false=>rfl
    |true=>have:=hV.ord h 7 (by decide);rw[hl]at this;cases this
   have d4:L 4=true:=hd _ rfl ⟨4,.data⟩ (by simp) rfl;have d6:L 6=true:=hd _ rfl ⟨6,.data⟩ (by simp) rfl;obtain⟨b,rfl,hb,ho⟩:=hV.c4 d4 n11;obtain rfl:=hV.c6 d6;have hr:=aM raw a 7 (by decide);obtain⟨g0,g1⟩:=hr;have HV:=Za hV;have HD:=Za hd;have HL:=Za hl;refine am _ rfl rfl (fun K' hK=> ?_)
   conv=>arg 2;whnf
   go_wp2_with fail
   exact⟨z11,z69,z70,z71,z72,.slice (some ⟨b,0,none⟩) 6 6,z74,.int .i64 (aC raw a 7).1,.slice (some ⟨b,0,none⟩) (aC raw a 7).1.toNat 6,z77,⟨hV.fr,(by rw[aI L (show 6≠7 by decide)];exact hV.src),(fun h j hj=>by rw[aI L (show 10≠7 by decide)]at h;have:=hV.ord h 7 (by decide);rw[hl]at this;cases this),(fun h h11=>by obtain⟨b,e1,e2,e3⟩:=hV.c0 (uo h) (uo h11);exact⟨b,e1,e2,e3⟩),(fun h=>hV.c1 (uo h)),(fun h h11=>by obtain⟨b,e1,e2,e3⟩:=hV.c2 (uo h) (uo h11);exact⟨b,e1,e2,e3⟩),(fun h=>hV.c3 (uo h)),(fun h h11=>by obtain⟨b,e1,e2,e3⟩:=hV.c4 (uo h) (uo h11);exact⟨b,e1,e2,e3⟩),(fun h=>hV.c5 (uo h)),(fun h=>hV.c6 (uo h)),(fun _ _=>⟨b,rfl,hb,ho⟩),(fun h h11=>by obtain⟨b,e1,e2,e3⟩:=hV.c8 (uo h) (uo h11);exact⟨b,e1,e2,e3⟩),(fun h h11=>by obtain⟨b,e1,e2,e3⟩:=hV.c9 (uo h) (uo h11);exact⟨b,e1,e2,e3⟩),(fun h=>by rw[aI L (show 10≠7 by decide)]at h;have:=hV.ord h 7 (by decide);rw[hl]at this;cases this)⟩,rfl⟩
  ·have n11:L 10=false:=by
    cases h:L 10 with
    |false=>rfl
    |true=>have:=hV.ord h 8 (by decide);rw[hl]at this;cases this
   have d3:L 3=true:=hd _ rfl ⟨3,.data⟩ (by simp) rfl;have d7:L 7=true:=hd _ rfl ⟨7,.data⟩ (by simp) rfl;obtain rfl:=hV.c3 d3;obtain⟨b,rfl,hb,ho⟩:=hV.c7 d7 n11;have HV:=Za hV;have HD:=Za hd;have HL:=Za hl;refine am _ rfl rfl (fun K' hK=> ?_)
   conv=>arg 2;whnf
   go_wp2_with fail
   exact⟨z11,z69,z70,z71,.string (aB (dP.getD i [])),z73,z74,z75,.slice (some ⟨b,0,none⟩) (aC raw a 7).1.toNat 6,.agg #[.string (aB (dP.getD i [])),.slice (some ⟨b,0,none⟩) (aC raw a 7).1.toNat 6,.slice none 0 0,.slice none 0 0],⟨hV.fr,(by rw[aI L (show 6≠8 by decide)];exact hV.src),(fun h j hj=>by rw[aI L (show 10≠8 by decide)]at h;have:=hV.ord h 8 (by decide);rw[hl]at this;cases this),(fun h h11=>by obtain⟨b,e1,e2,e3⟩:=hV.c0 (uo h) (uo h11);exact⟨b,e1,e2,e3⟩),(fun h=>hV.c1 (uo h)),(fun h h11=>by obtain⟨b,e1,e2,e3⟩:=hV.c2 (uo h) (uo h11);exact⟨b,e1,e2,e3⟩),(fun h=>hV.c3 (uo h)),(fun h h11=>by obtain⟨b,e1,e2,e3⟩:=hV.c4 (uo h) (uo h11);exact⟨b,e1,e2,e3⟩),(fun h=>hV.c5 (uo h)),(fun h=>hV.c6 (uo h)),(fun h h11=>by obtain⟨b,e1,e2,e3⟩:=hV.c7 (uo h) (uo h11);exact⟨b,e1,e2,e3⟩),(fun _ _=>⟨b,rfl,hb,ho⟩),(fun h h11=>by obtain⟨b,e1,e2,e3⟩:=hV.c9 (uo h) (uo h11);exact⟨b,e1,e2,e3⟩),(fun h=>by rw[aI L (show 10≠8 by decide)]at h;have:=hV.ord h 8 (by decide);rw[hl]at this;cases this)⟩,rfl⟩
  ·have n11:L 10=false:=by
    cases h:L 10 with
    |false=>rfl
    |true=>have:=hV.ord h 9 (by decide);rw[hl]at this;cases this
   have hal:Below wx.heap.size wx (wx.alloc (.cells #[.string ⟨#[]⟩,.slice none 0 0,.slice none 0 0,.slice none 0 0] 58)):=bA;have keep:∀b cs T,W.heap.size≤b→aG wx b cs T→aG (wx.alloc (.cells #[.string ⟨#[]⟩,.slice none 0 0,.slice none 0 0,.slice none 0 0] 58)) b cs T:=fun b cs T _ h=>h.old hal
   have HV:=Za hV;have HD:=Za hd;have HL:=Za hl;refine am _ rfl rfl (fun K' hK=> ?_)
   conv=>arg 2;whnf
   go_wp2_with fail
   exact⟨.pointer (some ⟨wx.heap.size,0,none⟩),z69,z70,z71,z72,z73,z74,z75,z76,z77,⟨hV.fr.trans (Zc hal),(by rw[aI L (show 6≠9 by decide)];exact hV.src.old hal),(fun h j hj=>by rw[aI L (show 10≠9 by decide)]at h;have:=hV.ord h 9 (by decide);rw[hl]at this;cases this),(fun h h11=>by obtain⟨b,e1,e2,e3⟩:=hV.c0 (uo h) (uo h11);exact⟨b,e1,e2,keep b _ _ e2 e3⟩),(fun h=>hV.c1 (uo h)),(fun h h11=>by obtain⟨b,e1,e2,e3⟩:=hV.c2 (uo h) (uo h11);exact⟨b,e1,e2,keep b _ _ e2 e3⟩),(fun h=>hV.c3 (uo h)),(fun h h11=>by obtain⟨b,e1,e2,e3⟩:=hV.c4 (uo h) (uo h11);exact⟨b,e1,e2,keep b _ _ e2 e3⟩),(fun h=>hV.c5 (uo h)),(fun h=>hV.c6 (uo h)),(fun h h11=>by obtain⟨b,e1,e2,e3⟩:=hV.c7 (uo h) (uo h11);exact⟨b,e1,e2,keep b _ _ e2 e3⟩),(fun h h11=>by obtain⟨b,e1,e2,e3⟩:=hV.c8 (uo h) (uo h11);exact⟨b,e1,e2,keep b _ _ e2 e3⟩),(fun _ _=>⟨wx.heap.size,rfl,hV.fr.size,aG.new wx [.string ⟨#[]⟩,.slice none 0 0,.slice none 0 0,.slice none 0 0] _⟩),(fun h=>by rw[aI L (show 10≠9 by decide)]at h;have:=hV.ord h 9 (by decide);rw[hl]at this;cases this)⟩,rfl⟩
  ·have n11:=hl
   have d9:L 9=true:=hd _ rfl ⟨9,.data⟩ (by simp) rfl;have d8:L 8=true:=hd _ rfl ⟨8,.data⟩ (by simp) rfl;obtain⟨b,rfl,hb,ho⟩:=hV.c9 d9 n11;obtain⟨b6,rfl,hb6,ho6⟩:=hV.c8 d8 n11;have hbb:b6≠b:=by
    rintro rfl;have e:=ho.symm.trans ho6;simp at e
   have before:∀j,j<10→L j=true:=fun j hj=>by
    have hj:j=0∨j=1∨j=2∨j=3∨j=4∨j=5∨j=6∨j=7∨j=8∨j=9:=by omega
    rcases hj with rfl|rfl|rfl|rfl|rfl|rfl|rfl|rfl|rfl|rfl
    ·exact hd _ rfl ⟨0,.phase⟩ (by simp) rfl
    ·exact hd _ rfl ⟨1,.phase⟩ (by simp) rfl
    ·exact hd _ rfl ⟨2,.phase⟩ (by simp) rfl
    ·exact hd _ rfl ⟨3,.phase⟩ (by simp) rfl
    ·exact hd _ rfl ⟨4,.phase⟩ (by simp) rfl
    ·exact hd _ rfl ⟨5,.phase⟩ (by simp) rfl
    ·exact hd _ rfl ⟨6,.phase⟩ (by simp) rfl
    ·exact hd _ rfl ⟨7,.phase⟩ (by simp) rfl
    ·exact hd _ rfl ⟨8,.phase⟩ (by simp) rfl
    ·exact hd _ rfl ⟨9,.phase⟩ (by simp) rfl
   have hx0:=ho.at 0 _ rfl;have fx0:=ho.fz 0;have hx1:=ho.at 1 _ rfl;have fx1:=ho.fz 1;have hx2:=ho.at 2 _ rfl;have fx2:=ho.fz 2;have hx3:=ho.at 3 _ rfl;have fx3:=ho.fz 3;have hbl:=ho.lt;have hsS:=hs.lt;have hSb:S<b:=by omega
   have HV:=Za hV;have HD:=Za hd;have HL:=Za hl;refine am _ rfl rfl (fun K' hK=> ?_)
   conv=>arg 2;whnf
   go_wp2_with fail
   exact⟨.pointer (some ⟨b,0,none⟩),z69,z70,z71,z72,z73,z74,z75,z76,.agg #[.string (aB (dP.getD i [])),.slice (some ⟨b6,0,none⟩) (aC raw a 7).1.toNat 6,.slice none 0 0,.slice none 0 0],⟨(((hV.fr.setNew hb 0 (.string (aB (dP.getD i [])))).setNew hb 1 (.slice (some ⟨b6,0,none⟩) (aC raw a 7).1.toNat 6)).setNew hb 2 (.slice none 0 0)).setNew hb 3 (.slice none 0 0),(by rw[aI L (show 6≠10 by decide)];exact(((hV.src.other hSb 0 (.string (aB (dP.getD i [])))).other hSb 1 (.slice (some ⟨b6,0,none⟩) (aC raw a 7).1.toNat 6)).other hSb 2 (.slice none 0 0)).other hSb 3 (.slice none 0 0)),(fun _ j hj=>by rw[aI L (show j≠10 by omega)];exact before j hj),(fun _ h11=>by rw[ak]at h11;cases h11),(fun h=>hV.c1 (uo h)),(fun _ h11=>by rw[ak]at h11;cases h11),(fun h=>hV.c3 (uo h)),(fun _ h11=>by rw[ak]at h11;cases h11),(fun h=>hV.c5 (uo h)),(fun h=>hV.c6 (uo h)),(fun _ h11=>by rw[ak]at h11;cases h11),(fun _ h11=>by rw[ak]at h11;cases h11),(fun _ h11=>by rw[ak]at h11;cases h11),(fun _=>⟨b,b6,rfl,hb,(((ho.set 0 (.string (aB (dP.getD i [])))).set 1 (.slice (some ⟨b6,0,none⟩) (aC raw a 7).1.toNat 6)).set 2 (.slice none 0 0)).set 3 (.slice none 0 0),hb6,(((ho6.other hbb 0 (.string (aB (dP.getD i [])))).other hbb 1 (.slice (some ⟨b6,0,none⟩) (aC raw a 7).1.toNat 6)).other hbb 2 (.slice none 0 0)).other hbb 3 (.slice none 0 0)⟩)⟩,rfl⟩
 ·intro L act wx hI hall
  obtain⟨z11,z69,z70,z71,z72,z73,z74,z75,z76,z77,hV,rfl⟩:=hI;obtain⟨b,b6,e1,e2,e3,e4,e5⟩:=hV.c10 (hall 10 (by decide));have hsrc:=hV.src;rw[if_pos (hall 6 (by decide))]at hsrc;exact hM _ _ (Met.intro (hJ _ _ ⟨z11,z69,z70,z71,z72,z73,z74,z75,z76,z77,⟨b,b6,e1,e2,e3,e4,e5,hsrc,hV.fr⟩,rfl⟩))
theorem sr(l:List Bs):∀u,u∈bT l→u.oneCell'=true:=by
 intro u hu;obtain⟨x,_,rfl⟩:=List.mem_map.1 hu;rfl
theorem nM(l:List Bs):(bT l).length=l.length:=List.length_map _
theorem mq(w:World)(base:Nat)(ty:TypeId)(v:Value)(n:Nat)(xs:List Value)(hown:w.ownsRow base 9 1 v n xs){D:Nat→Prop}(l:List Bs)(sv:Value)(hs:ag D w l sv)(hn:n+l.length≤1000)(hbase:base≤w.heap.size):
  ∃v' w',(Builtin.append_ #[24,24] ty #[v,sv]).run Tryz.prog w= .ok v' w'∧w'.ownsRow base 9 1 v' (n+l.length) (xs++bT l)∧w.grownBy w' v.ownBlock∧(v'.ownBlock=v.ownBlock∨v'.ownBlock=some w.heap.size):=by
 obtain⟨i0,hi0,hz0,hz1,hz2⟩:=info_parts infoStr;obtain⟨a,cap,b,off,rfl,h1,h2,h3,h4⟩:=hs
 cases a with
 |none=>
  have h0:l=[]:=by
   rcases h3 with h3|h3
   ·exact List.length_eq_zero_iff.1 h3
   ·cases h3.1
  subst h0;refine⟨v,w,?_,by simpa [bT]using hown,World.grownBy.refl w _,.inl rfl⟩;rcases hown.2 with⟨rfl,rfl⟩|⟨g,c,cur,rfl,_,_,hnc,_⟩
  ·simp [Builtin.append_,run_underlying Tryz.underlying24,sizeOf,typeInfo,hi0,Builtin.lenOf,Builtin.firstCells]
  ·simp [Builtin.append_,run_underlying Tryz.underlying24,sizeOf,typeInfo,hi0,Builtin.lenOf,Builtin.firstCells,hnc,storeCells]
 |some ad=>
  have hc:∀j u,(bT l)[j]? =some u→w.cell? (ad.add j)=some u:=by
   intro j u hu;have hj:j<l.length:=by
    rcases Nat.lt_or_ge j l.length with h|h
    ·exact h
    ·rw[List.getElem?_eq_none (by rw[nM];exact h)]at hu;cases hu
   rcases h3 with h3|⟨h3,_⟩
   ·omega
   ·cases h3
    have e:(bT l)[j]? =some (.string (aB (l.getD j []))):=by
     unfold bT;rw[List.getElem?_map,Zd hj,List.getD_eq_getElem?_getD,Zd hj];rfl
    rw[e]at hu
    cases hu
    have h5:(⟨b,off,none⟩:Addr).add j=⟨b,off+j,none⟩:=by unfold Addr.add;split<;>simp_all
    rw[h5];exact h4 j hj
  obtain⟨v',w',hr,h5,h6,_,h7⟩:=run_append_own_at (P:=Tryz.prog) w base 24 ty 9 i0 _ 1 16 Tryz.underlying24 hi0 hz0 hz1 hz2 rfl (by decide) v n xs hown ad l.length cap (bT l) (by rw[nM,Nat.mul_one]) hc (sr l) (by unfold maxLen;omega) (by omega) hbase;exact⟨v',w',hr,h5,h6,h7⟩
theorem jW {o:Oper}{a:Act}{w:World}{K:Act→World→Prop}{Q:Exit→Act→World→Prop}(s x:Operand)(ho:o.op= .call {callee:= .builtin .append,args:= #[s,x],argTypes:= #[24,24]})
  (base:Nat) (v:Value) (n:Nat) (xs:List Value) (hs:a.eval s=v) (hown:w.ownsRow base 9 1 v n xs) {D:Nat→Prop} (l:List Bs) (sv:Value) (hx:a.eval x=sv) (hl:ag D w l sv) (hn:n+l.length≤1000) (hbase:base≤w.heap.size)
  (h:∀v' w',w'.ownsRow base 9 1 v' (n+l.length) (xs++bT l)→w.grownBy w' v.ownBlock→(v'.ownBlock=v.ownBlock∨v'.ownBlock=some w.heap.size)→K (a.put o.dst v') w'):o.wp Tryz.prog a w K Q:=by
 obtain⟨v',w',hr,h1,h2,h3⟩:=mq w base o.type v n xs hown l sv hl hn hbase;unfold Oper.wp execOp;simp only[ho,resolve,invoke,builtin,Sem.run_bind,Sem.run_pure,Result.andThen_ok,List.map_toArray,List.map_cons,List.map_nil,hs,hx,hr];exact h v' w' h1 h2 h3
theorem wV {w:World}{base size n:Nat}{e:TypeId}{v:Value}{xs:List Value}(h:w.ownsRow base e size v n xs):∃a k c,v= .slice a k c:=by
 rcases h.2 with⟨rfl,_⟩|⟨g,cap,cur,rfl,_⟩
 ·exact⟨_,_,_,rfl⟩
 ·exact⟨_,_,_,rfl⟩
theorem zM {w:World}{base:Nat}{v:Value}(l:List Bs)(h:w.ownsRow base 9 1 v l.length (bT l))(hf:br l.length):ag (base≤ ·) w l v:=by
 have h0:=h;rcases h.2 with⟨rfl,hz⟩|⟨g,cap,cur,rfl,hb,hg,hc,hm,hs,ht⟩
 ·have:l=[]:=List.length_eq_zero_iff.1 hz
  subst this;exact ag.zero
 ·refine⟨_,cap,g,0,rfl,hc,hf,.inr ⟨rfl,hb⟩,fun i hi=> ?_⟩
  refine go h0 i _ ?_;unfold bT;rw[List.getElem?_map,Zd hi,List.getD_eq_getElem?_getD,Zd hi];rfl
structure V26 (f n:Nat)(nm:Bs)(ps ls:List Bs)(pv lv bd x1 x2 x3 x4:Value)(W:World)(L:Nat→Bool)(z102 z103 z104 z105 z106 z107 z108:Value)(wx:World):Prop where
 fr:SFr n W wx
 ord:L 7=true→∀j,j<7→L j=true
 own:aG wx n (if L 7=true then [z107,x1,x2,x3,x4]else [.slice none 0 0,x1,x2,x3,x4]) 73
 c0:L 0=true→z102= .pointer (some ⟨f,1,none⟩)
 c1:L 1=true→z103=pv
 c2:L 2=true→L 5=false→wx.ownsRow W.heap.size 9 1 z104 ps.length (bT ps)
 c3:L 3=true→z105= .pointer (some ⟨f,2,none⟩)
 c4:L 4=true→z106=lv
 c5:L 5=true→wx.ownsRow W.heap.size 9 1 z107 (ps++ls).length (bT (ps++ls))
 c6:L 6=true→z108= .pointer (some ⟨n,0,none⟩)
 c25:L 5=true→¬L 2=false
def R26(f n:Nat)(nm:Bs)(ps ls:List Bs)(pv lv bd x1 x2 x3 x4:Value)(W:World)(q0 q1 q2 q3 q4 q5 q6 q7 q8 q9 q10 q11 q12 q15 q16 q17 q18 q19 q20 q21 q22 q23 q24 q25 q26 q27 q28 q29 q30 q31 q32 q33 q34 q35 q36 q37 q38 q39 q40 q41 q42 q43 q44 q45 q46 q47 q48 q49 q50 q51 q52 q53 q54 q55 q56 q57 q58 q59 q60 q61 q62 q63 q64 q65 q66 q67 q68 q69 q70 q71 q72 q73 q74 q75 q76 q77 q78 q79 q80 q81 q82 q83 q84 q85 q86 q87 q88 q89 q90 q91 q92 q93 q94 q95 q96 q97 q98 q99 q100 q101 q109 q110 q111 q112 q113 q114 q115 q116 q117 q118 q119:Value)(a':Act)(w':World):Prop:=
 ∃z102 z103 z104 z105 z106 z107 z108:Value,(∃v,aG w' n [v,x1,x2,x3,x4] 73∧ag (W.heap.size≤ ·) w' (ps++ls) v∧SFr n W w')∧a'=⟨[q0,q1,q2,q3,q4,q5,q6,q7,q8,q9,q10,q11,q12,.pointer (some ⟨f,0,none⟩),.pointer (some ⟨n,0,none⟩),q15,q16,q17,q18,q19,q20,q21,q22,q23,q24,q25,q26,q27,q28,q29,q30,q31,q32,q33,q34,q35,q36,q37,q38,q39,q40,q41,q42,q43,q44,q45,q46,q47,q48,q49,q50,q51,q52,q53,q54,q55,q56,q57,q58,q59,q60,q61,q62,q63,q64,q65,q66,q67,q68,q69,q70,q71,q72,q73,q74,q75,q76,q77,q78,q79,q80,q81,q82,q83,q84,q85,q86,q87,q88,q89,q90,q91,q92,q93,q94,q95,q96,q97,q98,q99,q100,q101,z102,z103,z104,z105,z106,z107,z108,q109,q110,q111,q112,q113,q114,q115,q116,q117,q118,q119].toArray,[]⟩
def I26(f n:Nat)(nm:Bs)(ps ls:List Bs)(pv lv bd x1 x2 x3 x4:Value)(W:World)(q0 q1 q2 q3 q4 q5 q6 q7 q8 q9 q10 q11 q12 q15 q16 q17 q18 q19 q20 q21 q22 q23 q24 q25 q26 q27 q28 q29 q30 q31 q32 q33 q34 q35 q36 q37 q38 q39 q40 q41 q42 q43 q44 q45 q46 q47 q48 q49 q50 q51 q52 q53 q54 q55 q56 q57 q58 q59 q60 q61 q62 q63 q64 q65 q66 q67 q68 q69 q70 q71 q72 q73 q74 q75 q76 q77 q78 q79 q80 q81 q82 q83 q84 q85 q86 q87 q88 q89 q90 q91 q92 q93 q94 q95 q96 q97 q98 q99 q100 q101 q109 q110 q111 q112 q113 q114 q115 q116 q117 q118 q119:Value)(L:Nat→Bool)(a':Act)(w':World):Prop:=
 ∃z102 z103 z104 z105 z106 z107 z108:Value,V26 f n nm ps ls pv lv bd x1 x2 x3 x4 W L z102 z103 z104 z105 z106 z107 z108 w'∧a'=⟨[q0,q1,q2,q3,q4,q5,q6,q7,q8,q9,q10,q11,q12,.pointer (some ⟨f,0,none⟩),.pointer (some ⟨n,0,none⟩),q15,q16,q17,q18,q19,q20,q21,q22,q23,q24,q25,q26,q27,q28,q29,q30,q31,q32,q33,q34,q35,q36,q37,q38,q39,q40,q41,q42,q43,q44,q45,q46,q47,q48,q49,q50,q51,q52,q53,q54,q55,q56,q57,q58,q59,q60,q61,q62,q63,q64,q65,q66,q67,q68,q69,q70,q71,q72,q73,q74,q75,q76,q77,q78,q79,q80,q81,q82,q83,q84,q85,q86,q87,q88,q89,q90,q91,q92,q93,q94,q95,q96,q97,q98,q99,q100,q101,z102,z103,z104,z105,z106,z107,z108,q109,q110,q111,q112,q113,q114,q115,q116,q117,q118,q119].toArray,[]⟩
theorem yX(f n:Nat)(nm:Bs)(ps ls:List Bs)(pv lv bd x1 x2 x3 x4:Value)(W:World)(hf:aG W f [.string (aB nm),pv,lv,bd] 58)(hn:aG W n [.slice none 0 0,x1,x2,x3,x4] 73)(hfn:f≠n)(hps:ag (· ≠n) W ps pv)(hls:ag (· ≠n) W ls lv)(hlen:ps.length+ls.length≤1000)(q0 q1 q2 q3 q4 q5 q6 q7 q8 q9 q10 q11 q12 q15 q16 q17 q18 q19 q20 q21 q22 q23 q24 q25 q26 q27 q28 q29 q30 q31 q32 q33 q34 q35 q36 q37 q38 q39 q40 q41 q42 q43 q44 q45 q46 q47 q48 q49 q50 q51 q52 q53 q54 q55 q56 q57 q58 q59 q60 q61 q62 q63 q64 q65 q66 q67 q68 q69 q70 q71 q72 q73 q74 q75 q76 q77 q78 q79 q80 q81 q82 q83 q84 q85 q86 q87 q88 q89 q90 q91 q92 q93 q94 q95 q96 q97 q98 q99 q100 q101 q102 q103 q104 q105 q106 q107 q108 q109 q110 q111 q112 q113 q114 q115 q116 q117 q118 q119:Value)(J K':Act→World→Prop)(hJ:∀a' w',R26 f n nm ps ls pv lv bd x1 x2 x3 x4 W q0 q1 q2 q3 q4 q5 q6 q7 q8 q9 q10 q11 q12 q15 q16 q17 q18 q19 q20 q21 q22 q23 q24 q25 q26 q27 q28 q29 q30 q31 q32 q33 q34 q35 q36 q37 q38 q39 q40 q41 q42 q43 q44 q45 q46 q47 q48 q49 q50 q51 q52 q53 q54 q55 q56 q57 q58 q59 q60 q61 q62 q63 q64 q65 q66 q67 q68 q69 q70 q71 q72 q73 q74 q75 q76 q77 q78 q79 q80 q81 q82 q83 q84 q85 q86 q87 q88 q89 q90 q91 q92 q93 q94 q95 q96 q97 q98 q99 q100 q101 q109 q110 q111 q112 q113 q114 q115 q116 q117 q118 q119 a' w'→J a' w')(hM:∀a' w',Met J a' w'→K' a' w'):
  Code.wp Tryz.prog (zU 26) (Exit.then K' (fun _ _ _=>False)) ⟨[q0,q1,q2,q3,q4,q5,q6,q7,q8,q9,q10,q11,q12,.pointer (some ⟨f,0,none⟩),.pointer (some ⟨n,0,none⟩),q15,q16,q17,q18,q19,q20,q21,q22,q23,q24,q25,q26,q27,q28,q29,q30,q31,q32,q33,q34,q35,q36,q37,q38,q39,q40,q41,q42,q43,q44,q45,q46,q47,q48,q49,q50,q51,q52,q53,q54,q55,q56,q57,q58,q59,q60,q61,q62,q63,q64,q65,q66,q67,q68,q69,q70,q71,q72,q73,q74,q75,q76,q77,q78,q79,q80,q81,q82,q83,q84,q85,q86,q87,q88,q89,q90,q91,q92,q93,q94,q95,q96,q97,q98,q99,q100,q101,q102,q103,q104,q105,q106,q107,q108,q109,q110,q111,q112,q113,q114,q115,q116,q117,q118,q119].toArray,[]⟩ W:=by
 have hnl:=hn.lt
 conv=>arg 2;whnf
 dsimp only;refine db (by kernel_rfl) (by kernel_rfl) (I26 f n nm ps ls pv lv bd x1 x2 x3 x4 W q0 q1 q2 q3 q4 q5 q6 q7 q8 q9 q10 q11 q12 q15 q16 q17 q18 q19 q20 q21 q22 q23 q24 q25 q26 q27 q28 q29 q30 q31 q32 q33 q34 q35 q36 q37 q38 q39 q40 q41 q42 q43 q44 q45 q46 q47 q48 q49 q50 q51 q52 q53 q54 q55 q56 q57 q58 q59 q60 q61 q62 q63 q64 q65 q66 q67 q68 q69 q70 q71 q72 q73 q74 q75 q76 q77 q78 q79 q80 q81 q82 q83 q84 q85 q86 q87 q88 q89 q90 q91 q92 q93 q94 q95 q96 q97 q98 q99 q100 q101 q109 q110 q111 q112 q113 q114 q115 q116 q117 q118 q119) ?_ ?_ ?_
 ·exact⟨q102,q103,q104,q105,q106,q107,q108,⟨Zc (Zb _ _).drew,fun h=>(by cases h),by rw[if_neg (by decide)];exact hn.old (Zb _ _).drew,fun h=>(by cases h),fun h=>(by cases h),fun h=>(by cases h),fun h=>(by cases h),fun h=>(by cases h),fun h=>(by cases h),fun h=>(by cases h),fun h=>(by cases h)⟩,rfl⟩
 ·intro L act wx k hI hk hl hd
  obtain⟨z102,z103,z104,z105,z106,z107,z108,hV,rfl⟩:=hI;have hk:k=0∨k=1∨k=2∨k=3∨k=4∨k=5∨k=6∨k=7:=by
   have:k<8:=hk;omega
  rcases hk with rfl|rfl|rfl|rfl|rfl|rfl|rfl|rfl
  ·have n7:L 7=false:=by
    cases h:L 7 with
    |false=>rfl
    |true=>have:=hV.ord h 0 (by decide);rw[hl]at this;cases this
   have hown:=hV.own;rw[n7,if_neg (by decide)]at hown;have HV:=Za hV;have HD:=Za hd;have HL:=Za hl;refine am _ rfl rfl (fun K' hK=> ?_)
   conv=>arg 2;whnf
   go_wp2_with fail
   exact⟨.pointer (some ⟨f,1,none⟩),z103,z104,z105,z106,z107,z108,⟨hV.fr,(fun h j hj=>by rw[aI L (show 7≠0 by decide)]at h;have:=hV.ord h 0 (by decide);rw[hl]at this;cases this),(by rw[aI L (show 7≠0 by decide),n7];exact hown),(fun _=>rfl),(fun h=>hV.c1 (uo h)),(fun h h5=>hV.c2 (uo h) (uo h5)),(fun h=>hV.c3 (uo h)),(fun h=>hV.c4 (uo h)),(fun h=>hV.c5 (uo h)),(fun h=>hV.c6 (uo h)),(fun h=>by rw[aI L (show 2≠0 by decide)];exact hV.c25 (uo h))⟩,rfl⟩
  ·have n7:L 7=false:=by
    cases h:L 7 with
    |false=>rfl
    |true=>have:=hV.ord h 1 (by decide);rw[hl]at this;cases this
   have d0:L 0=true:=hd _ rfl ⟨0,.data⟩ (by simp) rfl;have hown:=hV.own;rw[n7,if_neg (by decide)]at hown;obtain rfl:=hV.c0 d0;have hfo:=hf.sfr hV.fr hfn;have f1:=hfo.at 1 _ rfl;have f2:=hfo.at 2 _ rfl;have HV:=Za hV;have HD:=Za hd;have HL:=Za hl;refine am _ rfl rfl (fun K' hK=> ?_)
   conv=>arg 2;whnf
   go_wp2_with fail
   exact⟨.pointer (some ⟨f,1,none⟩),pv,z104,z105,z106,z107,z108,⟨hV.fr,(fun h j hj=>by rw[aI L (show 7≠1 by decide)]at h;have:=hV.ord h 1 (by decide);rw[hl]at this;cases this),(by rw[aI L (show 7≠1 by decide),n7];exact hown),(fun h=>hV.c0 (uo h)),(fun _=>rfl),(fun h h5=>hV.c2 (uo h) (uo h5)),(fun h=>hV.c3 (uo h)),(fun h=>hV.c4 (uo h)),(fun h=>hV.c5 (uo h)),(fun h=>hV.c6 (uo h)),(fun h=>by rw[aI L (show 2≠1 by decide)];exact hV.c25 (uo h))⟩,rfl⟩
  ·have n7:L 7=false:=by
    cases h:L 7 with
    |false=>rfl
    |true=>have:=hV.ord h 2 (by decide);rw[hl]at this;cases this
   have d1:L 1=true:=hd _ rfl ⟨1,.data⟩ (by simp) rfl;have hown:=hV.own;rw[n7,if_neg (by decide)]at hown;obtain rfl:=hV.c1 d1;have n5:L 5=false:=by
    cases h:L 5 with
    |false=>rfl
    |true=>exact absurd (hV.c25 h) (by rw[hl];decide)
   have hp2:=hps.keep hV.fr.keeps;have HV:=Za hV;have HD:=Za hd;have HL:=Za hl;refine am _ rfl rfl (fun K' hK=> ?_)
   conv=>arg 2;whnf
   refine jW _ _ rfl W.heap.size (.slice none 0 0) 0 [] rfl ⟨rfl,.inl ⟨rfl,rfl⟩⟩ ps z103 rfl hp2 (by omega) hV.fr.size ?_;intro v2 w2 hr2 hg2 ha2;rw[Nat.zero_add,List.nil_append]at hr2;have hf2:SFr n wx w2:=⟨hg2.os,hg2.tape,hg2.output,hg2.size,fun j hj _=>hg2.block j hj (by simp [Value.ownBlock])⟩;have ho2:aG w2 n _ _:=hown.low (hg2.block n hown.lt (by simp [Value.ownBlock]));go_wp2_with fail
   exact⟨z102,z103,v2,z105,z106,z107,z108,⟨hV.fr.trans hf2,(fun h j hj=>by rw[aI L (show 7≠2 by decide)]at h;have:=hV.ord h 2 (by decide);rw[hl]at this;cases this),(by rw[aI L (show 7≠2 by decide),n7];exact ho2),(fun h=>hV.c0 (uo h)),(fun h=>hV.c1 (uo h)),(fun _ _=>hr2),(fun h=>hV.c3 (uo h)),(fun h=>hV.c4 (uo h)),(fun h=>by rw[aI L (show 5≠2 by decide),n5]at h;cases h),(fun h=>hV.c6 (uo h)),(fun _=>by rw[ak];decide)⟩,rfl⟩
  ·have n7:L 7=false:=by
    cases h:L 7 with
    |false=>rfl
    |true=>have:=hV.ord h 3 (by decide);rw[hl]at this;cases this
   have hown:=hV.own;rw[n7,if_neg (by decide)]at hown;have HV:=Za hV;have HD:=Za hd;have HL:=Za hl;refine am _ rfl rfl (fun K' hK=> ?_)
   conv=>arg 2;whnf
   go_wp2_with fail
   exact⟨z102,z103,z104,.pointer (some ⟨f,2,none⟩),z106,z107,z108,⟨hV.fr,(fun h j hj=>by rw[aI L (show 7≠3 by decide)]at h;have:=hV.ord h 3 (by decide);rw[hl]at this;cases this),(by rw[aI L (show 7≠3 by decide),n7];exact hown),(fun h=>hV.c0 (uo h)),(fun h=>hV.c1 (uo h)),(fun h h5=>hV.c2 (uo h) (uo h5)),(fun _=>rfl),(fun h=>hV.c4 (uo h)),(fun h=>hV.c5 (uo h)),(fun h=>hV.c6 (uo h)),(fun h=>by rw[aI L (show 2≠3 by decide)];exact hV.c25 (uo h))⟩,rfl⟩
  ·have n7:L 7=false:=by
    cases h:L 7 with
    |false=>rfl
    |true=>have:=hV.ord h 4 (by decide);rw[hl]at this;cases this
   have d3:L 3=true:=hd _ rfl ⟨3,.data⟩ (by simp) rfl;have hown:=hV.own;rw[n7,if_neg (by decide)]at hown;obtain rfl:=hV.c3 d3;have hfo:=hf.sfr hV.fr hfn;have f1:=hfo.at 1 _ rfl;have f2:=hfo.at 2 _ rfl;have HV:=Za hV;have HD:=Za hd;have HL:=Za hl;refine am _ rfl rfl (fun K' hK=> ?_)
   conv=>arg 2;whnf
   go_wp2_with fail
   exact⟨z102,z103,z104,.pointer (some ⟨f,2,none⟩),lv,z107,z108,⟨hV.fr,(fun h j hj=>by rw[aI L (show 7≠4 by decide)]at h;have:=hV.ord h 4 (by decide);rw[hl]at this;cases this),(by rw[aI L (show 7≠4 by decide),n7];exact hown),(fun h=>hV.c0 (uo h)),(fun h=>hV.c1 (uo h)),(fun h h5=>hV.c2 (uo h) (uo h5)),(fun h=>hV.c3 (uo h)),(fun _=>rfl),(fun h=>hV.c5 (uo h)),(fun h=>hV.c6 (uo h)),(fun h=>by rw[aI L (show 2≠4 by decide)];exact hV.c25 (uo h))⟩,rfl⟩
  ·have n7:L 7=false:=by
    cases h:L 7 with
    |false=>rfl
    |true=>have:=hV.ord h 5 (by decide);rw[hl]at this;cases this
   have d2:L 2=true:=hd _ rfl ⟨2,.data⟩ (by simp) rfl;have d4:L 4=true:=hd _ rfl ⟨4,.data⟩ (by simp) rfl;have hown:=hV.own;rw[n7,if_neg (by decide)]at hown;obtain rfl:=hV.c4 d4;have hr1:=hV.c2 d2 hl;have hl2:=hls.keep hV.fr.keeps;have hge:∀k,z104.ownBlock=some k→W.heap.size≤k:=fun k e=>(World.ownsRow.lt hr1 k e).1
   have HV:=Za hV;have HD:=Za hd;have HL:=Za hl;refine am _ rfl rfl (fun K' hK=> ?_)
   conv=>arg 2;whnf
   refine jW _ _ rfl W.heap.size z104 ps.length (bT ps) rfl hr1 ls z106 rfl hl2 (by omega) hV.fr.size ?_;intro v2 w2 hr2 hg2 ha2;have hf2:SFr n W w2:=hV.fr.grow hg2 hge;have ho2:aG w2 n _ _:=hown.low (hg2.block n hown.lt (fun e=>by have:=hge n e.symm;omega));go_wp2_with fail
   exact⟨z102,z103,z104,z105,z106,v2,z108,⟨hf2,(fun h j hj=>by rw[aI L (show 7≠5 by decide)]at h;have:=hV.ord h 5 (by decide);rw[hl]at this;cases this),(by rw[aI L (show 7≠5 by decide),n7];exact ho2),(fun h=>hV.c0 (uo h)),(fun h=>hV.c1 (uo h)),(fun _ h5=>by rw[ak]at h5;cases h5),(fun h=>hV.c3 (uo h)),(fun h=>hV.c4 (uo h)),(fun _=>by rw[List.length_append,show bT (ps++ls)=bT ps++bT ls from List.map_append];exact hr2),(fun h=>hV.c6 (uo h)),(fun _=>by rw[aI L (show 2≠5 by decide),d2];decide)⟩,rfl⟩
  ·have n7:L 7=false:=by
    cases h:L 7 with
    |false=>rfl
    |true=>have:=hV.ord h 6 (by decide);rw[hl]at this;cases this
   have hown:=hV.own;rw[n7,if_neg (by decide)]at hown;have HV:=Za hV;have HD:=Za hd;have HL:=Za hl;refine am _ rfl rfl (fun K' hK=> ?_)
   conv=>arg 2;whnf
   go_wp2_with fail
   exact⟨z102,z103,z104,z105,z106,z107,.pointer (some ⟨n,0,none⟩),⟨hV.fr,(fun h j hj=>by rw[aI L (show 7≠6 by decide)]at h;have:=hV.ord h 6 (by decide);rw[hl]at this;cases this),(by rw[aI L (show 7≠6 by decide),n7];exact hown),(fun h=>hV.c0 (uo h)),(fun h=>hV.c1 (uo h)),(fun h h5=>hV.c2 (uo h) (uo h5)),(fun h=>hV.c3 (uo h)),(fun h=>hV.c4 (uo h)),(fun h=>hV.c5 (uo h)),(fun _=>rfl),(fun h=>by rw[aI L (show 2≠6 by decide)];exact hV.c25 (uo h))⟩,rfl⟩
  ·have n7:=hl
   have d6:L 6=true:=hd _ rfl ⟨6,.data⟩ (by simp) rfl;have d5:L 5=true:=hd _ rfl ⟨5,.data⟩ (by simp) rfl;have hown:=hV.own;rw[n7,if_neg (by decide)]at hown;obtain rfl:=hV.c6 d6;have hr5:=hV.c5 d5;obtain⟨ra,rk,rc,rfl⟩:=wV hr5;have before:∀j,j<7→L j=true:=fun j hj=>by
    have hj:j=0∨j=1∨j=2∨j=3∨j=4∨j=5∨j=6:=by omega
    rcases hj with rfl|rfl|rfl|rfl|rfl|rfl|rfl
    ·exact hd _ rfl ⟨0,.phase⟩ (by simp) rfl
    ·exact hd _ rfl ⟨1,.phase⟩ (by simp) rfl
    ·exact hd _ rfl ⟨2,.phase⟩ (by simp) rfl
    ·exact hd _ rfl ⟨3,.phase⟩ (by simp) rfl
    ·exact hd _ rfl ⟨4,.phase⟩ (by simp) rfl
    ·exact hd _ rfl ⟨5,.data⟩ (by simp) rfl
    ·exact hd _ rfl ⟨6,.data⟩ (by simp) rfl
   have hx0:=hown.at 0 _ rfl;have fx0:=hown.fz 0;have hnx:=hown.lt;have hfs:SFr n W (wx.setCell ⟨n,0,none⟩ (.slice ra rk rc)):=hV.fr.trans ⟨rfl,rfl,rfl,by simp [World.setCell],fun k hk hs=>Below.heap_setCell _ _ _ _ hs⟩;have hk5:(wx.setCell ⟨n,0,none⟩ (.slice ra rk rc)).ownsRow W.heap.size 9 1 (.slice ra rk rc) (ps++ls).length (bT (ps++ls)):=fl hr5 (D:=(W.heap.size≤ ·)) (fun k e=>(World.ownsRow.lt hr5 k e).1) (bB.set wx (by show ¬W.heap.size≤n;omega) 0 (.slice ra rk rc));have HV:=Za hV;have HD:=Za hd;have HL:=Za hl;refine am _ rfl rfl (fun K' hK=> ?_)
   conv=>arg 2;whnf
   go_wp2_with fail
   exact⟨z102,z103,z104,z105,z106,.slice ra rk rc,.pointer (some ⟨n,0,none⟩),⟨hfs,(fun _ j hj=>by rw[aI L (show j≠7 by omega)];exact before j hj),(by rw[ak,if_pos rfl];exact hown.set 0 (.slice ra rk rc)),(fun h=>hV.c0 (uo h)),(fun h=>hV.c1 (uo h)),(fun _ h5=>by rw[aI L (show 5≠7 by decide),d5]at h5;cases h5),(fun h=>hV.c3 (uo h)),(fun h=>hV.c4 (uo h)),(fun _=>hk5),(fun h=>hV.c6 (uo h)),(fun h=>by rw[aI L (show 2≠7 by decide)];exact hV.c25 (uo h))⟩,rfl⟩
 ·intro L act wx hI hall
  obtain⟨z102,z103,z104,z105,z106,z107,z108,hV,rfl⟩:=hI;have h1:=hV.own;rw[if_pos (hall 7 (by decide))]at h1;exact hM _ _ (Met.intro (hJ _ _ ⟨z102,z103,z104,z105,z106,z107,z108,⟨z107,h1,zM _ (hV.c5 (hall 5 (by decide))) (by show _≤_;rw[List.length_append];omega),hV.fr⟩,rfl⟩))
structure dn (w:World)(raw:List Int)(a:Nat)(free:Bool)(ca cf pa pf:Value)(wr:World):Prop where
 bel:Below w.heap.size w wr
 src:aZ wr (w.heap.size+1) raw a
 res:aG wr w.heap.size [.slice none 0 0,.slice none 0 0] 34
 scp:aG wr (w.heap.size+2) [.slice none 0 0,ca,cf,.bool free,.bool false] 73
 prg:aG wr (w.heap.size+3) [pa,pf] 34
theorem dn.lt {w:World}{raw:List Int}{a:Nat}{free:Bool}{ca cf pa pf:Value}{wr:World}(h:dn w raw a free ca cf pa pf wr):w.heap.size+3<wr.heap.size:=h.prg.lt
theorem dn.sfr {w:World}{raw:List Int}{a a':Nat}{free:Bool}{ca cf pa pf:Value}{wr w':World}(h:dn w raw a free ca cf pa pf wr)(hs:aZ w' (w.heap.size+1) raw a')(hf:SFr (w.heap.size+1) wr w'):dn w raw a' free ca cf pa pf w':=
 ⟨h.bel.trans ((hf.below (by have:=h.lt;omega)).mono (by omega)),hs,h.res.sfr hf (by omega),h.scp.sfr hf (by omega),h.prg.sfr hf (by omega)⟩
theorem dn.old {w:World}{raw:List Int}{a:Nat}{free:Bool}{ca cf pa pf:Value}{wr w':World}(h:dn w raw a free ca cf pa pf wr)(hb:Below wr.heap.size wr w'):dn w raw a free ca cf pa pf w':=h.sfr (h.src.old hb) (Zc hb)
theorem dn.grow {w:World}{raw:List Int}{a:Nat}{free:Bool}{ca cf pa pf:Value}{wr w':World}(h:dn w raw a free ca cf pa pf wr){row:Option Nat}(hg:wr.grownBy w' row)(hr:∀k,row=some k→w.heap.size+4≤k):dn w raw a free ca cf pa pf w':=by
 have hl:=h.lt;have low:∀k,k≤w.heap.size+3→w'.heap[k]? =wr.heap[k]? :=fun k hk=>hg.block k (by omega) (fun e=>by have:=hr k e.symm;omega)
 refine⟨⟨hg.os.trans h.bel.os,hg.tape.trans h.bel.tape,hg.output.trans h.bel.output,Nat.le_trans h.bel.size hg.size,fun k hk=>(low k (by omega)).trans (h.bel.block k hk)⟩,h.src.low (fun k hk=>low k (by omega)),h.res.low (low _ (by omega)),h.scp.low (low _ (by omega)),h.prg.low (low _ (by omega))⟩
theorem dn.sfrN {w:World}{raw:List Int}{a:Nat}{free:Bool}{ca cf pa pf:Value}{wr w':World}(h:dn w raw a free ca cf pa pf wr){n:Nat}(hf:SFr n wr w')(hn:w.heap.size+4≤n):dn w raw a free ca cf pa pf w':=by
 have hl:=h.lt;have low:∀k,k≤w.heap.size+3→w'.heap[k]? =wr.heap[k]? :=fun k hk=>hf.block k (by omega) (by omega)
 refine⟨⟨hf.os.trans h.bel.os,hf.tape.trans h.bel.tape,hf.output.trans h.bel.output,Nat.le_trans h.bel.size hf.size,fun k hk=>(low k (by omega)).trans (h.bel.block k hk)⟩,h.src.low (fun k hk=>low k (by omega)),h.res.low (low _ (by omega)),h.scp.low (low _ (by omega)),h.prg.low (low _ (by omega))⟩
theorem dn.other {w:World}{raw:List Int}{a:Nat}{free:Bool}{ca cf pa pf:Value}{wr:World}(h:dn w raw a free ca cf pa pf wr){k:Nat}(hk:w.heap.size+4≤k)(i:Nat)(v:Value):dn w raw a free ca cf pa pf (wr.setCell ⟨k,i,none⟩ v):=
 ⟨h.bel.trans ((Zb _ _).setCell (by show w.heap.size≤k;omega) _),h.src.other (by omega) i v,h.res.other (by omega) i v,h.scp.other (by omega) i v,h.prg.other (by omega) i v⟩
theorem dn.setP {w:World}{raw:List Int}{a:Nat}{free:Bool}{ca cf pa pf:Value}{wr:World}(h:dn w raw a free ca cf pa pf wr)(v:Value):dn w raw a free ca cf v pf (wr.setCell ⟨w.heap.size+3,0,none⟩ v):=
 ⟨h.bel.trans ((Zb _ _).setCell (by show w.heap.size≤w.heap.size+3;omega) _),h.src.other (by omega) 0 v,h.res.other (by omega) 0 v,h.scp.other (by omega) 0 v,h.prg.set 0 v⟩
theorem dn.setPf {w:World}{raw:List Int}{a:Nat}{free:Bool}{ca cf pa pf:Value}{wr:World}(h:dn w raw a free ca cf pa pf wr)(v:Value):dn w raw a free ca cf pa v (wr.setCell ⟨w.heap.size+3,1,none⟩ v):=
 ⟨h.bel.trans ((Zb _ _).setCell (by show w.heap.size≤w.heap.size+3;omega) _),h.src.other (by omega) 1 v,h.res.other (by omega) 1 v,h.scp.other (by omega) 1 v,h.prg.set 1 v⟩
theorem dn.setC {w:World}{raw:List Int}{a:Nat}{free:Bool}{ca cf pa pf:Value}{wr:World}(h:dn w raw a free ca cf pa pf wr)(v:Value):dn w raw a free v cf pa pf (wr.setCell ⟨w.heap.size+2,1,none⟩ v):=
 ⟨h.bel.trans ((Zb _ _).setCell (by show w.heap.size≤w.heap.size+2;omega) _),h.src.other (by omega) 1 v,h.res.other (by omega) 1 v,h.scp.set 1 v,h.prg.other (by omega) 1 v⟩
theorem dn.setCf {w:World}{raw:List Int}{a:Nat}{free:Bool}{ca cf pa pf:Value}{wr:World}(h:dn w raw a free ca cf pa pf wr)(v:Value):dn w raw a free ca v pa pf (wr.setCell ⟨w.heap.size+2,2,none⟩ v):=
 ⟨h.bel.trans ((Zb _ _).setCell (by show w.heap.size≤w.heap.size+2;omega) _),h.src.other (by omega) 2 v,h.res.other (by omega) 2 v,h.scp.set 2 v,h.prg.other (by omega) 2 v⟩
noncomputable def tY (n:Nat):Code:=match(Tryz.f19.body.bind (gF (jk n)))with
 |some (.block _ (.loop c))=>c
 |_=> .skip
def PG8(w:World)(rv:Value)(free:Bool)(x:Value)(X:World→Prop)(a':Act)(w':World):Prop:= ∃q2 q3 q9 q10 q11 q12 q13 q14 q15 q16 q17 q18 q19 q20 q21 q22 q23 q24 q25 q26 q27 q28 q29 q30 q31 q32 q33 q34 q35 q36 q37 q38 q39 q40 q41 q42 q43 q44 q45 q46 q47 q48 q49 q50 q51 q52 q53 q54 q55 q56 q57 q58 q59 q60 q61 q62 q63 q64 q65 q66 q67 q68 q69 q70 q71 q72 q73 q74 q75 q76 q77 q78 q79 q80 q81 q82 q83 q84 q85 q86 q87 q88 q89 q90 q91 q92 q93 q94 q95 q96 q97 q98 q99 q100 q101 q102 q103 q104 q105 q106 q107 q108 q109 q110 q111 q112 q113 q114 q115 q116 q117 q118 q119:Value,X w'∧a'=⟨[rv,.bool free,q2,q3,.pointer (some ⟨w.heap.size,0,none⟩),.pointer (some ⟨w.heap.size+1,0,none⟩),.pointer (some ⟨w.heap.size+2,0,none⟩),.pointer (some ⟨w.heap.size+3,0,none⟩),x,q9,q10,q11,q12,q13,q14,q15,q16,q17,q18,q19,q20,q21,q22,q23,q24,q25,q26,q27,q28,q29,q30,q31,q32,q33,q34,q35,q36,q37,q38,q39,q40,q41,q42,q43,q44,q45,q46,q47,q48,q49,q50,q51,q52,q53,q54,q55,q56,q57,q58,q59,q60,q61,q62,q63,q64,q65,q66,q67,q68,q69,q70,q71,q72,q73,q74,q75,q76,q77,q78,q79,q80,q81,q82,q83,q84,q85,q86,q87,q88,q89,q90,q91,q92,q93,q94,q95,q96,q97,q98,q99,q100,q101,q102,q103,q104,q105,q106,q107,q108,q109,q110,q111,q112,q113,q114,q115,q116,q117,q118,q119].toArray,[]⟩
def vX(w:World)(rv:Value)(free:Bool)(x:Value)(X:World→Prop)(a':Act)(w':World):Prop:= ∃q2 q3 q8 q9 q11 q12 q13 q14 q15 q16 q17 q18 q19 q20 q21 q22 q23 q24 q25 q26 q27 q28 q29 q30 q31 q32 q33 q34 q35 q36 q37 q38 q39 q40 q41 q42 q43 q44 q45 q46 q47 q48 q49 q50 q51 q52 q53 q54 q55 q56 q57 q58 q59 q60 q61 q62 q63 q64 q65 q66 q67 q68 q69 q70 q71 q72 q73 q74 q75 q76 q77 q78 q79 q80 q81 q82 q83 q84 q85 q86 q87 q88 q89 q90 q91 q92 q93 q94 q95 q96 q97 q98 q99 q100 q101 q102 q103 q104 q105 q106 q107 q108 q109 q110 q111 q112 q113 q114 q115 q116 q117 q118 q119:Value,X w'∧a'=⟨[rv,.bool free,q2,q3,.pointer (some ⟨w.heap.size,0,none⟩),.pointer (some ⟨w.heap.size+1,0,none⟩),.pointer (some ⟨w.heap.size+2,0,none⟩),.pointer (some ⟨w.heap.size+3,0,none⟩),q8,q9,x,q11,q12,q13,q14,q15,q16,q17,q18,q19,q20,q21,q22,q23,q24,q25,q26,q27,q28,q29,q30,q31,q32,q33,q34,q35,q36,q37,q38,q39,q40,q41,q42,q43,q44,q45,q46,q47,q48,q49,q50,q51,q52,q53,q54,q55,q56,q57,q58,q59,q60,q61,q62,q63,q64,q65,q66,q67,q68,q69,q70,q71,q72,q73,q74,q75,q76,q77,q78,q79,q80,q81,q82,q83,q84,q85,q86,q87,q88,q89,q90,q91,q92,q93,q94,q95,q96,q97,q98,q99,q100,q101,q102,q103,q104,q105,q106,q107,q108,q109,q110,q111,q112,q113,q114,q115,q116,q117,q118,q119].toArray,[]⟩
def vK(w:World)(rv:Value)(free:Bool)(x:Value)(X:World→Prop)(a':Act)(w':World):Prop:= ∃q2 q3 q8 q9 q10 q11 q13 q14 q15 q16 q17 q18 q19 q20 q21 q22 q23 q24 q25 q26 q27 q28 q29 q30 q31 q32 q33 q34 q35 q36 q37 q38 q39 q40 q41 q42 q43 q44 q45 q46 q47 q48 q49 q50 q51 q52 q53 q54 q55 q56 q57 q58 q59 q60 q61 q62 q63 q64 q65 q66 q67 q68 q69 q70 q71 q72 q73 q74 q75 q76 q77 q78 q79 q80 q81 q82 q83 q84 q85 q86 q87 q88 q89 q90 q91 q92 q93 q94 q95 q96 q97 q98 q99 q100 q101 q102 q103 q104 q105 q106 q107 q108 q109 q110 q111 q112 q113 q114 q115 q116 q117 q118 q119:Value,X w'∧a'=⟨[rv,.bool free,q2,q3,.pointer (some ⟨w.heap.size,0,none⟩),.pointer (some ⟨w.heap.size+1,0,none⟩),.pointer (some ⟨w.heap.size+2,0,none⟩),.pointer (some ⟨w.heap.size+3,0,none⟩),q8,q9,q10,q11,x,q13,q14,q15,q16,q17,q18,q19,q20,q21,q22,q23,q24,q25,q26,q27,q28,q29,q30,q31,q32,q33,q34,q35,q36,q37,q38,q39,q40,q41,q42,q43,q44,q45,q46,q47,q48,q49,q50,q51,q52,q53,q54,q55,q56,q57,q58,q59,q60,q61,q62,q63,q64,q65,q66,q67,q68,q69,q70,q71,q72,q73,q74,q75,q76,q77,q78,q79,q80,q81,q82,q83,q84,q85,q86,q87,q88,q89,q90,q91,q92,q93,q94,q95,q96,q97,q98,q99,q100,q101,q102,q103,q104,q105,q106,q107,q108,q109,q110,q111,q112,q113,q114,q115,q116,q117,q118,q119].toArray,[]⟩
end Go.Proofs.YtcfpfnoldgnloaaGreatDoor
