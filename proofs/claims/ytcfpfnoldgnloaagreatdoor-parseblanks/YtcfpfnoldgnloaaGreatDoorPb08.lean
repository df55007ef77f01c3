/-
  Prog: the loop that makes functions' heads. Conditions: as what holds says.
-/
import Derived.Test.YtcfpfnoldgnloaaGreatDoorPb07
import Derived.Maps.AppendAt
set_option linter.unusedVariables false
set_option linter.unusedSimpArgs false
namespace Go.Proofs.YtcfpfnoldgnloaaGreatDoor
open Go.RowKit Go.Proofs.Tryz
set_option maxHeartbeats 20000000
set_option maxRecDepth 100000
open Go.Lib renaming hid→Za
open Go.Proofs.Tryz renaming prog→Zb
open Below renaming refl→Zc
open SFr renaming of_below→Zd
open List renaming getElem?_eq_getElem→Ze,getD_eq_getElem?_getD→Zf
theorem vX:∀j:Fin 3,(Ci Fe)[j.val]? =some (.string (Aa (Fe.getD j.val []))):=by
 intro j;match j with
 |⟨0,_⟩=>rfl
 |⟨1,_⟩=>rfl
 |⟨2,_⟩=>rfl
structure V18 (S i a:Nat)(raw:List Int)(W:World)(L:Nat→Bool)(z11 z69 z70 z71 z72 z73 z74 z75 z76 z77:Value)(wx:World):Prop where
 fr:SFr S W wx
 src:Ay wx S raw (if L 6=true then(Ac raw a 7).2 else a)
 ord:L 10=true→∀j,j<10→L j=true
 c0:L 0=true→L 10=false→∃b,z69=.slice (some ⟨b,0,none⟩) 3 3∧W.heap.size≤b∧Ae wx b (Ci Fe) 9
 c1:L 1=true→z70=.int .i64 (i:Int)
 c2:L 2=true→L 10=false→∃b,z71=.pointer (some ⟨b,i,none⟩)∧W.heap.size≤b∧Ae wx b (Ci Fe) 9
 c3:L 3=true→z72=.string (Aa (Fe.getD i []))
 c4:L 4=true→L 10=false→∃b,z73=.slice (some ⟨b,0,none⟩) 6 6∧W.heap.size≤b∧Ae wx b (Ci Hv) 9
 c5:L 5=true→z74=.pointer (some ⟨S,0,none⟩)
 c6:L 6=true→z75=.int .i64 (Ac raw a 7).1
 c7:L 7=true→L 10=false→∃b,z76=.slice (some ⟨b,0,none⟩) (Ac raw a 7).1.toNat 6∧W.heap.size≤b∧Ae wx b (Ci Hv) 9
 c8:L 8=true→L 10=false→∃b,z77=.agg #[.string (Aa (Fe.getD i [])),.slice (some ⟨b,0,none⟩) (Ac raw a 7).1.toNat 6,.slice none 0 0,.slice none 0 0]∧W.heap.size≤b∧Ae wx b (Ci Hv) 9
 c9:L 9=true→L 10=false→∃b,z11=.pointer (some ⟨b,0,none⟩)∧W.heap.size≤b∧Ae wx b [.string ⟨#[]⟩,.slice none 0 0,.slice none 0 0,.slice none 0 0] 58
 c10:L 10=true→∃b b6,z11=.pointer (some ⟨b,0,none⟩)∧W.heap.size≤b∧Ae wx b [.string (Aa (Fe.getD i [])),.slice (some ⟨b6,0,none⟩) (Ac raw a 7).1.toNat 6,.slice none 0 0,.slice none 0 0] 58∧W.heap.size≤b6∧Ae wx b6 (Ci Hv) 9
def R18(S i a:Nat)(raw:List Int)(W:World)(q0 q1 q2 q3 q4 q6 q7 q8 q9 q12 q13 q14 q15 q16 q17 q18 q19 q20 q21 q22 q23 q24 q25 q26 q27 q28 q29 q30 q31 q32 q33 q34 q35 q36 q37 q38 q39 q40 q41 q42 q43 q44 q45 q46 q47 q48 q49 q50 q51 q52 q53 q54 q55 q56 q57 q58 q59 q60 q61 q62 q63 q64 q65 q66 q67 q68 q78 q79 q80 q81 q82 q83 q84 q85 q86 q87 q88 q89 q90 q91 q92 q93 q94 q95 q96 q97 q98 q99 q100 q101 q102 q103 q104 q105 q106 q107 q108 q109 q110 q111 q112 q113 q114 q115 q116 q117 q118 q119:Value)(a':Act)(w':World):Prop:=
 ∃z11 z69 z70 z71 z72 z73 z74 z75 z76 z77:Value,(∃b b6,z11=.pointer (some ⟨b,0,none⟩)∧W.heap.size≤b∧Ae w' b [.string (Aa (Fe.getD i [])),.slice (some ⟨b6,0,none⟩) (Ac raw a 7).1.toNat 6,.slice none 0 0,.slice none 0 0] 58∧W.heap.size≤b6∧Ae w' b6 (Ci Hv) 9∧Ay w' S raw (Ac raw a 7).2∧SFr S W w')∧a'=⟨[q0,q1,q2,q3,q4,.pointer (some ⟨S,0,none⟩),q6,q7,q8,q9,.int .i64 (i:Int),z11,q12,q13,q14,q15,q16,q17,q18,q19,q20,q21,q22,q23,q24,q25,q26,q27,q28,q29,q30,q31,q32,q33,q34,q35,q36,q37,q38,q39,q40,q41,q42,q43,q44,q45,q46,q47,q48,q49,q50,q51,q52,q53,q54,q55,q56,q57,q58,q59,q60,q61,q62,q63,q64,q65,q66,q67,q68,z69,z70,z71,z72,z73,z74,z75,z76,z77,q78,q79,q80,q81,q82,q83,q84,q85,q86,q87,q88,q89,q90,q91,q92,q93,q94,q95,q96,q97,q98,q99,q100,q101,q102,q103,q104,q105,q106,q107,q108,q109,q110,q111,q112,q113,q114,q115,q116,q117,q118,q119].toArray,[]⟩
def I18(S i a:Nat)(raw:List Int)(W:World)(q0 q1 q2 q3 q4 q6 q7 q8 q9 q12 q13 q14 q15 q16 q17 q18 q19 q20 q21 q22 q23 q24 q25 q26 q27 q28 q29 q30 q31 q32 q33 q34 q35 q36 q37 q38 q39 q40 q41 q42 q43 q44 q45 q46 q47 q48 q49 q50 q51 q52 q53 q54 q55 q56 q57 q58 q59 q60 q61 q62 q63 q64 q65 q66 q67 q68 q78 q79 q80 q81 q82 q83 q84 q85 q86 q87 q88 q89 q90 q91 q92 q93 q94 q95 q96 q97 q98 q99 q100 q101 q102 q103 q104 q105 q106 q107 q108 q109 q110 q111 q112 q113 q114 q115 q116 q117 q118 q119:Value)(L:Nat→Bool)(a':Act)(w':World):Prop:=
 ∃z11 z69 z70 z71 z72 z73 z74 z75 z76 z77:Value,V18 S i a raw W L z11 z69 z70 z71 z72 z73 z74 z75 z76 z77 w'∧a'=⟨[q0,q1,q2,q3,q4,.pointer (some ⟨S,0,none⟩),q6,q7,q8,q9,.int .i64 (i:Int),z11,q12,q13,q14,q15,q16,q17,q18,q19,q20,q21,q22,q23,q24,q25,q26,q27,q28,q29,q30,q31,q32,q33,q34,q35,q36,q37,q38,q39,q40,q41,q42,q43,q44,q45,q46,q47,q48,q49,q50,q51,q52,q53,q54,q55,q56,q57,q58,q59,q60,q61,q62,q63,q64,q65,q66,q67,q68,z69,z70,z71,z72,z73,z74,z75,z76,z77,q78,q79,q80,q81,q82,q83,q84,q85,q86,q87,q88,q89,q90,q91,q92,q93,q94,q95,q96,q97,q98,q99,q100,q101,q102,q103,q104,q105,q106,q107,q108,q109,q110,q111,q112,q113,q114,q115,q116,q117,q118,q119].toArray,[]⟩
theorem vU(S i a:Nat)(raw:List Int)(W:World)(hs:Ay W S raw a)(hi:1≤i∧i≤2)(q0 q1 q2 q3 q4 q6 q7 q8 q9 q11 q12 q13 q14 q15 q16 q17 q18 q19 q20 q21 q22 q23 q24 q25 q26 q27 q28 q29 q30 q31 q32 q33 q34 q35 q36 q37 q38 q39 q40 q41 q42 q43 q44 q45 q46 q47 q48 q49 q50 q51 q52 q53 q54 q55 q56 q57 q58 q59 q60 q61 q62 q63 q64 q65 q66 q67 q68 q69 q70 q71 q72 q73 q74 q75 q76 q77 q78 q79 q80 q81 q82 q83 q84 q85 q86 q87 q88 q89 q90 q91 q92 q93 q94 q95 q96 q97 q98 q99 q100 q101 q102 q103 q104 q105 q106 q107 q108 q109 q110 q111 q112 q113 q114 q115 q116 q117 q118 q119:Value)(J K':Act→World→Prop)(hJ:∀a' w',R18 S i a raw W q0 q1 q2 q3 q4 q6 q7 q8 q9 q12 q13 q14 q15 q16 q17 q18 q19 q20 q21 q22 q23 q24 q25 q26 q27 q28 q29 q30 q31 q32 q33 q34 q35 q36 q37 q38 q39 q40 q41 q42 q43 q44 q45 q46 q47 q48 q49 q50 q51 q52 q53 q54 q55 q56 q57 q58 q59 q60 q61 q62 q63 q64 q65 q66 q67 q68 q78 q79 q80 q81 q82 q83 q84 q85 q86 q87 q88 q89 q90 q91 q92 q93 q94 q95 q96 q97 q98 q99 q100 q101 q102 q103 q104 q105 q106 q107 q108 q109 q110 q111 q112 q113 q114 q115 q116 q117 q118 q119 a' w'→J a' w')(hM:∀a' w',Met J a' w'→K' a' w'):
  Code.wp Zb (sZ 18) (Exit.then K' (fun _ _ _=>False)) ⟨[q0,q1,q2,q3,q4,.pointer (some ⟨S,0,none⟩),q6,q7,q8,q9,.int .i64 (i:Int),q11,q12,q13,q14,q15,q16,q17,q18,q19,q20,q21,q22,q23,q24,q25,q26,q27,q28,q29,q30,q31,q32,q33,q34,q35,q36,q37,q38,q39,q40,q41,q42,q43,q44,q45,q46,q47,q48,q49,q50,q51,q52,q53,q54,q55,q56,q57,q58,q59,q60,q61,q62,q63,q64,q65,q66,q67,q68,q69,q70,q71,q72,q73,q74,q75,q76,q77,q78,q79,q80,q81,q82,q83,q84,q85,q86,q87,q88,q89,q90,q91,q92,q93,q94,q95,q96,q97,q98,q99,q100,q101,q102,q103,q104,q105,q106,q107,q108,q109,q110,q111,q112,q113,q114,q115,q116,q117,q118,q119].toArray,[]⟩ W:=by
 conv=>arg 2;whnf
 dsimp only;refine Fp (by kernel_rfl) (by kernel_rfl) (I18 S i a raw W q0 q1 q2 q3 q4 q6 q7 q8 q9 q12 q13 q14 q15 q16 q17 q18 q19 q20 q21 q22 q23 q24 q25 q26 q27 q28 q29 q30 q31 q32 q33 q34 q35 q36 q37 q38 q39 q40 q41 q42 q43 q44 q45 q46 q47 q48 q49 q50 q51 q52 q53 q54 q55 q56 q57 q58 q59 q60 q61 q62 q63 q64 q65 q66 q67 q68 q78 q79 q80 q81 q82 q83 q84 q85 q86 q87 q88 q89 q90 q91 q92 q93 q94 q95 q96 q97 q98 q99 q100 q101 q102 q103 q104 q105 q106 q107 q108 q109 q110 q111 q112 q113 q114 q115 q116 q117 q118 q119) ?_ ?_ ?_
 ·refine⟨q11,q69,q70,q71,q72,q73,q74,q75,q76,q77,⟨Zd (Zc _ _).drew,by rw[if_neg (by decide)];exact hs.old (Zc _ _).drew,fun h=>(by cases h),fun h=>(by cases h),fun h=>(by cases h),fun h=>(by cases h),fun h=>(by cases h),fun h=>(by cases h),fun h=>(by cases h),fun h=>(by cases h),fun h=>(by cases h),fun h=>(by cases h),fun h=>(by cases h),fun h=>(by cases h)⟩,rfl⟩
 ·intro L act wx k hI hk hl hd
  obtain⟨z11,z69,z70,z71,z72,z73,z74,z75,z76,z77,hV,rfl⟩:=hI;have hk:k=0∨k=1∨k=2∨k=3∨k=4∨k=5∨k=6∨k=7∨k=8∨k=9∨k=10:=by
   have:k<11:=hk;omega
  rcases hk with rfl|rfl|rfl|rfl|rfl|rfl|rfl|rfl|rfl|rfl|rfl
  ·have n11:L 10=false:=by
    cases h:L 10 with
    |false=>rfl
    |true=>have:=hV.ord h 0 (by decide);rw[hl]at this;cases this
   have hal:Below wx.heap.size wx (wx.alloc (.cells (Ci Fe).toArray 9)):=bA;have keep:∀b cs T,W.heap.size≤b→Ae wx b cs T→Ae (wx.alloc (.cells (Ci Fe).toArray 9)) b cs T:=fun b cs T _ h=>h.old hal
   have HV:=Za hV;have HD:=Za hd;have HL:=Za hl;refine Bc _ rfl rfl (fun K' hK=>?_)
   conv=>arg 2;whnf
   go_wp2_with fail
   exact⟨z11,.slice (some ⟨wx.heap.size,0,none⟩) 3 3,z70,z71,z72,z73,z74,z75,z76,z77,⟨hV.fr.trans (Zd hal),(by rw[Ab L (show 6≠0 by decide)];exact hV.src.old hal),(fun h j hj=>by rw[Ab L (show 10≠0 by decide)]at h;have:=hV.ord h 0 (by decide);rw[hl]at this;cases this),(fun _ _=>⟨wx.heap.size,rfl,hV.fr.size,Ae.new wx (Ci Fe) _⟩),(fun h=>hV.c1 (by rwa[Ab L (show 1≠0 by decide)]at h)),(fun h h11=>by obtain⟨b,e1,e2,e3⟩:=hV.c2 (by rwa[Ab L (show 2≠0 by decide)]at h) (by rwa[Ab L (show 10≠0 by decide)]at h11);exact⟨b,e1,e2,keep b _ _ e2 e3⟩),(fun h=>hV.c3 (by rwa[Ab L (show 3≠0 by decide)]at h)),(fun h h11=>by obtain⟨b,e1,e2,e3⟩:=hV.c4 (by rwa[Ab L (show 4≠0 by decide)]at h) (by rwa[Ab L (show 10≠0 by decide)]at h11);exact⟨b,e1,e2,keep b _ _ e2 e3⟩),(fun h=>hV.c5 (by rwa[Ab L (show 5≠0 by decide)]at h)),(fun h=>hV.c6 (by rwa[Ab L (show 6≠0 by decide)]at h)),(fun h h11=>by obtain⟨b,e1,e2,e3⟩:=hV.c7 (by rwa[Ab L (show 7≠0 by decide)]at h) (by rwa[Ab L (show 10≠0 by decide)]at h11);exact⟨b,e1,e2,keep b _ _ e2 e3⟩),(fun h h11=>by obtain⟨b,e1,e2,e3⟩:=hV.c8 (by rwa[Ab L (show 8≠0 by decide)]at h) (by rwa[Ab L (show 10≠0 by decide)]at h11);exact⟨b,e1,e2,keep b _ _ e2 e3⟩),(fun h h11=>by obtain⟨b,e1,e2,e3⟩:=hV.c9 (by rwa[Ab L (show 9≠0 by decide)]at h) (by rwa[Ab L (show 10≠0 by decide)]at h11);exact⟨b,e1,e2,keep b _ _ e2 e3⟩),(fun h=>by rw[Ab L (show 10≠0 by decide)]at h;have:=hV.ord h 0 (by decide);rw[hl]at this;cases this)⟩,rfl⟩
  ·have n11:L 10=false:=by
    cases h:L 10 with
    |false=>rfl
    |true=>have:=hV.ord h 1 (by decide);rw[hl]at this;cases this
   have HV:=Za hV;have HD:=Za hd;have HL:=Za hl;refine Bc _ rfl rfl (fun K' hK=>?_)
   conv=>arg 2;whnf
   go_wp2_with fail
   exact⟨z11,z69,.int .i64 (i:Int),z71,z72,z73,z74,z75,z76,z77,⟨hV.fr,(by rw[Ab L (show 6≠1 by decide)];exact hV.src),(fun h j hj=>by rw[Ab L (show 10≠1 by decide)]at h;have:=hV.ord h 1 (by decide);rw[hl]at this;cases this),(fun h h11=>by obtain⟨b,e1,e2,e3⟩:=hV.c0 (by rwa[Ab L (show 0≠1 by decide)]at h) (by rwa[Ab L (show 10≠1 by decide)]at h11);exact⟨b,e1,e2,e3⟩),(fun _=>rfl),(fun h h11=>by obtain⟨b,e1,e2,e3⟩:=hV.c2 (by rwa[Ab L (show 2≠1 by decide)]at h) (by rwa[Ab L (show 10≠1 by decide)]at h11);exact⟨b,e1,e2,e3⟩),(fun h=>hV.c3 (by rwa[Ab L (show 3≠1 by decide)]at h)),(fun h h11=>by obtain⟨b,e1,e2,e3⟩:=hV.c4 (by rwa[Ab L (show 4≠1 by decide)]at h) (by rwa[Ab L (show 10≠1 by decide)]at h11);exact⟨b,e1,e2,e3⟩),(fun h=>hV.c5 (by rwa[Ab L (show 5≠1 by decide)]at h)),(fun h=>hV.c6 (by rwa[Ab L (show 6≠1 by decide)]at h)),(fun h h11=>by obtain⟨b,e1,e2,e3⟩:=hV.c7 (by rwa[Ab L (show 7≠1 by decide)]at h) (by rwa[Ab L (show 10≠1 by decide)]at h11);exact⟨b,e1,e2,e3⟩),(fun h h11=>by obtain⟨b,e1,e2,e3⟩:=hV.c8 (by rwa[Ab L (show 8≠1 by decide)]at h) (by rwa[Ab L (show 10≠1 by decide)]at h11);exact⟨b,e1,e2,e3⟩),(fun h h11=>by obtain⟨b,e1,e2,e3⟩:=hV.c9 (by rwa[Ab L (show 9≠1 by decide)]at h) (by rwa[Ab L (show 10≠1 by decide)]at h11);exact⟨b,e1,e2,e3⟩),(fun h=>by rw[Ab L (show 10≠1 by decide)]at h;have:=hV.ord h 1 (by decide);rw[hl]at this;cases this)⟩,rfl⟩
  ·have n11:L 10=false:=by
    cases h:L 10 with
    |false=>rfl
    |true=>have:=hV.ord h 2 (by decide);rw[hl]at this;cases this
   have d0:L 0=true:=hd _ rfl ⟨0,.data⟩ (by simp) rfl;have d1:L 1=true:=hd _ rfl ⟨1,.data⟩ (by simp) rfl;obtain⟨b,rfl,hb,ho⟩:=hV.c0 d0 n11;obtain rfl:=hV.c1 d1;have hi3:(i:Int)<3:=by omega
   have HV:=Za hV;have HD:=Za hd;have HL:=Za hl;refine Bc _ rfl rfl (fun K' hK=>?_)
   conv=>arg 2;whnf
   go_wp2_with fail
   exact⟨z11,.slice (some ⟨b,0,none⟩) 3 3,.int .i64 (i:Int),.pointer (some ⟨b,i,none⟩),z72,z73,z74,z75,z76,z77,⟨hV.fr,(by rw[Ab L (show 6≠2 by decide)];exact hV.src),(fun h j hj=>by rw[Ab L (show 10≠2 by decide)]at h;have:=hV.ord h 2 (by decide);rw[hl]at this;cases this),(fun h h11=>by obtain⟨b,e1,e2,e3⟩:=hV.c0 (by rwa[Ab L (show 0≠2 by decide)]at h) (by rwa[Ab L (show 10≠2 by decide)]at h11);exact⟨b,e1,e2,e3⟩),(fun h=>hV.c1 (by rwa[Ab L (show 1≠2 by decide)]at h)),(fun _ _=>⟨b,rfl,hb,ho⟩),(fun h=>hV.c3 (by rwa[Ab L (show 3≠2 by decide)]at h)),(fun h h11=>by obtain⟨b,e1,e2,e3⟩:=hV.c4 (by rwa[Ab L (show 4≠2 by decide)]at h) (by rwa[Ab L (show 10≠2 by decide)]at h11);exact⟨b,e1,e2,e3⟩),(fun h=>hV.c5 (by rwa[Ab L (show 5≠2 by decide)]at h)),(fun h=>hV.c6 (by rwa[Ab L (show 6≠2 by decide)]at h)),(fun h h11=>by obtain⟨b,e1,e2,e3⟩:=hV.c7 (by rwa[Ab L (show 7≠2 by decide)]at h) (by rwa[Ab L (show 10≠2 by decide)]at h11);exact⟨b,e1,e2,e3⟩),(fun h h11=>by obtain⟨b,e1,e2,e3⟩:=hV.c8 (by rwa[Ab L (show 8≠2 by decide)]at h) (by rwa[Ab L (show 10≠2 by decide)]at h11);exact⟨b,e1,e2,e3⟩),(fun h h11=>by obtain⟨b,e1,e2,e3⟩:=hV.c9 (by rwa[Ab L (show 9≠2 by decide)]at h) (by rwa[Ab L (show 10≠2 by decide)]at h11);exact⟨b,e1,e2,e3⟩),(fun h=>by rw[Ab L (show 10≠2 by decide)]at h;have:=hV.ord h 2 (by decide);rw[hl]at this;cases this)⟩,rfl⟩
  ·have n11:L 10=false:=by
    cases h:L 10 with
    |false=>rfl
    |true=>have:=hV.ord h 3 (by decide);rw[hl]at this;cases this
   have d2:L 2=true:=hd _ rfl ⟨2,.data⟩ (by simp) rfl;obtain⟨b,rfl,hb,ho⟩:=hV.c2 d2 n11;have hx:=ho.at i _ (vX ⟨i,by omega⟩);have HV:=Za hV;have HD:=Za hd;have HL:=Za hl;refine Bc _ rfl rfl (fun K' hK=>?_)
   conv=>arg 2;whnf
   go_wp2_with fail
   exact⟨z11,z69,z70,.pointer (some ⟨b,i,none⟩),.string (Aa (Fe.getD i [])),z73,z74,z75,z76,z77,⟨hV.fr,(by rw[Ab L (show 6≠3 by decide)];exact hV.src),(fun h j hj=>by rw[Ab L (show 10≠3 by decide)]at h;have:=hV.ord h 3 (by decide);rw[hl]at this;cases this),(fun h h11=>by obtain⟨b,e1,e2,e3⟩:=hV.c0 (by rwa[Ab L (show 0≠3 by decide)]at h) (by rwa[Ab L (show 10≠3 by decide)]at h11);exact⟨b,e1,e2,e3⟩),(fun h=>hV.c1 (by rwa[Ab L (show 1≠3 by decide)]at h)),(fun h h11=>by obtain⟨b,e1,e2,e3⟩:=hV.c2 (by rwa[Ab L (show 2≠3 by decide)]at h) (by rwa[Ab L (show 10≠3 by decide)]at h11);exact⟨b,e1,e2,e3⟩),(fun _=>rfl),(fun h h11=>by obtain⟨b,e1,e2,e3⟩:=hV.c4 (by rwa[Ab L (show 4≠3 by decide)]at h) (by rwa[Ab L (show 10≠3 by decide)]at h11);exact⟨b,e1,e2,e3⟩),(fun h=>hV.c5 (by rwa[Ab L (show 5≠3 by decide)]at h)),(fun h=>hV.c6 (by rwa[Ab L (show 6≠3 by decide)]at h)),(fun h h11=>by obtain⟨b,e1,e2,e3⟩:=hV.c7 (by rwa[Ab L (show 7≠3 by decide)]at h) (by rwa[Ab L (show 10≠3 by decide)]at h11);exact⟨b,e1,e2,e3⟩),(fun h h11=>by obtain⟨b,e1,e2,e3⟩:=hV.c8 (by rwa[Ab L (show 8≠3 by decide)]at h) (by rwa[Ab L (show 10≠3 by decide)]at h11);exact⟨b,e1,e2,e3⟩),(fun h h11=>by obtain⟨b,e1,e2,e3⟩:=hV.c9 (by rwa[Ab L (show 9≠3 by decide)]at h) (by rwa[Ab L (show 10≠3 by decide)]at h11);exact⟨b,e1,e2,e3⟩),(fun h=>by rw[Ab L (show 10≠3 by decide)]at h;have:=hV.ord h 3 (by decide);rw[hl]at this;cases this)⟩,rfl⟩
  ·have n11:L 10=false:=by
    cases h:L 10 with
    |false=>rfl
    |true=>have:=hV.ord h 4 (by decide);rw[hl]at this;cases this
   have hal:Below wx.heap.size wx (wx.alloc (.cells (Ci Hv).toArray 9)):=bA;have keep:∀b cs T,W.heap.size≤b→Ae wx b cs T→Ae (wx.alloc (.cells (Ci Hv).toArray 9)) b cs T:=fun b cs T _ h=>h.old hal
   have HV:=Za hV;have HD:=Za hd;have HL:=Za hl;refine Bc _ rfl rfl (fun K' hK=>?_)
   conv=>arg 2;whnf
   go_wp2_with fail
   exact⟨z11,z69,z70,z71,z72,.slice (some ⟨wx.heap.size,0,none⟩) 6 6,z74,z75,z76,z77,⟨hV.fr.trans (Zd hal),(by rw[Ab L (show 6≠4 by decide)];exact hV.src.old hal),(fun h j hj=>by rw[Ab L (show 10≠4 by decide)]at h;have:=hV.ord h 4 (by decide);rw[hl]at this;cases this),(fun h h11=>by obtain⟨b,e1,e2,e3⟩:=hV.c0 (by rwa[Ab L (show 0≠4 by decide)]at h) (by rwa[Ab L (show 10≠4 by decide)]at h11);exact⟨b,e1,e2,keep b _ _ e2 e3⟩),(fun h=>hV.c1 (by rwa[Ab L (show 1≠4 by decide)]at h)),(fun h h11=>by obtain⟨b,e1,e2,e3⟩:=hV.c2 (by rwa[Ab L (show 2≠4 by decide)]at h) (by rwa[Ab L (show 10≠4 by decide)]at h11);exact⟨b,e1,e2,keep b _ _ e2 e3⟩),(fun h=>hV.c3 (by rwa[Ab L (show 3≠4 by decide)]at h)),(fun _ _=>⟨wx.heap.size,rfl,hV.fr.size,Ae.new wx (Ci Hv) _⟩),(fun h=>hV.c5 (by rwa[Ab L (show 5≠4 by decide)]at h)),(fun h=>hV.c6 (by rwa[Ab L (show 6≠4 by decide)]at h)),(fun h h11=>by obtain⟨b,e1,e2,e3⟩:=hV.c7 (by rwa[Ab L (show 7≠4 by decide)]at h) (by rwa[Ab L (show 10≠4 by decide)]at h11);exact⟨b,e1,e2,keep b _ _ e2 e3⟩),(fun h h11=>by obtain⟨b,e1,e2,e3⟩:=hV.c8 (by rwa[Ab L (show 8≠4 by decide)]at h) (by rwa[Ab L (show 10≠4 by decide)]at h11);exact⟨b,e1,e2,keep b _ _ e2 e3⟩),(fun h h11=>by obtain⟨b,e1,e2,e3⟩:=hV.c9 (by rwa[Ab L (show 9≠4 by decide)]at h) (by rwa[Ab L (show 10≠4 by decide)]at h11);exact⟨b,e1,e2,keep b _ _ e2 e3⟩),(fun h=>by rw[Ab L (show 10≠4 by decide)]at h;have:=hV.ord h 4 (by decide);rw[hl]at this;cases this)⟩,rfl⟩
  ·have n11:L 10=false:=by
    cases h:L 10 with
    |false=>rfl
    |true=>have:=hV.ord h 5 (by decide);rw[hl]at this;cases this
   have HV:=Za hV;have HD:=Za hd;have HL:=Za hl;refine Bc _ rfl rfl (fun K' hK=>?_)
   conv=>arg 2;whnf
   go_wp2_with fail
   exact⟨z11,z69,z70,z71,z72,z73,.pointer (some ⟨S,0,none⟩),z75,z76,z77,⟨hV.fr,(by rw[Ab L (show 6≠5 by decide)];exact hV.src),(fun h j hj=>by rw[Ab L (show 10≠5 by decide)]at h;have:=hV.ord h 5 (by decide);rw[hl]at this;cases this),(fun h h11=>by obtain⟨b,e1,e2,e3⟩:=hV.c0 (by rwa[Ab L (show 0≠5 by decide)]at h) (by rwa[Ab L (show 10≠5 by decide)]at h11);exact⟨b,e1,e2,e3⟩),(fun h=>hV.c1 (by rwa[Ab L (show 1≠5 by decide)]at h)),(fun h h11=>by obtain⟨b,e1,e2,e3⟩:=hV.c2 (by rwa[Ab L (show 2≠5 by decide)]at h) (by rwa[Ab L (show 10≠5 by decide)]at h11);exact⟨b,e1,e2,e3⟩),(fun h=>hV.c3 (by rwa[Ab L (show 3≠5 by decide)]at h)),(fun h h11=>by obtain⟨b,e1,e2,e3⟩:=hV.c4 (by rwa[Ab L (show 4≠5 by decide)]at h) (by rwa[Ab L (show 10≠5 by decide)]at h11);exact⟨b,e1,e2,e3⟩),(fun _=>rfl),(fun h=>hV.c6 (by rwa[Ab L (show 6≠5 by decide)]at h)),(fun h h11=>by obtain⟨b,e1,e2,e3⟩:=hV.c7 (by rwa[Ab L (show 7≠5 by decide)]at h) (by rwa[Ab L (show 10≠5 by decide)]at h11);exact⟨b,e1,e2,e3⟩),(fun h h11=>by obtain⟨b,e1,e2,e3⟩:=hV.c8 (by rwa[Ab L (show 8≠5 by decide)]at h) (by rwa[Ab L (show 10≠5 by decide)]at h11);exact⟨b,e1,e2,e3⟩),(fun h h11=>by obtain⟨b,e1,e2,e3⟩:=hV.c9 (by rwa[Ab L (show 9≠5 by decide)]at h) (by rwa[Ab L (show 10≠5 by decide)]at h11);exact⟨b,e1,e2,e3⟩),(fun h=>by rw[Ab L (show 10≠5 by decide)]at h;have:=hV.ord h 5 (by decide);rw[hl]at this;cases this)⟩,rfl⟩
  ·have n11:L 10=false:=by
    cases h:L 10 with
    |false=>rfl
    |true=>have:=hV.ord h 6 (by decide);rw[hl]at this;cases this
   have d5:L 5=true:=hd _ rfl ⟨5,.data⟩ (by simp) rfl;obtain rfl:=hV.c5 d5;have hsrc:=hV.src;rw[if_neg (by rw[hl];decide)]at hsrc;have hsS:=hs.lt;have HV:=Za hV;have HD:=Za hd;have HL:=Za hl;refine Bc _ rfl rfl (fun K' hK=>?_)
   conv=>arg 2;whnf
   go_wp2_with fail
   refine(Cj S raw a 7 wx hsrc (by decide) (by decide)).mono ?_;rintro r w2 ⟨rfl,hs2,hf2⟩;have keep:∀b cs T,W.heap.size≤b→Ae wx b cs T→Ae w2 b cs T:=fun b cs T hb h=>h.sfr hf2 (by omega)
   go_wp2_with fail
   exact⟨z11,z69,z70,z71,z72,z73,.pointer (some ⟨S,0,none⟩),.int .i64 (Ac raw a 7).1,z76,z77,⟨hV.fr.trans hf2,(by rw[Bb,if_pos rfl];exact hs2),(fun h j hj=>by rw[Ab L (show 10≠6 by decide)]at h;have:=hV.ord h 6 (by decide);rw[hl]at this;cases this),(fun h h11=>by obtain⟨b,e1,e2,e3⟩:=hV.c0 (by rwa[Ab L (show 0≠6 by decide)]at h) (by rwa[Ab L (show 10≠6 by decide)]at h11);exact⟨b,e1,e2,keep b _ _ e2 e3⟩),(fun h=>hV.c1 (by rwa[Ab L (show 1≠6 by decide)]at h)),(fun h h11=>by obtain⟨b,e1,e2,e3⟩:=hV.c2 (by rwa[Ab L (show 2≠6 by decide)]at h) (by rwa[Ab L (show 10≠6 by decide)]at h11);exact⟨b,e1,e2,keep b _ _ e2 e3⟩),(fun h=>hV.c3 (by rwa[Ab L (show 3≠6 by decide)]at h)),(fun h h11=>by obtain⟨b,e1,e2,e3⟩:=hV.c4 (by rwa[Ab L (show 4≠6 by decide)]at h) (by rwa[Ab L (show 10≠6 by decide)]at h11);exact⟨b,e1,e2,keep b _ _ e2 e3⟩),(fun h=>hV.c5 (by rwa[Ab L (show 5≠6 by decide)]at h)),(fun _=>rfl),(fun h h11=>by obtain⟨b,e1,e2,e3⟩:=hV.c7 (by rwa[Ab L (show 7≠6 by decide)]at h) (by rwa[Ab L (show 10≠6 by decide)]at h11);exact⟨b,e1,e2,keep b _ _ e2 e3⟩),(fun h h11=>by obtain⟨b,e1,e2,e3⟩:=hV.c8 (by rwa[Ab L (show 8≠6 by decide)]at h) (by rwa[Ab L (show 10≠6 by decide)]at h11);exact⟨b,e1,e2,keep b _ _ e2 e3⟩),(fun h h11=>by obtain⟨b,e1,e2,e3⟩:=hV.c9 (by rwa[Ab L (show 9≠6 by decide)]at h) (by rwa[Ab L (show 10≠6 by decide)]at h11);exact⟨b,e1,e2,keep b _ _ e2 e3⟩),(fun h=>by rw[Ab L (show 10≠6 by decide)]at h;have:=hV.ord h 6 (by decide);rw[hl]at this;cases this)⟩,rfl⟩
  ·have n11:L 10=false:=by
    cases h:L 10 with
    |false=>rfl
    |true=>have:=hV.ord h 7 (by decide);rw[hl]at this;cases this
   have d4:L 4=true:=hd _ rfl ⟨4,.data⟩ (by simp) rfl;have d6:L 6=true:=hd _ rfl ⟨6,.data⟩ (by simp) rfl;obtain⟨b,rfl,hb,ho⟩:=hV.c4 d4 n11;obtain rfl:=hV.c6 d6;have hr:=Ah raw a 7 (by decide);obtain⟨g0,g1⟩:=hr;have HV:=Za hV;have HD:=Za hd;have HL:=Za hl;refine Bc _ rfl rfl (fun K' hK=>?_)
   conv=>arg 2;whnf
   go_wp2_with fail
   exact⟨z11,z69,z70,z71,z72,.slice (some ⟨b,0,none⟩) 6 6,z74,.int .i64 (Ac raw a 7).1,.slice (some ⟨b,0,none⟩) (Ac raw a 7).1.toNat 6,z77,⟨hV.fr,(by rw[Ab L (show 6≠7 by decide)];exact hV.src),(fun h j hj=>by rw[Ab L (show 10≠7 by decide)]at h;have:=hV.ord h 7 (by decide);rw[hl]at this;cases this),(fun h h11=>by obtain⟨b,e1,e2,e3⟩:=hV.c0 (by rwa[Ab L (show 0≠7 by decide)]at h) (by rwa[Ab L (show 10≠7 by decide)]at h11);exact⟨b,e1,e2,e3⟩),(fun h=>hV.c1 (by rwa[Ab L (show 1≠7 by decide)]at h)),(fun h h11=>by obtain⟨b,e1,e2,e3⟩:=hV.c2 (by rwa[Ab L (show 2≠7 by decide)]at h) (by rwa[Ab L (show 10≠7 by decide)]at h11);exact⟨b,e1,e2,e3⟩),(fun h=>hV.c3 (by rwa[Ab L (show 3≠7 by decide)]at h)),(fun h h11=>by obtain⟨b,e1,e2,e3⟩:=hV.c4 (by rwa[Ab L (show 4≠7 by decide)]at h) (by rwa[Ab L (show 10≠7 by decide)]at h11);exact⟨b,e1,e2,e3⟩),(fun h=>hV.c5 (by rwa[Ab L (show 5≠7 by decide)]at h)),(fun h=>hV.c6 (by rwa[Ab L (show 6≠7 by decide)]at h)),(fun _ _=>⟨b,rfl,hb,ho⟩),(fun h h11=>by obtain⟨b,e1,e2,e3⟩:=hV.c8 (by rwa[Ab L (show 8≠7 by decide)]at h) (by rwa[Ab L (show 10≠7 by decide)]at h11);exact⟨b,e1,e2,e3⟩),(fun h h11=>by obtain⟨b,e1,e2,e3⟩:=hV.c9 (by rwa[Ab L (show 9≠7 by decide)]at h) (by rwa[Ab L (show 10≠7 by decide)]at h11);exact⟨b,e1,e2,e3⟩),(fun h=>by rw[Ab L (show 10≠7 by decide)]at h;have:=hV.ord h 7 (by decide);rw[hl]at this;cases this)⟩,rfl⟩
  ·have n11:L 10=false:=by
    cases h:L 10 with
    |false=>rfl
    |true=>have:=hV.ord h 8 (by decide);rw[hl]at this;cases this
   have d3:L 3=true:=hd _ rfl ⟨3,.data⟩ (by simp) rfl;have d7:L 7=true:=hd _ rfl ⟨7,.data⟩ (by simp) rfl;obtain rfl:=hV.c3 d3;obtain⟨b,rfl,hb,ho⟩:=hV.c7 d7 n11;have HV:=Za hV;have HD:=Za hd;have HL:=Za hl;refine Bc _ rfl rfl (fun K' hK=>?_)
   conv=>arg 2;whnf
   go_wp2_with fail
   exact⟨z11,z69,z70,z71,.string (Aa (Fe.getD i [])),z73,z74,z75,.slice (some ⟨b,0,none⟩) (Ac raw a 7).1.toNat 6,.agg #[.string (Aa (Fe.getD i [])),.slice (some ⟨b,0,none⟩) (Ac raw a 7).1.toNat 6,.slice none 0 0,.slice none 0 0],⟨hV.fr,(by rw[Ab L (show 6≠8 by decide)];exact hV.src),(fun h j hj=>by rw[Ab L (show 10≠8 by decide)]at h;have:=hV.ord h 8 (by decide);rw[hl]at this;cases this),(fun h h11=>by obtain⟨b,e1,e2,e3⟩:=hV.c0 (by rwa[Ab L (show 0≠8 by decide)]at h) (by rwa[Ab L (show 10≠8 by decide)]at h11);exact⟨b,e1,e2,e3⟩),(fun h=>hV.c1 (by rwa[Ab L (show 1≠8 by decide)]at h)),(fun h h11=>by obtain⟨b,e1,e2,e3⟩:=hV.c2 (by rwa[Ab L (show 2≠8 by decide)]at h) (by rwa[Ab L (show 10≠8 by decide)]at h11);exact⟨b,e1,e2,e3⟩),(fun h=>hV.c3 (by rwa[Ab L (show 3≠8 by decide)]at h)),(fun h h11=>by obtain⟨b,e1,e2,e3⟩:=hV.c4 (by rwa[Ab L (show 4≠8 by decide)]at h) (by rwa[Ab L (show 10≠8 by decide)]at h11);exact⟨b,e1,e2,e3⟩),(fun h=>hV.c5 (by rwa[Ab L (show 5≠8 by decide)]at h)),(fun h=>hV.c6 (by rwa[Ab L (show 6≠8 by decide)]at h)),(fun h h11=>by obtain⟨b,e1,e2,e3⟩:=hV.c7 (by rwa[Ab L (show 7≠8 by decide)]at h) (by rwa[Ab L (show 10≠8 by decide)]at h11);exact⟨b,e1,e2,e3⟩),(fun _ _=>⟨b,rfl,hb,ho⟩),(fun h h11=>by obtain⟨b,e1,e2,e3⟩:=hV.c9 (by rwa[Ab L (show 9≠8 by decide)]at h) (by rwa[Ab L (show 10≠8 by decide)]at h11);exact⟨b,e1,e2,e3⟩),(fun h=>by rw[Ab L (show 10≠8 by decide)]at h;have:=hV.ord h 8 (by decide);rw[hl]at this;cases this)⟩,rfl⟩
  ·have n11:L 10=false:=by
    cases h:L 10 with
    |false=>rfl
    |true=>have:=hV.ord h 9 (by decide);rw[hl]at this;cases this
   have hal:Below wx.heap.size wx (wx.alloc (.cells #[.string ⟨#[]⟩,.slice none 0 0,.slice none 0 0,.slice none 0 0] 58)):=bA;have keep:∀b cs T,W.heap.size≤b→Ae wx b cs T→Ae (wx.alloc (.cells #[.string ⟨#[]⟩,.slice none 0 0,.slice none 0 0,.slice none 0 0] 58)) b cs T:=fun b cs T _ h=>h.old hal
   have HV:=Za hV;have HD:=Za hd;have HL:=Za hl;refine Bc _ rfl rfl (fun K' hK=>?_)
   conv=>arg 2;whnf
   go_wp2_with fail
   exact⟨.pointer (some ⟨wx.heap.size,0,none⟩),z69,z70,z71,z72,z73,z74,z75,z76,z77,⟨hV.fr.trans (Zd hal),(by rw[Ab L (show 6≠9 by decide)];exact hV.src.old hal),(fun h j hj=>by rw[Ab L (show 10≠9 by decide)]at h;have:=hV.ord h 9 (by decide);rw[hl]at this;cases this),(fun h h11=>by obtain⟨b,e1,e2,e3⟩:=hV.c0 (by rwa[Ab L (show 0≠9 by decide)]at h) (by rwa[Ab L (show 10≠9 by decide)]at h11);exact⟨b,e1,e2,keep b _ _ e2 e3⟩),(fun h=>hV.c1 (by rwa[Ab L (show 1≠9 by decide)]at h)),(fun h h11=>by obtain⟨b,e1,e2,e3⟩:=hV.c2 (by rwa[Ab L (show 2≠9 by decide)]at h) (by rwa[Ab L (show 10≠9 by decide)]at h11);exact⟨b,e1,e2,keep b _ _ e2 e3⟩),(fun h=>hV.c3 (by rwa[Ab L (show 3≠9 by decide)]at h)),(fun h h11=>by obtain⟨b,e1,e2,e3⟩:=hV.c4 (by rwa[Ab L (show 4≠9 by decide)]at h) (by rwa[Ab L (show 10≠9 by decide)]at h11);exact⟨b,e1,e2,keep b _ _ e2 e3⟩),(fun h=>hV.c5 (by rwa[Ab L (show 5≠9 by decide)]at h)),(fun h=>hV.c6 (by rwa[Ab L (show 6≠9 by decide)]at h)),(fun h h11=>by obtain⟨b,e1,e2,e3⟩:=hV.c7 (by rwa[Ab L (show 7≠9 by decide)]at h) (by rwa[Ab L (show 10≠9 by decide)]at h11);exact⟨b,e1,e2,keep b _ _ e2 e3⟩),(fun h h11=>by obtain⟨b,e1,e2,e3⟩:=hV.c8 (by rwa[Ab L (show 8≠9 by decide)]at h) (by rwa[Ab L (show 10≠9 by decide)]at h11);exact⟨b,e1,e2,keep b _ _ e2 e3⟩),(fun _ _=>⟨wx.heap.size,rfl,hV.fr.size,Ae.new wx [.string ⟨#[]⟩,.slice none 0 0,.slice none 0 0,.slice none 0 0] _⟩),(fun h=>by rw[Ab L (show 10≠9 by decide)]at h;have:=hV.ord h 9 (by decide);rw[hl]at this;cases this)⟩,rfl⟩
  ·have n11:=hl
   have d9:L 9=true:=hd _ rfl ⟨9,.data⟩ (by simp) rfl;have d8:L 8=true:=hd _ rfl ⟨8,.data⟩ (by simp) rfl;obtain⟨b,rfl,hb,ho⟩:=hV.c9 d9 n11;obtain⟨b6,rfl,hb6,ho6⟩:=hV.c8 d8 n11;have hbb:b6≠b:=by
    rintro rfl;have e:=ho.symm.trans ho6;simp at e
   have before:∀j,j<10→L j=true:=fun j hj=>by
    have hj:j=0∨j=1∨j=2∨j=3∨j=4∨j=5∨j=6∨j=7∨j=8∨j=9:=by omega
    rcases hj with rfl|rfl|rfl|rfl|rfl|rfl|rfl|rfl|rfl|rfl
    ·exact hd _ rfl ⟨0,.phase⟩ (by simp) rfl
    ·exact hd _ rfl ⟨1,.phase⟩ (by simp) rfl
    ·exact hd _ rfl ⟨2,.phase⟩ (by simp) rfl
    ·exact hd _ rfl ⟨3,.phase⟩ (by simp) rfl
    ·exact hd _ rfl ⟨4,.phase⟩ (by simp) rfl
    ·exact hd _ rfl ⟨5,.phase⟩ (by simp) rfl
    ·exact hd _ rfl ⟨6,.phase⟩ (by simp) rfl
    ·exact hd _ rfl ⟨7,.phase⟩ (by simp) rfl
    ·exact hd _ rfl ⟨8,.phase⟩ (by simp) rfl
    ·exact hd _ rfl ⟨9,.phase⟩ (by simp) rfl
   have hx0:=ho.at 0 _ rfl;have fx0:=ho.fz 0;have hx1:=ho.at 1 _ rfl;have fx1:=ho.fz 1;have hx2:=ho.at 2 _ rfl;have fx2:=ho.fz 2;have hx3:=ho.at 3 _ rfl;have fx3:=ho.fz 3;have hbl:=ho.lt;have hsS:=hs.lt;have hSb:S<b:=by omega
   have HV:=Za hV;have HD:=Za hd;have HL:=Za hl;refine Bc _ rfl rfl (fun K' hK=>?_)
   conv=>arg 2;whnf
   go_wp2_with fail
   exact⟨.pointer (some ⟨b,0,none⟩),z69,z70,z71,z72,z73,z74,z75,z76,.agg #[.string (Aa (Fe.getD i [])),.slice (some ⟨b6,0,none⟩) (Ac raw a 7).1.toNat 6,.slice none 0 0,.slice none 0 0],⟨(((hV.fr.setNew hb 0 (.string (Aa (Fe.getD i [])))).setNew hb 1 (.slice (some ⟨b6,0,none⟩) (Ac raw a 7).1.toNat 6)).setNew hb 2 (.slice none 0 0)).setNew hb 3 (.slice none 0 0),(by rw[Ab L (show 6≠10 by decide)];exact(((hV.src.other hSb 0 (.string (Aa (Fe.getD i [])))).other hSb 1 (.slice (some ⟨b6,0,none⟩) (Ac raw a 7).1.toNat 6)).other hSb 2 (.slice none 0 0)).other hSb 3 (.slice none 0 0)),(fun _ j hj=>by rw[Ab L (show j≠10 by omega)];exact before j hj),(fun _ h11=>by rw[Bb]at h11;cases h11),(fun h=>hV.c1 (by rwa[Ab L (show 1≠10 by decide)]at h)),(fun _ h11=>by rw[Bb]at h11;cases h11),(fun h=>hV.c3 (by rwa[Ab L (show 3≠10 by decide)]at h)),(fun _ h11=>by rw[Bb]at h11;cases h11),(fun h=>hV.c5 (by rwa[Ab L (show 5≠10 by decide)]at h)),(fun h=>hV.c6 (by rwa[Ab L (show 6≠10 by decide)]at h)),(fun _ h11=>by rw[Bb]at h11;cases h11),(fun _ h11=>by rw[Bb]at h11;cases h11),(fun _ h11=>by rw[Bb]at h11;cases h11),(fun _=>⟨b,b6,rfl,hb,(((ho.set 0 (.string (Aa (Fe.getD i [])))).set 1 (.slice (some ⟨b6,0,none⟩) (Ac raw a 7).1.toNat 6)).set 2 (.slice none 0 0)).set 3 (.slice none 0 0),hb6,(((ho6.other hbb 0 (.string (Aa (Fe.getD i [])))).other hbb 1 (.slice (some ⟨b6,0,none⟩) (Ac raw a 7).1.toNat 6)).other hbb 2 (.slice none 0 0)).other hbb 3 (.slice none 0 0)⟩)⟩,rfl⟩
 ·intro L act wx hI hall
  obtain⟨z11,z69,z70,z71,z72,z73,z74,z75,z76,z77,hV,rfl⟩:=hI;obtain⟨b,b6,e1,e2,e3,e4,e5⟩:=hV.c10 (hall 10 (by decide));have hsrc:=hV.src;rw[if_pos (hall 6 (by decide))]at hsrc;exact hM _ _ (Met.intro (hJ _ _ ⟨z11,z69,z70,z71,z72,z73,z74,z75,z76,z77,⟨b,b6,e1,e2,e3,e4,e5,hsrc,hV.fr⟩,rfl⟩))
theorem lT(l:List Bs):∀u,u∈Ci l→u.oneCell'=true:=by
 intro u hu;obtain⟨x,_,rfl⟩:=List.mem_map.1 hu;rfl
theorem Xj(l:List Bs):(Ci l).length=l.length:=List.length_map _
theorem Vh(w:World)(base:Nat)(ty:TypeId)(v:Value)(n:Nat)(xs:List Value)(hown:w.ownsRow base 9 1 v n xs){D:Nat→Prop}(l:List Bs)(sv:Value)(hs:Ba D w l sv)(hn:n+l.length≤1000)(hbase:base≤w.heap.size):
  ∃v' w',(Builtin.append_ #[24,24] ty #[v,sv]).run Zb w=.ok v' w'∧w'.ownsRow base 9 1 v' (n+l.length) (xs++Ci l)∧w.grownBy w' v.ownBlock∧(v'.ownBlock=v.ownBlock∨v'.ownBlock=some w.heap.size):=by
 obtain⟨i0,hi0,hz0,hz1,hz2⟩:=info_parts infoStr;obtain⟨a,cap,b,off,rfl,h1,h2,h3,h4⟩:=hs
 cases a with
 |none=>
  have h0:l=[]:=by
   rcases h3 with h3|h3
   ·exact List.length_eq_zero_iff.1 h3
   ·cases h3.1
  subst h0;refine⟨v,w,?_,by simpa [Ci]using hown,World.grownBy.refl w _,.inl rfl⟩;rcases hown.2 with⟨rfl,rfl⟩|⟨g,c,cur,rfl,_,_,hnc,_⟩
  ·simp [Builtin.append_,run_underlying underlying24,sizeOf,typeInfo,hi0,Builtin.lenOf,Builtin.firstCells]
  ·simp [Builtin.append_,run_underlying underlying24,sizeOf,typeInfo,hi0,Builtin.lenOf,Builtin.firstCells,hnc,storeCells]
 |some ad=>
  have hc:∀j u,(Ci l)[j]? =some u→w.cell? (ad.add j)=some u:=by
   intro j u hu;have hj:j<l.length:=by
    rcases Nat.lt_or_ge j l.length with h|h
    ·exact h
    ·rw[List.getElem?_eq_none (by rw[Xj];exact h)]at hu;cases hu
   rcases h3 with h3|⟨h3,_⟩
   ·omega
   ·cases h3
    have e:(Ci l)[j]? =some (.string (Aa (l.getD j []))):=by
     unfold Ci;rw[List.getElem?_map,Ze hj,Zf,Ze hj];rfl
    rw[e]at hu
    cases hu
    have h5:(⟨b,off,none⟩:Addr).add j=⟨b,off+j,none⟩:=by unfold Addr.add;split<;>simp_all
    rw[h5];exact h4 j hj
  obtain⟨v',w',hr,h5,h6,_,h7⟩:=run_append_own_at (P:=Zb) w base 24 ty 9 i0 _ 1 16 underlying24 hi0 hz0 hz1 hz2 rfl (by decide) v n xs hown ad l.length cap (Ci l) (by rw[Xj,Nat.mul_one]) hc (lT l) (by unfold maxLen;omega) (by omega) hbase;exact⟨v',w',hr,h5,h6,h7⟩
theorem Om {o:Oper}{a:Act}{w:World}{K:Act→World→Prop}{Q:Exit→Act→World→Prop}(s x:Operand)(ho:o.op=.call {callee:=.builtin .append,args:= #[s,x],argTypes:= #[24,24]})
  (base:Nat) (v:Value) (n:Nat) (xs:List Value) (hs:a.eval s=v) (hown:w.ownsRow base 9 1 v n xs) {D:Nat→Prop} (l:List Bs) (sv:Value) (hx:a.eval x=sv) (hl:Ba D w l sv) (hn:n+l.length≤1000) (hbase:base≤w.heap.size)
  (h:∀v' w',w'.ownsRow base 9 1 v' (n+l.length) (xs++Ci l)→w.grownBy w' v.ownBlock→(v'.ownBlock=v.ownBlock∨v'.ownBlock=some w.heap.size)→K (a.put o.dst v') w'):o.wp Zb a w K Q:=by
 obtain⟨v',w',hr,h1,h2,h3⟩:=Vh w base o.type v n xs hown l sv hl hn hbase;unfold Oper.wp execOp;simp only[ho,resolve,invoke,builtin,Sem.run_bind,Sem.run_pure,Result.andThen_ok,List.map_toArray,List.map_cons,List.map_nil,hs,hx,hr];exact h v' w' h1 h2 h3
theorem rH {w:World}{base size n:Nat}{e:TypeId}{v:Value}{xs:List Value}(h:w.ownsRow base e size v n xs):∃a k c,v=.slice a k c:=by
 rcases h.2 with⟨rfl,_⟩|⟨g,cap,cur,rfl,_⟩
 ·exact⟨_,_,_,rfl⟩
 ·exact⟨_,_,_,rfl⟩
theorem vY {w:World}{base:Nat}{v:Value}(l:List Bs)(h:w.ownsRow base 9 1 v l.length (Ci l))(hf:Ct l.length):Ba (base≤ ·) w l v:=by
 have h0:=h;rcases h.2 with⟨rfl,hz⟩|⟨g,cap,cur,rfl,hb,hg,hc,hm,hs,ht⟩
 ·have:l=[]:=List.length_eq_zero_iff.1 hz
  subst this;exact Ba.zero
 ·refine⟨_,cap,g,0,rfl,hc,hf,.inr ⟨rfl,hb⟩,fun i hi=>?_⟩
  refine Lk h0 i _ ?_;unfold Ci;rw[List.getElem?_map,Ze hi,Zf,Ze hi];rfl
structure V26 (f n:Nat)(nm:Bs)(ps ls:List Bs)(pv lv bd x1 x2 x3 x4:Value)(W:World)(L:Nat→Bool)(z102 z103 z104 z105 z106 z107 z108:Value)(wx:World):Prop where
 fr:SFr n W wx
 ord:L 7=true→∀j,j<7→L j=true
 own:Ae wx n (if L 7=true then [z107,x1,x2,x3,x4]else [.slice none 0 0,x1,x2,x3,x4]) 73
 c0:L 0=true→z102=.pointer (some ⟨f,1,none⟩)
 c1:L 1=true→z103=pv
 c2:L 2=true→L 5=false→wx.ownsRow W.heap.size 9 1 z104 ps.length (Ci ps)
 c3:L 3=true→z105=.pointer (some ⟨f,2,none⟩)
 c4:L 4=true→z106=lv
 c5:L 5=true→wx.ownsRow W.heap.size 9 1 z107 (ps++ls).length (Ci (ps++ls))
 c6:L 6=true→z108=.pointer (some ⟨n,0,none⟩)
 c25:L 5=true→¬L 2=false
def R26(f n:Nat)(nm:Bs)(ps ls:List Bs)(pv lv bd x1 x2 x3 x4:Value)(W:World)(q0 q1 q2 q3 q4 q5 q6 q7 q8 q9 q10 q11 q12 q15 q16 q17 q18 q19 q20 q21 q22 q23 q24 q25 q26 q27 q28 q29 q30 q31 q32 q33 q34 q35 q36 q37 q38 q39 q40 q41 q42 q43 q44 q45 q46 q47 q48 q49 q50 q51 q52 q53 q54 q55 q56 q57 q58 q59 q60 q61 q62 q63 q64 q65 q66 q67 q68 q69 q70 q71 q72 q73 q74 q75 q76 q77 q78 q79 q80 q81 q82 q83 q84 q85 q86 q87 q88 q89 q90 q91 q92 q93 q94 q95 q96 q97 q98 q99 q100 q101 q109 q110 q111 q112 q113 q114 q115 q116 q117 q118 q119:Value)(a':Act)(w':World):Prop:=
 ∃z102 z103 z104 z105 z106 z107 z108:Value,(∃v,Ae w' n [v,x1,x2,x3,x4] 73∧Ba (W.heap.size≤ ·) w' (ps++ls) v∧SFr n W w')∧a'=⟨[q0,q1,q2,q3,q4,q5,q6,q7,q8,q9,q10,q11,q12,.pointer (some ⟨f,0,none⟩),.pointer (some ⟨n,0,none⟩),q15,q16,q17,q18,q19,q20,q21,q22,q23,q24,q25,q26,q27,q28,q29,q30,q31,q32,q33,q34,q35,q36,q37,q38,q39,q40,q41,q42,q43,q44,q45,q46,q47,q48,q49,q50,q51,q52,q53,q54,q55,q56,q57,q58,q59,q60,q61,q62,q63,q64,q65,q66,q67,q68,q69,q70,q71,q72,q73,q74,q75,q76,q77,q78,q79,q80,q81,q82,q83,q84,q85,q86,q87,q88,q89,q90,q91,q92,q93,q94,q95,q96,q97,q98,q99,q100,q101,z102,z103,z104,z105,z106,z107,z108,q109,q110,q111,q112,q113,q114,q115,q116,q117,q118,q119].toArray,[]⟩
def I26(f n:Nat)(nm:Bs)(ps ls:List Bs)(pv lv bd x1 x2 x3 x4:Value)(W:World)(q0 q1 q2 q3 q4 q5 q6 q7 q8 q9 q10 q11 q12 q15 q16 q17 q18 q19 q20 q21 q22 q23 q24 q25 q26 q27 q28 q29 q30 q31 q32 q33 q34 q35 q36 q37 q38 q39 q40 q41 q42 q43 q44 q45 q46 q47 q48 q49 q50 q51 q52 q53 q54 q55 q56 q57 q58 q59 q60 q61 q62 q63 q64 q65 q66 q67 q68 q69 q70 q71 q72 q73 q74 q75 q76 q77 q78 q79 q80 q81 q82 q83 q84 q85 q86 q87 q88 q89 q90 q91 q92 q93 q94 q95 q96 q97 q98 q99 q100 q101 q109 q110 q111 q112 q113 q114 q115 q116 q117 q118 q119:Value)(L:Nat→Bool)(a':Act)(w':World):Prop:=
 ∃z102 z103 z104 z105 z106 z107 z108:Value,V26 f n nm ps ls pv lv bd x1 x2 x3 x4 W L z102 z103 z104 z105 z106 z107 z108 w'∧a'=⟨[q0,q1,q2,q3,q4,q5,q6,q7,q8,q9,q10,q11,q12,.pointer (some ⟨f,0,none⟩),.pointer (some ⟨n,0,none⟩),q15,q16,q17,q18,q19,q20,q21,q22,q23,q24,q25,q26,q27,q28,q29,q30,q31,q32,q33,q34,q35,q36,q37,q38,q39,q40,q41,q42,q43,q44,q45,q46,q47,q48,q49,q50,q51,q52,q53,q54,q55,q56,q57,q58,q59,q60,q61,q62,q63,q64,q65,q66,q67,q68,q69,q70,q71,q72,q73,q74,q75,q76,q77,q78,q79,q80,q81,q82,q83,q84,q85,q86,q87,q88,q89,q90,q91,q92,q93,q94,q95,q96,q97,q98,q99,q100,q101,z102,z103,z104,z105,z106,z107,z108,q109,q110,q111,q112,q113,q114,q115,q116,q117,q118,q119].toArray,[]⟩
theorem tW(f n:Nat)(nm:Bs)(ps ls:List Bs)(pv lv bd x1 x2 x3 x4:Value)(W:World)(hf:Ae W f [.string (Aa nm),pv,lv,bd] 58)(hn:Ae W n [.slice none 0 0,x1,x2,x3,x4] 73)(hfn:f≠n)(hps:Ba (· ≠n) W ps pv)(hls:Ba (· ≠n) W ls lv)(hlen:ps.length+ls.length≤1000)(q0 q1 q2 q3 q4 q5 q6 q7 q8 q9 q10 q11 q12 q15 q16 q17 q18 q19 q20 q21 q22 q23 q24 q25 q26 q27 q28 q29 q30 q31 q32 q33 q34 q35 q36 q37 q38 q39 q40 q41 q42 q43 q44 q45 q46 q47 q48 q49 q50 q51 q52 q53 q54 q55 q56 q57 q58 q59 q60 q61 q62 q63 q64 q65 q66 q67 q68 q69 q70 q71 q72 q73 q74 q75 q76 q77 q78 q79 q80 q81 q82 q83 q84 q85 q86 q87 q88 q89 q90 q91 q92 q93 q94 q95 q96 q97 q98 q99 q100 q101 q102 q103 q104 q105 q106 q107 q108 q109 q110 q111 q112 q113 q114 q115 q116 q117 q118 q119:Value)(J K':Act→World→Prop)(hJ:∀a' w',R26 f n nm ps ls pv lv bd x1 x2 x3 x4 W q0 q1 q2 q3 q4 q5 q6 q7 q8 q9 q10 q11 q12 q15 q16 q17 q18 q19 q20 q21 q22 q23 q24 q25 q26 q27 q28 q29 q30 q31 q32 q33 q34 q35 q36 q37 q38 q39 q40 q41 q42 q43 q44 q45 q46 q47 q48 q49 q50 q51 q52 q53 q54 q55 q56 q57 q58 q59 q60 q61 q62 q63 q64 q65 q66 q67 q68 q69 q70 q71 q72 q73 q74 q75 q76 q77 q78 q79 q80 q81 q82 q83 q84 q85 q86 q87 q88 q89 q90 q91 q92 q93 q94 q95 q96 q97 q98 q99 q100 q101 q109 q110 q111 q112 q113 q114 q115 q116 q117 q118 q119 a' w'→J a' w')(hM:∀a' w',Met J a' w'→K' a' w'):
  Code.wp Zb (sZ 26) (Exit.then K' (fun _ _ _=>False)) ⟨[q0,q1,q2,q3,q4,q5,q6,q7,q8,q9,q10,q11,q12,.pointer (some ⟨f,0,none⟩),.pointer (some ⟨n,0,none⟩),q15,q16,q17,q18,q19,q20,q21,q22,q23,q24,q25,q26,q27,q28,q29,q30,q31,q32,q33,q34,q35,q36,q37,q38,q39,q40,q41,q42,q43,q44,q45,q46,q47,q48,q49,q50,q51,q52,q53,q54,q55,q56,q57,q58,q59,q60,q61,q62,q63,q64,q65,q66,q67,q68,q69,q70,q71,q72,q73,q74,q75,q76,q77,q78,q79,q80,q81,q82,q83,q84,q85,q86,q87,q88,q89,q90,q91,q92,q93,q94,q95,q96,q97,q98,q99,q100,q101,q102,q103,q104,q105,q106,q107,q108,q109,q110,q111,q112,q113,q114,q115,q116,q117,q118,q119].toArray,[]⟩ W:=by
 have hnl:=hn.lt
 conv=>arg 2;whnf
 dsimp only;refine Fp (by kernel_rfl) (by kernel_rfl) (I26 f n nm ps ls pv lv bd x1 x2 x3 x4 W q0 q1 q2 q3 q4 q5 q6 q7 q8 q9 q10 q11 q12 q15 q16 q17 q18 q19 q20 q21 q22 q23 q24 q25 q26 q27 q28 q29 q30 q31 q32 q33 q34 q35 q36 q37 q38 q39 q40 q41 q42 q43 q44 q45 q46 q47 q48 q49 q50 q51 q52 q53 q54 q55 q56 q57 q58 q59 q60 q61 q62 q63 q64 q65 q66 q67 q68 q69 q70 q71 q72 q73 q74 q75 q76 q77 q78 q79 q80 q81 q82 q83 q84 q85 q86 q87 q88 q89 q90 q91 q92 q93 q94 q95 q96 q97 q98 q99 q100 q101 q109 q110 q111 q112 q113 q114 q115 q116 q117 q118 q119) ?_ ?_ ?_
 ·exact⟨q102,q103,q104,q105,q106,q107,q108,⟨Zd (Zc _ _).drew,fun h=>(by cases h),by rw[if_neg (by decide)];exact hn.old (Zc _ _).drew,fun h=>(by cases h),fun h=>(by cases h),fun h=>(by cases h),fun h=>(by cases h),fun h=>(by cases h),fun h=>(by cases h),fun h=>(by cases h),fun h=>(by cases h)⟩,rfl⟩
 ·intro L act wx k hI hk hl hd
  obtain⟨z102,z103,z104,z105,z106,z107,z108,hV,rfl⟩:=hI;have hk:k=0∨k=1∨k=2∨k=3∨k=4∨k=5∨k=6∨k=7:=by
   have:k<8:=hk;omega
  rcases hk with rfl|rfl|rfl|rfl|rfl|rfl|rfl|rfl
  ·have n7:L 7=false:=by
    cases h:L 7 with
    |false=>rfl
    |true=>have:=hV.ord h 0 (by decide);rw[hl]at this;cases this
   have hown:=hV.own;rw[n7,if_neg (by decide)]at hown;have HV:=Za hV;have HD:=Za hd;have HL:=Za hl;refine Bc _ rfl rfl (fun K' hK=>?_)
   conv=>arg 2;whnf
   go_wp2_with fail
   exact⟨.pointer (some ⟨f,1,none⟩),z103,z104,z105,z106,z107,z108,⟨hV.fr,(fun h j hj=>by rw[Ab L (show 7≠0 by decide)]at h;have:=hV.ord h 0 (by decide);rw[hl]at this;cases this),(by rw[Ab L (show 7≠0 by decide),n7];exact hown),(fun _=>rfl),(fun h=>hV.c1 (by rwa[Ab L (show 1≠0 by decide)]at h)),(fun h h5=>hV.c2 (by rwa[Ab L (show 2≠0 by decide)]at h) (by rwa[Ab L (show 5≠0 by decide)]at h5)),(fun h=>hV.c3 (by rwa[Ab L (show 3≠0 by decide)]at h)),(fun h=>hV.c4 (by rwa[Ab L (show 4≠0 by decide)]at h)),(fun h=>hV.c5 (by rwa[Ab L (show 5≠0 by decide)]at h)),(fun h=>hV.c6 (by rwa[Ab L (show 6≠0 by decide)]at h)),(fun h=>by rw[Ab L (show 2≠0 by decide)];exact hV.c25 (by rwa[Ab L (show 5≠0 by decide)]at h))⟩,rfl⟩
  ·have n7:L 7=false:=by
    cases h:L 7 with
    |false=>rfl
    |true=>have:=hV.ord h 1 (by decide);rw[hl]at this;cases this
   have d0:L 0=true:=hd _ rfl ⟨0,.data⟩ (by simp) rfl;have hown:=hV.own;rw[n7,if_neg (by decide)]at hown;obtain rfl:=hV.c0 d0;have hfo:=hf.sfr hV.fr hfn;have f1:=hfo.at 1 _ rfl;have f2:=hfo.at 2 _ rfl;have HV:=Za hV;have HD:=Za hd;have HL:=Za hl;refine Bc _ rfl rfl (fun K' hK=>?_)
   conv=>arg 2;whnf
   go_wp2_with fail
   exact⟨.pointer (some ⟨f,1,none⟩),pv,z104,z105,z106,z107,z108,⟨hV.fr,(fun h j hj=>by rw[Ab L (show 7≠1 by decide)]at h;have:=hV.ord h 1 (by decide);rw[hl]at this;cases this),(by rw[Ab L (show 7≠1 by decide),n7];exact hown),(fun h=>hV.c0 (by rwa[Ab L (show 0≠1 by decide)]at h)),(fun _=>rfl),(fun h h5=>hV.c2 (by rwa[Ab L (show 2≠1 by decide)]at h) (by rwa[Ab L (show 5≠1 by decide)]at h5)),(fun h=>hV.c3 (by rwa[Ab L (show 3≠1 by decide)]at h)),(fun h=>hV.c4 (by rwa[Ab L (show 4≠1 by decide)]at h)),(fun h=>hV.c5 (by rwa[Ab L (show 5≠1 by decide)]at h)),(fun h=>hV.c6 (by rwa[Ab L (show 6≠1 by decide)]at h)),(fun h=>by rw[Ab L (show 2≠1 by decide)];exact hV.c25 (by rwa[Ab L (show 5≠1 by decide)]at h))⟩,rfl⟩
  ·have n7:L 7=false:=by
    cases h:L 7 with
    |false=>rfl
    |true=>have:=hV.ord h 2 (by decide);rw[hl]at this;cases this
   have d1:L 1=true:=hd _ rfl ⟨1,.data⟩ (by simp) rfl;have hown:=hV.own;rw[n7,if_neg (by decide)]at hown;obtain rfl:=hV.c1 d1;have n5:L 5=false:=by
    cases h:L 5 with
    |false=>rfl
    |true=>exact absurd (hV.c25 h) (by rw[hl];decide)
   have hp2:=hps.keep hV.fr.keeps;have HV:=Za hV;have HD:=Za hd;have HL:=Za hl;refine Bc _ rfl rfl (fun K' hK=>?_)
   conv=>arg 2;whnf
   refine Om _ _ rfl W.heap.size (.slice none 0 0) 0 [] rfl ⟨rfl,.inl ⟨rfl,rfl⟩⟩ ps z103 rfl hp2 (by omega) hV.fr.size ?_;intro v2 w2 hr2 hg2 ha2;rw[Nat.zero_add,List.nil_append]at hr2;have hf2:SFr n wx w2:=⟨hg2.os,hg2.tape,hg2.output,hg2.size,fun j hj _=>hg2.block j hj (by simp [Value.ownBlock])⟩;have ho2:Ae w2 n _ _:=hown.low (hg2.block n hown.lt (by simp [Value.ownBlock]));go_wp2_with fail
   exact⟨z102,z103,v2,z105,z106,z107,z108,⟨hV.fr.trans hf2,(fun h j hj=>by rw[Ab L (show 7≠2 by decide)]at h;have:=hV.ord h 2 (by decide);rw[hl]at this;cases this),(by rw[Ab L (show 7≠2 by decide),n7];exact ho2),(fun h=>hV.c0 (by rwa[Ab L (show 0≠2 by decide)]at h)),(fun h=>hV.c1 (by rwa[Ab L (show 1≠2 by decide)]at h)),(fun _ _=>hr2),(fun h=>hV.c3 (by rwa[Ab L (show 3≠2 by decide)]at h)),(fun h=>hV.c4 (by rwa[Ab L (show 4≠2 by decide)]at h)),(fun h=>by rw[Ab L (show 5≠2 by decide),n5]at h;cases h),(fun h=>hV.c6 (by rwa[Ab L (show 6≠2 by decide)]at h)),(fun _=>by rw[Bb];decide)⟩,rfl⟩
  ·have n7:L 7=false:=by
    cases h:L 7 with
    |false=>rfl
    |true=>have:=hV.ord h 3 (by decide);rw[hl]at this;cases this
   have hown:=hV.own;rw[n7,if_neg (by decide)]at hown;have HV:=Za hV;have HD:=Za hd;have HL:=Za hl;refine Bc _ rfl rfl (fun K' hK=>?_)
   conv=>arg 2;whnf
   go_wp2_with fail
   exact⟨z102,z103,z104,.pointer (some ⟨f,2,none⟩),z106,z107,z108,⟨hV.fr,(fun h j hj=>by rw[Ab L (show 7≠3 by decide)]at h;have:=hV.ord h 3 (by decide);rw[hl]at this;cases this),(by rw[Ab L (show 7≠3 by decide),n7];exact hown),(fun h=>hV.c0 (by rwa[Ab L (show 0≠3 by decide)]at h)),(fun h=>hV.c1 (by rwa[Ab L (show 1≠3 by decide)]at h)),(fun h h5=>hV.c2 (by rwa[Ab L (show 2≠3 by decide)]at h) (by rwa[Ab L (show 5≠3 by decide)]at h5)),(fun _=>rfl),(fun h=>hV.c4 (by rwa[Ab L (show 4≠3 by decide)]at h)),(fun h=>hV.c5 (by rwa[Ab L (show 5≠3 by decide)]at h)),(fun h=>hV.c6 (by rwa[Ab L (show 6≠3 by decide)]at h)),(fun h=>by rw[Ab L (show 2≠3 by decide)];exact hV.c25 (by rwa[Ab L (show 5≠3 by decide)]at h))⟩,rfl⟩
  ·have n7:L 7=false:=by
    cases h:L 7 with
    |false=>rfl
    |true=>have:=hV.ord h 4 (by decide);rw[hl]at this;cases this
   have d3:L 3=true:=hd _ rfl ⟨3,.data⟩ (by simp) rfl;have hown:=hV.own;rw[n7,if_neg (by decide)]at hown;obtain rfl:=hV.c3 d3;have hfo:=hf.sfr hV.fr hfn;have f1:=hfo.at 1 _ rfl;have f2:=hfo.at 2 _ rfl;have HV:=Za hV;have HD:=Za hd;have HL:=Za hl;refine Bc _ rfl rfl (fun K' hK=>?_)
   conv=>arg 2;whnf
   go_wp2_with fail
   exact⟨z102,z103,z104,.pointer (some ⟨f,2,none⟩),lv,z107,z108,⟨hV.fr,(fun h j hj=>by rw[Ab L (show 7≠4 by decide)]at h;have:=hV.ord h 4 (by decide);rw[hl]at this;cases this),(by rw[Ab L (show 7≠4 by decide),n7];exact hown),(fun h=>hV.c0 (by rwa[Ab L (show 0≠4 by decide)]at h)),(fun h=>hV.c1 (by rwa[Ab L (show 1≠4 by decide)]at h)),(fun h h5=>hV.c2 (by rwa[Ab L (show 2≠4 by decide)]at h) (by rwa[Ab L (show 5≠4 by decide)]at h5)),(fun h=>hV.c3 (by rwa[Ab L (show 3≠4 by decide)]at h)),(fun _=>rfl),(fun h=>hV.c5 (by rwa[Ab L (show 5≠4 by decide)]at h)),(fun h=>hV.c6 (by rwa[Ab L (show 6≠4 by decide)]at h)),(fun h=>by rw[Ab L (show 2≠4 by decide)];exact hV.c25 (by rwa[Ab L (show 5≠4 by decide)]at h))⟩,rfl⟩
  ·have n7:L 7=false:=by
    cases h:L 7 with
    |false=>rfl
    |true=>have:=hV.ord h 5 (by decide);rw[hl]at this;cases this
   have d2:L 2=true:=hd _ rfl ⟨2,.data⟩ (by simp) rfl;have d4:L 4=true:=hd _ rfl ⟨4,.data⟩ (by simp) rfl;have hown:=hV.own;rw[n7,if_neg (by decide)]at hown;obtain rfl:=hV.c4 d4;have hr1:=hV.c2 d2 hl;have hl2:=hls.keep hV.fr.keeps;have hge:∀k,z104.ownBlock=some k→W.heap.size≤k:=fun k e=>(World.ownsRow.lt hr1 k e).1
   have HV:=Za hV;have HD:=Za hd;have HL:=Za hl;refine Bc _ rfl rfl (fun K' hK=>?_)
   conv=>arg 2;whnf
   refine Om _ _ rfl W.heap.size z104 ps.length (Ci ps) rfl hr1 ls z106 rfl hl2 (by omega) hV.fr.size ?_;intro v2 w2 hr2 hg2 ha2;have hf2:SFr n W w2:=hV.fr.grow hg2 hge;have ho2:Ae w2 n _ _:=hown.low (hg2.block n hown.lt (fun e=>by have:=hge n e.symm;omega));go_wp2_with fail
   exact⟨z102,z103,z104,z105,z106,v2,z108,⟨hf2,(fun h j hj=>by rw[Ab L (show 7≠5 by decide)]at h;have:=hV.ord h 5 (by decide);rw[hl]at this;cases this),(by rw[Ab L (show 7≠5 by decide),n7];exact ho2),(fun h=>hV.c0 (by rwa[Ab L (show 0≠5 by decide)]at h)),(fun h=>hV.c1 (by rwa[Ab L (show 1≠5 by decide)]at h)),(fun _ h5=>by rw[Bb]at h5;cases h5),(fun h=>hV.c3 (by rwa[Ab L (show 3≠5 by decide)]at h)),(fun h=>hV.c4 (by rwa[Ab L (show 4≠5 by decide)]at h)),(fun _=>by rw[List.length_append,show Ci (ps++ls)=Ci ps++Ci ls from List.map_append];exact hr2),(fun h=>hV.c6 (by rwa[Ab L (show 6≠5 by decide)]at h)),(fun _=>by rw[Ab L (show 2≠5 by decide),d2];decide)⟩,rfl⟩
  ·have n7:L 7=false:=by
    cases h:L 7 with
    |false=>rfl
    |true=>have:=hV.ord h 6 (by decide);rw[hl]at this;cases this
   have hown:=hV.own;rw[n7,if_neg (by decide)]at hown;have HV:=Za hV;have HD:=Za hd;have HL:=Za hl;refine Bc _ rfl rfl (fun K' hK=>?_)
   conv=>arg 2;whnf
   go_wp2_with fail
   exact⟨z102,z103,z104,z105,z106,z107,.pointer (some ⟨n,0,none⟩),⟨hV.fr,(fun h j hj=>by rw[Ab L (show 7≠6 by decide)]at h;have:=hV.ord h 6 (by decide);rw[hl]at this;cases this),(by rw[Ab L (show 7≠6 by decide),n7];exact hown),(fun h=>hV.c0 (by rwa[Ab L (show 0≠6 by decide)]at h)),(fun h=>hV.c1 (by rwa[Ab L (show 1≠6 by decide)]at h)),(fun h h5=>hV.c2 (by rwa[Ab L (show 2≠6 by decide)]at h) (by rwa[Ab L (show 5≠6 by decide)]at h5)),(fun h=>hV.c3 (by rwa[Ab L (show 3≠6 by decide)]at h)),(fun h=>hV.c4 (by rwa[Ab L (show 4≠6 by decide)]at h)),(fun h=>hV.c5 (by rwa[Ab L (show 5≠6 by decide)]at h)),(fun _=>rfl),(fun h=>by rw[Ab L (show 2≠6 by decide)];exact hV.c25 (by rwa[Ab L (show 5≠6 by decide)]at h))⟩,rfl⟩
  ·have n7:=hl
   have d6:L 6=true:=hd _ rfl ⟨6,.data⟩ (by simp) rfl;have d5:L 5=true:=hd _ rfl ⟨5,.data⟩ (by simp) rfl;have hown:=hV.own;rw[n7,if_neg (by decide)]at hown;obtain rfl:=hV.c6 d6;have hr5:=hV.c5 d5;obtain⟨ra,rk,rc,rfl⟩:=rH hr5;have before:∀j,j<7→L j=true:=fun j hj=>by
    have hj:j=0∨j=1∨j=2∨j=3∨j=4∨j=5∨j=6:=by omega
    rcases hj with rfl|rfl|rfl|rfl|rfl|rfl|rfl
    ·exact hd _ rfl ⟨0,.phase⟩ (by simp) rfl
    ·exact hd _ rfl ⟨1,.phase⟩ (by simp) rfl
    ·exact hd _ rfl ⟨2,.phase⟩ (by simp) rfl
    ·exact hd _ rfl ⟨3,.phase⟩ (by simp) rfl
    ·exact hd _ rfl ⟨4,.phase⟩ (by simp) rfl
    ·exact hd _ rfl ⟨5,.data⟩ (by simp) rfl
    ·exact hd _ rfl ⟨6,.data⟩ (by simp) rfl
   have hx0:=hown.at 0 _ rfl;have fx0:=hown.fz 0;have hnx:=hown.lt;have hfs:SFr n W (wx.setCell ⟨n,0,none⟩ (.slice ra rk rc)):=hV.fr.trans ⟨rfl,rfl,rfl,by simp [World.setCell],fun k hk hs=>Below.heap_setCell _ _ _ _ hs⟩;have hk5:(wx.setCell ⟨n,0,none⟩ (.slice ra rk rc)).ownsRow W.heap.size 9 1 (.slice ra rk rc) (ps++ls).length (Ci (ps++ls)):=Jp hr5 (D:=(W.heap.size≤ ·)) (fun k e=>(World.ownsRow.lt hr5 k e).1) (Bl.set wx (by show ¬W.heap.size≤n;omega) 0 (.slice ra rk rc));have HV:=Za hV;have HD:=Za hd;have HL:=Za hl;refine Bc _ rfl rfl (fun K' hK=>?_)
   conv=>arg 2;whnf
   go_wp2_with fail
   exact⟨z102,z103,z104,z105,z106,.slice ra rk rc,.pointer (some ⟨n,0,none⟩),⟨hfs,(fun _ j hj=>by rw[Ab L (show j≠7 by omega)];exact before j hj),(by rw[Bb,if_pos rfl];exact hown.set 0 (.slice ra rk rc)),(fun h=>hV.c0 (by rwa[Ab L (show 0≠7 by decide)]at h)),(fun h=>hV.c1 (by rwa[Ab L (show 1≠7 by decide)]at h)),(fun _ h5=>by rw[Ab L (show 5≠7 by decide),d5]at h5;cases h5),(fun h=>hV.c3 (by rwa[Ab L (show 3≠7 by decide)]at h)),(fun h=>hV.c4 (by rwa[Ab L (show 4≠7 by decide)]at h)),(fun _=>hk5),(fun h=>hV.c6 (by rwa[Ab L (show 6≠7 by decide)]at h)),(fun h=>by rw[Ab L (show 2≠7 by decide)];exact hV.c25 (by rwa[Ab L (show 5≠7 by decide)]at h))⟩,rfl⟩
 ·intro L act wx hI hall
  obtain⟨z102,z103,z104,z105,z106,z107,z108,hV,rfl⟩:=hI;have h1:=hV.own;rw[if_pos (hall 7 (by decide))]at h1;exact hM _ _ (Met.intro (hJ _ _ ⟨z102,z103,z104,z105,z106,z107,z108,⟨z107,h1,vY _ (hV.c5 (hall 5 (by decide))) (by show _≤_;rw[List.length_append];omega),hV.fr⟩,rfl⟩))
structure Fz (w:World)(raw:List Int)(a:Nat)(free:Bool)(ca cf pa pf:Value)(wr:World):Prop where
 bel:Below w.heap.size w wr
 src:Ay wr (w.heap.size+1) raw a
 res:Ae wr w.heap.size [.slice none 0 0,.slice none 0 0] 34
 scp:Ae wr (w.heap.size+2) [.slice none 0 0,ca,cf,.bool free,.bool false] 73
 prg:Ae wr (w.heap.size+3) [pa,pf] 34
theorem Fz.lt {w:World}{raw:List Int}{a:Nat}{free:Bool}{ca cf pa pf:Value}{wr:World}(h:Fz w raw a free ca cf pa pf wr):w.heap.size+3<wr.heap.size:=h.prg.lt
theorem Fz.sfr {w:World}{raw:List Int}{a a':Nat}{free:Bool}{ca cf pa pf:Value}{wr w':World}(h:Fz w raw a free ca cf pa pf wr)(hs:Ay w' (w.heap.size+1) raw a')(hf:SFr (w.heap.size+1) wr w'):Fz w raw a' free ca cf pa pf w':=
 ⟨h.bel.trans ((hf.below (by have:=h.lt;omega)).mono (by omega)),hs,h.res.sfr hf (by omega),h.scp.sfr hf (by omega),h.prg.sfr hf (by omega)⟩
theorem Fz.old {w:World}{raw:List Int}{a:Nat}{free:Bool}{ca cf pa pf:Value}{wr w':World}(h:Fz w raw a free ca cf pa pf wr)(hb:Below wr.heap.size wr w'):Fz w raw a free ca cf pa pf w':=h.sfr (h.src.old hb) (Zd hb)
theorem Fz.grow {w:World}{raw:List Int}{a:Nat}{free:Bool}{ca cf pa pf:Value}{wr w':World}(h:Fz w raw a free ca cf pa pf wr){row:Option Nat}(hg:wr.grownBy w' row)(hr:∀k,row=some k→w.heap.size+4≤k):Fz w raw a free ca cf pa pf w':=by
 have hl:=h.lt;have low:∀k,k≤w.heap.size+3→w'.heap[k]? =wr.heap[k]? :=fun k hk=>hg.block k (by omega) (fun e=>by have:=hr k e.symm;omega)
 refine⟨⟨hg.os.trans h.bel.os,hg.tape.trans h.bel.tape,hg.output.trans h.bel.output,Nat.le_trans h.bel.size hg.size,fun k hk=>(low k (by omega)).trans (h.bel.block k hk)⟩,h.src.low (fun k hk=>low k (by omega)),h.res.low (low _ (by omega)),h.scp.low (low _ (by omega)),h.prg.low (low _ (by omega))⟩
theorem Fz.sfrN {w:World}{raw:List Int}{a:Nat}{free:Bool}{ca cf pa pf:Value}{wr w':World}(h:Fz w raw a free ca cf pa pf wr){n:Nat}(hf:SFr n wr w')(hn:w.heap.size+4≤n):Fz w raw a free ca cf pa pf w':=by
 have hl:=h.lt;have low:∀k,k≤w.heap.size+3→w'.heap[k]? =wr.heap[k]? :=fun k hk=>hf.block k (by omega) (by omega)
 refine⟨⟨hf.os.trans h.bel.os,hf.tape.trans h.bel.tape,hf.output.trans h.bel.output,Nat.le_trans h.bel.size hf.size,fun k hk=>(low k (by omega)).trans (h.bel.block k hk)⟩,h.src.low (fun k hk=>low k (by omega)),h.res.low (low _ (by omega)),h.scp.low (low _ (by omega)),h.prg.low (low _ (by omega))⟩
theorem Fz.other {w:World}{raw:List Int}{a:Nat}{free:Bool}{ca cf pa pf:Value}{wr:World}(h:Fz w raw a free ca cf pa pf wr){k:Nat}(hk:w.heap.size+4≤k)(i:Nat)(v:Value):Fz w raw a free ca cf pa pf (wr.setCell ⟨k,i,none⟩ v):=
 ⟨h.bel.trans ((Zc _ _).setCell (by show w.heap.size≤k;omega) _),h.src.other (by omega) i v,h.res.other (by omega) i v,h.scp.other (by omega) i v,h.prg.other (by omega) i v⟩
theorem Fz.setP {w:World}{raw:List Int}{a:Nat}{free:Bool}{ca cf pa pf:Value}{wr:World}(h:Fz w raw a free ca cf pa pf wr)(v:Value):Fz w raw a free ca cf v pf (wr.setCell ⟨w.heap.size+3,0,none⟩ v):=
 ⟨h.bel.trans ((Zc _ _).setCell (by show w.heap.size≤w.heap.size+3;omega) _),h.src.other (by omega) 0 v,h.res.other (by omega) 0 v,h.scp.other (by omega) 0 v,h.prg.set 0 v⟩
theorem Fz.setPf {w:World}{raw:List Int}{a:Nat}{free:Bool}{ca cf pa pf:Value}{wr:World}(h:Fz w raw a free ca cf pa pf wr)(v:Value):Fz w raw a free ca cf pa v (wr.setCell ⟨w.heap.size+3,1,none⟩ v):=
 ⟨h.bel.trans ((Zc _ _).setCell (by show w.heap.size≤w.heap.size+3;omega) _),h.src.other (by omega) 1 v,h.res.other (by omega) 1 v,h.scp.other (by omega) 1 v,h.prg.set 1 v⟩
theorem Fz.setC {w:World}{raw:List Int}{a:Nat}{free:Bool}{ca cf pa pf:Value}{wr:World}(h:Fz w raw a free ca cf pa pf wr)(v:Value):Fz w raw a free v cf pa pf (wr.setCell ⟨w.heap.size+2,1,none⟩ v):=
 ⟨h.bel.trans ((Zc _ _).setCell (by show w.heap.size≤w.heap.size+2;omega) _),h.src.other (by omega) 1 v,h.res.other (by omega) 1 v,h.scp.set 1 v,h.prg.other (by omega) 1 v⟩
theorem Fz.setCf {w:World}{raw:List Int}{a:Nat}{free:Bool}{ca cf pa pf:Value}{wr:World}(h:Fz w raw a free ca cf pa pf wr)(v:Value):Fz w raw a free ca v pa pf (wr.setCell ⟨w.heap.size+2,2,none⟩ v):=
 ⟨h.bel.trans ((Zc _ _).setCell (by show w.heap.size≤w.heap.size+2;omega) _),h.src.other (by omega) 2 v,h.res.other (by omega) 2 v,h.scp.set 2 v,h.prg.other (by omega) 2 v⟩
noncomputable def lA (n:Nat):Code:=match(Tryz.f19.body.bind (Kc (Pw n)))with
 |some (.block _ (.loop c))=>c
 |_=>.skip
def PG8(w:World)(rv:Value)(free:Bool)(x:Value)(X:World→Prop)(a':Act)(w':World):Prop:= ∃q2 q3 q9 q10 q11 q12 q13 q14 q15 q16 q17 q18 q19 q20 q21 q22 q23 q24 q25 q26 q27 q28 q29 q30 q31 q32 q33 q34 q35 q36 q37 q38 q39 q40 q41 q42 q43 q44 q45 q46 q47 q48 q49 q50 q51 q52 q53 q54 q55 q56 q57 q58 q59 q60 q61 q62 q63 q64 q65 q66 q67 q68 q69 q70 q71 q72 q73 q74 q75 q76 q77 q78 q79 q80 q81 q82 q83 q84 q85 q86 q87 q88 q89 q90 q91 q92 q93 q94 q95 q96 q97 q98 q99 q100 q101 q102 q103 q104 q105 q106 q107 q108 q109 q110 q111 q112 q113 q114 q115 q116 q117 q118 q119:Value,X w'∧a'=⟨[rv,.bool free,q2,q3,.pointer (some ⟨w.heap.size,0,none⟩),.pointer (some ⟨w.heap.size+1,0,none⟩),.pointer (some ⟨w.heap.size+2,0,none⟩),.pointer (some ⟨w.heap.size+3,0,none⟩),x,q9,q10,q11,q12,q13,q14,q15,q16,q17,q18,q19,q20,q21,q22,q23,q24,q25,q26,q27,q28,q29,q30,q31,q32,q33,q34,q35,q36,q37,q38,q39,q40,q41,q42,q43,q44,q45,q46,q47,q48,q49,q50,q51,q52,q53,q54,q55,q56,q57,q58,q59,q60,q61,q62,q63,q64,q65,q66,q67,q68,q69,q70,q71,q72,q73,q74,q75,q76,q77,q78,q79,q80,q81,q82,q83,q84,q85,q86,q87,q88,q89,q90,q91,q92,q93,q94,q95,q96,q97,q98,q99,q100,q101,q102,q103,q104,q105,q106,q107,q108,q109,q110,q111,q112,q113,q114,q115,q116,q117,q118,q119].toArray,[]⟩
def qP(w:World)(rv:Value)(free:Bool)(x:Value)(X:World→Prop)(a':Act)(w':World):Prop:= ∃q2 q3 q8 q9 q11 q12 q13 q14 q15 q16 q17 q18 q19 q20 q21 q22 q23 q24 q25 q26 q27 q28 q29 q30 q31 q32 q33 q34 q35 q36 q37 q38 q39 q40 q41 q42 q43 q44 q45 q46 q47 q48 q49 q50 q51 q52 q53 q54 q55 q56 q57 q58 q59 q60 q61 q62 q63 q64 q65 q66 q67 q68 q69 q70 q71 q72 q73 q74 q75 q76 q77 q78 q79 q80 q81 q82 q83 q84 q85 q86 q87 q88 q89 q90 q91 q92 q93 q94 q95 q96 q97 q98 q99 q100 q101 q102 q103 q104 q105 q106 q107 q108 q109 q110 q111 q112 q113 q114 q115 q116 q117 q118 q119:Value,X w'∧a'=⟨[rv,.bool free,q2,q3,.pointer (some ⟨w.heap.size,0,none⟩),.pointer (some ⟨w.heap.size+1,0,none⟩),.pointer (some ⟨w.heap.size+2,0,none⟩),.pointer (some ⟨w.heap.size+3,0,none⟩),q8,q9,x,q11,q12,q13,q14,q15,q16,q17,q18,q19,q20,q21,q22,q23,q24,q25,q26,q27,q28,q29,q30,q31,q32,q33,q34,q35,q36,q37,q38,q39,q40,q41,q42,q43,q44,q45,q46,q47,q48,q49,q50,q51,q52,q53,q54,q55,q56,q57,q58,q59,q60,q61,q62,q63,q64,q65,q66,q67,q68,q69,q70,q71,q72,q73,q74,q75,q76,q77,q78,q79,q80,q81,q82,q83,q84,q85,q86,q87,q88,q89,q90,q91,q92,q93,q94,q95,q96,q97,q98,q99,q100,q101,q102,q103,q104,q105,q106,q107,q108,q109,q110,q111,q112,q113,q114,q115,q116,q117,q118,q119].toArray,[]⟩
def pN(w:World)(rv:Value)(free:Bool)(x:Value)(X:World→Prop)(a':Act)(w':World):Prop:= ∃q2 q3 q8 q9 q10 q11 q13 q14 q15 q16 q17 q18 q19 q20 q21 q22 q23 q24 q25 q26 q27 q28 q29 q30 q31 q32 q33 q34 q35 q36 q37 q38 q39 q40 q41 q42 q43 q44 q45 q46 q47 q48 q49 q50 q51 q52 q53 q54 q55 q56 q57 q58 q59 q60 q61 q62 q63 q64 q65 q66 q67 q68 q69 q70 q71 q72 q73 q74 q75 q76 q77 q78 q79 q80 q81 q82 q83 q84 q85 q86 q87 q88 q89 q90 q91 q92 q93 q94 q95 q96 q97 q98 q99 q100 q101 q102 q103 q104 q105 q106 q107 q108 q109 q110 q111 q112 q113 q114 q115 q116 q117 q118 q119:Value,X w'∧a'=⟨[rv,.bool free,q2,q3,.pointer (some ⟨w.heap.size,0,none⟩),.pointer (some ⟨w.heap.size+1,0,none⟩),.pointer (some ⟨w.heap.size+2,0,none⟩),.pointer (some ⟨w.heap.size+3,0,none⟩),q8,q9,q10,q11,x,q13,q14,q15,q16,q17,q18,q19,q20,q21,q22,q23,q24,q25,q26,q27,q28,q29,q30,q31,q32,q33,q34,q35,q36,q37,q38,q39,q40,q41,q42,q43,q44,q45,q46,q47,q48,q49,q50,q51,q52,q53,q54,q55,q56,q57,q58,q59,q60,q61,q62,q63,q64,q65,q66,q67,q68,q69,q70,q71,q72,q73,q74,q75,q76,q77,q78,q79,q80,q81,q82,q83,q84,q85,q86,q87,q88,q89,q90,q91,q92,q93,q94,q95,q96,q97,q98,q99,q100,q101,q102,q103,q104,q105,q106,q107,q108,q109,q110,q111,q112,q113,q114,q115,q116,q117,q118,q119].toArray,[]⟩
theorem rA(w wr:World)(rv:Value)(free:Bool)(raw:List Int)(a i:Nat)(hi:1≤i∧i≤2)(l:List Ar)(pa:Value)(hP:Fz w raw a free (.slice none 0 0) (.slice none 0 0) pa (.slice none 0 0) wr)(hA:Df wr (w.heap.size+4) l pa)(hl:l.length≤2)(q2 q3 q9 q10 q11 q12 q13 q14 q15 q16 q17 q18 q19 q20 q21 q22 q23 q24 q25 q26 q27 q28 q29 q30 q31 q32 q33 q34 q35 q36 q37 q38 q39 q40 q41 q42 q43 q44 q45 q46 q47 q48 q49 q50 q51 q52 q53 q54 q55 q56 q57 q58 q59 q60 q61 q62 q63 q64 q65 q66 q67 q68 q69 q70 q71 q72 q73 q74 q75 q76 q77 q78 q79 q80 q81 q82 q83 q84 q85 q86 q87 q88 q89 q90 q91 q92 q93 q94 q95 q96 q97 q98 q99 q100 q101 q102 q103 q104 q105 q106 q107 q108 q109 q110 q111 q112 q113 q114 q115 q116 q117 q118 q119:Value)(J K':Act→World→Prop)
  (hJ:∀a' w',PG8 w rv free (.int .i64 ((i:Int)-1)) (fun w'=> ∃pa',Fz w raw (Rz free raw i a).2 free (.slice none 0 0) (.slice none 0 0) pa' (.slice none 0 0) w'∧Df w' (w.heap.size+4) (l++[(Rz free raw i a).1]) pa') a' w'→J a' w') (hM:∀a' w',Met J a' w'→K' a' w'):
  Code.wp Zb (lA 0) (Exit.then K' (fun _ _ _=>False)) ⟨[rv,.bool free,q2,q3,.pointer (some ⟨w.heap.size,0,none⟩),.pointer (some ⟨w.heap.size+1,0,none⟩),.pointer (some ⟨w.heap.size+2,0,none⟩),.pointer (some ⟨w.heap.size+3,0,none⟩),.int .i64 (i:Int),q9,q10,q11,q12,q13,q14,q15,q16,q17,q18,q19,q20,q21,q22,q23,q24,q25,q26,q27,q28,q29,q30,q31,q32,q33,q34,q35,q36,q37,q38,q39,q40,q41,q42,q43,q44,q45,q46,q47,q48,q49,q50,q51,q52,q53,q54,q55,q56,q57,q58,q59,q60,q61,q62,q63,q64,q65,q66,q67,q68,q69,q70,q71,q72,q73,q74,q75,q76,q77,q78,q79,q80,q81,q82,q83,q84,q85,q86,q87,q88,q89,q90,q91,q92,q93,q94,q95,q96,q97,q98,q99,q100,q101,q102,q103,q104,q105,q106,q107,q108,q109,q110,q111,q112,q113,q114,q115,q116,q117,q118,q119].toArray,[]⟩ wr:=by
 obtain⟨oa,oc,rfl⟩:=hA.shape;have HL:=Za hl;have HOB:Hid (∀k,(Value.slice oa l.length oc).ownBlock=some k→k<wr.heap.size):=fun k e=>(hA.ge e).2
 obtain⟨i0,hi0,hz0,hz1,hz2⟩:=info_parts infoAr;have HI0:=Za hi0;have HZ0:=Za hz0;have HZ1:=Za hz1;have HZ2:=Za hz2;have hgpos:(0:Int)<(i:Int):=by omega
 clear hi0 hz0 hz1 hz2 hl
 conv=>arg 2;whnf
 go_upto_region 9 with(fail)
 refine wp_cut (fun a' w'=>R9 (w.heap.size+1) i a raw wr _ _ _ _ _ _ _ _ _ _ _ _ _ _ _ _ _ _ _ _ _ _ _ _ _ _ _ _ _ _ _ _ _ _ _ _ _ _ _ _ _ _ _ _ _ _ _ _ _ _ _ _ _ _ _ _ _ _ _ _ _ _ _ _ _ _ _ _ _ _ _ _ _ _ _ _ _ _ _ _ _ _ _ _ _ _ _ _ _ _ _ _ _ _ _ _ _ _ _ _ _ _ _ _ _ _ _ a' w') ?rest (fun J K' hJ hM=>Gs (pg_reg9 (w.heap.size+1) i a raw wr hP.src hi _ _ _ _ _ _ _ _ _ _ _ _ _ _ _ _ _ _ _ _ _ _ _ _ _ _ _ _ _ _ _ _ _ _ _ _ _ _ _ _ _ _ _ _ _ _ _ _ _ _ _ _ _ _ _ _ _ _ _ _ _ _ _ _ _ _ _ _ _ _ _ _ _ _ _ _ _ _ _ _ _ _ _ _ _ _ _ _ _ _ _ _ _ _ _ _ _ _ _ _ _ _ _ _ _ _ _ _ _ _ _ _ _ _ _ _ _ _ J K' hJ hM))
 case rest=>
 intro a' wx hT;obtain⟨z9,z34,z35,z36,z37,z38,z39,z40,z41,z42,z43,hT⟩:=hT;obtain⟨⟨b,e1,hb,ho,hs,hf⟩,ha'⟩:=hT;subst ha';subst e1;have hp:=hP.sfr hs hf;have ha:=hA.keep (Bl.sfr hf (fun b hb=>by have:w.heap.size+4≤b:=hb;omega));have hbb:w.heap.size+4≤b:=by have:=hP.lt;omega
 clear hP hA hs hf
 cases free
 ·have E:Rz false raw i a=(⟨Gf.getD i [],Ge.getD (Ac raw a 4).1.toNat 0⟩,(Ac raw a 4).2):=rfl
  rw[E]at hJ;clear E;generalize Gf.getD i []=nm at*;generalize Ge.getD (Ac raw a 4).1.toNat 0=sz at*;have HP:=Za hp;have HA:=Za ha;have HB:=Za ho;clear hp ha ho;have hb10:Below wx.heap.size wx (wx.alloc (.cells #[.string (Aa nm),.int .i64 sz] 85)):=bA;have HP10:=Za (HP.o.old hb10);have HA10:=Za (HA.o.keep (Bl.below hb10));have HN10:=Za (Fc.new wx (Il ⟨nm,sz⟩) 85);clear hb10;have p0:=HP.o.prg.at 0 _ rfl;have p1:=HP.o.prg.at 1 _ rfl;have b0:=HB.o.at 0 _ rfl;have b1:=HB.o.at 1 _ rfl;have hPl:=HP.o.lt;have hBl:=HB.o.lt;go_wp2_with (at_builtin;(refine wpList_append_lies (P:=Zb) _ rfl _ _ 31 rfl (w.heap.size+4) 85 i0 _ 2 24 underlying31 HI0.o HZ0.o HZ1.o HZ2.o rfl (by decide) (.slice oa l.length oc) l.length (l.flatMap Il) rfl HA10.o ⟨wx.heap.size,0,none⟩ 1 1 (Il ⟨nm,sz⟩) rfl rfl (Is HN10.o) (Uq _) (by decide) (by have:=HL.o;unfold maxLen;omega) (by have:=HL.o;omega) (by have:=HP10.o.lt;omega) _ rfl ?_;intro g cap w11 hown hgrow hat hlt11;have hp11:=HP10.o.grow hgrow (fun k e=>(HA10.o.ge e).1);have HP11:=Za hp11;have y0:=hp11.prg.at 0 _ rfl;have y1:=hp11.prg.at 1 _ rfl;have fy0:=hp11.prg.fz 0;have hPl11:=hp11.lt;have HA11:=Za (Df.snoc ⟨nm,sz⟩ hown);clear hown hgrow hat hp11))
  have HA12:=Za (HA11.o.keep (Bl.set w11 (show ¬(w.heap.size+4≤w.heap.size+3)by omega) 0 (.slice (some ⟨g,0,none⟩) (l.length+1) cap)));go_meet;exact⟨_,HP11.o.setP _,HA12.o⟩
 ·have E:Rz true raw i a=Cg true [] raw (Ac raw a 4).2:=rfl
  rw[E]at hJ;clear E;have HN:=Za (Qx (w.heap.size+1) raw (Ac raw a 4).2 ⟨[],[],[],true,false⟩ (.slice none 0 0) (.slice none 0 0) (.slice none 0 0) wx hp.src Bt.zero (by decide));generalize Cg true [] raw (Ac raw a 4).2=q at*;obtain⟨⟨nm,sz⟩,qa⟩:=q;dsimp only at HN hJ;have HP0:=Za hp;have HA0:=Za ha;have HB0:=Za ho;have c0:=hp.scp.at 0 _ rfl;have c1:=hp.scp.at 1 _ rfl;have c2:=hp.scp.at 2 _ rfl;have c3:=hp.scp.at 3 _ rfl;have c4:=hp.scp.at 4 _ rfl;clear hp ha ho;go_wp2_with fail
  refine HN.o.mono ?_;rintro r w5 ⟨rfl,hs5,hf5⟩;have hb5:=HB0.o.sfr hf5 (show b≠w.heap.size+1 by omega);have hp5:=HP0.o.sfr hs5 hf5;have ha5:=HA0.o.keep (Bl.sfr hf5 (fun b hb=>by have:w.heap.size+4≤b:=hb;omega));have HP:=Za ((hp5.other hbb 0 (.string (Aa nm))).other hbb 1 (.int .i64 sz));have HB:=Za ((hb5.set 0 (.string (Aa nm))).set 1 (.int .i64 sz));have HA:Hid (Df ((w5.setCell ⟨b,0,none⟩ (.string (Aa nm))).setCell ⟨b,1,none⟩ (.int .i64 sz)) (w.heap.size+4) l (.slice oa l.length oc)):=(Jp (Jp ha5 (D:=(· ≠b)) (fun k e=>by have:=HOB.o k e;omega) (Bl.set w5 (fun h=>h rfl) 0 (.string (Aa nm)))) (D:=(· ≠b)) (fun k e=>by have:=HOB.o k e;omega) (Bl.set _ (fun h=>h rfl) 1 (.int .i64 sz)));have x0:=hb5.at 0 _ rfl;have x1:=hb5.at 1 _ rfl;have fx0:=hb5.fz 0;have fx1:=hb5.fz 1;have hbl5:=hb5.lt;clear hp5 ha5 hb5 hs5 hf5 c0 c1 c2 c3 c4 HP0 HB0 HA0;generalize hW6:(w5.setCell ⟨b,0,none⟩ (.string (Aa nm))).setCell ⟨b,1,none⟩ (.int .i64 sz)=W6 at HP HB HA;go_upto_region 12 with(fail)
  try rw[hW6]
  clear x0 x1 fx0 fx1 hbl5 hW6;have hb10:Below W6.heap.size W6 (W6.alloc (.cells #[.string (Aa nm),.int .i64 sz] 85)):=bA;have HP10:=Za (HP.o.old hb10);have HA10:=Za (HA.o.keep (Bl.below hb10));have HN10:=Za (Fc.new W6 (Il ⟨nm,sz⟩) 85);clear hb10;have p0:=HP.o.prg.at 0 _ rfl;have p1:=HP.o.prg.at 1 _ rfl;have b0:=HB.o.at 0 _ rfl;have b1:=HB.o.at 1 _ rfl;have hPl:=HP.o.lt;have hBl:=HB.o.lt;go_wp2_with (at_builtin;(refine wpList_append_lies (P:=Zb) _ rfl _ _ 31 rfl (w.heap.size+4) 85 i0 _ 2 24 underlying31 HI0.o HZ0.o HZ1.o HZ2.o rfl (by decide) (.slice oa l.length oc) l.length (l.flatMap Il) rfl HA10.o ⟨W6.heap.size,0,none⟩ 1 1 (Il ⟨nm,sz⟩) rfl rfl (Is HN10.o) (Uq _) (by decide) (by have:=HL.o;unfold maxLen;omega) (by have:=HL.o;omega) (by have:=HP10.o.lt;omega) _ rfl ?_;intro g cap w11 hown hgrow hat hlt11;have hp11:=HP10.o.grow hgrow (fun k e=>(HA10.o.ge e).1);have HP11:=Za hp11;have y0:=hp11.prg.at 0 _ rfl;have y1:=hp11.prg.at 1 _ rfl;have fy0:=hp11.prg.fz 0;have hPl11:=hp11.lt;have HA11:=Za (Df.snoc ⟨nm,sz⟩ hown);clear hown hgrow hat hp11))
  have HA12:=Za (HA11.o.keep (Bl.set w11 (show ¬(w.heap.size+4≤w.heap.size+3)by omega) 0 (.slice (some ⟨g,0,none⟩) (l.length+1) cap)));go_meet;exact⟨_,HP11.o.setP _,HA12.o⟩
theorem PG8.meas {w:World}{rv:Value}{free:Bool}{x:Value}{X:World→Prop}{a':Act}{w':World}(h:PG8 w rv free x X a' w'):a'.tmps.getD 8 undef=x:=by
 obtain⟨z2,z3,z9,z10,z11,z12,z13,z14,z15,z16,z17,z18,z19,z20,z21,z22,z23,z24,z25,z26,h⟩:=h;obtain⟨z27,z28,z29,z30,z31,z32,z33,z34,z35,z36,z37,z38,z39,z40,z41,z42,z43,z44,z45,z46,h⟩:=h;obtain⟨z47,z48,z49,z50,z51,z52,z53,z54,z55,z56,z57,z58,z59,z60,z61,z62,z63,z64,z65,z66,h⟩:=h;obtain⟨z67,z68,z69,z70,z71,z72,z73,z74,z75,z76,z77,z78,z79,z80,z81,z82,z83,z84,z85,z86,h⟩:=h;obtain⟨z87,z88,z89,z90,z91,z92,z93,z94,z95,z96,z97,z98,z99,z100,z101,z102,z103,z104,z105,z106,h⟩:=h;obtain⟨z107,z108,z109,z110,z111,z112,z113,z114,z115,z116,z117,z118,z119,h⟩:=h;obtain⟨_,ha'⟩:=h;subst ha';rfl
theorem qP.meas {w:World}{rv:Value}{free:Bool}{x:Value}{X:World→Prop}{a':Act}{w':World}(h:qP w rv free x X a' w'):a'.tmps.getD 10 undef=x:=by
 obtain⟨z2,z3,z8,z9,z11,z12,z13,z14,z15,z16,z17,z18,z19,z20,z21,z22,z23,z24,z25,z26,h⟩:=h;obtain⟨z27,z28,z29,z30,z31,z32,z33,z34,z35,z36,z37,z38,z39,z40,z41,z42,z43,z44,z45,z46,h⟩:=h;obtain⟨z47,z48,z49,z50,z51,z52,z53,z54,z55,z56,z57,z58,z59,z60,z61,z62,z63,z64,z65,z66,h⟩:=h;obtain⟨z67,z68,z69,z70,z71,z72,z73,z74,z75,z76,z77,z78,z79,z80,z81,z82,z83,z84,z85,z86,h⟩:=h;obtain⟨z87,z88,z89,z90,z91,z92,z93,z94,z95,z96,z97,z98,z99,z100,z101,z102,z103,z104,z105,z106,h⟩:=h;obtain⟨z107,z108,z109,z110,z111,z112,z113,z114,z115,z116,z117,z118,z119,h⟩:=h;obtain⟨_,ha'⟩:=h;subst ha';rfl
theorem pN.meas {w:World}{rv:Value}{free:Bool}{x:Value}{X:World→Prop}{a':Act}{w':World}(h:pN w rv free x X a' w'):a'.tmps.getD 12 undef=x:=by
 obtain⟨z2,z3,z8,z9,z10,z11,z13,z14,z15,z16,z17,z18,z19,z20,z21,z22,z23,z24,z25,z26,h⟩:=h;obtain⟨z27,z28,z29,z30,z31,z32,z33,z34,z35,z36,z37,z38,z39,z40,z41,z42,z43,z44,z45,z46,h⟩:=h;obtain⟨z47,z48,z49,z50,z51,z52,z53,z54,z55,z56,z57,z58,z59,z60,z61,z62,z63,z64,z65,z66,h⟩:=h;obtain⟨z67,z68,z69,z70,z71,z72,z73,z74,z75,z76,z77,z78,z79,z80,z81,z82,z83,z84,z85,z86,h⟩:=h;obtain⟨z87,z88,z89,z90,z91,z92,z93,z94,z95,z96,z97,z98,z99,z100,z101,z102,z103,z104,z105,z106,h⟩:=h;obtain⟨z107,z108,z109,z110,z111,z112,z113,z114,z115,z116,z117,z118,z119,h⟩:=h;obtain⟨_,ha'⟩:=h;subst ha';rfl
theorem vJ(w w2:World)(rv:Value)(free:Bool)(raw:List Int)(a0 n:Nat)(hn:n≤2)(hP:Fz w raw a0 free (.slice none 0 0) (.slice none 0 0) (.slice none 0 0) (.slice none 0 0) w2)(q2 q3 q9 q10 q11 q12 q13 q14 q15 q16 q17 q18 q19 q20 q21 q22 q23 q24 q25 q26 q27 q28 q29 q30 q31 q32 q33 q34 q35 q36 q37 q38 q39 q40 q41 q42 q43 q44 q45 q46 q47 q48 q49 q50 q51 q52 q53 q54 q55 q56 q57 q58 q59 q60 q61 q62 q63 q64 q65 q66 q67 q68 q69 q70 q71 q72 q73 q74 q75 q76 q77 q78 q79 q80 q81 q82 q83 q84 q85 q86 q87 q88 q89 q90 q91 q92 q93 q94 q95 q96 q97 q98 q99 q100 q101 q102 q103 q104 q105 q106 q107 q108 q109 q110 q111 q112 q113 q114 q115 q116 q117 q118 q119:Value)(J K':Act→World→Prop)
  (hJ:∀a' w',PG8 w rv free (.int .i64 0) (fun w'=> ∃pa,Fz w raw (Gv free raw n a0).2 free (.slice none 0 0) (.slice none 0 0) pa (.slice none 0 0) w'∧Df w' (w.heap.size+4) (Gv free raw n a0).1 pa) a' w'→J a' w') (hM:∀a' w',Met J a' w'→K' a' w'):
  Code.wp Zb (cS 0) (Exit.then K' (fun _ _ _=>False)) ⟨[rv,.bool free,q2,q3,.pointer (some ⟨w.heap.size,0,none⟩),.pointer (some ⟨w.heap.size+1,0,none⟩),.pointer (some ⟨w.heap.size+2,0,none⟩),.pointer (some ⟨w.heap.size+3,0,none⟩),.int .i64 (n:Int),q9,q10,q11,q12,q13,q14,q15,q16,q17,q18,q19,q20,q21,q22,q23,q24,q25,q26,q27,q28,q29,q30,q31,q32,q33,q34,q35,q36,q37,q38,q39,q40,q41,q42,q43,q44,q45,q46,q47,q48,q49,q50,q51,q52,q53,q54,q55,q56,q57,q58,q59,q60,q61,q62,q63,q64,q65,q66,q67,q68,q69,q70,q71,q72,q73,q74,q75,q76,q77,q78,q79,q80,q81,q82,q83,q84,q85,q86,q87,q88,q89,q90,q91,q92,q93,q94,q95,q96,q97,q98,q99,q100,q101,q102,q103,q104,q105,q106,q107,q108,q109,q110,q111,q112,q113,q114,q115,q116,q117,q118,q119].toArray,[]⟩ w2:=by
 conv=>arg 2;whnf
 refine wp_block (wp_loop (fun a' w'=> ∃i,i≤n∧∃l a,Gv free raw n a0=(l++(Gv free raw i a).1,(Gv free raw i a).2)∧l.length+i=n∧PG8 w rv free (.int .i64 (i:Int)) (fun w'=> ∃pa,Fz w raw a free (.slice none 0 0) (.slice none 0 0) pa (.slice none 0 0) w'∧Df w' (w.heap.size+4) l pa) a' w') (fun a' _=>(intOf (a'.tmps.getD 8 undef)).toNat) ⟨n,Nat.le_refl _,[],a0,rfl,by simp,q2,q3,q9,q10,q11,q12,q13,q14,q15,q16,q17,q18,q19,q20,q21,q22,q23,q24,q25,q26,q27,q28,q29,q30,q31,q32,q33,q34,q35,q36,q37,q38,q39,q40,q41,q42,q43,q44,q45,q46,q47,q48,q49,q50,q51,q52,q53,q54,q55,q56,q57,q58,q59,q60,q61,q62,q63,q64,q65,q66,q67,q68,q69,q70,q71,q72,q73,q74,q75,q76,q77,q78,q79,q80,q81,q82,q83,q84,q85,q86,q87,q88,q89,q90,q91,q92,q93,q94,q95,q96,q97,q98,q99,q100,q101,q102,q103,q104,q105,q106,q107,q108,q109,q110,q111,q112,q113,q114,q115,q116,q117,q118,q119,⟨.slice none 0 0,hP,Df.zero _ _⟩,rfl⟩ ?_);intro a' w' hI;obtain⟨i,hin,l,a,E,hl,hI⟩:=hI;have hme:=hI.meas;obtain⟨z2,z3,z9,z10,z11,z12,z13,z14,z15,z16,z17,z18,z19,z20,z21,z22,z23,z24,z25,z26,hI⟩:=hI;obtain⟨z27,z28,z29,z30,z31,z32,z33,z34,z35,z36,z37,z38,z39,z40,z41,z42,z43,z44,z45,z46,hI⟩:=hI;obtain⟨z47,z48,z49,z50,z51,z52,z53,z54,z55,z56,z57,z58,z59,z60,z61,z62,z63,z64,z65,z66,hI⟩:=hI;obtain⟨z67,z68,z69,z70,z71,z72,z73,z74,z75,z76,z77,z78,z79,z80,z81,z82,z83,z84,z85,z86,hI⟩:=hI;obtain⟨z87,z88,z89,z90,z91,z92,z93,z94,z95,z96,z97,z98,z99,z100,z101,z102,z103,z104,z105,z106,hI⟩:=hI;obtain⟨z107,z108,z109,z110,z111,z112,z113,z114,z115,z116,z117,z118,z119,hI⟩:=hI
 obtain⟨⟨pa,hp,ha⟩,ha'⟩:=hI;subst ha'
 by_cases hi:1≤i
 ·refine Gs (rA w w' rv free raw a i ⟨hi,by omega⟩ l pa hp ha (by omega) z2 z3 z9 z10 z11 z12 z13 z14 z15 z16 z17 z18 z19 z20 z21 z22 z23 z24 z25 z26 z27 z28 z29 z30 z31 z32 z33 z34 z35 z36 z37 z38 z39 z40 z41 z42 z43 z44 z45 z46 z47 z48 z49 z50 z51 z52 z53 z54 z55 z56 z57 z58 z59 z60 z61 z62 z63 z64 z65 z66 z67 z68 z69 z70 z71 z72 z73 z74 z75 z76 z77 z78 z79 z80 z81 z82 z83 z84 z85 z86 z87 z88 z89 z90 z91 z92 z93 z94 z95 z96 z97 z98 z99 z100 z101 z102 z103 z104 z105 z106 z107 z108 z109 z110 z111 z112 z113 z114 z115 z116 z117 z118 z119 _ _ (fun a' w' hT=>⟨⟨i-1,by omega,l++[(Rz free raw i a).1],(Rz free raw i a).2,?_,by rw[List.length_append,List.length_singleton];omega,?_⟩,?_⟩) (fun _ _ h=>h))
  ·obtain⟨j,rfl⟩:∃j,i=j+1:=⟨i-1,by omega⟩
   rw[E,Nat.add_sub_cancel,Gv];simp
  ·rw[show((i-1:Nat):Int)=(i:Int)-1 by omega];exact hT
  ·rw[hT.meas,hme];simp [intOf];omega
 ·obtain rfl:i=0:=by omega
  have HE:Hid (Gv free raw n a0=(l,a)):=by show _=_;rw[E];simp [Gv]
  have HP:=Za hp;have HA:=Za ha;rw[HE.o]at hJ;clear E hme hp ha hP HE hl hi hin hn;go_wp2_with fail
  go_meet;exact⟨pa,HP.o,HA.o⟩
theorem Nf {D:Nat→Prop}{w:World}{b:Nat}(l:List Bs)(h:Ae w b (Ci l) 9)(hD:D b)(g:Nat)(hg:g≤l.length)(hl:l.length≤1000):Ba D w (l.take g) (.slice (some ⟨b,0,none⟩) g l.length):=by
 have e:(l.take g).length=g:=by rw[List.length_take];omega
 refine⟨some ⟨b,0,none⟩,l.length,b,0,by rw[e],by rw[e];exact hg,by rw[e];show _≤_;omega,.inr ⟨rfl,hD⟩,fun i hi=>?_⟩;rw[e]at hi;refine h.at (0+i) _ ?_;rw[Nat.zero_add];unfold Ci;rw[List.getElem?_map,Ze (show i<l.length by omega),Zf,List.getElem?_take,if_pos hi,Ze (show i<l.length by omega)];rfl
theorem qS(w wr:World)(rv:Value)(free:Bool)(raw:List Int)(a i:Nat)(hi:1≤i∧i≤2)(ls:List FuV)(ca pa:Value)(cf:Value)(hP:Fz w raw a free ca cf pa (.slice none 0 0) wr)(la:List Ar)(hA:Df wr (w.heap.size+4) la pa)(hF:Dh wr (w.heap.size+4) ls cf)(hpc:∀x,pa.ownBlock=some x→cf.ownBlock≠some x)(hl:ls.length≤5)(q2 q3 q8 q9 q11 q12 q13 q14 q15 q16 q17 q18 q19 q20 q21 q22 q23 q24 q25 q26 q27 q28 q29 q30 q31 q32 q33 q34 q35 q36 q37 q38 q39 q40 q41 q42 q43 q44 q45 q46 q47 q48 q49 q50 q51 q52 q53 q54 q55 q56 q57 q58 q59 q60 q61 q62 q63 q64 q65 q66 q67 q68 q69 q70 q71 q72 q73 q74 q75 q76 q77 q78 q79 q80 q81 q82 q83 q84 q85 q86 q87 q88 q89 q90 q91 q92 q93 q94 q95 q96 q97 q98 q99 q100 q101 q102 q103 q104 q105 q106 q107 q108 q109 q110 q111 q112 q113 q114 q115 q116 q117 q118 q119:Value)(J K':Act→World→Prop)
  (hJ:∀a' w',qP w rv free (.int .i64 ((i:Int)-1)) (fun w'=> ∃cf' p,p.x=(dN raw i a).1∧Fz w raw (dN raw i a).2 free ca cf' pa (.slice none 0 0) w'∧Df w' (w.heap.size+4) la pa∧Dh w' (w.heap.size+4) (ls++[p]) cf'∧∀x,pa.ownBlock=some x→cf'.ownBlock≠some x) a' w'→J a' w') (hM:∀a' w',Met J a' w'→K' a' w'):
  Code.wp Zb (lA 2) (Exit.then K' (fun _ _ _=>False)) ⟨[rv,.bool free,q2,q3,.pointer (some ⟨w.heap.size,0,none⟩),.pointer (some ⟨w.heap.size+1,0,none⟩),.pointer (some ⟨w.heap.size+2,0,none⟩),.pointer (some ⟨w.heap.size+3,0,none⟩),q8,q9,.int .i64 (i:Int),q11,q12,q13,q14,q15,q16,q17,q18,q19,q20,q21,q22,q23,q24,q25,q26,q27,q28,q29,q30,q31,q32,q33,q34,q35,q36,q37,q38,q39,q40,q41,q42,q43,q44,q45,q46,q47,q48,q49,q50,q51,q52,q53,q54,q55,q56,q57,q58,q59,q60,q61,q62,q63,q64,q65,q66,q67,q68,q69,q70,q71,q72,q73,q74,q75,q76,q77,q78,q79,q80,q81,q82,q83,q84,q85,q86,q87,q88,q89,q90,q91,q92,q93,q94,q95,q96,q97,q98,q99,q100,q101,q102,q103,q104,q105,q106,q107,q108,q109,q110,q111,q112,q113,q114,q115,q116,q117,q118,q119].toArray,[]⟩ wr:=by
 obtain⟨oa,oc,rfl⟩:=hF.shape;have HL:=Za hl;obtain⟨i0,hi0,hz0,hz1,hz2⟩:=info_parts mE;have HI0:=Za hi0;have HZ0:=Za hz0;have HZ1:=Za hz1;have HZ2:=Za hz2;have HPA:Hid (∀k,pa.ownBlock=some k→k<wr.heap.size):=fun k e=>(hA.ge e).2
 have hgpos:(0:Int)<(i:Int):=by omega
 clear hi0 hz0 hz1 hz2 hl
 conv=>arg 2;whnf
 go_upto_region 18 with(fail)
 refine wp_cut (fun a' w'=>R18 (w.heap.size+1) i a raw wr _ _ _ _ _ _ _ _ _ _ _ _ _ _ _ _ _ _ _ _ _ _ _ _ _ _ _ _ _ _ _ _ _ _ _ _ _ _ _ _ _ _ _ _ _ _ _ _ _ _ _ _ _ _ _ _ _ _ _ _ _ _ _ _ _ _ _ _ _ _ _ _ _ _ _ _ _ _ _ _ _ _ _ _ _ _ _ _ _ _ _ _ _ _ _ _ _ _ _ _ _ _ _ _ _ _ _ _ a' w') ?rest (fun J K' hJ hM=>Gs (vU (w.heap.size+1) i a raw wr hP.src hi _ _ _ _ _ _ _ _ _ _ _ _ _ _ _ _ _ _ _ _ _ _ _ _ _ _ _ _ _ _ _ _ _ _ _ _ _ _ _ _ _ _ _ _ _ _ _ _ _ _ _ _ _ _ _ _ _ _ _ _ _ _ _ _ _ _ _ _ _ _ _ _ _ _ _ _ _ _ _ _ _ _ _ _ _ _ _ _ _ _ _ _ _ _ _ _ _ _ _ _ _ _ _ _ _ _ _ _ _ _ _ _ _ _ _ _ _ _ J K' hJ hM))
 case rest=>
 intro a' wx hT;obtain⟨z11,z69,z70,z71,z72,z73,z74,z75,z76,z77,hT⟩:=hT;obtain⟨⟨b,b6,e1,hb,ho,hb6,ho6,hs,hf⟩,ha'⟩:=hT;subst ha';subst e1;have hp:=hP.sfr hs hf;have ha:=hA.keep (Bl.sfr hf (fun b hb=>by have:w.heap.size+4≤b:=hb;omega));have hfu:=hF.keep (Bl.sfr hf (fun b hb=>by have:w.heap.size+4≤b:=hb;omega)) hf.size;have hbb:w.heap.size+4≤b:=by have:=hP.lt;omega
 have E:dN raw i a=(⟨Fe.getD i [],Hv.take (Ac raw a 7).1.toNat,[],[]⟩,(Ac raw a 7).2):=rfl;rw[E]at hJ;clear E;have hr:=Ah raw a 7 (by decide);have hg6:(Ac raw a 7).1.toNat≤6:=by omega
 generalize (Ac raw a 7).1.toNat=g at*;generalize Fe.getD i []=nm at*;generalize (Ac raw a 7).2=a2 at*;have hlp:=hP.lt;have hob:∀k,(Value.slice oa ls.length oc).ownBlock=some k→k<wr.heap.size:=fun k e=>(hF.ge e).2
 have hpar:Ea (fun k=>w.heap.size+4≤k∧(Value.slice oa ls.length oc).ownBlock≠some k) wx ⟨⟨nm,Hv.take g,[],[]⟩,.slice (some ⟨b6,0,none⟩) g 6,.slice none 0 0,.slice none 0 0⟩:=
  ⟨Nf Hv ho6 ⟨by omega,fun e=>by have:=hob b6 e;omega⟩ g hg6 (by decide),Ba.zero,[],rfl,by decide,Hr.zero _ _⟩
 have hb10:Below wx.heap.size wx (wx.alloc (.cells #[.string (Aa nm),.slice (some ⟨b6,0,none⟩) g 6,.slice none 0 0,.slice none 0 0] 58)):=bA;have HP10:=Za (hp.old hb10);have HA10:=Za (ha.keep (Bl.below hb10));have HF10:=Za (hfu.keep (Bl.below hb10) hb10.size);have HX10:=Za (hpar.keep (Bl.below hb10) hb10.size);have HN10:=Za (Fc.new wx (Es ⟨⟨nm,Hv.take g,[],[]⟩,.slice (some ⟨b6,0,none⟩) g 6,.slice none 0 0,.slice none 0 0⟩) 58);have c2:=hp.scp.at 2 _ rfl;have fc2:=hp.scp.fz 2;have b0:=ho.at 0 _ rfl;have b1:=ho.at 1 _ rfl;have b2:=ho.at 2 _ rfl;have b3:=ho.at 3 _ rfl;have hPl:=hp.lt;have hBl:=ho.lt;have HPC:=Za hpc;have HOB:=Za hob;have hsz:wr.heap.size≤wx.heap.size:=hf.size;clear hP hA hF hs hf hp ha hfu hpar hb10 ho ho6 hr hpc hob;go_wp2_with (at_builtin;(refine wpList_append_lies (P:=Zb) _ rfl _ _ 32 rfl (w.heap.size+4) 58 i0 _ 4 88 underlying32 HI0.o HZ0.o HZ1.o HZ2.o rfl (by decide) (.slice oa ls.length oc) ls.length (ls.flatMap Es) rfl HF10.o.1 ⟨wx.heap.size,0,none⟩ 1 1 (Es ⟨⟨nm,Hv.take g,[],[]⟩,.slice (some ⟨b6,0,none⟩) g 6,.slice none 0 0,.slice none 0 0⟩) rfl rfl (Is HN10.o) (eB [] _ _ _ _ _ _ _ _ _ _) (by decide) (by have:=HL.o;unfold maxLen;omega) (by have:=HL.o;omega) (by have:=HP10.o.lt;omega) _ rfl ?_;intro g' cap w11 hown hgrow hat hlt11;have hp11:=HP10.o.grow hgrow (fun k e=>(HF10.o.ge e).1);have HP11:=Za hp11;have y2:=hp11.scp.at 2 _ rfl;have fy2:=hp11.scp.fz 2;have hPl11:=hp11.lt;have HF11:=Za (HF10.o.snoc _ HX10.o hown hgrow hat);have HA11:Hid (Df w11 (w.heap.size+4) la pa):=(Jp HA10.o (D:=fun k=>pa.ownBlock=some k) (fun k e=>e) (fun k hk hl=>hgrow.block k hl (fun e=>HPC.o k hk e.symm)));have HQ11:Hid (∀x,pa.ownBlock=some x→(Value.slice (some ⟨g',0,none⟩) (ls.length+1) cap).ownBlock≠some x):=(fun x e e2=>by cases e2;rcases hat with hat|hat;exact HPC.o _ e hat;have h3:g'<wr.heap.size:=HPA.o g' e;have h4:wx.heap.size≤g':=(by rw[hat];first|(simp;done)|omega);omega);clear hown hgrow hat hp11))
 have HF12:=Za (HF11.o.keep (Bl.set w11 (show ¬(w.heap.size+4≤w.heap.size+2)by omega) 2 (.slice (some ⟨g',0,none⟩) (ls.length+1) cap)) (by simp [World.setCell]));have HA12:=Za (HA11.o.keep (Bl.set w11 (show ¬(w.heap.size+4≤w.heap.size+2)by omega) 2 (.slice (some ⟨g',0,none⟩) (ls.length+1) cap)));go_meet;exact⟨_,⟨⟨nm,Hv.take g,[],[]⟩,.slice (some ⟨b6,0,none⟩) g 6,.slice none 0 0,.slice none 0 0⟩,rfl,HP11.o.setCf _,HA12.o,HF12.o,HQ11.o⟩
end Go.Proofs.YtcfpfnoldgnloaaGreatDoor
