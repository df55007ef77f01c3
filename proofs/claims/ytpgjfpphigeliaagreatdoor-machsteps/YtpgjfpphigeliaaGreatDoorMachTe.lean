/-
  Tame: its loop over what code begins with. Conditions: the first numbers lie in memory.
  Tame: of raw lines, tame code. Conditions: the raw lines and the first numbers lie in memory.
-/
import Derived.Test.YtpgjfpphigeliaaGreatDoorMachTd
import Derived.Test.YtpgjfpphigeliaaGreatDoorMachE
set_option linter.unusedVariables false
set_option linter.unusedSimpArgs false
namespace Go.Proofs.YtpgjfpphigeliaaGreatDoor
open Go.RowKit
set_option maxHeartbeats 4000000
set_option maxRecDepth 100000

noncomputable def thBody : Code := match ((Tryz.f12.body.bind (partOf (isBlock 3))).getD .skip) with
  | .block _ (.loop c) => c
  | _ => .skip
noncomputable def thLoop : Code := ((Tryz.f12.body.bind (partOf (isBlock 3))).getD .skip)
/-- Where the loop stands. -/
def HTm (w : World) (T4 A T5 F8 base HB : Nat) (ls : List Ln) (vl : Value) (first : List Int) (v0 : Value) (fa : Option Addr) (fc : Nat) (j : Nat) (q2 q3 q7 q8 q9 q10 q11 q15 q16 q17 q18 q19 q20 q21 q22 q23 q24 q25 q26 q27 q28 q29 q30 q31 q32 q33 q34 q35 q36 q37 q38 q39 q40 q41 q42 q43 q44 q45 q46 q47 q48 q49 q50 q51 q52 q53 q54 q55 q56 q57 q58 q59 q60 q61 q62 q63 q64 q65 q66 q67 q68 q69 q70 q71 q72 q73 q74 q75 q76 q77 q78 q79 q80 q81 q82 q83 q84 q85 q86 q87 q88 q89 q90 q91 q92 q93 q94 q95 q96 q97 q98 q99 q100 q101 q102 q103 q104 q105 q106 q107 q108 q109 q110 q111 q112 q113 q114 q115 q116 q117 q118 q119 q120 q121 q122 q123 q124 q125 q126 q127 q128 q129 q130 q131 q132 q133 q134 q135 q136 q137 q138 q139 q140 q141 q142 q143 q144 q145 q146 q147 q148 q149 q150 q151 q152 q153 q154 q155 q156 q157 q158 q159 q160 q161 q162 q163 q164 q165 q166 q167 q168 q169 q170 q171 q172 q173 q174 q175 q176 q177 q178 q179 q180 q181 q182 q183 q184 q185 q186 q187 q188 q189 q190 q191 q192 q193 q194 q195 q196 q197 q198 q199 q200 q201 q202 q203 q204 q205 q206 q207 q208 q209 q210 q211 q212 q213 q214 q215 q216 q217 q218 q219 q220 q221 q222 q223 q246 q247 q248 q249 q250 q251 q252 q253 q254 q255 q256 q257 q258 q259 q260 : Value) (a' : Act) (w' : World) : Prop :=
  ∃ z14 z224 z225 z226 z227 z228 z229 z230 z231 z232 z233 z234 z235 z236 z237 z238 z239 z240 z241 z242 z243 z244 z245 : Value, ∃ ha hc, (LnsOwn w' HB (headP first j) (.slice ha j hc) ∧ TmIn w T4 A T5 F8 base ls vl w' ∧ HB ≤ w'.heap.size) ∧ a' = ⟨[v0, .slice fa first.length fc, q2, q3, .pointer (some ⟨T4, 0, none⟩), .pointer (some ⟨T5, 0, none⟩), .slice (some ⟨F8, 0, none⟩) 8 8, q7, q8, q9, q10, q11, .slice ha j hc, .int .i64 j, z14, q15, q16, q17, q18, q19, q20, q21, q22, q23, q24, q25, q26, q27, q28, q29, q30, q31, q32, q33, q34, q35, q36, q37, q38, q39, q40, q41, q42, q43, q44, q45, q46, q47, q48, q49, q50, q51, q52, q53, q54, q55, q56, q57, q58, q59, q60, q61, q62, q63, q64, q65, q66, q67, q68, q69, q70, q71, q72, q73, q74, q75, q76, q77, q78, q79, q80, q81, q82, q83, q84, q85, q86, q87, q88, q89, q90, q91, q92, q93, q94, q95, q96, q97, q98, q99, q100, q101, q102, q103, q104, q105, q106, q107, q108, q109, q110, q111, q112, q113, q114, q115, q116, q117, q118, q119, q120, q121, q122, q123, q124, q125, q126, q127, q128, q129, q130, q131, q132, q133, q134, q135, q136, q137, q138, q139, q140, q141, q142, q143, q144, q145, q146, q147, q148, q149, q150, q151, q152, q153, q154, q155, q156, q157, q158, q159, q160, q161, q162, q163, q164, q165, q166, q167, q168, q169, q170, q171, q172, q173, q174, q175, q176, q177, q178, q179, q180, q181, q182, q183, q184, q185, q186, q187, q188, q189, q190, q191, q192, q193, q194, q195, q196, q197, q198, q199, q200, q201, q202, q203, q204, q205, q206, q207, q208, q209, q210, q211, q212, q213, q214, q215, q216, q217, q218, q219, q220, q221, q222, q223, z224, z225, z226, z227, z228, z229, z230, z231, z232, z233, z234, z235, z236, z237, z238, z239, z240, z241, z242, z243, z244, z245, q246, q247, q248, q249, q250, q251, q252, q253, q254, q255, q256, q257, q258, q259, q260].toArray, []⟩
theorem thl_go (w : World) (T4 A T5 F8 base HB : Nat) (ls : List Ln) (vl : Value) (first : List Int) (v0 : Value) (fa : Option Addr) (fc : Nat) (wr : World) (j : Nat) (hj : j < 5) (ha : Option Addr) (hc : Nat) (hh : LnsOwn wr HB (headP first j) (.slice ha j hc)) (h : TmIn w T4 A T5 F8 base ls vl wr) (hs : HB ≤ wr.heap.size) (hHB : F8 < HB) (hf : NumsAt w first (.slice fa first.length fc)) (hfl : first.length ≤ 140737488355328) (q2 q3 q7 q8 q9 q10 q11 q14 q15 q16 q17 q18 q19 q20 q21 q22 q23 q24 q25 q26 q27 q28 q29 q30 q31 q32 q33 q34 q35 q36 q37 q38 q39 q40 q41 q42 q43 q44 q45 q46 q47 q48 q49 q50 q51 q52 q53 q54 q55 q56 q57 q58 q59 q60 q61 q62 q63 q64 q65 q66 q67 q68 q69 q70 q71 q72 q73 q74 q75 q76 q77 q78 q79 q80 q81 q82 q83 q84 q85 q86 q87 q88 q89 q90 q91 q92 q93 q94 q95 q96 q97 q98 q99 q100 q101 q102 q103 q104 q105 q106 q107 q108 q109 q110 q111 q112 q113 q114 q115 q116 q117 q118 q119 q120 q121 q122 q123 q124 q125 q126 q127 q128 q129 q130 q131 q132 q133 q134 q135 q136 q137 q138 q139 q140 q141 q142 q143 q144 q145 q146 q147 q148 q149 q150 q151 q152 q153 q154 q155 q156 q157 q158 q159 q160 q161 q162 q163 q164 q165 q166 q167 q168 q169 q170 q171 q172 q173 q174 q175 q176 q177 q178 q179 q180 q181 q182 q183 q184 q185 q186 q187 q188 q189 q190 q191 q192 q193 q194 q195 q196 q197 q198 q199 q200 q201 q202 q203 q204 q205 q206 q207 q208 q209 q210 q211 q212 q213 q214 q215 q216 q217 q218 q219 q220 q221 q222 q223 q224 q225 q226 q227 q228 q229 q230 q231 q232 q233 q234 q235 q236 q237 q238 q239 q240 q241 q242 q243 q244 q245 q246 q247 q248 q249 q250 q251 q252 q253 q254 q255 q256 q257 q258 q259 q260 : Value) (J K' : Act → World → Prop) (hJ : ∀ a' w', HTm w T4 A T5 F8 base HB ls vl first v0 fa fc (j + 1) q2 q3 q7 q8 q9 q10 q11 q15 q16 q17 q18 q19 q20 q21 q22 q23 q24 q25 q26 q27 q28 q29 q30 q31 q32 q33 q34 q35 q36 q37 q38 q39 q40 q41 q42 q43 q44 q45 q46 q47 q48 q49 q50 q51 q52 q53 q54 q55 q56 q57 q58 q59 q60 q61 q62 q63 q64 q65 q66 q67 q68 q69 q70 q71 q72 q73 q74 q75 q76 q77 q78 q79 q80 q81 q82 q83 q84 q85 q86 q87 q88 q89 q90 q91 q92 q93 q94 q95 q96 q97 q98 q99 q100 q101 q102 q103 q104 q105 q106 q107 q108 q109 q110 q111 q112 q113 q114 q115 q116 q117 q118 q119 q120 q121 q122 q123 q124 q125 q126 q127 q128 q129 q130 q131 q132 q133 q134 q135 q136 q137 q138 q139 q140 q141 q142 q143 q144 q145 q146 q147 q148 q149 q150 q151 q152 q153 q154 q155 q156 q157 q158 q159 q160 q161 q162 q163 q164 q165 q166 q167 q168 q169 q170 q171 q172 q173 q174 q175 q176 q177 q178 q179 q180 q181 q182 q183 q184 q185 q186 q187 q188 q189 q190 q191 q192 q193 q194 q195 q196 q197 q198 q199 q200 q201 q202 q203 q204 q205 q206 q207 q208 q209 q210 q211 q212 q213 q214 q215 q216 q217 q218 q219 q220 q221 q222 q223 q246 q247 q248 q249 q250 q251 q252 q253 q254 q255 q256 q257 q258 q259 q260 a' w' → J a' w') (hM : ∀ a' w', Met J a' w' → K' a' w') :
    Code.wp Tryz.prog thBody (Exit.then K' (fun _ _ _ => False)) ⟨[v0, .slice fa first.length fc, q2, q3, .pointer (some ⟨T4, 0, none⟩), .pointer (some ⟨T5, 0, none⟩), .slice (some ⟨F8, 0, none⟩) 8 8, q7, q8, q9, q10, q11, .slice ha j hc, .int .i64 j, q14, q15, q16, q17, q18, q19, q20, q21, q22, q23, q24, q25, q26, q27, q28, q29, q30, q31, q32, q33, q34, q35, q36, q37, q38, q39, q40, q41, q42, q43, q44, q45, q46, q47, q48, q49, q50, q51, q52, q53, q54, q55, q56, q57, q58, q59, q60, q61, q62, q63, q64, q65, q66, q67, q68, q69, q70, q71, q72, q73, q74, q75, q76, q77, q78, q79, q80, q81, q82, q83, q84, q85, q86, q87, q88, q89, q90, q91, q92, q93, q94, q95, q96, q97, q98, q99, q100, q101, q102, q103, q104, q105, q106, q107, q108, q109, q110, q111, q112, q113, q114, q115, q116, q117, q118, q119, q120, q121, q122, q123, q124, q125, q126, q127, q128, q129, q130, q131, q132, q133, q134, q135, q136, q137, q138, q139, q140, q141, q142, q143, q144, q145, q146, q147, q148, q149, q150, q151, q152, q153, q154, q155, q156, q157, q158, q159, q160, q161, q162, q163, q164, q165, q166, q167, q168, q169, q170, q171, q172, q173, q174, q175, q176, q177, q178, q179, q180, q181, q182, q183, q184, q185, q186, q187, q188, q189, q190, q191, q192, q193, q194, q195, q196, q197, q198, q199, q200, q201, q202, q203, q204, q205, q206, q207, q208, q209, q210, q211, q212, q213, q214, q215, q216, q217, q218, q219, q220, q221, q222, q223, q224, q225, q226, q227, q228, q229, q230, q231, q232, q233, q234, q235, q236, q237, q238, q239, q240, q241, q242, q243, q244, q245, q246, q247, q248, q249, q250, q251, q252, q253, q254, q255, q256, q257, q258, q259, q260].toArray, []⟩ wr := by
  have hjI : (j : Int) < 5 := by omega
  have hflI : (first.length : Int) ≤ 140737488355328 := by omega
  have HF := Lib.hid (NumsAt.old hf h.be)
  have hfw := h.few.at j _ (few_at j (by omega))
  have hFl := h.few.lt
  have HTM := Lib.hid h
  have HH := Lib.hid hh
  clear h hh hf
  obtain ⟨y, hy⟩ : ∃ y, lnI ⟨16, fewN j, 0, 0, firZ first j, []⟩ = y := ⟨_, rfl⟩
  have HSC : Hid (headP first (j + 1) = headP first j ++ [y]) := Lib.hid (by rw [headP_succ, hy])
  have hbI : Below wr.heap.size wr (wr.alloc (.cells #[.string ⟨#[]⟩, .int .i64 16, .int .i64 (fewN j), .int .i64 0, .int .i64 0, .int .i64 (firZ first j), .string ⟨#[]⟩] 41)) := (Below.refl _ _).alloc (Nat.le_refl _) _
  have HH6 := Lib.hid (RwOwn.old HH.out hbI)
  have HTM6 := Lib.hid (HTM.out.old hbI)
  have HNL : Hid (OwnAt (wr.alloc (.cells #[.string ⟨#[]⟩, .int .i64 16, .int .i64 (fewN j), .int .i64 0, .int .i64 0, .int .i64 (firZ first j), .string ⟨#[]⟩] 41)) wr.heap.size (lnCells y) 41) := Lib.hid (by rw [← hy]; exact OwnAt.new wr (lnCells (lnI ⟨16, fewN j, 0, 0, firZ first j, []⟩)) 41)
  have HS6 : Hid (HB ≤ (wr.alloc (.cells #[.string ⟨#[]⟩, .int .i64 16, .int .i64 (fewN j), .int .i64 0, .int .i64 0, .int .i64 (firZ first j), .string ⟨#[]⟩] 41)).heap.size) := Lib.hid (Nat.le_trans hs hbI.size)
  have hpl := headP_len first j
  clear hbI hy
  by_cases hlt : j < first.length
  · have hltI : (j : Int) < (first.length : Int) := by omega
    obtain ⟨fb, fo, rfl, hfb, hfc⟩ := NumsAt.at HF.out hlt
    have hz : firZ first j = first[j] := by unfold firZ; rw [List.getD_eq_getElem?_getD, List.getElem?_eq_getElem hlt]; rfl
    rw [← hz] at hfc
    clear hz
    generalize firZ first j = fi at *
    generalize fewN j = fw at *
    conv => arg 2; whnf
    go_wp2_with (first | (at_builtin; refine wpList_lnSnoc _ rfl _ _ rfl HB (headP first j) _ rfl HH6.out y wr.heap.size 1 rfl HNL.out (by rw [headP_len]; omega) HS6.out ?_; intro g2 cg2 w7 how7 hgr7 hat7 hlt7; rw [hpl] at how7 ⊢; have HH7 := Lib.hid how7; have HTM7 := Lib.hid (HTM6.out.grow hgr7 (fun g e => by have := (RwOwn.lt HH6.out g e).1; omega)); have HS7 := Lib.hid (Nat.le_trans HS6.out hgr7.size); clear how7 hgr7 hat7 hlt7))
    go_meet
    exact ⟨by rw [HSC.out]; exact HH7.out, HTM7.out, HS7.out⟩
  · have hltI : ¬ (j : Int) < (first.length : Int) := by omega
    have hz : firZ first j = 1 := by unfold firZ; rw [List.getD_eq_getElem?_getD, List.getElem?_eq_none (by omega)]; rfl
    rw [hz] at HH6 HTM6 HNL HS6
    clear hz
    generalize fewN j = fw at *
    conv => arg 2; whnf
    go_wp2_with (first | (at_builtin; refine wpList_lnSnoc _ rfl _ _ rfl HB (headP first j) _ rfl HH6.out y wr.heap.size 1 rfl HNL.out (by rw [headP_len]; omega) HS6.out ?_; intro g2 cg2 w7 how7 hgr7 hat7 hlt7; rw [hpl] at how7 ⊢; have HH7 := Lib.hid how7; have HTM7 := Lib.hid (HTM6.out.grow hgr7 (fun g e => by have := (RwOwn.lt HH6.out g e).1; omega)); have HS7 := Lib.hid (Nat.le_trans HS6.out hgr7.size); clear how7 hgr7 hat7 hlt7))
    go_meet
    exact ⟨by rw [HSC.out]; exact HH7.out, HTM7.out, HS7.out⟩
theorem thl_end (w : World) (T4 A T5 F8 base HB : Nat) (ls : List Ln) (vl : Value) (first : List Int) (v0 : Value) (fa : Option Addr) (fc : Nat) (wr : World) (ha : Option Addr) (hc : Nat) (hh : LnsOwn wr HB (headP first 5) (.slice ha 5 hc)) (h : TmIn w T4 A T5 F8 base ls vl wr) (hs : HB ≤ wr.heap.size) (q2 q3 q7 q8 q9 q10 q11 q14 q15 q16 q17 q18 q19 q20 q21 q22 q23 q24 q25 q26 q27 q28 q29 q30 q31 q32 q33 q34 q35 q36 q37 q38 q39 q40 q41 q42 q43 q44 q45 q46 q47 q48 q49 q50 q51 q52 q53 q54 q55 q56 q57 q58 q59 q60 q61 q62 q63 q64 q65 q66 q67 q68 q69 q70 q71 q72 q73 q74 q75 q76 q77 q78 q79 q80 q81 q82 q83 q84 q85 q86 q87 q88 q89 q90 q91 q92 q93 q94 q95 q96 q97 q98 q99 q100 q101 q102 q103 q104 q105 q106 q107 q108 q109 q110 q111 q112 q113 q114 q115 q116 q117 q118 q119 q120 q121 q122 q123 q124 q125 q126 q127 q128 q129 q130 q131 q132 q133 q134 q135 q136 q137 q138 q139 q140 q141 q142 q143 q144 q145 q146 q147 q148 q149 q150 q151 q152 q153 q154 q155 q156 q157 q158 q159 q160 q161 q162 q163 q164 q165 q166 q167 q168 q169 q170 q171 q172 q173 q174 q175 q176 q177 q178 q179 q180 q181 q182 q183 q184 q185 q186 q187 q188 q189 q190 q191 q192 q193 q194 q195 q196 q197 q198 q199 q200 q201 q202 q203 q204 q205 q206 q207 q208 q209 q210 q211 q212 q213 q214 q215 q216 q217 q218 q219 q220 q221 q222 q223 q224 q225 q226 q227 q228 q229 q230 q231 q232 q233 q234 q235 q236 q237 q238 q239 q240 q241 q242 q243 q244 q245 q246 q247 q248 q249 q250 q251 q252 q253 q254 q255 q256 q257 q258 q259 q260 : Value) (Q : Exit → Act → World → Prop) (hQ : ∀ a', HTm w T4 A T5 F8 base HB ls vl first v0 fa fc 5 q2 q3 q7 q8 q9 q10 q11 q15 q16 q17 q18 q19 q20 q21 q22 q23 q24 q25 q26 q27 q28 q29 q30 q31 q32 q33 q34 q35 q36 q37 q38 q39 q40 q41 q42 q43 q44 q45 q46 q47 q48 q49 q50 q51 q52 q53 q54 q55 q56 q57 q58 q59 q60 q61 q62 q63 q64 q65 q66 q67 q68 q69 q70 q71 q72 q73 q74 q75 q76 q77 q78 q79 q80 q81 q82 q83 q84 q85 q86 q87 q88 q89 q90 q91 q92 q93 q94 q95 q96 q97 q98 q99 q100 q101 q102 q103 q104 q105 q106 q107 q108 q109 q110 q111 q112 q113 q114 q115 q116 q117 q118 q119 q120 q121 q122 q123 q124 q125 q126 q127 q128 q129 q130 q131 q132 q133 q134 q135 q136 q137 q138 q139 q140 q141 q142 q143 q144 q145 q146 q147 q148 q149 q150 q151 q152 q153 q154 q155 q156 q157 q158 q159 q160 q161 q162 q163 q164 q165 q166 q167 q168 q169 q170 q171 q172 q173 q174 q175 q176 q177 q178 q179 q180 q181 q182 q183 q184 q185 q186 q187 q188 q189 q190 q191 q192 q193 q194 q195 q196 q197 q198 q199 q200 q201 q202 q203 q204 q205 q206 q207 q208 q209 q210 q211 q212 q213 q214 q215 q216 q217 q218 q219 q220 q221 q222 q223 q246 q247 q248 q249 q250 q251 q252 q253 q254 q255 q256 q257 q258 q259 q260 a' wr → Q (.exit 3) a' wr) :
    Code.wp Tryz.prog thBody Q ⟨[v0, .slice fa first.length fc, q2, q3, .pointer (some ⟨T4, 0, none⟩), .pointer (some ⟨T5, 0, none⟩), .slice (some ⟨F8, 0, none⟩) 8 8, q7, q8, q9, q10, q11, .slice ha 5 hc, .int .i64 ((5 : Nat) : Int), q14, q15, q16, q17, q18, q19, q20, q21, q22, q23, q24, q25, q26, q27, q28, q29, q30, q31, q32, q33, q34, q35, q36, q37, q38, q39, q40, q41, q42, q43, q44, q45, q46, q47, q48, q49, q50, q51, q52, q53, q54, q55, q56, q57, q58, q59, q60, q61, q62, q63, q64, q65, q66, q67, q68, q69, q70, q71, q72, q73, q74, q75, q76, q77, q78, q79, q80, q81, q82, q83, q84, q85, q86, q87, q88, q89, q90, q91, q92, q93, q94, q95, q96, q97, q98, q99, q100, q101, q102, q103, q104, q105, q106, q107, q108, q109, q110, q111, q112, q113, q114, q115, q116, q117, q118, q119, q120, q121, q122, q123, q124, q125, q126, q127, q128, q129, q130, q131, q132, q133, q134, q135, q136, q137, q138, q139, q140, q141, q142, q143, q144, q145, q146, q147, q148, q149, q150, q151, q152, q153, q154, q155, q156, q157, q158, q159, q160, q161, q162, q163, q164, q165, q166, q167, q168, q169, q170, q171, q172, q173, q174, q175, q176, q177, q178, q179, q180, q181, q182, q183, q184, q185, q186, q187, q188, q189, q190, q191, q192, q193, q194, q195, q196, q197, q198, q199, q200, q201, q202, q203, q204, q205, q206, q207, q208, q209, q210, q211, q212, q213, q214, q215, q216, q217, q218, q219, q220, q221, q222, q223, q224, q225, q226, q227, q228, q229, q230, q231, q232, q233, q234, q235, q236, q237, q238, q239, q240, q241, q242, q243, q244, q245, q246, q247, q248, q249, q250, q251, q252, q253, q254, q255, q256, q257, q258, q259, q260].toArray, []⟩ wr := by
  have HTM := Lib.hid h; have HH := Lib.hid hh
  clear h hh
  conv => arg 2; whnf
  refine wp_seq ?_
  go_upto_if 225 with (fail)
  refine wp_cond_false rfl ?_
  refine wp_exit ?_
  exact hQ _ ⟨_, _, _, _, _, _, _, _, _, _, _, _, _, _, _, _, _, _, _, _, _, _, _, ha, hc, ⟨HH.out, HTM.out, hs⟩, rfl⟩
def numOf3 (a : Act) : Nat := match a.tmps.getD 13 undef with | .int _ z => z.toNat | _ => 0
theorem thl_any (w : World) (T4 A T5 F8 base HB : Nat) (ls : List Ln) (vl : Value) (first : List Int) (v0 : Value) (fa : Option Addr) (fc : Nat) (wr : World) (h : TmIn w T4 A T5 F8 base ls vl wr) (hs : HB ≤ wr.heap.size) (hHB : F8 < HB) (hf : NumsAt w first (.slice fa first.length fc)) (hfl : first.length ≤ 140737488355328) (q2 q3 q7 q8 q9 q10 q11 q14 q15 q16 q17 q18 q19 q20 q21 q22 q23 q24 q25 q26 q27 q28 q29 q30 q31 q32 q33 q34 q35 q36 q37 q38 q39 q40 q41 q42 q43 q44 q45 q46 q47 q48 q49 q50 q51 q52 q53 q54 q55 q56 q57 q58 q59 q60 q61 q62 q63 q64 q65 q66 q67 q68 q69 q70 q71 q72 q73 q74 q75 q76 q77 q78 q79 q80 q81 q82 q83 q84 q85 q86 q87 q88 q89 q90 q91 q92 q93 q94 q95 q96 q97 q98 q99 q100 q101 q102 q103 q104 q105 q106 q107 q108 q109 q110 q111 q112 q113 q114 q115 q116 q117 q118 q119 q120 q121 q122 q123 q124 q125 q126 q127 q128 q129 q130 q131 q132 q133 q134 q135 q136 q137 q138 q139 q140 q141 q142 q143 q144 q145 q146 q147 q148 q149 q150 q151 q152 q153 q154 q155 q156 q157 q158 q159 q160 q161 q162 q163 q164 q165 q166 q167 q168 q169 q170 q171 q172 q173 q174 q175 q176 q177 q178 q179 q180 q181 q182 q183 q184 q185 q186 q187 q188 q189 q190 q191 q192 q193 q194 q195 q196 q197 q198 q199 q200 q201 q202 q203 q204 q205 q206 q207 q208 q209 q210 q211 q212 q213 q214 q215 q216 q217 q218 q219 q220 q221 q222 q223 q224 q225 q226 q227 q228 q229 q230 q231 q232 q233 q234 q235 q236 q237 q238 q239 q240 q241 q242 q243 q244 q245 q246 q247 q248 q249 q250 q251 q252 q253 q254 q255 q256 q257 q258 q259 q260 : Value) (J K' : Act → World → Prop) (hJ : ∀ a' w', HTm w T4 A T5 F8 base HB ls vl first v0 fa fc 5 q2 q3 q7 q8 q9 q10 q11 q15 q16 q17 q18 q19 q20 q21 q22 q23 q24 q25 q26 q27 q28 q29 q30 q31 q32 q33 q34 q35 q36 q37 q38 q39 q40 q41 q42 q43 q44 q45 q46 q47 q48 q49 q50 q51 q52 q53 q54 q55 q56 q57 q58 q59 q60 q61 q62 q63 q64 q65 q66 q67 q68 q69 q70 q71 q72 q73 q74 q75 q76 q77 q78 q79 q80 q81 q82 q83 q84 q85 q86 q87 q88 q89 q90 q91 q92 q93 q94 q95 q96 q97 q98 q99 q100 q101 q102 q103 q104 q105 q106 q107 q108 q109 q110 q111 q112 q113 q114 q115 q116 q117 q118 q119 q120 q121 q122 q123 q124 q125 q126 q127 q128 q129 q130 q131 q132 q133 q134 q135 q136 q137 q138 q139 q140 q141 q142 q143 q144 q145 q146 q147 q148 q149 q150 q151 q152 q153 q154 q155 q156 q157 q158 q159 q160 q161 q162 q163 q164 q165 q166 q167 q168 q169 q170 q171 q172 q173 q174 q175 q176 q177 q178 q179 q180 q181 q182 q183 q184 q185 q186 q187 q188 q189 q190 q191 q192 q193 q194 q195 q196 q197 q198 q199 q200 q201 q202 q203 q204 q205 q206 q207 q208 q209 q210 q211 q212 q213 q214 q215 q216 q217 q218 q219 q220 q221 q222 q223 q246 q247 q248 q249 q250 q251 q252 q253 q254 q255 q256 q257 q258 q259 q260 a' w' → J a' w') (hM : ∀ a' w', Met J a' w' → K' a' w') :
    Code.wp Tryz.prog thLoop (Exit.then K' (fun _ _ _ => False)) ⟨[v0, .slice fa first.length fc, q2, q3, .pointer (some ⟨T4, 0, none⟩), .pointer (some ⟨T5, 0, none⟩), .slice (some ⟨F8, 0, none⟩) 8 8, q7, q8, q9, q10, q11, .slice none 0 0, .int .i64 ((0 : Nat) : Int), q14, q15, q16, q17, q18, q19, q20, q21, q22, q23, q24, q25, q26, q27, q28, q29, q30, q31, q32, q33, q34, q35, q36, q37, q38, q39, q40, q41, q42, q43, q44, q45, q46, q47, q48, q49, q50, q51, q52, q53, q54, q55, q56, q57, q58, q59, q60, q61, q62, q63, q64, q65, q66, q67, q68, q69, q70, q71, q72, q73, q74, q75, q76, q77, q78, q79, q80, q81, q82, q83, q84, q85, q86, q87, q88, q89, q90, q91, q92, q93, q94, q95, q96, q97, q98, q99, q100, q101, q102, q103, q104, q105, q106, q107, q108, q109, q110, q111, q112, q113, q114, q115, q116, q117, q118, q119, q120, q121, q122, q123, q124, q125, q126, q127, q128, q129, q130, q131, q132, q133, q134, q135, q136, q137, q138, q139, q140, q141, q142, q143, q144, q145, q146, q147, q148, q149, q150, q151, q152, q153, q154, q155, q156, q157, q158, q159, q160, q161, q162, q163, q164, q165, q166, q167, q168, q169, q170, q171, q172, q173, q174, q175, q176, q177, q178, q179, q180, q181, q182, q183, q184, q185, q186, q187, q188, q189, q190, q191, q192, q193, q194, q195, q196, q197, q198, q199, q200, q201, q202, q203, q204, q205, q206, q207, q208, q209, q210, q211, q212, q213, q214, q215, q216, q217, q218, q219, q220, q221, q222, q223, q224, q225, q226, q227, q228, q229, q230, q231, q232, q233, q234, q235, q236, q237, q238, q239, q240, q241, q242, q243, q244, q245, q246, q247, q248, q249, q250, q251, q252, q253, q254, q255, q256, q257, q258, q259, q260].toArray, []⟩ wr := by
  have hbody : thLoop = .block 3 (.loop thBody) := by kernel_rfl
  rw [hbody]
  refine wp_block (wp_loop (fun a' w' => ∃ j, j ≤ 5 ∧ HTm w T4 A T5 F8 base HB ls vl first v0 fa fc j q2 q3 q7 q8 q9 q10 q11 q15 q16 q17 q18 q19 q20 q21 q22 q23 q24 q25 q26 q27 q28 q29 q30 q31 q32 q33 q34 q35 q36 q37 q38 q39 q40 q41 q42 q43 q44 q45 q46 q47 q48 q49 q50 q51 q52 q53 q54 q55 q56 q57 q58 q59 q60 q61 q62 q63 q64 q65 q66 q67 q68 q69 q70 q71 q72 q73 q74 q75 q76 q77 q78 q79 q80 q81 q82 q83 q84 q85 q86 q87 q88 q89 q90 q91 q92 q93 q94 q95 q96 q97 q98 q99 q100 q101 q102 q103 q104 q105 q106 q107 q108 q109 q110 q111 q112 q113 q114 q115 q116 q117 q118 q119 q120 q121 q122 q123 q124 q125 q126 q127 q128 q129 q130 q131 q132 q133 q134 q135 q136 q137 q138 q139 q140 q141 q142 q143 q144 q145 q146 q147 q148 q149 q150 q151 q152 q153 q154 q155 q156 q157 q158 q159 q160 q161 q162 q163 q164 q165 q166 q167 q168 q169 q170 q171 q172 q173 q174 q175 q176 q177 q178 q179 q180 q181 q182 q183 q184 q185 q186 q187 q188 q189 q190 q191 q192 q193 q194 q195 q196 q197 q198 q199 q200 q201 q202 q203 q204 q205 q206 q207 q208 q209 q210 q211 q212 q213 q214 q215 q216 q217 q218 q219 q220 q221 q222 q223 q246 q247 q248 q249 q250 q251 q252 q253 q254 q255 q256 q257 q258 q259 q260 a' w') (fun a' _ => 5 - numOf3 a') ⟨0, Nat.zero_le _, q14, q224, q225, q226, q227, q228, q229, q230, q231, q232, q233, q234, q235, q236, q237, q238, q239, q240, q241, q242, q243, q244, q245, none, 0, ⟨RwOwn.zero _ _ _ _ _, h, hs⟩, rfl⟩ ?_)
  intro a' w' hI
  obtain ⟨j, hj, hT⟩ := hI
  obtain ⟨z14, hT⟩ := hT
  obtain ⟨z224, hT⟩ := hT
  obtain ⟨z225, hT⟩ := hT
  obtain ⟨z226, hT⟩ := hT
  obtain ⟨z227, hT⟩ := hT
  obtain ⟨z228, hT⟩ := hT
  obtain ⟨z229, hT⟩ := hT
  obtain ⟨z230, hT⟩ := hT
  obtain ⟨z231, hT⟩ := hT
  obtain ⟨z232, hT⟩ := hT
  obtain ⟨z233, hT⟩ := hT
  obtain ⟨z234, hT⟩ := hT
  obtain ⟨z235, hT⟩ := hT
  obtain ⟨z236, hT⟩ := hT
  obtain ⟨z237, hT⟩ := hT
  obtain ⟨z238, hT⟩ := hT
  obtain ⟨z239, hT⟩ := hT
  obtain ⟨z240, hT⟩ := hT
  obtain ⟨z241, hT⟩ := hT
  obtain ⟨z242, hT⟩ := hT
  obtain ⟨z243, hT⟩ := hT
  obtain ⟨z244, hT⟩ := hT
  obtain ⟨z245, hT⟩ := hT
  obtain ⟨ha, hc, ⟨hh, htm, hsz⟩, ha'⟩ := hT
  subst ha'
  by_cases hlt : j < 5
  · refine wp_mono (thl_go w T4 A T5 F8 base HB ls vl first v0 fa fc w' j hlt ha hc hh htm hsz hHB hf hfl _ _ _ _ _ _ _ _ _ _ _ _ _ _ _ _ _ _ _ _ _ _ _ _ _ _ _ _ _ _ _ _ _ _ _ _ _ _ _ _ _ _ _ _ _ _ _ _ _ _ _ _ _ _ _ _ _ _ _ _ _ _ _ _ _ _ _ _ _ _ _ _ _ _ _ _ _ _ _ _ _ _ _ _ _ _ _ _ _ _ _ _ _ _ _ _ _ _ _ _ _ _ _ _ _ _ _ _ _ _ _ _ _ _ _ _ _ _ _ _ _ _ _ _ _ _ _ _ _ _ _ _ _ _ _ _ _ _ _ _ _ _ _ _ _ _ _ _ _ _ _ _ _ _ _ _ _ _ _ _ _ _ _ _ _ _ _ _ _ _ _ _ _ _ _ _ _ _ _ _ _ _ _ _ _ _ _ _ _ _ _ _ _ _ _ _ _ _ _ _ _ _ _ _ _ _ _ _ _ _ _ _ _ _ _ _ _ _ _ _ _ _ _ _ _ _ _ _ _ _ _ _ _ _ _ _ _ _ _ _ _ _ _ _ _ _ _ _ _ _ _ _ _ _ (HTm w T4 A T5 F8 base HB ls vl first v0 fa fc (j + 1) q2 q3 q7 q8 q9 q10 q11 q15 q16 q17 q18 q19 q20 q21 q22 q23 q24 q25 q26 q27 q28 q29 q30 q31 q32 q33 q34 q35 q36 q37 q38 q39 q40 q41 q42 q43 q44 q45 q46 q47 q48 q49 q50 q51 q52 q53 q54 q55 q56 q57 q58 q59 q60 q61 q62 q63 q64 q65 q66 q67 q68 q69 q70 q71 q72 q73 q74 q75 q76 q77 q78 q79 q80 q81 q82 q83 q84 q85 q86 q87 q88 q89 q90 q91 q92 q93 q94 q95 q96 q97 q98 q99 q100 q101 q102 q103 q104 q105 q106 q107 q108 q109 q110 q111 q112 q113 q114 q115 q116 q117 q118 q119 q120 q121 q122 q123 q124 q125 q126 q127 q128 q129 q130 q131 q132 q133 q134 q135 q136 q137 q138 q139 q140 q141 q142 q143 q144 q145 q146 q147 q148 q149 q150 q151 q152 q153 q154 q155 q156 q157 q158 q159 q160 q161 q162 q163 q164 q165 q166 q167 q168 q169 q170 q171 q172 q173 q174 q175 q176 q177 q178 q179 q180 q181 q182 q183 q184 q185 q186 q187 q188 q189 q190 q191 q192 q193 q194 q195 q196 q197 q198 q199 q200 q201 q202 q203 q204 q205 q206 q207 q208 q209 q210 q211 q212 q213 q214 q215 q216 q217 q218 q219 q220 q221 q222 q223 q246 q247 q248 q249 q250 q251 q252 q253 q254 q255 q256 q257 q258 q259 q260) (HTm w T4 A T5 F8 base HB ls vl first v0 fa fc (j + 1) q2 q3 q7 q8 q9 q10 q11 q15 q16 q17 q18 q19 q20 q21 q22 q23 q24 q25 q26 q27 q28 q29 q30 q31 q32 q33 q34 q35 q36 q37 q38 q39 q40 q41 q42 q43 q44 q45 q46 q47 q48 q49 q50 q51 q52 q53 q54 q55 q56 q57 q58 q59 q60 q61 q62 q63 q64 q65 q66 q67 q68 q69 q70 q71 q72 q73 q74 q75 q76 q77 q78 q79 q80 q81 q82 q83 q84 q85 q86 q87 q88 q89 q90 q91 q92 q93 q94 q95 q96 q97 q98 q99 q100 q101 q102 q103 q104 q105 q106 q107 q108 q109 q110 q111 q112 q113 q114 q115 q116 q117 q118 q119 q120 q121 q122 q123 q124 q125 q126 q127 q128 q129 q130 q131 q132 q133 q134 q135 q136 q137 q138 q139 q140 q141 q142 q143 q144 q145 q146 q147 q148 q149 q150 q151 q152 q153 q154 q155 q156 q157 q158 q159 q160 q161 q162 q163 q164 q165 q166 q167 q168 q169 q170 q171 q172 q173 q174 q175 q176 q177 q178 q179 q180 q181 q182 q183 q184 q185 q186 q187 q188 q189 q190 q191 q192 q193 q194 q195 q196 q197 q198 q199 q200 q201 q202 q203 q204 q205 q206 q207 q208 q209 q210 q211 q212 q213 q214 q215 q216 q217 q218 q219 q220 q221 q222 q223 q246 q247 q248 q249 q250 q251 q252 q253 q254 q255 q256 q257 q258 q259 q260) (fun _ _ q => q) (fun _ _ q => q)) ?_
    intro e a3 w3 hq
    cases e with
    | normal =>
      refine ⟨⟨j + 1, hlt, hq⟩, ?_⟩
      have h1 : numOf3 a3 = j + 1 := by
        have hT := hq
        obtain ⟨_, hT⟩ := hT
        obtain ⟨_, hT⟩ := hT
        obtain ⟨_, hT⟩ := hT
        obtain ⟨_, hT⟩ := hT
        obtain ⟨_, hT⟩ := hT
        obtain ⟨_, hT⟩ := hT
        obtain ⟨_, hT⟩ := hT
        obtain ⟨_, hT⟩ := hT
        obtain ⟨_, hT⟩ := hT
        obtain ⟨_, hT⟩ := hT
        obtain ⟨_, hT⟩ := hT
        obtain ⟨_, hT⟩ := hT
        obtain ⟨_, hT⟩ := hT
        obtain ⟨_, hT⟩ := hT
        obtain ⟨_, hT⟩ := hT
        obtain ⟨_, hT⟩ := hT
        obtain ⟨_, hT⟩ := hT
        obtain ⟨_, hT⟩ := hT
        obtain ⟨_, hT⟩ := hT
        obtain ⟨_, hT⟩ := hT
        obtain ⟨_, hT⟩ := hT
        obtain ⟨_, hT⟩ := hT
        obtain ⟨_, hT⟩ := hT
        obtain ⟨_, _, _, ha2⟩ := hT
        rw [ha2]; rfl
      rw [h1]
      show 5 - (j + 1) < 5 - j
      omega
    | _ => exact False.elim hq
  · have he : j = 5 := by omega
    subst he
    exact thl_end w T4 A T5 F8 base HB ls vl first v0 fa fc w' ha hc hh htm hsz _ _ _ _ _ _ _ _ _ _ _ _ _ _ _ _ _ _ _ _ _ _ _ _ _ _ _ _ _ _ _ _ _ _ _ _ _ _ _ _ _ _ _ _ _ _ _ _ _ _ _ _ _ _ _ _ _ _ _ _ _ _ _ _ _ _ _ _ _ _ _ _ _ _ _ _ _ _ _ _ _ _ _ _ _ _ _ _ _ _ _ _ _ _ _ _ _ _ _ _ _ _ _ _ _ _ _ _ _ _ _ _ _ _ _ _ _ _ _ _ _ _ _ _ _ _ _ _ _ _ _ _ _ _ _ _ _ _ _ _ _ _ _ _ _ _ _ _ _ _ _ _ _ _ _ _ _ _ _ _ _ _ _ _ _ _ _ _ _ _ _ _ _ _ _ _ _ _ _ _ _ _ _ _ _ _ _ _ _ _ _ _ _ _ _ _ _ _ _ _ _ _ _ _ _ _ _ _ _ _ _ _ _ _ _ _ _ _ _ _ _ _ _ _ _ _ _ _ _ _ _ _ _ _ _ _ _ _ _ _ _ _ _ _ _ _ _ _ _ _ _ _ _ _ _ (fun a3 h3 => hM _ _ (Met.intro (hJ _ _ h3)))
end Go.Proofs.YtpgjfpphigeliaaGreatDoor

namespace Go.Proofs.YtpgjfpphigeliaaGreatDoor
open Go.RowKit
set_option maxHeartbeats 4000000
set_option maxRecDepth 100000

theorem tame_any (raw : List Ln) (v0 : Value) (first : List Int) (hfi : ∀ z, z ∈ first → I64 z) (v1 : Value) (w : World) (hraw : RawQ w raw v0) (hfirst : NumsAt w first v1) :
    Calls Tryz.prog 12 #[v0, v1] w fun e w' => ∃ va vl, e = .returned (.agg #[va, vl]) ∧ CodeAt w' (tameC raw first) va vl ∧ Below w.heap.size w w' := by
  obtain ⟨fa, fc, rfl⟩ := RwAt.shape hfirst
  have hfl := RwAt.len hfirst
  have hflI : (first.length : Int) ≤ 140737488355328 := by omega
  have hB1 : Below w.heap.size w (w.alloc (.cells #[.slice none 0 0, .slice none 0 0] 27)) := (Below.refl _ _).alloc (Nat.le_refl _) _
  have ho4 := OwnAt.new w [.slice none 0 0, .slice none 0 0] 27
  obtain ⟨W1, hW1⟩ : ∃ W1, w.alloc (.cells #[.slice none 0 0, .slice none 0 0] 27) = W1 := ⟨_, rfl⟩
  have hs1 : W1.heap.size = w.heap.size + 1 := by rw [← hW1]; simp
  rw [hW1] at hB1 ho4
  have HFT := Lib.hid (fit_good raw v0 W1 (hraw.old hB1))
  rw [hs1] at HFT
  have HLK := Lib.hid (rawfit_ok hraw.ok)
  have hgl := (fitC_good hraw.ok).len
  have hga := (fitC_good hraw.ok).arrs
  have hlpos : 0 < (fitC raw).lines.length := by obtain ⟨j, hj, _⟩ := (fitC_good hraw.ok).has; omega
  have HTC : Hid (tameC raw first = ⟨arrs2, headT first ++ (fitC raw).lines.map tameL⟩) := Lib.hid rfl
  have HF := Lib.hid hfirst; have HF0 := Lib.hid hfirst; have HFI := Lib.hid hfi; have HB1 := Lib.hid hB1; have HO4 := Lib.hid ho4; have HW1 := Lib.hid hW1
  clear hraw hfirst hB1 ho4 hs1 hW1 hfi
  go_enter Tryz.func12, Tryz.ntmps12
  go_upto_region 1 with (fail)
  rw [HW1.out]
  go_wp2_with fail
  refine (HFT.out).mono ?_
  rintro e w2 ⟨A, base, la, lc, rfl, hfo, hb2⟩
  obtain ⟨ls, hls⟩ : ∃ ls, (fitC raw).lines = ls := ⟨_, rfl⟩
  rw [hls] at hfo HLK hgl HTC hlpos ⊢
  clear hls HFT hga
  have hlI : (ls.length : Int) ≤ 41 := by omega
  have hs1 : W1.heap.size = w.heap.size + 1 := by rw [← HW1.out]; simp
  rw [← hs1] at hb2
  have hb2s := hb2.size
  have ho5 := OwnAt.new w2 [.slice (some ⟨A, 0, none⟩) 2 2, .slice la ls.length lc] 27
  have hB5 : Below w2.heap.size w2 (w2.alloc (.cells #[.slice (some ⟨A, 0, none⟩) 2 2, .slice la ls.length lc] 27)) := (Below.refl _ _).alloc (Nat.le_refl _) _
  obtain ⟨W5, hW5⟩ : ∃ W5, w2.alloc (.cells #[.slice (some ⟨A, 0, none⟩) 2 2, .slice la ls.length lc] 27) = W5 := ⟨_, rfl⟩
  have hs5 : W5.heap.size = w2.heap.size + 1 := by rw [← hW5]; simp
  rw [hW5] at ho5 hB5
  have ho8 := OwnAt.new W5 fewC 3
  have hB8 : Below W5.heap.size W5 (W5.alloc (.cells #[.int .i64 5, .int .i64 6, .int .i64 7, .int .i64 10, .int .i64 17, .int .i64 2, .int .i64 0, .int .i64 1] 3)) := (Below.refl _ _).alloc (Nat.le_refl _) _
  have hW8s : (W5.alloc (.cells #[.int .i64 5, .int .i64 6, .int .i64 7, .int .i64 10, .int .i64 17, .int .i64 2, .int .i64 0, .int .i64 1] 3)).heap.size = w2.heap.size + 2 := by simp; omega
  rw [hs5] at ho8
  obtain ⟨W8, hW8⟩ : ∃ W8, W5.alloc (.cells #[.int .i64 5, .int .i64 6, .int .i64 7, .int .i64 10, .int .i64 17, .int .i64 2, .int .i64 0, .int .i64 1] 3) = W8 := ⟨_, rfl⟩
  have ho8 : OwnAt W8 (w2.heap.size + 1) fewC 3 := by rw [← hW8]; exact ho8
  rw [hW8] at hB8 hW8s
  have HTM : Hid (TmIn w w.heap.size A w2.heap.size (w2.heap.size + 1) base (uptoT ls 0) (.slice la ls.length lc) W8) := Lib.hid (by
    rw [uptoT_zero]
    have h1 := hfo.lo; have h2 := hfo.ab; have h3 := hfo.le
    exact ⟨((HO4.out.old hb2).old hB5).old hB8, (hfo.aa.old hB5).old hB8, ho5.old hB8, ho8, RwOwn.old (RwOwn.old hfo.ln hB5) hB8, fun g e => (RwOwn.lt hfo.ln g e).2, Nat.le_refl _, by omega, h2, h3, by omega, (HB1.out.trans (hb2.mono HB1.out.size)).trans ((hB5.trans (hB8.mono hB5.size)).mono (Nat.le_trans HB1.out.size hb2.size))⟩)
  have HW5 := Lib.hid (And.intro hW5 hW8)
  clear hfo hb2 ho5 hB5 hW5 hs5 ho8 hB8 hW8 HO4 hb2s hs1
  go_upto_region 3 with (fail)
  rw [HW5.out.1, HW5.out.2]
  clear HW5
  have HF8 : Hid (NumsAt W8 first (.slice fa first.length fc)) := Lib.hid (HF.out.old HTM.out.be)
  have h8s : W8.heap.size = w2.heap.size + 2 := hW8s
  clear hW8s HF HB1 HW1
  obtain ⟨T5, hT5⟩ : ∃ T5, w2.heap.size = T5 := ⟨_, rfl⟩
  rw [hT5] at HTM h8s ⊢
  clear hT5
  rename_i hKK
  have HKK := Lib.hid hKK
  clear hKK
  go_wp2_with fail
  refine HKK.out _ _ ?_
  clear HKK
  refine wp_cut (fun a' w' => LTm w w.heap.size A T5 (T5 + 1) base ls la lc v0 (.slice fa first.length fc) ls.length _ _ _ _ _ _ _ _ _ _ _ _ _ _ _ _ _ _ _ _ _ _ _ _ _ _ _ _ _ _ _ _ _ _ _ _ _ _ _ _ _ _ _ _ _ a' w') ?rest (fun J K' hJ hM => then_any (tml_any w w.heap.size A T5 (T5 + 1) base ls la lc v0 (.slice fa first.length fc) W8 (by omega) HLK.out HTM.out _ _ _ _ _ _ _ _ _ _ _ _ _ _ _ _ _ _ _ _ _ _ _ _ _ _ _ _ _ _ _ _ _ _ _ _ _ _ _ _ _ _ _ _ _ _ _ _ _ _ _ _ _ _ _ _ _ _ _ _ _ _ _ _ _ _ _ _ _ _ _ _ _ _ _ _ _ _ _ _ _ _ _ _ _ _ _ _ _ _ _ _ _ _ _ _ _ _ _ _ _ _ _ _ _ _ _ _ _ _ _ _ _ _ _ _ _ _ _ _ _ _ _ _ _ _ _ _ _ _ _ _ _ _ _ _ _ _ _ _ _ _ _ _ _ _ _ _ _ _ _ _ _ _ _ _ _ _ _ _ _ _ _ _ _ _ _ _ _ _ _ _ _ _ _ _ _ _ _ _ _ _ _ _ _ _ _ _ _ _ _ _ _ _ _ _ _ _ _ _ _ _ _ _ _ _ _ _ _ _ _ _ _ _ _ _ _ _ _ _ _ _ _ _ _ _ _ _ _ _ _ _ _ _ _ _ _ _ _ _ _ _ _ _ _ _ _ _ _ _ _ _ _ _ _ J K' hJ hM))
  case rest =>
  intro a' w' hT
  obtain ⟨z8, hT⟩ := hT
  obtain ⟨z9, hT⟩ := hT
  obtain ⟨z10, hT⟩ := hT
  obtain ⟨z11, hT⟩ := hT
  obtain ⟨z18, hT⟩ := hT
  obtain ⟨z19, hT⟩ := hT
  obtain ⟨z20, hT⟩ := hT
  obtain ⟨z21, hT⟩ := hT
  obtain ⟨z22, hT⟩ := hT
  obtain ⟨z23, hT⟩ := hT
  obtain ⟨z24, hT⟩ := hT
  obtain ⟨z25, hT⟩ := hT
  obtain ⟨z26, hT⟩ := hT
  obtain ⟨z27, hT⟩ := hT
  obtain ⟨z28, hT⟩ := hT
  obtain ⟨z29, hT⟩ := hT
  obtain ⟨z30, hT⟩ := hT
  obtain ⟨z31, hT⟩ := hT
  obtain ⟨z32, hT⟩ := hT
  obtain ⟨z33, hT⟩ := hT
  obtain ⟨z34, hT⟩ := hT
  obtain ⟨z35, hT⟩ := hT
  obtain ⟨z36, hT⟩ := hT
  obtain ⟨z37, hT⟩ := hT
  obtain ⟨z38, hT⟩ := hT
  obtain ⟨z39, hT⟩ := hT
  obtain ⟨z40, hT⟩ := hT
  obtain ⟨z41, hT⟩ := hT
  obtain ⟨z42, hT⟩ := hT
  obtain ⟨z43, hT⟩ := hT
  obtain ⟨z44, hT⟩ := hT
  obtain ⟨z45, hT⟩ := hT
  obtain ⟨z46, hT⟩ := hT
  obtain ⟨z47, hT⟩ := hT
  obtain ⟨z48, hT⟩ := hT
  obtain ⟨z49, hT⟩ := hT
  obtain ⟨z50, hT⟩ := hT
  obtain ⟨z51, hT⟩ := hT
  obtain ⟨z52, hT⟩ := hT
  obtain ⟨z53, hT⟩ := hT
  obtain ⟨z54, hT⟩ := hT
  obtain ⟨z55, hT⟩ := hT
  obtain ⟨z56, hT⟩ := hT
  obtain ⟨z57, hT⟩ := hT
  obtain ⟨z58, hT⟩ := hT
  obtain ⟨z59, hT⟩ := hT
  obtain ⟨z60, hT⟩ := hT
  obtain ⟨z61, hT⟩ := hT
  obtain ⟨z62, hT⟩ := hT
  obtain ⟨z63, hT⟩ := hT
  obtain ⟨z64, hT⟩ := hT
  obtain ⟨z65, hT⟩ := hT
  obtain ⟨z66, hT⟩ := hT
  obtain ⟨z67, hT⟩ := hT
  obtain ⟨z68, hT⟩ := hT
  obtain ⟨z69, hT⟩ := hT
  obtain ⟨z70, hT⟩ := hT
  obtain ⟨z71, hT⟩ := hT
  obtain ⟨z72, hT⟩ := hT
  obtain ⟨z73, hT⟩ := hT
  obtain ⟨z74, hT⟩ := hT
  obtain ⟨z75, hT⟩ := hT
  obtain ⟨z76, hT⟩ := hT
  obtain ⟨z77, hT⟩ := hT
  obtain ⟨z78, hT⟩ := hT
  obtain ⟨z79, hT⟩ := hT
  obtain ⟨z80, hT⟩ := hT
  obtain ⟨z81, hT⟩ := hT
  obtain ⟨z82, hT⟩ := hT
  obtain ⟨z83, hT⟩ := hT
  obtain ⟨z84, hT⟩ := hT
  obtain ⟨z85, hT⟩ := hT
  obtain ⟨z86, hT⟩ := hT
  obtain ⟨z87, hT⟩ := hT
  obtain ⟨z88, hT⟩ := hT
  obtain ⟨z89, hT⟩ := hT
  obtain ⟨z90, hT⟩ := hT
  obtain ⟨z91, hT⟩ := hT
  obtain ⟨z92, hT⟩ := hT
  obtain ⟨z93, hT⟩ := hT
  obtain ⟨z94, hT⟩ := hT
  obtain ⟨z95, hT⟩ := hT
  obtain ⟨z96, hT⟩ := hT
  obtain ⟨z97, hT⟩ := hT
  obtain ⟨z98, hT⟩ := hT
  obtain ⟨z99, hT⟩ := hT
  obtain ⟨z100, hT⟩ := hT
  obtain ⟨z101, hT⟩ := hT
  obtain ⟨z102, hT⟩ := hT
  obtain ⟨z103, hT⟩ := hT
  obtain ⟨z104, hT⟩ := hT
  obtain ⟨z105, hT⟩ := hT
  obtain ⟨z106, hT⟩ := hT
  obtain ⟨z107, hT⟩ := hT
  obtain ⟨z108, hT⟩ := hT
  obtain ⟨z109, hT⟩ := hT
  obtain ⟨z110, hT⟩ := hT
  obtain ⟨z111, hT⟩ := hT
  obtain ⟨z112, hT⟩ := hT
  obtain ⟨z113, hT⟩ := hT
  obtain ⟨z114, hT⟩ := hT
  obtain ⟨z115, hT⟩ := hT
  obtain ⟨z116, hT⟩ := hT
  obtain ⟨z117, hT⟩ := hT
  obtain ⟨z118, hT⟩ := hT
  obtain ⟨z119, hT⟩ := hT
  obtain ⟨z120, hT⟩ := hT
  obtain ⟨z121, hT⟩ := hT
  obtain ⟨z122, hT⟩ := hT
  obtain ⟨z123, hT⟩ := hT
  obtain ⟨z124, hT⟩ := hT
  obtain ⟨z125, hT⟩ := hT
  obtain ⟨z126, hT⟩ := hT
  obtain ⟨z127, hT⟩ := hT
  obtain ⟨z128, hT⟩ := hT
  obtain ⟨z129, hT⟩ := hT
  obtain ⟨z130, hT⟩ := hT
  obtain ⟨z131, hT⟩ := hT
  obtain ⟨z132, hT⟩ := hT
  obtain ⟨z133, hT⟩ := hT
  obtain ⟨z134, hT⟩ := hT
  obtain ⟨z135, hT⟩ := hT
  obtain ⟨z136, hT⟩ := hT
  obtain ⟨z137, hT⟩ := hT
  obtain ⟨z138, hT⟩ := hT
  obtain ⟨z139, hT⟩ := hT
  obtain ⟨z140, hT⟩ := hT
  obtain ⟨z141, hT⟩ := hT
  obtain ⟨z142, hT⟩ := hT
  obtain ⟨z143, hT⟩ := hT
  obtain ⟨z144, hT⟩ := hT
  obtain ⟨z145, hT⟩ := hT
  obtain ⟨z146, hT⟩ := hT
  obtain ⟨z147, hT⟩ := hT
  obtain ⟨z148, hT⟩ := hT
  obtain ⟨z149, hT⟩ := hT
  obtain ⟨z150, hT⟩ := hT
  obtain ⟨z151, hT⟩ := hT
  obtain ⟨z152, hT⟩ := hT
  obtain ⟨z153, hT⟩ := hT
  obtain ⟨z154, hT⟩ := hT
  obtain ⟨z155, hT⟩ := hT
  obtain ⟨z156, hT⟩ := hT
  obtain ⟨z157, hT⟩ := hT
  obtain ⟨z158, hT⟩ := hT
  obtain ⟨z159, hT⟩ := hT
  obtain ⟨z160, hT⟩ := hT
  obtain ⟨z161, hT⟩ := hT
  obtain ⟨z162, hT⟩ := hT
  obtain ⟨z163, hT⟩ := hT
  obtain ⟨z164, hT⟩ := hT
  obtain ⟨z165, hT⟩ := hT
  obtain ⟨z166, hT⟩ := hT
  obtain ⟨z167, hT⟩ := hT
  obtain ⟨z168, hT⟩ := hT
  obtain ⟨z169, hT⟩ := hT
  obtain ⟨z170, hT⟩ := hT
  obtain ⟨z171, hT⟩ := hT
  obtain ⟨z172, hT⟩ := hT
  obtain ⟨z173, hT⟩ := hT
  obtain ⟨z174, hT⟩ := hT
  obtain ⟨z175, hT⟩ := hT
  obtain ⟨z176, hT⟩ := hT
  obtain ⟨z177, hT⟩ := hT
  obtain ⟨z178, hT⟩ := hT
  obtain ⟨z179, hT⟩ := hT
  obtain ⟨z180, hT⟩ := hT
  obtain ⟨z181, hT⟩ := hT
  obtain ⟨z182, hT⟩ := hT
  obtain ⟨z183, hT⟩ := hT
  obtain ⟨z184, hT⟩ := hT
  obtain ⟨z185, hT⟩ := hT
  obtain ⟨z186, hT⟩ := hT
  obtain ⟨z187, hT⟩ := hT
  obtain ⟨z188, hT⟩ := hT
  obtain ⟨z189, hT⟩ := hT
  obtain ⟨z190, hT⟩ := hT
  obtain ⟨z191, hT⟩ := hT
  obtain ⟨z192, hT⟩ := hT
  obtain ⟨z193, hT⟩ := hT
  obtain ⟨z194, hT⟩ := hT
  obtain ⟨z195, hT⟩ := hT
  obtain ⟨z196, hT⟩ := hT
  obtain ⟨z197, hT⟩ := hT
  obtain ⟨z198, hT⟩ := hT
  obtain ⟨z199, hT⟩ := hT
  obtain ⟨z200, hT⟩ := hT
  obtain ⟨z201, hT⟩ := hT
  obtain ⟨z202, hT⟩ := hT
  obtain ⟨z203, hT⟩ := hT
  obtain ⟨z204, hT⟩ := hT
  obtain ⟨z205, hT⟩ := hT
  obtain ⟨z206, hT⟩ := hT
  obtain ⟨z207, hT⟩ := hT
  obtain ⟨z208, hT⟩ := hT
  obtain ⟨z209, hT⟩ := hT
  obtain ⟨z210, hT⟩ := hT
  obtain ⟨z211, hT⟩ := hT
  obtain ⟨z212, hT⟩ := hT
  obtain ⟨z213, hT⟩ := hT
  obtain ⟨z214, hT⟩ := hT
  obtain ⟨z215, hT⟩ := hT
  obtain ⟨z216, hT⟩ := hT
  obtain ⟨z217, hT⟩ := hT
  obtain ⟨z218, hT⟩ := hT
  obtain ⟨z219, hT⟩ := hT
  obtain ⟨z220, hT⟩ := hT
  obtain ⟨z221, hT⟩ := hT
  obtain ⟨z222, hT⟩ := hT
  obtain ⟨z223, hT⟩ := hT
  obtain ⟨hti, ha'⟩ := hT
  subst ha'
  rw [uptoT_all] at hti
  have HT2 := Lib.hid hti
  have hHB : T5 + 1 < w'.heap.size := hti.few.lt
  have HF2 : Hid (NumsAt w first (.slice fa first.length fc)) := HF0
  clear hti HTM HF8 HLK
  apply_assumption
  dsimp only
  go_upto_region 28 with (fail)
  rename_i hKK
  have HKK := Lib.hid hKK
  clear hKK
  go_wp2_with fail
  refine HKK.out _ _ ?_
  clear HKK
  refine wp_cut (fun a' w9 => HTm w w.heap.size A T5 (T5 + 1) base w'.heap.size (ls.map tameL) (.slice la ls.length lc) first v0 fa fc 5 _ _ _ _ _ _ _ _ _ _ _ _ _ _ _ _ _ _ _ _ _ _ _ _ _ _ _ _ _ _ _ _ _ _ _ _ _ _ _ _ _ _ _ _ _ _ _ _ _ _ _ _ _ _ _ _ _ _ _ _ _ _ _ _ _ _ _ _ _ _ _ _ _ _ _ _ _ _ _ _ _ _ _ _ _ _ _ _ _ _ _ _ _ _ _ _ _ _ _ _ _ _ _ _ _ _ _ _ _ _ _ _ _ _ _ _ _ _ _ _ _ _ _ _ _ _ _ _ _ _ _ _ _ _ _ _ _ _ _ _ _ _ _ _ _ _ _ _ _ _ _ _ _ _ _ _ _ _ _ _ _ _ _ _ _ _ _ _ _ _ _ _ _ _ _ _ _ _ _ _ _ _ _ _ _ _ _ _ _ _ _ _ _ _ _ _ _ _ _ _ _ _ _ _ _ _ _ _ _ _ _ _ _ _ _ _ _ _ _ _ _ _ _ _ _ _ _ _ _ _ _ a' w9) ?rest (fun J K' hJ hM => then_any (thl_any w w.heap.size A T5 (T5 + 1) base w'.heap.size (ls.map tameL) (.slice la ls.length lc) first v0 fa fc w' HT2.out (Nat.le_refl _) hHB HF2.out hfl _ _ _ _ _ _ _ _ _ _ _ _ _ _ _ _ _ _ _ _ _ _ _ _ _ _ _ _ _ _ _ _ _ _ _ _ _ _ _ _ _ _ _ _ _ _ _ _ _ _ _ _ _ _ _ _ _ _ _ _ _ _ _ _ _ _ _ _ _ _ _ _ _ _ _ _ _ _ _ _ _ _ _ _ _ _ _ _ _ _ _ _ _ _ _ _ _ _ _ _ _ _ _ _ _ _ _ _ _ _ _ _ _ _ _ _ _ _ _ _ _ _ _ _ _ _ _ _ _ _ _ _ _ _ _ _ _ _ _ _ _ _ _ _ _ _ _ _ _ _ _ _ _ _ _ _ _ _ _ _ _ _ _ _ _ _ _ _ _ _ _ _ _ _ _ _ _ _ _ _ _ _ _ _ _ _ _ _ _ _ _ _ _ _ _ _ _ _ _ _ _ _ _ _ _ _ _ _ _ _ _ _ _ _ _ _ _ _ _ _ _ _ _ _ _ _ _ _ _ _ _ _ _ _ _ _ _ _ _ _ _ _ _ _ _ _ _ _ _ _ _ _ _ _ J K' hJ hM))
  case rest =>
  intro a' w9 hT
  obtain ⟨z14, hT⟩ := hT
  obtain ⟨z224, hT⟩ := hT
  obtain ⟨z225, hT⟩ := hT
  obtain ⟨z226, hT⟩ := hT
  obtain ⟨z227, hT⟩ := hT
  obtain ⟨z228, hT⟩ := hT
  obtain ⟨z229, hT⟩ := hT
  obtain ⟨z230, hT⟩ := hT
  obtain ⟨z231, hT⟩ := hT
  obtain ⟨z232, hT⟩ := hT
  obtain ⟨z233, hT⟩ := hT
  obtain ⟨z234, hT⟩ := hT
  obtain ⟨z235, hT⟩ := hT
  obtain ⟨z236, hT⟩ := hT
  obtain ⟨z237, hT⟩ := hT
  obtain ⟨z238, hT⟩ := hT
  obtain ⟨z239, hT⟩ := hT
  obtain ⟨z240, hT⟩ := hT
  obtain ⟨z241, hT⟩ := hT
  obtain ⟨z242, hT⟩ := hT
  obtain ⟨z243, hT⟩ := hT
  obtain ⟨z244, hT⟩ := hT
  obtain ⟨z245, hT⟩ := hT
  obtain ⟨ha, hc, ⟨hh, hti, hsz⟩, ha'⟩ := hT
  subst ha'
  have HT3 := Lib.hid hti
  have HH := Lib.hid hh
  have HSZ := Lib.hid hsz
  clear hti hh hsz HT2 HF2 HF0
  apply_assumption
  dsimp only
  go_upto_region 35 with (fail)
  obtain ⟨gh, e, hgh, hghl, hic, hfz⟩ := lns_at HH.out (i := 0) (by rw [headP_len]; decide)
  have hrw := RwOwn.nilv HH.out (show (headP first 5).length ≤ _ by rw [headP_len]; decide) lnCells_len
  obtain ⟨b', o', e2, _, c0, _⟩ := LnsAt.at hrw (i := 0) (by rw [headP_len]; decide)
  cases e
  cases e2
  obtain ⟨c1, c2, c3, c4, c5, c6⟩ := hic.all
  simp only [Nat.zero_mul, Nat.zero_add] at c0 c1 c2 c3 c4 c5 c6
  have fz0 := hfz 0
  have fz1 := hfz 1
  have fz2 := hfz 2
  have fz3 := hfz 3
  have fz4 := hfz 4
  have fz5 := hfz 5
  have fz6 := hfz 6
  have hgF : T5 + 1 < gh := by omega
  have HHS : Hid (LnsOwn (((((((w9.setCell ⟨gh, 0, none⟩ (.string ⟨#[]⟩)).setCell ⟨gh, 1, none⟩ (.int .i64 17)).setCell ⟨gh, 2, none⟩ (.int .i64 5)).setCell ⟨gh, 3, none⟩ (.int .i64 0)).setCell ⟨gh, 4, none⟩ (.int .i64 0)).setCell ⟨gh, 5, none⟩ (.int .i64 0)).setCell ⟨gh, 6, none⟩ (.string ⟨#[98]⟩)) w'.heap.size (head5 first) (.slice (some ⟨gh, 0, none⟩) 5 hc)) := Lib.hid (by
    have hl := HH.out
    unfold LnsOwn RwOwn at hl ⊢
    rw [headP_len] at hl
    exact own_cell (own_cell (own_cell (own_cell (own_cell (own_cell (own_cell hl 0 (.string ⟨#[]⟩)) 1 (.int .i64 17)) 2 (.int .i64 5)) 3 (.int .i64 0)) 4 (.int .i64 0)) 5 (.int .i64 0)) 6 (.string ⟨#[98]⟩))
  have HTS := Lib.hid (((((((HT3.out.other hgF 0 (.string ⟨#[]⟩)).other hgF 1 (.int .i64 17)).other hgF 2 (.int .i64 5)).other hgF 3 (.int .i64 0)).other hgF 4 (.int .i64 0)).other hgF 5 (.int .i64 0)).other hgF 6 (.string ⟨#[98]⟩))
  clear hic hfz hrw
  go_upto_region 36 with (fail)
  clear c0 c1 c2 c3 c4 c5 c6 fz0 fz1 fz2 fz3 fz4 fz5 fz6
  generalize hWS : (((((((w9.setCell ⟨gh, 0, none⟩ (.string ⟨#[]⟩)).setCell ⟨gh, 1, none⟩ (.int .i64 17)).setCell ⟨gh, 2, none⟩ (.int .i64 5)).setCell ⟨gh, 3, none⟩ (.int .i64 0)).setCell ⟨gh, 4, none⟩ (.int .i64 0)).setCell ⟨gh, 5, none⟩ (.int .i64 0)).setCell ⟨gh, 6, none⟩ (.string ⟨#[98]⟩)) = WS at *
  have hss : w'.heap.size ≤ WS.heap.size := by rw [← hWS]; simpa using HSZ.out
  clear hWS HH HT3 HSZ hgF hgh hghl
  have hbI : Below WS.heap.size WS (WS.alloc (.cells #[.string ⟨#[]⟩, .int .i64 18, .int .i64 2, .int .i64 2, .int .i64 0, .int .i64 (-80), .string ⟨#[]⟩] 41)) := (Below.refl _ _).alloc (Nat.le_refl _) _
  have HH6 := Lib.hid (RwOwn.old HHS.out hbI)
  have HT6 := Lib.hid (HTS.out.old hbI)
  have HNL := Lib.hid (OwnAt.new WS (lnCells (lnI ⟨18, 2, 2, 0, -80, []⟩)) 41)
  have HS6 := Lib.hid (Nat.le_trans hss hbI.size)
  clear hbI HHS HTS hss
  go_upto_region 37 with (first | (at_builtin; refine wpList_lnSnoc _ rfl _ _ rfl w'.heap.size (head5 first) _ rfl HH6.out (lnI ⟨18, 2, 2, 0, -80, []⟩) WS.heap.size 1 rfl HNL.out (show (5 : Nat) ≤ 1000000 by decide) HS6.out ?_; intro g2 cg2 w7 how7 hgr7 hat7 hlt7; have HH7 := Lib.hid how7; have HT7 := Lib.hid (HT6.out.grow hgr7 (fun g e => by have := (RwOwn.lt HH6.out g e).1; omega)); have HS7 := Lib.hid (Nat.le_trans HS6.out hgr7.size); clear how7 hgr7 hat7 hlt7))
  clear HH6 HT6 HNL HS6
  have hne : 0 < (ls.map tameL).length := by rw [List.length_map]; exact hlpos
  obtain ⟨gl, e, _, hgll, _, _⟩ := lns_at HT7.out.ln hne
  cases e
  have HCE : Hid (∀ j u, ((ls.map tameL).flatMap lnCells)[j]? = some u → w7.cell? ((⟨gl, 0, none⟩ : Addr).add j) = some u) := Lib.hid fun j u hu => by
    rw [addr0]
    have hln := HT7.out.ln
    exact tm_row_cells hln j u hu
  have x0 := HT7.out.x.at 0 _ rfl
  have x1 := HT7.out.x.at 1 _ rfl
  have fx := HT7.out.x.fz 1
  have xl := HT7.out.x.lt
  have HH7' : Hid (LnsOwn w7 w'.heap.size (headT first) (.slice (some ⟨g2, 0, none⟩) 6 cg2)) := HH7
  have hml : (ls.map tameL).length = ls.length := List.length_map _
  obtain ⟨n8, hn8⟩ : ∃ n8, (headT first ++ ls.map tameL).length = n8 := ⟨_, rfl⟩
  have hn8l : n8 ≤ 100 := by rw [← hn8, List.length_append, List.length_map]; show 6 + ls.length ≤ 100; omega
  have HN8 := Lib.hid hn8
  clear hn8
  go_upto_region 38 with (first | (at_builtin; refine tmList_rapp _ rfl _ _ rfl w'.heap.size (headT first) _ rfl HH7'.out (ls.map tameL) ⟨gl, 0, none⟩ ls.length lc rfl hml HCE.out (by show 6 + ls.length ≤ 1000000; omega) HS7.out ?_; intro v8 w8 how8 hgr8 hat8; obtain ⟨a8, c8, e8⟩ := RwOwn.shape how8; rw [HN8.out] at e8; subst e8; have HH8 := Lib.hid how8; have HT8 := Lib.hid (HT7.out.grow hgr8 (fun g e => by have := (RwOwn.lt HH7'.out g e).1; omega)); have HS8 := Lib.hid (Nat.le_trans HS7.out hgr8.size); have y0 := HT8.out.x.at 0 _ rfl; have y1 := HT8.out.x.at 1 _ rfl; have fy := HT8.out.x.fz 1; have yl := HT8.out.x.lt; clear how8 hgr8 hat8))
  clear x0 x1 fx xl y0 y1 fy yl HCE
  have hTX := HT8.out.x.set 1 (.slice a8 n8 c8)
  have hT4 := (HT8.out.r.other (show w.heap.size ≠ T5 by have := HT8.out.o2; have := HT8.out.o3; have := HT8.out.o4; omega) 1 (.slice a8 n8 c8))
  have hAA := (HT8.out.aa.other (show A ≠ T5 by have := HT8.out.o3; have := HT8.out.o4; omega) 1 (.slice a8 n8 c8))
  have hTl : T5 < w'.heap.size := by omega
  have hRW := row_set HH8.out hTl 1 (.slice a8 n8 c8)
  have hTw : w.heap.size ≤ T5 := by have := HT8.out.o2; have := HT8.out.o3; have := HT8.out.o4; omega
  have hBE := zbelow_set HT8.out.be hTw 1 (.slice a8 n8 c8)
  have HX := Lib.hid hTX; have H4 := Lib.hid hT4; have HAA := Lib.hid hAA; have HRW := Lib.hid hRW; have HBE := Lib.hid hBE
  have h4A := HT8.out.o2
  clear hTX hT4 hAA hRW hBE HH8 HT8 HS8
  generalize w8.setCell ⟨T5, 1, none⟩ (.slice a8 n8 c8) = WZ at *
  have x0 := HX.out.at 0 _ rfl
  have x1 := HX.out.at 1 _ rfl
  have xl := HX.out.lt
  have y0 := H4.out.at 0 _ rfl
  have y1 := H4.out.at 1 _ rfl
  have fy0 := H4.out.fz 0
  have fy1 := H4.out.fz 1
  have yl := H4.out.lt
  go_wp2_with fail
  have HR := (H4.out.set 0 (.slice (some ⟨A, 0, none⟩) 2 2)).set 1 (.slice a8 n8 c8)
  refine bodyPost_ret (results_cell_row (P := Tryz.prog) rfl _ _ w.heap.size 27 #[.slice (some ⟨A, 0, none⟩) 2 2, .slice a8 n8 c8] (0, 0) _ rfl HR Tryz.underlying27 rfl (by kernel_rfl)) rfl ?_
  refine ⟨_, _, rfl, ⟨?_, ?_⟩, zbelow_set (zbelow_set HBE.out (Nat.le_refl _) 0 _) (Nat.le_refl _) 1 _⟩
  · rw [HTC.out]
    exact ars_block (L := arrs2) ((HAA.out.other (by omega) 0 _).other (by omega) 1 _) (show (2 : Nat) ≤ 140737488355328 by decide)
  · rw [HTC.out]
    have h4l : w.heap.size < w'.heap.size := by omega
    have hq := RwOwn.nilv (row_set (row_set HRW.out h4l 0 (.slice (some ⟨A, 0, none⟩) 2 2)) h4l 1 (.slice a8 n8 c8)) (by rw [HN8.out]; omega) lnCells_len
    exact hq
end Go.Proofs.YtpgjfpphigeliaaGreatDoor
