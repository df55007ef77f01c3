/-
  Tame: any round of its loop over lines. Conditions: the code lies in memory, its lines may be.
  Tame: its loop over lines. Conditions: the code lies in memory, its lines may be.
  Tame: of raw lines, tame code. Conditions: the raw lines and the first numbers lie in memory.
-/
import Derived.Test.YtpgjfpphigeliaaGreatDoorMachTb
import Derived.Test.YtpgjfpphigeliaaGreatDoorMachTc
import Derived.Test.YtpgjfpphigeliaaGreatDoorMachE
set_option linter.unusedVariables false
set_option linter.unusedSimpArgs false
namespace Go.Proofs.YtpgjfpphigeliaaGreatDoor
open Go.RowKit
set_option maxHeartbeats 4000000
set_option maxRecDepth 100000

/-- A line that may be. -/
def LnOk (x : Ln) : Prop := (x.label = [] ∧ rightI x.ins = true ∧ I64 x.ins.n) ∨ (x.label ≠ [] ∧ x.label.length ≤ 40 ∧ x.ins.name.length ≤ 40)
theorem tmr_any (w : World) (T4 A T5 F8 base : Nat) (ls : List Ln) (g cap : Nat) (wr : World) (h : TmIn w T4 A T5 F8 base ls (.slice (some ⟨g, 0, none⟩) ls.length cap) wr) (i : Nat) (hi : i < ls.length) (hl : ls.length ≤ 1000) (hok : LnOk ls[i]) (v0 v1 : Value) (q2 q3 q8 q9 q10 q11 q12 q13 q14 q15 q16 q17 q18 q19 q20 q21 q22 q23 q24 q25 q26 q27 q28 q29 q30 q31 q32 q33 q34 q35 q36 q37 q38 q39 q40 q41 q42 q43 q44 q45 q46 q47 q48 q49 q50 q51 q52 q53 q54 q55 q56 q57 q58 q59 q60 q61 q62 q63 q64 q65 q66 q67 q68 q69 q70 q71 q72 q73 q74 q75 q76 q77 q78 q79 q80 q81 q82 q83 q84 q85 q86 q87 q88 q89 q90 q91 q92 q93 q94 q95 q96 q97 q98 q99 q100 q101 q102 q103 q104 q105 q106 q107 q108 q109 q110 q111 q112 q113 q114 q115 q116 q117 q118 q119 q120 q121 q122 q123 q124 q125 q126 q127 q128 q129 q130 q131 q132 q133 q134 q135 q136 q137 q138 q139 q140 q141 q142 q143 q144 q145 q146 q147 q148 q149 q150 q151 q152 q153 q154 q155 q156 q157 q158 q159 q160 q161 q162 q163 q164 q165 q166 q167 q168 q169 q170 q171 q172 q173 q174 q175 q176 q177 q178 q179 q180 q181 q182 q183 q184 q185 q186 q187 q188 q189 q190 q191 q192 q193 q194 q195 q196 q197 q198 q199 q200 q201 q202 q203 q204 q205 q206 q207 q208 q209 q210 q211 q212 q213 q214 q215 q216 q217 q218 q219 q220 q221 q222 q223 q224 q225 q226 q227 q228 q229 q230 q231 q232 q233 q234 q235 q236 q237 q238 q239 q240 q241 q242 q243 q244 q245 q246 q247 q248 q249 q250 q251 q252 q253 q254 q255 q256 q257 q258 q259 q260 : Value) (J K' : Act → World → Prop) (hJ : ∀ a' w', RTm w T4 A T5 F8 base (ls.set i (tameL ls[i])) (.slice (some ⟨g, 0, none⟩) ls.length cap) i v0 v1 q2 q3 q12 q13 q14 q15 q16 q17 q18 q19 q20 q21 q22 q23 q24 q224 q225 q226 q227 q228 q229 q230 q231 q232 q233 q234 q235 q236 q237 q238 q239 q240 q241 q242 q243 q244 q245 q246 q247 q248 q249 q250 q251 q252 q253 q254 q255 q256 q257 q258 q259 q260 a' w' → J a' w') (hM : ∀ a' w', Met J a' w' → K' a' w') :
    Code.wp Tryz.prog tmCode (Exit.then K' (fun _ _ _ => False)) ⟨[v0, v1, q2, q3, .pointer (some ⟨T4, 0, none⟩), .pointer (some ⟨T5, 0, none⟩), .slice (some ⟨F8, 0, none⟩) 8 8, .int .i64 i, q8, q9, q10, q11, q12, q13, q14, q15, q16, q17, q18, q19, q20, q21, q22, q23, q24, q25, q26, q27, q28, q29, q30, q31, q32, q33, q34, q35, q36, q37, q38, q39, q40, q41, q42, q43, q44, q45, q46, q47, q48, q49, q50, q51, q52, q53, q54, q55, q56, q57, q58, q59, q60, q61, q62, q63, q64, q65, q66, q67, q68, q69, q70, q71, q72, q73, q74, q75, q76, q77, q78, q79, q80, q81, q82, q83, q84, q85, q86, q87, q88, q89, q90, q91, q92, q93, q94, q95, q96, q97, q98, q99, q100, q101, q102, q103, q104, q105, q106, q107, q108, q109, q110, q111, q112, q113, q114, q115, q116, q117, q118, q119, q120, q121, q122, q123, q124, q125, q126, q127, q128, q129, q130, q131, q132, q133, q134, q135, q136, q137, q138, q139, q140, q141, q142, q143, q144, q145, q146, q147, q148, q149, q150, q151, q152, q153, q154, q155, q156, q157, q158, q159, q160, q161, q162, q163, q164, q165, q166, q167, q168, q169, q170, q171, q172, q173, q174, q175, q176, q177, q178, q179, q180, q181, q182, q183, q184, q185, q186, q187, q188, q189, q190, q191, q192, q193, q194, q195, q196, q197, q198, q199, q200, q201, q202, q203, q204, q205, q206, q207, q208, q209, q210, q211, q212, q213, q214, q215, q216, q217, q218, q219, q220, q221, q222, q223, q224, q225, q226, q227, q228, q229, q230, q231, q232, q233, q234, q235, q236, q237, q238, q239, q240, q241, q242, q243, q244, q245, q246, q247, q248, q249, q250, q251, q252, q253, q254, q255, q256, q257, q258, q259, q260].toArray, []⟩ wr := by
  rcases hok with ⟨hlab, hr, hn⟩ | ⟨hlab, hlb, hnm⟩
  · obtain ⟨ins, hins⟩ : ∃ ins, ls[i].ins = ins := ⟨_, rfl⟩
    have hln : ls[i] = ⟨[], ins⟩ := by rw [← hins, ← hlab]
    rw [hins] at hr hn
    obtain ⟨hd, ha, hb⟩ := right_regs hr
    have hnm := right_name hr
    by_cases h1 : ins.op ≤ 12
    · exact tmr_A w T4 A T5 F8 base ls g cap wr h i hi hl ins hln hd ha hb hn hnm h1 v0 v1 q2 q3 q8 q9 q10 q11 q12 q13 q14 q15 q16 q17 q18 q19 q20 q21 q22 q23 q24 q25 q26 q27 q28 q29 q30 q31 q32 q33 q34 q35 q36 q37 q38 q39 q40 q41 q42 q43 q44 q45 q46 q47 q48 q49 q50 q51 q52 q53 q54 q55 q56 q57 q58 q59 q60 q61 q62 q63 q64 q65 q66 q67 q68 q69 q70 q71 q72 q73 q74 q75 q76 q77 q78 q79 q80 q81 q82 q83 q84 q85 q86 q87 q88 q89 q90 q91 q92 q93 q94 q95 q96 q97 q98 q99 q100 q101 q102 q103 q104 q105 q106 q107 q108 q109 q110 q111 q112 q113 q114 q115 q116 q117 q118 q119 q120 q121 q122 q123 q124 q125 q126 q127 q128 q129 q130 q131 q132 q133 q134 q135 q136 q137 q138 q139 q140 q141 q142 q143 q144 q145 q146 q147 q148 q149 q150 q151 q152 q153 q154 q155 q156 q157 q158 q159 q160 q161 q162 q163 q164 q165 q166 q167 q168 q169 q170 q171 q172 q173 q174 q175 q176 q177 q178 q179 q180 q181 q182 q183 q184 q185 q186 q187 q188 q189 q190 q191 q192 q193 q194 q195 q196 q197 q198 q199 q200 q201 q202 q203 q204 q205 q206 q207 q208 q209 q210 q211 q212 q213 q214 q215 q216 q217 q218 q219 q220 q221 q222 q223 q224 q225 q226 q227 q228 q229 q230 q231 q232 q233 q234 q235 q236 q237 q238 q239 q240 q241 q242 q243 q244 q245 q246 q247 q248 q249 q250 q251 q252 q253 q254 q255 q256 q257 q258 q259 q260 J K' hJ hM
    by_cases h2 : ins.op ≤ 15
    · exact tmr_B w T4 A T5 F8 base ls g cap wr h i hi hl ins hln hd ha hb hn hnm ⟨by omega, h2⟩ v0 v1 q2 q3 q8 q9 q10 q11 q12 q13 q14 q15 q16 q17 q18 q19 q20 q21 q22 q23 q24 q25 q26 q27 q28 q29 q30 q31 q32 q33 q34 q35 q36 q37 q38 q39 q40 q41 q42 q43 q44 q45 q46 q47 q48 q49 q50 q51 q52 q53 q54 q55 q56 q57 q58 q59 q60 q61 q62 q63 q64 q65 q66 q67 q68 q69 q70 q71 q72 q73 q74 q75 q76 q77 q78 q79 q80 q81 q82 q83 q84 q85 q86 q87 q88 q89 q90 q91 q92 q93 q94 q95 q96 q97 q98 q99 q100 q101 q102 q103 q104 q105 q106 q107 q108 q109 q110 q111 q112 q113 q114 q115 q116 q117 q118 q119 q120 q121 q122 q123 q124 q125 q126 q127 q128 q129 q130 q131 q132 q133 q134 q135 q136 q137 q138 q139 q140 q141 q142 q143 q144 q145 q146 q147 q148 q149 q150 q151 q152 q153 q154 q155 q156 q157 q158 q159 q160 q161 q162 q163 q164 q165 q166 q167 q168 q169 q170 q171 q172 q173 q174 q175 q176 q177 q178 q179 q180 q181 q182 q183 q184 q185 q186 q187 q188 q189 q190 q191 q192 q193 q194 q195 q196 q197 q198 q199 q200 q201 q202 q203 q204 q205 q206 q207 q208 q209 q210 q211 q212 q213 q214 q215 q216 q217 q218 q219 q220 q221 q222 q223 q224 q225 q226 q227 q228 q229 q230 q231 q232 q233 q234 q235 q236 q237 q238 q239 q240 q241 q242 q243 q244 q245 q246 q247 q248 q249 q250 q251 q252 q253 q254 q255 q256 q257 q258 q259 q260 J K' hJ hM
    by_cases h3 : ins.op = 16
    · exact tmr_C w T4 A T5 F8 base ls g cap wr h i hi hl ins hln hd ha hb hn hnm h3 v0 v1 q2 q3 q8 q9 q10 q11 q12 q13 q14 q15 q16 q17 q18 q19 q20 q21 q22 q23 q24 q25 q26 q27 q28 q29 q30 q31 q32 q33 q34 q35 q36 q37 q38 q39 q40 q41 q42 q43 q44 q45 q46 q47 q48 q49 q50 q51 q52 q53 q54 q55 q56 q57 q58 q59 q60 q61 q62 q63 q64 q65 q66 q67 q68 q69 q70 q71 q72 q73 q74 q75 q76 q77 q78 q79 q80 q81 q82 q83 q84 q85 q86 q87 q88 q89 q90 q91 q92 q93 q94 q95 q96 q97 q98 q99 q100 q101 q102 q103 q104 q105 q106 q107 q108 q109 q110 q111 q112 q113 q114 q115 q116 q117 q118 q119 q120 q121 q122 q123 q124 q125 q126 q127 q128 q129 q130 q131 q132 q133 q134 q135 q136 q137 q138 q139 q140 q141 q142 q143 q144 q145 q146 q147 q148 q149 q150 q151 q152 q153 q154 q155 q156 q157 q158 q159 q160 q161 q162 q163 q164 q165 q166 q167 q168 q169 q170 q171 q172 q173 q174 q175 q176 q177 q178 q179 q180 q181 q182 q183 q184 q185 q186 q187 q188 q189 q190 q191 q192 q193 q194 q195 q196 q197 q198 q199 q200 q201 q202 q203 q204 q205 q206 q207 q208 q209 q210 q211 q212 q213 q214 q215 q216 q217 q218 q219 q220 q221 q222 q223 q224 q225 q226 q227 q228 q229 q230 q231 q232 q233 q234 q235 q236 q237 q238 q239 q240 q241 q242 q243 q244 q245 q246 q247 q248 q249 q250 q251 q252 q253 q254 q255 q256 q257 q258 q259 q260 J K' hJ hM
    by_cases h4 : ins.op = 17
    · exact tmr_D w T4 A T5 F8 base ls g cap wr h i hi hl ins hln hd ha hb hn hnm h4 v0 v1 q2 q3 q8 q9 q10 q11 q12 q13 q14 q15 q16 q17 q18 q19 q20 q21 q22 q23 q24 q25 q26 q27 q28 q29 q30 q31 q32 q33 q34 q35 q36 q37 q38 q39 q40 q41 q42 q43 q44 q45 q46 q47 q48 q49 q50 q51 q52 q53 q54 q55 q56 q57 q58 q59 q60 q61 q62 q63 q64 q65 q66 q67 q68 q69 q70 q71 q72 q73 q74 q75 q76 q77 q78 q79 q80 q81 q82 q83 q84 q85 q86 q87 q88 q89 q90 q91 q92 q93 q94 q95 q96 q97 q98 q99 q100 q101 q102 q103 q104 q105 q106 q107 q108 q109 q110 q111 q112 q113 q114 q115 q116 q117 q118 q119 q120 q121 q122 q123 q124 q125 q126 q127 q128 q129 q130 q131 q132 q133 q134 q135 q136 q137 q138 q139 q140 q141 q142 q143 q144 q145 q146 q147 q148 q149 q150 q151 q152 q153 q154 q155 q156 q157 q158 q159 q160 q161 q162 q163 q164 q165 q166 q167 q168 q169 q170 q171 q172 q173 q174 q175 q176 q177 q178 q179 q180 q181 q182 q183 q184 q185 q186 q187 q188 q189 q190 q191 q192 q193 q194 q195 q196 q197 q198 q199 q200 q201 q202 q203 q204 q205 q206 q207 q208 q209 q210 q211 q212 q213 q214 q215 q216 q217 q218 q219 q220 q221 q222 q223 q224 q225 q226 q227 q228 q229 q230 q231 q232 q233 q234 q235 q236 q237 q238 q239 q240 q241 q242 q243 q244 q245 q246 q247 q248 q249 q250 q251 q252 q253 q254 q255 q256 q257 q258 q259 q260 J K' hJ hM
    by_cases h5 : ins.op = 18
    · exact tmr_E w T4 A T5 F8 base ls g cap wr h i hi hl ins hln hd ha hb hn hnm h5 v0 v1 q2 q3 q8 q9 q10 q11 q12 q13 q14 q15 q16 q17 q18 q19 q20 q21 q22 q23 q24 q25 q26 q27 q28 q29 q30 q31 q32 q33 q34 q35 q36 q37 q38 q39 q40 q41 q42 q43 q44 q45 q46 q47 q48 q49 q50 q51 q52 q53 q54 q55 q56 q57 q58 q59 q60 q61 q62 q63 q64 q65 q66 q67 q68 q69 q70 q71 q72 q73 q74 q75 q76 q77 q78 q79 q80 q81 q82 q83 q84 q85 q86 q87 q88 q89 q90 q91 q92 q93 q94 q95 q96 q97 q98 q99 q100 q101 q102 q103 q104 q105 q106 q107 q108 q109 q110 q111 q112 q113 q114 q115 q116 q117 q118 q119 q120 q121 q122 q123 q124 q125 q126 q127 q128 q129 q130 q131 q132 q133 q134 q135 q136 q137 q138 q139 q140 q141 q142 q143 q144 q145 q146 q147 q148 q149 q150 q151 q152 q153 q154 q155 q156 q157 q158 q159 q160 q161 q162 q163 q164 q165 q166 q167 q168 q169 q170 q171 q172 q173 q174 q175 q176 q177 q178 q179 q180 q181 q182 q183 q184 q185 q186 q187 q188 q189 q190 q191 q192 q193 q194 q195 q196 q197 q198 q199 q200 q201 q202 q203 q204 q205 q206 q207 q208 q209 q210 q211 q212 q213 q214 q215 q216 q217 q218 q219 q220 q221 q222 q223 q224 q225 q226 q227 q228 q229 q230 q231 q232 q233 q234 q235 q236 q237 q238 q239 q240 q241 q242 q243 q244 q245 q246 q247 q248 q249 q250 q251 q252 q253 q254 q255 q256 q257 q258 q259 q260 J K' hJ hM
    by_cases h6 : ins.op = 19
    · exact tmr_F w T4 A T5 F8 base ls g cap wr h i hi hl ins hln hd ha hb hn hnm h6 v0 v1 q2 q3 q8 q9 q10 q11 q12 q13 q14 q15 q16 q17 q18 q19 q20 q21 q22 q23 q24 q25 q26 q27 q28 q29 q30 q31 q32 q33 q34 q35 q36 q37 q38 q39 q40 q41 q42 q43 q44 q45 q46 q47 q48 q49 q50 q51 q52 q53 q54 q55 q56 q57 q58 q59 q60 q61 q62 q63 q64 q65 q66 q67 q68 q69 q70 q71 q72 q73 q74 q75 q76 q77 q78 q79 q80 q81 q82 q83 q84 q85 q86 q87 q88 q89 q90 q91 q92 q93 q94 q95 q96 q97 q98 q99 q100 q101 q102 q103 q104 q105 q106 q107 q108 q109 q110 q111 q112 q113 q114 q115 q116 q117 q118 q119 q120 q121 q122 q123 q124 q125 q126 q127 q128 q129 q130 q131 q132 q133 q134 q135 q136 q137 q138 q139 q140 q141 q142 q143 q144 q145 q146 q147 q148 q149 q150 q151 q152 q153 q154 q155 q156 q157 q158 q159 q160 q161 q162 q163 q164 q165 q166 q167 q168 q169 q170 q171 q172 q173 q174 q175 q176 q177 q178 q179 q180 q181 q182 q183 q184 q185 q186 q187 q188 q189 q190 q191 q192 q193 q194 q195 q196 q197 q198 q199 q200 q201 q202 q203 q204 q205 q206 q207 q208 q209 q210 q211 q212 q213 q214 q215 q216 q217 q218 q219 q220 q221 q222 q223 q224 q225 q226 q227 q228 q229 q230 q231 q232 q233 q234 q235 q236 q237 q238 q239 q240 q241 q242 q243 q244 q245 q246 q247 q248 q249 q250 q251 q252 q253 q254 q255 q256 q257 q258 q259 q260 J K' hJ hM
    by_cases h7 : ins.op = 20
    · exact tmr_G w T4 A T5 F8 base ls g cap wr h i hi hl ins hln hd ha hb hn hnm h7 v0 v1 q2 q3 q8 q9 q10 q11 q12 q13 q14 q15 q16 q17 q18 q19 q20 q21 q22 q23 q24 q25 q26 q27 q28 q29 q30 q31 q32 q33 q34 q35 q36 q37 q38 q39 q40 q41 q42 q43 q44 q45 q46 q47 q48 q49 q50 q51 q52 q53 q54 q55 q56 q57 q58 q59 q60 q61 q62 q63 q64 q65 q66 q67 q68 q69 q70 q71 q72 q73 q74 q75 q76 q77 q78 q79 q80 q81 q82 q83 q84 q85 q86 q87 q88 q89 q90 q91 q92 q93 q94 q95 q96 q97 q98 q99 q100 q101 q102 q103 q104 q105 q106 q107 q108 q109 q110 q111 q112 q113 q114 q115 q116 q117 q118 q119 q120 q121 q122 q123 q124 q125 q126 q127 q128 q129 q130 q131 q132 q133 q134 q135 q136 q137 q138 q139 q140 q141 q142 q143 q144 q145 q146 q147 q148 q149 q150 q151 q152 q153 q154 q155 q156 q157 q158 q159 q160 q161 q162 q163 q164 q165 q166 q167 q168 q169 q170 q171 q172 q173 q174 q175 q176 q177 q178 q179 q180 q181 q182 q183 q184 q185 q186 q187 q188 q189 q190 q191 q192 q193 q194 q195 q196 q197 q198 q199 q200 q201 q202 q203 q204 q205 q206 q207 q208 q209 q210 q211 q212 q213 q214 q215 q216 q217 q218 q219 q220 q221 q222 q223 q224 q225 q226 q227 q228 q229 q230 q231 q232 q233 q234 q235 q236 q237 q238 q239 q240 q241 q242 q243 q244 q245 q246 q247 q248 q249 q250 q251 q252 q253 q254 q255 q256 q257 q258 q259 q260 J K' hJ hM
    by_cases h8 : ins.op ≤ 24
    · exact tmr_H w T4 A T5 F8 base ls g cap wr h i hi hl ins hln hd ha hb hn hnm ⟨by omega, h8⟩ v0 v1 q2 q3 q8 q9 q10 q11 q12 q13 q14 q15 q16 q17 q18 q19 q20 q21 q22 q23 q24 q25 q26 q27 q28 q29 q30 q31 q32 q33 q34 q35 q36 q37 q38 q39 q40 q41 q42 q43 q44 q45 q46 q47 q48 q49 q50 q51 q52 q53 q54 q55 q56 q57 q58 q59 q60 q61 q62 q63 q64 q65 q66 q67 q68 q69 q70 q71 q72 q73 q74 q75 q76 q77 q78 q79 q80 q81 q82 q83 q84 q85 q86 q87 q88 q89 q90 q91 q92 q93 q94 q95 q96 q97 q98 q99 q100 q101 q102 q103 q104 q105 q106 q107 q108 q109 q110 q111 q112 q113 q114 q115 q116 q117 q118 q119 q120 q121 q122 q123 q124 q125 q126 q127 q128 q129 q130 q131 q132 q133 q134 q135 q136 q137 q138 q139 q140 q141 q142 q143 q144 q145 q146 q147 q148 q149 q150 q151 q152 q153 q154 q155 q156 q157 q158 q159 q160 q161 q162 q163 q164 q165 q166 q167 q168 q169 q170 q171 q172 q173 q174 q175 q176 q177 q178 q179 q180 q181 q182 q183 q184 q185 q186 q187 q188 q189 q190 q191 q192 q193 q194 q195 q196 q197 q198 q199 q200 q201 q202 q203 q204 q205 q206 q207 q208 q209 q210 q211 q212 q213 q214 q215 q216 q217 q218 q219 q220 q221 q222 q223 q224 q225 q226 q227 q228 q229 q230 q231 q232 q233 q234 q235 q236 q237 q238 q239 q240 q241 q242 q243 q244 q245 q246 q247 q248 q249 q250 q251 q252 q253 q254 q255 q256 q257 q258 q259 q260 J K' hJ hM
    · exact tmr_I w T4 A T5 F8 base ls g cap wr h i hi hl ins hln hd ha hb hn hnm (by omega) v0 v1 q2 q3 q8 q9 q10 q11 q12 q13 q14 q15 q16 q17 q18 q19 q20 q21 q22 q23 q24 q25 q26 q27 q28 q29 q30 q31 q32 q33 q34 q35 q36 q37 q38 q39 q40 q41 q42 q43 q44 q45 q46 q47 q48 q49 q50 q51 q52 q53 q54 q55 q56 q57 q58 q59 q60 q61 q62 q63 q64 q65 q66 q67 q68 q69 q70 q71 q72 q73 q74 q75 q76 q77 q78 q79 q80 q81 q82 q83 q84 q85 q86 q87 q88 q89 q90 q91 q92 q93 q94 q95 q96 q97 q98 q99 q100 q101 q102 q103 q104 q105 q106 q107 q108 q109 q110 q111 q112 q113 q114 q115 q116 q117 q118 q119 q120 q121 q122 q123 q124 q125 q126 q127 q128 q129 q130 q131 q132 q133 q134 q135 q136 q137 q138 q139 q140 q141 q142 q143 q144 q145 q146 q147 q148 q149 q150 q151 q152 q153 q154 q155 q156 q157 q158 q159 q160 q161 q162 q163 q164 q165 q166 q167 q168 q169 q170 q171 q172 q173 q174 q175 q176 q177 q178 q179 q180 q181 q182 q183 q184 q185 q186 q187 q188 q189 q190 q191 q192 q193 q194 q195 q196 q197 q198 q199 q200 q201 q202 q203 q204 q205 q206 q207 q208 q209 q210 q211 q212 q213 q214 q215 q216 q217 q218 q219 q220 q221 q222 q223 q224 q225 q226 q227 q228 q229 q230 q231 q232 q233 q234 q235 q236 q237 q238 q239 q240 q241 q242 q243 q244 q245 q246 q247 q248 q249 q250 q251 q252 q253 q254 q255 q256 q257 q258 q259 q260 J K' hJ hM
  · obtain ⟨lab, hl2⟩ : ∃ lab, ls[i].label = lab := ⟨_, rfl⟩
    rw [hl2] at hlab hlb
    cases lab with
    | nil => exact absurd rfl hlab
    | cons ch lab =>
      have hln : ls[i] = ⟨ch :: lab, ls[i].ins⟩ := by rw [← hl2]
      exact tmr_L w T4 A T5 F8 base ls g cap wr h i hi hl ls[i].ins lab ch hln hlb hnm v0 v1 q2 q3 q8 q9 q10 q11 q12 q13 q14 q15 q16 q17 q18 q19 q20 q21 q22 q23 q24 q25 q26 q27 q28 q29 q30 q31 q32 q33 q34 q35 q36 q37 q38 q39 q40 q41 q42 q43 q44 q45 q46 q47 q48 q49 q50 q51 q52 q53 q54 q55 q56 q57 q58 q59 q60 q61 q62 q63 q64 q65 q66 q67 q68 q69 q70 q71 q72 q73 q74 q75 q76 q77 q78 q79 q80 q81 q82 q83 q84 q85 q86 q87 q88 q89 q90 q91 q92 q93 q94 q95 q96 q97 q98 q99 q100 q101 q102 q103 q104 q105 q106 q107 q108 q109 q110 q111 q112 q113 q114 q115 q116 q117 q118 q119 q120 q121 q122 q123 q124 q125 q126 q127 q128 q129 q130 q131 q132 q133 q134 q135 q136 q137 q138 q139 q140 q141 q142 q143 q144 q145 q146 q147 q148 q149 q150 q151 q152 q153 q154 q155 q156 q157 q158 q159 q160 q161 q162 q163 q164 q165 q166 q167 q168 q169 q170 q171 q172 q173 q174 q175 q176 q177 q178 q179 q180 q181 q182 q183 q184 q185 q186 q187 q188 q189 q190 q191 q192 q193 q194 q195 q196 q197 q198 q199 q200 q201 q202 q203 q204 q205 q206 q207 q208 q209 q210 q211 q212 q213 q214 q215 q216 q217 q218 q219 q220 q221 q222 q223 q224 q225 q226 q227 q228 q229 q230 q231 q232 q233 q234 q235 q236 q237 q238 q239 q240 q241 q242 q243 q244 q245 q246 q247 q248 q249 q250 q251 q252 q253 q254 q255 q256 q257 q258 q259 q260 J K' hJ hM
def uptoT (ls : List Ln) (j : Nat) : List Ln := ls.mapIdx (fun i x => if i < j then tameL x else x)
theorem uptoT_len (ls : List Ln) (j : Nat) : (uptoT ls j).length = ls.length := by simp [uptoT]
theorem uptoT_zero (ls : List Ln) : uptoT ls 0 = ls := by
  unfold uptoT
  apply List.ext_getElem (by simp)
  intro i h1 h2; simp
theorem uptoT_all (ls : List Ln) : uptoT ls ls.length = ls.map tameL := by
  unfold uptoT
  apply List.ext_getElem (by simp)
  intro i h1 h2
  have : i < ls.length := by simpa using h2
  simp [this]
theorem uptoT_at (ls : List Ln) (j : Nat) (hj : j < ls.length) : (uptoT ls j)[j]'(by rw [uptoT_len]; exact hj) = ls[j] := by simp [uptoT]
theorem uptoT_set (ls : List Ln) (j : Nat) (hj : j < ls.length) : (uptoT ls j).set j (tameL ls[j]) = uptoT ls (j + 1) := by
  apply List.ext_getElem (by simp [uptoT_len])
  intro i h1 h2
  rw [List.getElem_set]
  by_cases hi : j = i
  · subst hi; simp [uptoT]
  · rw [if_neg hi]
    have : (i < j) ↔ (i < j + 1) := by omega
    simp [uptoT, this]
end Go.Proofs.YtpgjfpphigeliaaGreatDoor

namespace Go.Proofs.YtpgjfpphigeliaaGreatDoor
open Go.RowKit
set_option maxHeartbeats 4000000
set_option maxRecDepth 100000

def isLoop : Code → Bool
  | .loop _ => true
  | _ => false
noncomputable def tmBody : Code := match (Tryz.f12.body.bind (partOf isLoop)) with
  | some (.loop c) => c
  | _ => .skip
noncomputable def tmLoop : Code := ((Tryz.f12.body.bind (partOf (isBlock 0))).getD .skip)
/-- Where the loop stands. -/
def LTm (w : World) (T4 A T5 F8 base : Nat) (ls : List Ln) (la : Option Addr) (lc : Nat) (v0 v1 : Value) (k : Nat) (q2 q3 q12 q13 q14 q15 q16 q17 q224 q225 q226 q227 q228 q229 q230 q231 q232 q233 q234 q235 q236 q237 q238 q239 q240 q241 q242 q243 q244 q245 q246 q247 q248 q249 q250 q251 q252 q253 q254 q255 q256 q257 q258 q259 q260 : Value) (a' : Act) (w' : World) : Prop :=
  ∃ z8 z9 z10 z11 z18 z19 z20 z21 z22 z23 z24 z25 z26 z27 z28 z29 z30 z31 z32 z33 z34 z35 z36 z37 z38 z39 z40 z41 z42 z43 z44 z45 z46 z47 z48 z49 z50 z51 z52 z53 z54 z55 z56 z57 z58 z59 z60 z61 z62 z63 z64 z65 z66 z67 z68 z69 z70 z71 z72 z73 z74 z75 z76 z77 z78 z79 z80 z81 z82 z83 z84 z85 z86 z87 z88 z89 z90 z91 z92 z93 z94 z95 z96 z97 z98 z99 z100 z101 z102 z103 z104 z105 z106 z107 z108 z109 z110 z111 z112 z113 z114 z115 z116 z117 z118 z119 z120 z121 z122 z123 z124 z125 z126 z127 z128 z129 z130 z131 z132 z133 z134 z135 z136 z137 z138 z139 z140 z141 z142 z143 z144 z145 z146 z147 z148 z149 z150 z151 z152 z153 z154 z155 z156 z157 z158 z159 z160 z161 z162 z163 z164 z165 z166 z167 z168 z169 z170 z171 z172 z173 z174 z175 z176 z177 z178 z179 z180 z181 z182 z183 z184 z185 z186 z187 z188 z189 z190 z191 z192 z193 z194 z195 z196 z197 z198 z199 z200 z201 z202 z203 z204 z205 z206 z207 z208 z209 z210 z211 z212 z213 z214 z215 z216 z217 z218 z219 z220 z221 z222 z223 : Value, TmIn w T4 A T5 F8 base (uptoT ls k) (.slice la ls.length lc) w' ∧ a' = ⟨[v0, v1, q2, q3, .pointer (some ⟨T4, 0, none⟩), .pointer (some ⟨T5, 0, none⟩), .slice (some ⟨F8, 0, none⟩) 8 8, .int .i64 k, z8, z9, z10, z11, q12, q13, q14, q15, q16, q17, z18, z19, z20, z21, z22, z23, z24, z25, z26, z27, z28, z29, z30, z31, z32, z33, z34, z35, z36, z37, z38, z39, z40, z41, z42, z43, z44, z45, z46, z47, z48, z49, z50, z51, z52, z53, z54, z55, z56, z57, z58, z59, z60, z61, z62, z63, z64, z65, z66, z67, z68, z69, z70, z71, z72, z73, z74, z75, z76, z77, z78, z79, z80, z81, z82, z83, z84, z85, z86, z87, z88, z89, z90, z91, z92, z93, z94, z95, z96, z97, z98, z99, z100, z101, z102, z103, z104, z105, z106, z107, z108, z109, z110, z111, z112, z113, z114, z115, z116, z117, z118, z119, z120, z121, z122, z123, z124, z125, z126, z127, z128, z129, z130, z131, z132, z133, z134, z135, z136, z137, z138, z139, z140, z141, z142, z143, z144, z145, z146, z147, z148, z149, z150, z151, z152, z153, z154, z155, z156, z157, z158, z159, z160, z161, z162, z163, z164, z165, z166, z167, z168, z169, z170, z171, z172, z173, z174, z175, z176, z177, z178, z179, z180, z181, z182, z183, z184, z185, z186, z187, z188, z189, z190, z191, z192, z193, z194, z195, z196, z197, z198, z199, z200, z201, z202, z203, z204, z205, z206, z207, z208, z209, z210, z211, z212, z213, z214, z215, z216, z217, z218, z219, z220, z221, z222, z223, q224, q225, q226, q227, q228, q229, q230, q231, q232, q233, q234, q235, q236, q237, q238, q239, q240, q241, q242, q243, q244, q245, q246, q247, q248, q249, q250, q251, q252, q253, q254, q255, q256, q257, q258, q259, q260].toArray, []⟩
theorem tml_go (w : World) (T4 A T5 F8 base : Nat) (ls : List Ln) (la : Option Addr) (lc : Nat) (v0 v1 : Value) (wr : World) (k : Nat) (hk : k < ls.length) (hl : ls.length ≤ 1000) (hok : LnOk ls[k]) (h : TmIn w T4 A T5 F8 base (uptoT ls k) (.slice la ls.length lc) wr) (q2 q3 q8 q9 q10 q11 q12 q13 q14 q15 q16 q17 q18 q19 q20 q21 q22 q23 q24 q25 q26 q27 q28 q29 q30 q31 q32 q33 q34 q35 q36 q37 q38 q39 q40 q41 q42 q43 q44 q45 q46 q47 q48 q49 q50 q51 q52 q53 q54 q55 q56 q57 q58 q59 q60 q61 q62 q63 q64 q65 q66 q67 q68 q69 q70 q71 q72 q73 q74 q75 q76 q77 q78 q79 q80 q81 q82 q83 q84 q85 q86 q87 q88 q89 q90 q91 q92 q93 q94 q95 q96 q97 q98 q99 q100 q101 q102 q103 q104 q105 q106 q107 q108 q109 q110 q111 q112 q113 q114 q115 q116 q117 q118 q119 q120 q121 q122 q123 q124 q125 q126 q127 q128 q129 q130 q131 q132 q133 q134 q135 q136 q137 q138 q139 q140 q141 q142 q143 q144 q145 q146 q147 q148 q149 q150 q151 q152 q153 q154 q155 q156 q157 q158 q159 q160 q161 q162 q163 q164 q165 q166 q167 q168 q169 q170 q171 q172 q173 q174 q175 q176 q177 q178 q179 q180 q181 q182 q183 q184 q185 q186 q187 q188 q189 q190 q191 q192 q193 q194 q195 q196 q197 q198 q199 q200 q201 q202 q203 q204 q205 q206 q207 q208 q209 q210 q211 q212 q213 q214 q215 q216 q217 q218 q219 q220 q221 q222 q223 q224 q225 q226 q227 q228 q229 q230 q231 q232 q233 q234 q235 q236 q237 q238 q239 q240 q241 q242 q243 q244 q245 q246 q247 q248 q249 q250 q251 q252 q253 q254 q255 q256 q257 q258 q259 q260 : Value) (J K' : Act → World → Prop) (hJ : ∀ a' w', LTm w T4 A T5 F8 base ls la lc v0 v1 (k + 1) q2 q3 q12 q13 q14 q15 q16 q17 q224 q225 q226 q227 q228 q229 q230 q231 q232 q233 q234 q235 q236 q237 q238 q239 q240 q241 q242 q243 q244 q245 q246 q247 q248 q249 q250 q251 q252 q253 q254 q255 q256 q257 q258 q259 q260 a' w' → J a' w') (hM : ∀ a' w', Met J a' w' → K' a' w') :
    Code.wp Tryz.prog tmBody (Exit.then K' (fun _ _ _ => False)) ⟨[v0, v1, q2, q3, .pointer (some ⟨T4, 0, none⟩), .pointer (some ⟨T5, 0, none⟩), .slice (some ⟨F8, 0, none⟩) 8 8, .int .i64 k, q8, q9, q10, q11, q12, q13, q14, q15, q16, q17, q18, q19, q20, q21, q22, q23, q24, q25, q26, q27, q28, q29, q30, q31, q32, q33, q34, q35, q36, q37, q38, q39, q40, q41, q42, q43, q44, q45, q46, q47, q48, q49, q50, q51, q52, q53, q54, q55, q56, q57, q58, q59, q60, q61, q62, q63, q64, q65, q66, q67, q68, q69, q70, q71, q72, q73, q74, q75, q76, q77, q78, q79, q80, q81, q82, q83, q84, q85, q86, q87, q88, q89, q90, q91, q92, q93, q94, q95, q96, q97, q98, q99, q100, q101, q102, q103, q104, q105, q106, q107, q108, q109, q110, q111, q112, q113, q114, q115, q116, q117, q118, q119, q120, q121, q122, q123, q124, q125, q126, q127, q128, q129, q130, q131, q132, q133, q134, q135, q136, q137, q138, q139, q140, q141, q142, q143, q144, q145, q146, q147, q148, q149, q150, q151, q152, q153, q154, q155, q156, q157, q158, q159, q160, q161, q162, q163, q164, q165, q166, q167, q168, q169, q170, q171, q172, q173, q174, q175, q176, q177, q178, q179, q180, q181, q182, q183, q184, q185, q186, q187, q188, q189, q190, q191, q192, q193, q194, q195, q196, q197, q198, q199, q200, q201, q202, q203, q204, q205, q206, q207, q208, q209, q210, q211, q212, q213, q214, q215, q216, q217, q218, q219, q220, q221, q222, q223, q224, q225, q226, q227, q228, q229, q230, q231, q232, q233, q234, q235, q236, q237, q238, q239, q240, q241, q242, q243, q244, q245, q246, q247, q248, q249, q250, q251, q252, q253, q254, q255, q256, q257, q258, q259, q260].toArray, []⟩ wr := by
  have hkI : (k : Int) < (ls.length : Int) := by omega
  have hlI : (ls.length : Int) ≤ 1000 := by omega
  have hlt2 : k < (uptoT ls k).length := by rw [uptoT_len]; exact hk
  obtain ⟨g, e, _, _, _, _⟩ := lns_at h.ln hlt2
  cases e
  have x0 := h.x.at 0 _ rfl
  have x1 := h.x.at 1 _ rfl
  have xl := h.x.lt
  have HTM : Hid (TmIn w T4 A T5 F8 base (uptoT ls k) (.slice (some ⟨g, 0, none⟩) (uptoT ls k).length lc) wr) := Lib.hid (by rw [uptoT_len]; exact h)
  have HOK : Hid (LnOk (uptoT ls k)[k]) := Lib.hid (by rw [uptoT_at ls k hk]; exact hok)
  have HSET : Hid ((uptoT ls k).set k (tameL (uptoT ls k)[k]) = uptoT ls (k + 1)) := Lib.hid (by rw [uptoT_at ls k hk]; exact uptoT_set ls k hk)
  have HUL := Lib.hid (uptoT_len ls k)
  clear h hok
  conv => arg 2; whnf
  go_upto_if 22 with (fail)
  clear x0 x1 xl
  refine wp_cond_true rfl ?_
  refine wp_skip ?_
  apply_assumption
  refine wp_seq ?_
  refine wp_cut (fun a' w' => RTm w T4 A T5 F8 base ((uptoT ls k).set k (tameL (uptoT ls k)[k])) (.slice (some ⟨g, 0, none⟩) (uptoT ls k).length lc) k v0 v1 _ _ _ _ _ _ _ _ _ _ _ _ _ _ _ _ _ _ _ _ _ _ _ _ _ _ _ _ _ _ _ _ _ _ _ _ _ _ _ _ _ _ _ _ _ _ _ _ _ _ _ _ a' w') ?rest (fun J K' hJ hM => then_any (tmr_any w T4 A T5 F8 base (uptoT ls k) g lc wr HTM.out k hlt2 (by rw [uptoT_len]; exact hl) HOK.out v0 v1 _ _ _ _ _ _ _ _ _ _ _ _ _ _ _ _ _ _ _ _ _ _ _ _ _ _ _ _ _ _ _ _ _ _ _ _ _ _ _ _ _ _ _ _ _ _ _ _ _ _ _ _ _ _ _ _ _ _ _ _ _ _ _ _ _ _ _ _ _ _ _ _ _ _ _ _ _ _ _ _ _ _ _ _ _ _ _ _ _ _ _ _ _ _ _ _ _ _ _ _ _ _ _ _ _ _ _ _ _ _ _ _ _ _ _ _ _ _ _ _ _ _ _ _ _ _ _ _ _ _ _ _ _ _ _ _ _ _ _ _ _ _ _ _ _ _ _ _ _ _ _ _ _ _ _ _ _ _ _ _ _ _ _ _ _ _ _ _ _ _ _ _ _ _ _ _ _ _ _ _ _ _ _ _ _ _ _ _ _ _ _ _ _ _ _ _ _ _ _ _ _ _ _ _ _ _ _ _ _ _ _ _ _ _ _ _ _ _ _ _ _ _ _ _ _ _ _ _ _ _ _ _ _ _ _ _ _ _ _ _ _ _ _ _ _ _ _ _ _ _ _ _ _ _ _ J K' hJ hM))
  case rest =>
  intro a' w' hT
  obtain ⟨z8, hT⟩ := hT
  obtain ⟨z9, hT⟩ := hT
  obtain ⟨z10, hT⟩ := hT
  obtain ⟨z11, hT⟩ := hT
  obtain ⟨z25, hT⟩ := hT
  obtain ⟨z26, hT⟩ := hT
  obtain ⟨z27, hT⟩ := hT
  obtain ⟨z28, hT⟩ := hT
  obtain ⟨z29, hT⟩ := hT
  obtain ⟨z30, hT⟩ := hT
  obtain ⟨z31, hT⟩ := hT
  obtain ⟨z32, hT⟩ := hT
  obtain ⟨z33, hT⟩ := hT
  obtain ⟨z34, hT⟩ := hT
  obtain ⟨z35, hT⟩ := hT
  obtain ⟨z36, hT⟩ := hT
  obtain ⟨z37, hT⟩ := hT
  obtain ⟨z38, hT⟩ := hT
  obtain ⟨z39, hT⟩ := hT
  obtain ⟨z40, hT⟩ := hT
  obtain ⟨z41, hT⟩ := hT
  obtain ⟨z42, hT⟩ := hT
  obtain ⟨z43, hT⟩ := hT
  obtain ⟨z44, hT⟩ := hT
  obtain ⟨z45, hT⟩ := hT
  obtain ⟨z46, hT⟩ := hT
  obtain ⟨z47, hT⟩ := hT
  obtain ⟨z48, hT⟩ := hT
  obtain ⟨z49, hT⟩ := hT
  obtain ⟨z50, hT⟩ := hT
  obtain ⟨z51, hT⟩ := hT
  obtain ⟨z52, hT⟩ := hT
  obtain ⟨z53, hT⟩ := hT
  obtain ⟨z54, hT⟩ := hT
  obtain ⟨z55, hT⟩ := hT
  obtain ⟨z56, hT⟩ := hT
  obtain ⟨z57, hT⟩ := hT
  obtain ⟨z58, hT⟩ := hT
  obtain ⟨z59, hT⟩ := hT
  obtain ⟨z60, hT⟩ := hT
  obtain ⟨z61, hT⟩ := hT
  obtain ⟨z62, hT⟩ := hT
  obtain ⟨z63, hT⟩ := hT
  obtain ⟨z64, hT⟩ := hT
  obtain ⟨z65, hT⟩ := hT
  obtain ⟨z66, hT⟩ := hT
  obtain ⟨z67, hT⟩ := hT
  obtain ⟨z68, hT⟩ := hT
  obtain ⟨z69, hT⟩ := hT
  obtain ⟨z70, hT⟩ := hT
  obtain ⟨z71, hT⟩ := hT
  obtain ⟨z72, hT⟩ := hT
  obtain ⟨z73, hT⟩ := hT
  obtain ⟨z74, hT⟩ := hT
  obtain ⟨z75, hT⟩ := hT
  obtain ⟨z76, hT⟩ := hT
  obtain ⟨z77, hT⟩ := hT
  obtain ⟨z78, hT⟩ := hT
  obtain ⟨z79, hT⟩ := hT
  obtain ⟨z80, hT⟩ := hT
  obtain ⟨z81, hT⟩ := hT
  obtain ⟨z82, hT⟩ := hT
  obtain ⟨z83, hT⟩ := hT
  obtain ⟨z84, hT⟩ := hT
  obtain ⟨z85, hT⟩ := hT
  obtain ⟨z86, hT⟩ := hT
  obtain ⟨z87, hT⟩ := hT
  obtain ⟨z88, hT⟩ := hT
  obtain ⟨z89, hT⟩ := hT
  obtain ⟨z90, hT⟩ := hT
  obtain ⟨z91, hT⟩ := hT
  obtain ⟨z92, hT⟩ := hT
  obtain ⟨z93, hT⟩ := hT
  obtain ⟨z94, hT⟩ := hT
  obtain ⟨z95, hT⟩ := hT
  obtain ⟨z96, hT⟩ := hT
  obtain ⟨z97, hT⟩ := hT
  obtain ⟨z98, hT⟩ := hT
  obtain ⟨z99, hT⟩ := hT
  obtain ⟨z100, hT⟩ := hT
  obtain ⟨z101, hT⟩ := hT
  obtain ⟨z102, hT⟩ := hT
  obtain ⟨z103, hT⟩ := hT
  obtain ⟨z104, hT⟩ := hT
  obtain ⟨z105, hT⟩ := hT
  obtain ⟨z106, hT⟩ := hT
  obtain ⟨z107, hT⟩ := hT
  obtain ⟨z108, hT⟩ := hT
  obtain ⟨z109, hT⟩ := hT
  obtain ⟨z110, hT⟩ := hT
  obtain ⟨z111, hT⟩ := hT
  obtain ⟨z112, hT⟩ := hT
  obtain ⟨z113, hT⟩ := hT
  obtain ⟨z114, hT⟩ := hT
  obtain ⟨z115, hT⟩ := hT
  obtain ⟨z116, hT⟩ := hT
  obtain ⟨z117, hT⟩ := hT
  obtain ⟨z118, hT⟩ := hT
  obtain ⟨z119, hT⟩ := hT
  obtain ⟨z120, hT⟩ := hT
  obtain ⟨z121, hT⟩ := hT
  obtain ⟨z122, hT⟩ := hT
  obtain ⟨z123, hT⟩ := hT
  obtain ⟨z124, hT⟩ := hT
  obtain ⟨z125, hT⟩ := hT
  obtain ⟨z126, hT⟩ := hT
  obtain ⟨z127, hT⟩ := hT
  obtain ⟨z128, hT⟩ := hT
  obtain ⟨z129, hT⟩ := hT
  obtain ⟨z130, hT⟩ := hT
  obtain ⟨z131, hT⟩ := hT
  obtain ⟨z132, hT⟩ := hT
  obtain ⟨z133, hT⟩ := hT
  obtain ⟨z134, hT⟩ := hT
  obtain ⟨z135, hT⟩ := hT
  obtain ⟨z136, hT⟩ := hT
  obtain ⟨z137, hT⟩ := hT
  obtain ⟨z138, hT⟩ := hT
  obtain ⟨z139, hT⟩ := hT
  obtain ⟨z140, hT⟩ := hT
  obtain ⟨z141, hT⟩ := hT
  obtain ⟨z142, hT⟩ := hT
  obtain ⟨z143, hT⟩ := hT
  obtain ⟨z144, hT⟩ := hT
  obtain ⟨z145, hT⟩ := hT
  obtain ⟨z146, hT⟩ := hT
  obtain ⟨z147, hT⟩ := hT
  obtain ⟨z148, hT⟩ := hT
  obtain ⟨z149, hT⟩ := hT
  obtain ⟨z150, hT⟩ := hT
  obtain ⟨z151, hT⟩ := hT
  obtain ⟨z152, hT⟩ := hT
  obtain ⟨z153, hT⟩ := hT
  obtain ⟨z154, hT⟩ := hT
  obtain ⟨z155, hT⟩ := hT
  obtain ⟨z156, hT⟩ := hT
  obtain ⟨z157, hT⟩ := hT
  obtain ⟨z158, hT⟩ := hT
  obtain ⟨z159, hT⟩ := hT
  obtain ⟨z160, hT⟩ := hT
  obtain ⟨z161, hT⟩ := hT
  obtain ⟨z162, hT⟩ := hT
  obtain ⟨z163, hT⟩ := hT
  obtain ⟨z164, hT⟩ := hT
  obtain ⟨z165, hT⟩ := hT
  obtain ⟨z166, hT⟩ := hT
  obtain ⟨z167, hT⟩ := hT
  obtain ⟨z168, hT⟩ := hT
  obtain ⟨z169, hT⟩ := hT
  obtain ⟨z170, hT⟩ := hT
  obtain ⟨z171, hT⟩ := hT
  obtain ⟨z172, hT⟩ := hT
  obtain ⟨z173, hT⟩ := hT
  obtain ⟨z174, hT⟩ := hT
  obtain ⟨z175, hT⟩ := hT
  obtain ⟨z176, hT⟩ := hT
  obtain ⟨z177, hT⟩ := hT
  obtain ⟨z178, hT⟩ := hT
  obtain ⟨z179, hT⟩ := hT
  obtain ⟨z180, hT⟩ := hT
  obtain ⟨z181, hT⟩ := hT
  obtain ⟨z182, hT⟩ := hT
  obtain ⟨z183, hT⟩ := hT
  obtain ⟨z184, hT⟩ := hT
  obtain ⟨z185, hT⟩ := hT
  obtain ⟨z186, hT⟩ := hT
  obtain ⟨z187, hT⟩ := hT
  obtain ⟨z188, hT⟩ := hT
  obtain ⟨z189, hT⟩ := hT
  obtain ⟨z190, hT⟩ := hT
  obtain ⟨z191, hT⟩ := hT
  obtain ⟨z192, hT⟩ := hT
  obtain ⟨z193, hT⟩ := hT
  obtain ⟨z194, hT⟩ := hT
  obtain ⟨z195, hT⟩ := hT
  obtain ⟨z196, hT⟩ := hT
  obtain ⟨z197, hT⟩ := hT
  obtain ⟨z198, hT⟩ := hT
  obtain ⟨z199, hT⟩ := hT
  obtain ⟨z200, hT⟩ := hT
  obtain ⟨z201, hT⟩ := hT
  obtain ⟨z202, hT⟩ := hT
  obtain ⟨z203, hT⟩ := hT
  obtain ⟨z204, hT⟩ := hT
  obtain ⟨z205, hT⟩ := hT
  obtain ⟨z206, hT⟩ := hT
  obtain ⟨z207, hT⟩ := hT
  obtain ⟨z208, hT⟩ := hT
  obtain ⟨z209, hT⟩ := hT
  obtain ⟨z210, hT⟩ := hT
  obtain ⟨z211, hT⟩ := hT
  obtain ⟨z212, hT⟩ := hT
  obtain ⟨z213, hT⟩ := hT
  obtain ⟨z214, hT⟩ := hT
  obtain ⟨z215, hT⟩ := hT
  obtain ⟨z216, hT⟩ := hT
  obtain ⟨z217, hT⟩ := hT
  obtain ⟨z218, hT⟩ := hT
  obtain ⟨z219, hT⟩ := hT
  obtain ⟨z220, hT⟩ := hT
  obtain ⟨z221, hT⟩ := hT
  obtain ⟨z222, hT⟩ := hT
  obtain ⟨z223, hT⟩ := hT
  obtain ⟨hti, ha'⟩ := hT
  subst ha'
  rw [HSET.out, HUL.out] at hti
  have HTI := Lib.hid hti
  clear hti HTM HOK HSET
  go_wp2_with fail
  go_meet
  exact HTI.out
theorem tml_end (w : World) (T4 A T5 F8 base : Nat) (ls : List Ln) (la : Option Addr) (lc : Nat) (v0 v1 : Value) (wr : World) (hl : ls.length ≤ 1000) (h : TmIn w T4 A T5 F8 base (uptoT ls ls.length) (.slice la ls.length lc) wr) (q2 q3 q8 q9 q10 q11 q12 q13 q14 q15 q16 q17 q18 q19 q20 q21 q22 q23 q24 q25 q26 q27 q28 q29 q30 q31 q32 q33 q34 q35 q36 q37 q38 q39 q40 q41 q42 q43 q44 q45 q46 q47 q48 q49 q50 q51 q52 q53 q54 q55 q56 q57 q58 q59 q60 q61 q62 q63 q64 q65 q66 q67 q68 q69 q70 q71 q72 q73 q74 q75 q76 q77 q78 q79 q80 q81 q82 q83 q84 q85 q86 q87 q88 q89 q90 q91 q92 q93 q94 q95 q96 q97 q98 q99 q100 q101 q102 q103 q104 q105 q106 q107 q108 q109 q110 q111 q112 q113 q114 q115 q116 q117 q118 q119 q120 q121 q122 q123 q124 q125 q126 q127 q128 q129 q130 q131 q132 q133 q134 q135 q136 q137 q138 q139 q140 q141 q142 q143 q144 q145 q146 q147 q148 q149 q150 q151 q152 q153 q154 q155 q156 q157 q158 q159 q160 q161 q162 q163 q164 q165 q166 q167 q168 q169 q170 q171 q172 q173 q174 q175 q176 q177 q178 q179 q180 q181 q182 q183 q184 q185 q186 q187 q188 q189 q190 q191 q192 q193 q194 q195 q196 q197 q198 q199 q200 q201 q202 q203 q204 q205 q206 q207 q208 q209 q210 q211 q212 q213 q214 q215 q216 q217 q218 q219 q220 q221 q222 q223 q224 q225 q226 q227 q228 q229 q230 q231 q232 q233 q234 q235 q236 q237 q238 q239 q240 q241 q242 q243 q244 q245 q246 q247 q248 q249 q250 q251 q252 q253 q254 q255 q256 q257 q258 q259 q260 : Value) (Q : Exit → Act → World → Prop) (hQ : ∀ a', LTm w T4 A T5 F8 base ls la lc v0 v1 ls.length q2 q3 q12 q13 q14 q15 q16 q17 q224 q225 q226 q227 q228 q229 q230 q231 q232 q233 q234 q235 q236 q237 q238 q239 q240 q241 q242 q243 q244 q245 q246 q247 q248 q249 q250 q251 q252 q253 q254 q255 q256 q257 q258 q259 q260 a' wr → Q (.exit 0) a' wr) :
    Code.wp Tryz.prog tmBody Q ⟨[v0, v1, q2, q3, .pointer (some ⟨T4, 0, none⟩), .pointer (some ⟨T5, 0, none⟩), .slice (some ⟨F8, 0, none⟩) 8 8, .int .i64 ls.length, q8, q9, q10, q11, q12, q13, q14, q15, q16, q17, q18, q19, q20, q21, q22, q23, q24, q25, q26, q27, q28, q29, q30, q31, q32, q33, q34, q35, q36, q37, q38, q39, q40, q41, q42, q43, q44, q45, q46, q47, q48, q49, q50, q51, q52, q53, q54, q55, q56, q57, q58, q59, q60, q61, q62, q63, q64, q65, q66, q67, q68, q69, q70, q71, q72, q73, q74, q75, q76, q77, q78, q79, q80, q81, q82, q83, q84, q85, q86, q87, q88, q89, q90, q91, q92, q93, q94, q95, q96, q97, q98, q99, q100, q101, q102, q103, q104, q105, q106, q107, q108, q109, q110, q111, q112, q113, q114, q115, q116, q117, q118, q119, q120, q121, q122, q123, q124, q125, q126, q127, q128, q129, q130, q131, q132, q133, q134, q135, q136, q137, q138, q139, q140, q141, q142, q143, q144, q145, q146, q147, q148, q149, q150, q151, q152, q153, q154, q155, q156, q157, q158, q159, q160, q161, q162, q163, q164, q165, q166, q167, q168, q169, q170, q171, q172, q173, q174, q175, q176, q177, q178, q179, q180, q181, q182, q183, q184, q185, q186, q187, q188, q189, q190, q191, q192, q193, q194, q195, q196, q197, q198, q199, q200, q201, q202, q203, q204, q205, q206, q207, q208, q209, q210, q211, q212, q213, q214, q215, q216, q217, q218, q219, q220, q221, q222, q223, q224, q225, q226, q227, q228, q229, q230, q231, q232, q233, q234, q235, q236, q237, q238, q239, q240, q241, q242, q243, q244, q245, q246, q247, q248, q249, q250, q251, q252, q253, q254, q255, q256, q257, q258, q259, q260].toArray, []⟩ wr := by
  have hlI : (ls.length : Int) ≤ 1000 := by omega
  have x0 := h.x.at 0 _ rfl
  have x1 := h.x.at 1 _ rfl
  have xl := h.x.lt
  have HTM := Lib.hid h
  clear h
  conv => arg 2; whnf
  refine wp_seq ?_
  go_upto_if 22 with (fail)
  refine wp_cond_false rfl ?_
  refine wp_exit ?_
  exact hQ _ ⟨_, _, _, _, _, _, _, _, _, _, _, _, _, _, _, _, _, _, _, _, _, _, _, _, _, _, _, _, _, _, _, _, _, _, _, _, _, _, _, _, _, _, _, _, _, _, _, _, _, _, _, _, _, _, _, _, _, _, _, _, _, _, _, _, _, _, _, _, _, _, _, _, _, _, _, _, _, _, _, _, _, _, _, _, _, _, _, _, _, _, _, _, _, _, _, _, _, _, _, _, _, _, _, _, _, _, _, _, _, _, _, _, _, _, _, _, _, _, _, _, _, _, _, _, _, _, _, _, _, _, _, _, _, _, _, _, _, _, _, _, _, _, _, _, _, _, _, _, _, _, _, _, _, _, _, _, _, _, _, _, _, _, _, _, _, _, _, _, _, _, _, _, _, _, _, _, _, _, _, _, _, _, _, _, _, _, _, _, _, _, _, _, _, _, _, _, _, _, _, _, _, _, _, _, _, _, _, _, _, _, HTM.out, rfl⟩
def numOf (a : Act) : Nat := match a.tmps.getD 7 undef with | .int _ z => z.toNat | _ => 0
theorem tml_any (w : World) (T4 A T5 F8 base : Nat) (ls : List Ln) (la : Option Addr) (lc : Nat) (v0 v1 : Value) (wr : World) (hl : ls.length ≤ 1000) (hok : ∀ x, x ∈ ls → LnOk x) (h : TmIn w T4 A T5 F8 base (uptoT ls 0) (.slice la ls.length lc) wr) (q2 q3 q8 q9 q10 q11 q12 q13 q14 q15 q16 q17 q18 q19 q20 q21 q22 q23 q24 q25 q26 q27 q28 q29 q30 q31 q32 q33 q34 q35 q36 q37 q38 q39 q40 q41 q42 q43 q44 q45 q46 q47 q48 q49 q50 q51 q52 q53 q54 q55 q56 q57 q58 q59 q60 q61 q62 q63 q64 q65 q66 q67 q68 q69 q70 q71 q72 q73 q74 q75 q76 q77 q78 q79 q80 q81 q82 q83 q84 q85 q86 q87 q88 q89 q90 q91 q92 q93 q94 q95 q96 q97 q98 q99 q100 q101 q102 q103 q104 q105 q106 q107 q108 q109 q110 q111 q112 q113 q114 q115 q116 q117 q118 q119 q120 q121 q122 q123 q124 q125 q126 q127 q128 q129 q130 q131 q132 q133 q134 q135 q136 q137 q138 q139 q140 q141 q142 q143 q144 q145 q146 q147 q148 q149 q150 q151 q152 q153 q154 q155 q156 q157 q158 q159 q160 q161 q162 q163 q164 q165 q166 q167 q168 q169 q170 q171 q172 q173 q174 q175 q176 q177 q178 q179 q180 q181 q182 q183 q184 q185 q186 q187 q188 q189 q190 q191 q192 q193 q194 q195 q196 q197 q198 q199 q200 q201 q202 q203 q204 q205 q206 q207 q208 q209 q210 q211 q212 q213 q214 q215 q216 q217 q218 q219 q220 q221 q222 q223 q224 q225 q226 q227 q228 q229 q230 q231 q232 q233 q234 q235 q236 q237 q238 q239 q240 q241 q242 q243 q244 q245 q246 q247 q248 q249 q250 q251 q252 q253 q254 q255 q256 q257 q258 q259 q260 : Value) (J K' : Act → World → Prop) (hJ : ∀ a' w', LTm w T4 A T5 F8 base ls la lc v0 v1 ls.length q2 q3 q12 q13 q14 q15 q16 q17 q224 q225 q226 q227 q228 q229 q230 q231 q232 q233 q234 q235 q236 q237 q238 q239 q240 q241 q242 q243 q244 q245 q246 q247 q248 q249 q250 q251 q252 q253 q254 q255 q256 q257 q258 q259 q260 a' w' → J a' w') (hM : ∀ a' w', Met J a' w' → K' a' w') :
    Code.wp Tryz.prog tmLoop (Exit.then K' (fun _ _ _ => False)) ⟨[v0, v1, q2, q3, .pointer (some ⟨T4, 0, none⟩), .pointer (some ⟨T5, 0, none⟩), .slice (some ⟨F8, 0, none⟩) 8 8, .int .i64 ((0 : Nat) : Int), q8, q9, q10, q11, q12, q13, q14, q15, q16, q17, q18, q19, q20, q21, q22, q23, q24, q25, q26, q27, q28, q29, q30, q31, q32, q33, q34, q35, q36, q37, q38, q39, q40, q41, q42, q43, q44, q45, q46, q47, q48, q49, q50, q51, q52, q53, q54, q55, q56, q57, q58, q59, q60, q61, q62, q63, q64, q65, q66, q67, q68, q69, q70, q71, q72, q73, q74, q75, q76, q77, q78, q79, q80, q81, q82, q83, q84, q85, q86, q87, q88, q89, q90, q91, q92, q93, q94, q95, q96, q97, q98, q99, q100, q101, q102, q103, q104, q105, q106, q107, q108, q109, q110, q111, q112, q113, q114, q115, q116, q117, q118, q119, q120, q121, q122, q123, q124, q125, q126, q127, q128, q129, q130, q131, q132, q133, q134, q135, q136, q137, q138, q139, q140, q141, q142, q143, q144, q145, q146, q147, q148, q149, q150, q151, q152, q153, q154, q155, q156, q157, q158, q159, q160, q161, q162, q163, q164, q165, q166, q167, q168, q169, q170, q171, q172, q173, q174, q175, q176, q177, q178, q179, q180, q181, q182, q183, q184, q185, q186, q187, q188, q189, q190, q191, q192, q193, q194, q195, q196, q197, q198, q199, q200, q201, q202, q203, q204, q205, q206, q207, q208, q209, q210, q211, q212, q213, q214, q215, q216, q217, q218, q219, q220, q221, q222, q223, q224, q225, q226, q227, q228, q229, q230, q231, q232, q233, q234, q235, q236, q237, q238, q239, q240, q241, q242, q243, q244, q245, q246, q247, q248, q249, q250, q251, q252, q253, q254, q255, q256, q257, q258, q259, q260].toArray, []⟩ wr := by
  have hbody : tmLoop = .block 0 (.loop tmBody) := by kernel_rfl
  rw [hbody]
  refine wp_block (wp_loop (fun a' w' => ∃ k, k ≤ ls.length ∧ LTm w T4 A T5 F8 base ls la lc v0 v1 k q2 q3 q12 q13 q14 q15 q16 q17 q224 q225 q226 q227 q228 q229 q230 q231 q232 q233 q234 q235 q236 q237 q238 q239 q240 q241 q242 q243 q244 q245 q246 q247 q248 q249 q250 q251 q252 q253 q254 q255 q256 q257 q258 q259 q260 a' w') (fun a' _ => ls.length - numOf a') ⟨0, Nat.zero_le _, q8, q9, q10, q11, q18, q19, q20, q21, q22, q23, q24, q25, q26, q27, q28, q29, q30, q31, q32, q33, q34, q35, q36, q37, q38, q39, q40, q41, q42, q43, q44, q45, q46, q47, q48, q49, q50, q51, q52, q53, q54, q55, q56, q57, q58, q59, q60, q61, q62, q63, q64, q65, q66, q67, q68, q69, q70, q71, q72, q73, q74, q75, q76, q77, q78, q79, q80, q81, q82, q83, q84, q85, q86, q87, q88, q89, q90, q91, q92, q93, q94, q95, q96, q97, q98, q99, q100, q101, q102, q103, q104, q105, q106, q107, q108, q109, q110, q111, q112, q113, q114, q115, q116, q117, q118, q119, q120, q121, q122, q123, q124, q125, q126, q127, q128, q129, q130, q131, q132, q133, q134, q135, q136, q137, q138, q139, q140, q141, q142, q143, q144, q145, q146, q147, q148, q149, q150, q151, q152, q153, q154, q155, q156, q157, q158, q159, q160, q161, q162, q163, q164, q165, q166, q167, q168, q169, q170, q171, q172, q173, q174, q175, q176, q177, q178, q179, q180, q181, q182, q183, q184, q185, q186, q187, q188, q189, q190, q191, q192, q193, q194, q195, q196, q197, q198, q199, q200, q201, q202, q203, q204, q205, q206, q207, q208, q209, q210, q211, q212, q213, q214, q215, q216, q217, q218, q219, q220, q221, q222, q223, h, rfl⟩ ?_)
  intro a' w' hI
  obtain ⟨k, hk, hT⟩ := hI
  obtain ⟨z8, hT⟩ := hT
  obtain ⟨z9, hT⟩ := hT
  obtain ⟨z10, hT⟩ := hT
  obtain ⟨z11, hT⟩ := hT
  obtain ⟨z18, hT⟩ := hT
  obtain ⟨z19, hT⟩ := hT
  obtain ⟨z20, hT⟩ := hT
  obtain ⟨z21, hT⟩ := hT
  obtain ⟨z22, hT⟩ := hT
  obtain ⟨z23, hT⟩ := hT
  obtain ⟨z24, hT⟩ := hT
  obtain ⟨z25, hT⟩ := hT
  obtain ⟨z26, hT⟩ := hT
  obtain ⟨z27, hT⟩ := hT
  obtain ⟨z28, hT⟩ := hT
  obtain ⟨z29, hT⟩ := hT
  obtain ⟨z30, hT⟩ := hT
  obtain ⟨z31, hT⟩ := hT
  obtain ⟨z32, hT⟩ := hT
  obtain ⟨z33, hT⟩ := hT
  obtain ⟨z34, hT⟩ := hT
  obtain ⟨z35, hT⟩ := hT
  obtain ⟨z36, hT⟩ := hT
  obtain ⟨z37, hT⟩ := hT
  obtain ⟨z38, hT⟩ := hT
  obtain ⟨z39, hT⟩ := hT
  obtain ⟨z40, hT⟩ := hT
  obtain ⟨z41, hT⟩ := hT
  obtain ⟨z42, hT⟩ := hT
  obtain ⟨z43, hT⟩ := hT
  obtain ⟨z44, hT⟩ := hT
  obtain ⟨z45, hT⟩ := hT
  obtain ⟨z46, hT⟩ := hT
  obtain ⟨z47, hT⟩ := hT
  obtain ⟨z48, hT⟩ := hT
  obtain ⟨z49, hT⟩ := hT
  obtain ⟨z50, hT⟩ := hT
  obtain ⟨z51, hT⟩ := hT
  obtain ⟨z52, hT⟩ := hT
  obtain ⟨z53, hT⟩ := hT
  obtain ⟨z54, hT⟩ := hT
  obtain ⟨z55, hT⟩ := hT
  obtain ⟨z56, hT⟩ := hT
  obtain ⟨z57, hT⟩ := hT
  obtain ⟨z58, hT⟩ := hT
  obtain ⟨z59, hT⟩ := hT
  obtain ⟨z60, hT⟩ := hT
  obtain ⟨z61, hT⟩ := hT
  obtain ⟨z62, hT⟩ := hT
  obtain ⟨z63, hT⟩ := hT
  obtain ⟨z64, hT⟩ := hT
  obtain ⟨z65, hT⟩ := hT
  obtain ⟨z66, hT⟩ := hT
  obtain ⟨z67, hT⟩ := hT
  obtain ⟨z68, hT⟩ := hT
  obtain ⟨z69, hT⟩ := hT
  obtain ⟨z70, hT⟩ := hT
  obtain ⟨z71, hT⟩ := hT
  obtain ⟨z72, hT⟩ := hT
  obtain ⟨z73, hT⟩ := hT
  obtain ⟨z74, hT⟩ := hT
  obtain ⟨z75, hT⟩ := hT
  obtain ⟨z76, hT⟩ := hT
  obtain ⟨z77, hT⟩ := hT
  obtain ⟨z78, hT⟩ := hT
  obtain ⟨z79, hT⟩ := hT
  obtain ⟨z80, hT⟩ := hT
  obtain ⟨z81, hT⟩ := hT
  obtain ⟨z82, hT⟩ := hT
  obtain ⟨z83, hT⟩ := hT
  obtain ⟨z84, hT⟩ := hT
  obtain ⟨z85, hT⟩ := hT
  obtain ⟨z86, hT⟩ := hT
  obtain ⟨z87, hT⟩ := hT
  obtain ⟨z88, hT⟩ := hT
  obtain ⟨z89, hT⟩ := hT
  obtain ⟨z90, hT⟩ := hT
  obtain ⟨z91, hT⟩ := hT
  obtain ⟨z92, hT⟩ := hT
  obtain ⟨z93, hT⟩ := hT
  obtain ⟨z94, hT⟩ := hT
  obtain ⟨z95, hT⟩ := hT
  obtain ⟨z96, hT⟩ := hT
  obtain ⟨z97, hT⟩ := hT
  obtain ⟨z98, hT⟩ := hT
  obtain ⟨z99, hT⟩ := hT
  obtain ⟨z100, hT⟩ := hT
  obtain ⟨z101, hT⟩ := hT
  obtain ⟨z102, hT⟩ := hT
  obtain ⟨z103, hT⟩ := hT
  obtain ⟨z104, hT⟩ := hT
  obtain ⟨z105, hT⟩ := hT
  obtain ⟨z106, hT⟩ := hT
  obtain ⟨z107, hT⟩ := hT
  obtain ⟨z108, hT⟩ := hT
  obtain ⟨z109, hT⟩ := hT
  obtain ⟨z110, hT⟩ := hT
  obtain ⟨z111, hT⟩ := hT
  obtain ⟨z112, hT⟩ := hT
  obtain ⟨z113, hT⟩ := hT
  obtain ⟨z114, hT⟩ := hT
  obtain ⟨z115, hT⟩ := hT
  obtain ⟨z116, hT⟩ := hT
  obtain ⟨z117, hT⟩ := hT
  obtain ⟨z118, hT⟩ := hT
  obtain ⟨z119, hT⟩ := hT
  obtain ⟨z120, hT⟩ := hT
  obtain ⟨z121, hT⟩ := hT
  obtain ⟨z122, hT⟩ := hT
  obtain ⟨z123, hT⟩ := hT
  obtain ⟨z124, hT⟩ := hT
  obtain ⟨z125, hT⟩ := hT
  obtain ⟨z126, hT⟩ := hT
  obtain ⟨z127, hT⟩ := hT
  obtain ⟨z128, hT⟩ := hT
  obtain ⟨z129, hT⟩ := hT
  obtain ⟨z130, hT⟩ := hT
  obtain ⟨z131, hT⟩ := hT
  obtain ⟨z132, hT⟩ := hT
  obtain ⟨z133, hT⟩ := hT
  obtain ⟨z134, hT⟩ := hT
  obtain ⟨z135, hT⟩ := hT
  obtain ⟨z136, hT⟩ := hT
  obtain ⟨z137, hT⟩ := hT
  obtain ⟨z138, hT⟩ := hT
  obtain ⟨z139, hT⟩ := hT
  obtain ⟨z140, hT⟩ := hT
  obtain ⟨z141, hT⟩ := hT
  obtain ⟨z142, hT⟩ := hT
  obtain ⟨z143, hT⟩ := hT
  obtain ⟨z144, hT⟩ := hT
  obtain ⟨z145, hT⟩ := hT
  obtain ⟨z146, hT⟩ := hT
  obtain ⟨z147, hT⟩ := hT
  obtain ⟨z148, hT⟩ := hT
  obtain ⟨z149, hT⟩ := hT
  obtain ⟨z150, hT⟩ := hT
  obtain ⟨z151, hT⟩ := hT
  obtain ⟨z152, hT⟩ := hT
  obtain ⟨z153, hT⟩ := hT
  obtain ⟨z154, hT⟩ := hT
  obtain ⟨z155, hT⟩ := hT
  obtain ⟨z156, hT⟩ := hT
  obtain ⟨z157, hT⟩ := hT
  obtain ⟨z158, hT⟩ := hT
  obtain ⟨z159, hT⟩ := hT
  obtain ⟨z160, hT⟩ := hT
  obtain ⟨z161, hT⟩ := hT
  obtain ⟨z162, hT⟩ := hT
  obtain ⟨z163, hT⟩ := hT
  obtain ⟨z164, hT⟩ := hT
  obtain ⟨z165, hT⟩ := hT
  obtain ⟨z166, hT⟩ := hT
  obtain ⟨z167, hT⟩ := hT
  obtain ⟨z168, hT⟩ := hT
  obtain ⟨z169, hT⟩ := hT
  obtain ⟨z170, hT⟩ := hT
  obtain ⟨z171, hT⟩ := hT
  obtain ⟨z172, hT⟩ := hT
  obtain ⟨z173, hT⟩ := hT
  obtain ⟨z174, hT⟩ := hT
  obtain ⟨z175, hT⟩ := hT
  obtain ⟨z176, hT⟩ := hT
  obtain ⟨z177, hT⟩ := hT
  obtain ⟨z178, hT⟩ := hT
  obtain ⟨z179, hT⟩ := hT
  obtain ⟨z180, hT⟩ := hT
  obtain ⟨z181, hT⟩ := hT
  obtain ⟨z182, hT⟩ := hT
  obtain ⟨z183, hT⟩ := hT
  obtain ⟨z184, hT⟩ := hT
  obtain ⟨z185, hT⟩ := hT
  obtain ⟨z186, hT⟩ := hT
  obtain ⟨z187, hT⟩ := hT
  obtain ⟨z188, hT⟩ := hT
  obtain ⟨z189, hT⟩ := hT
  obtain ⟨z190, hT⟩ := hT
  obtain ⟨z191, hT⟩ := hT
  obtain ⟨z192, hT⟩ := hT
  obtain ⟨z193, hT⟩ := hT
  obtain ⟨z194, hT⟩ := hT
  obtain ⟨z195, hT⟩ := hT
  obtain ⟨z196, hT⟩ := hT
  obtain ⟨z197, hT⟩ := hT
  obtain ⟨z198, hT⟩ := hT
  obtain ⟨z199, hT⟩ := hT
  obtain ⟨z200, hT⟩ := hT
  obtain ⟨z201, hT⟩ := hT
  obtain ⟨z202, hT⟩ := hT
  obtain ⟨z203, hT⟩ := hT
  obtain ⟨z204, hT⟩ := hT
  obtain ⟨z205, hT⟩ := hT
  obtain ⟨z206, hT⟩ := hT
  obtain ⟨z207, hT⟩ := hT
  obtain ⟨z208, hT⟩ := hT
  obtain ⟨z209, hT⟩ := hT
  obtain ⟨z210, hT⟩ := hT
  obtain ⟨z211, hT⟩ := hT
  obtain ⟨z212, hT⟩ := hT
  obtain ⟨z213, hT⟩ := hT
  obtain ⟨z214, hT⟩ := hT
  obtain ⟨z215, hT⟩ := hT
  obtain ⟨z216, hT⟩ := hT
  obtain ⟨z217, hT⟩ := hT
  obtain ⟨z218, hT⟩ := hT
  obtain ⟨z219, hT⟩ := hT
  obtain ⟨z220, hT⟩ := hT
  obtain ⟨z221, hT⟩ := hT
  obtain ⟨z222, hT⟩ := hT
  obtain ⟨z223, hT⟩ := hT
  obtain ⟨hti, ha'⟩ := hT
  subst ha'
  by_cases hlt : k < ls.length
  · refine wp_mono (tml_go w T4 A T5 F8 base ls la lc v0 v1 w' k hlt hl (hok _ (List.getElem_mem hlt)) hti _ _ _ _ _ _ _ _ _ _ _ _ _ _ _ _ _ _ _ _ _ _ _ _ _ _ _ _ _ _ _ _ _ _ _ _ _ _ _ _ _ _ _ _ _ _ _ _ _ _ _ _ _ _ _ _ _ _ _ _ _ _ _ _ _ _ _ _ _ _ _ _ _ _ _ _ _ _ _ _ _ _ _ _ _ _ _ _ _ _ _ _ _ _ _ _ _ _ _ _ _ _ _ _ _ _ _ _ _ _ _ _ _ _ _ _ _ _ _ _ _ _ _ _ _ _ _ _ _ _ _ _ _ _ _ _ _ _ _ _ _ _ _ _ _ _ _ _ _ _ _ _ _ _ _ _ _ _ _ _ _ _ _ _ _ _ _ _ _ _ _ _ _ _ _ _ _ _ _ _ _ _ _ _ _ _ _ _ _ _ _ _ _ _ _ _ _ _ _ _ _ _ _ _ _ _ _ _ _ _ _ _ _ _ _ _ _ _ _ _ _ _ _ _ _ _ _ _ _ _ _ _ _ _ _ _ _ _ _ _ _ _ _ _ _ _ _ _ _ _ _ _ _ _ _ (LTm w T4 A T5 F8 base ls la lc v0 v1 (k + 1) q2 q3 q12 q13 q14 q15 q16 q17 q224 q225 q226 q227 q228 q229 q230 q231 q232 q233 q234 q235 q236 q237 q238 q239 q240 q241 q242 q243 q244 q245 q246 q247 q248 q249 q250 q251 q252 q253 q254 q255 q256 q257 q258 q259 q260) (LTm w T4 A T5 F8 base ls la lc v0 v1 (k + 1) q2 q3 q12 q13 q14 q15 q16 q17 q224 q225 q226 q227 q228 q229 q230 q231 q232 q233 q234 q235 q236 q237 q238 q239 q240 q241 q242 q243 q244 q245 q246 q247 q248 q249 q250 q251 q252 q253 q254 q255 q256 q257 q258 q259 q260) (fun _ _ q => q) (fun _ _ q => q)) ?_
    intro e a2 w2 hq
    cases e with
    | normal =>
      refine ⟨⟨k + 1, hlt, hq⟩, ?_⟩
      have h1 : numOf a2 = k + 1 := by
        have hT := hq
        obtain ⟨_, hT⟩ := hT
        obtain ⟨_, hT⟩ := hT
        obtain ⟨_, hT⟩ := hT
        obtain ⟨_, hT⟩ := hT
        obtain ⟨_, hT⟩ := hT
        obtain ⟨_, hT⟩ := hT
        obtain ⟨_, hT⟩ := hT
        obtain ⟨_, hT⟩ := hT
        obtain ⟨_, hT⟩ := hT
        obtain ⟨_, hT⟩ := hT
        obtain ⟨_, hT⟩ := hT
        obtain ⟨_, hT⟩ := hT
        obtain ⟨_, hT⟩ := hT
        obtain ⟨_, hT⟩ := hT
        obtain ⟨_, hT⟩ := hT
        obtain ⟨_, hT⟩ := hT
        obtain ⟨_, hT⟩ := hT
        obtain ⟨_, hT⟩ := hT
        obtain ⟨_, hT⟩ := hT
        obtain ⟨_, hT⟩ := hT
        obtain ⟨_, hT⟩ := hT
        obtain ⟨_, hT⟩ := hT
        obtain ⟨_, hT⟩ := hT
        obtain ⟨_, hT⟩ := hT
        obtain ⟨_, hT⟩ := hT
        obtain ⟨_, hT⟩ := hT
        obtain ⟨_, hT⟩ := hT
        obtain ⟨_, hT⟩ := hT
        obtain ⟨_, hT⟩ := hT
        obtain ⟨_, hT⟩ := hT
        obtain ⟨_, hT⟩ := hT
        obtain ⟨_, hT⟩ := hT
        obtain ⟨_, hT⟩ := hT
        obtain ⟨_, hT⟩ := hT
        obtain ⟨_, hT⟩ := hT
        obtain ⟨_, hT⟩ := hT
        obtain ⟨_, hT⟩ := hT
        obtain ⟨_, hT⟩ := hT
        obtain ⟨_, hT⟩ := hT
        obtain ⟨_, hT⟩ := hT
        obtain ⟨_, hT⟩ := hT
        obtain ⟨_, hT⟩ := hT
        obtain ⟨_, hT⟩ := hT
        obtain ⟨_, hT⟩ := hT
        obtain ⟨_, hT⟩ := hT
        obtain ⟨_, hT⟩ := hT
        obtain ⟨_, hT⟩ := hT
        obtain ⟨_, hT⟩ := hT
        obtain ⟨_, hT⟩ := hT
        obtain ⟨_, hT⟩ := hT
        obtain ⟨_, hT⟩ := hT
        obtain ⟨_, hT⟩ := hT
        obtain ⟨_, hT⟩ := hT
        obtain ⟨_, hT⟩ := hT
        obtain ⟨_, hT⟩ := hT
        obtain ⟨_, hT⟩ := hT
        obtain ⟨_, hT⟩ := hT
        obtain ⟨_, hT⟩ := hT
        obtain ⟨_, hT⟩ := hT
        obtain ⟨_, hT⟩ := hT
        obtain ⟨_, hT⟩ := hT
        obtain ⟨_, hT⟩ := hT
        obtain ⟨_, hT⟩ := hT
        obtain ⟨_, hT⟩ := hT
        obtain ⟨_, hT⟩ := hT
        obtain ⟨_, hT⟩ := hT
        obtain ⟨_, hT⟩ := hT
        obtain ⟨_, hT⟩ := hT
        obtain ⟨_, hT⟩ := hT
        obtain ⟨_, hT⟩ := hT
        obtain ⟨_, hT⟩ := hT
        obtain ⟨_, hT⟩ := hT
        obtain ⟨_, hT⟩ := hT
        obtain ⟨_, hT⟩ := hT
        obtain ⟨_, hT⟩ := hT
        obtain ⟨_, hT⟩ := hT
        obtain ⟨_, hT⟩ := hT
        obtain ⟨_, hT⟩ := hT
        obtain ⟨_, hT⟩ := hT
        obtain ⟨_, hT⟩ := hT
        obtain ⟨_, hT⟩ := hT
        obtain ⟨_, hT⟩ := hT
        obtain ⟨_, hT⟩ := hT
        obtain ⟨_, hT⟩ := hT
        obtain ⟨_, hT⟩ := hT
        obtain ⟨_, hT⟩ := hT
        obtain ⟨_, hT⟩ := hT
        obtain ⟨_, hT⟩ := hT
        obtain ⟨_, hT⟩ := hT
        obtain ⟨_, hT⟩ := hT
        obtain ⟨_, hT⟩ := hT
        obtain ⟨_, hT⟩ := hT
        obtain ⟨_, hT⟩ := hT
        obtain ⟨_, hT⟩ := hT
        obtain ⟨_, hT⟩ := hT
        obtain ⟨_, hT⟩ := hT
        obtain ⟨_, hT⟩ := hT
        obtain ⟨_, hT⟩ := hT
        obtain ⟨_, hT⟩ := hT
        obtain ⟨_, hT⟩ := hT
        obtain ⟨_, hT⟩ := hT
        obtain ⟨_, hT⟩ := hT
        obtain ⟨_, hT⟩ := hT
        obtain ⟨_, hT⟩ := hT
        obtain ⟨_, hT⟩ := hT
        obtain ⟨_, hT⟩ := hT
        obtain ⟨_, hT⟩ := hT
        obtain ⟨_, hT⟩ := hT
        obtain ⟨_, hT⟩ := hT
        obtain ⟨_, hT⟩ := hT
        obtain ⟨_, hT⟩ := hT
        obtain ⟨_, hT⟩ := hT
        obtain ⟨_, hT⟩ := hT
        obtain ⟨_, hT⟩ := hT
        obtain ⟨_, hT⟩ := hT
        obtain ⟨_, hT⟩ := hT
        obtain ⟨_, hT⟩ := hT
        obtain ⟨_, hT⟩ := hT
        obtain ⟨_, hT⟩ := hT
        obtain ⟨_, hT⟩ := hT
        obtain ⟨_, hT⟩ := hT
        obtain ⟨_, hT⟩ := hT
        obtain ⟨_, hT⟩ := hT
        obtain ⟨_, hT⟩ := hT
        obtain ⟨_, hT⟩ := hT
        obtain ⟨_, hT⟩ := hT
        obtain ⟨_, hT⟩ := hT
        obtain ⟨_, hT⟩ := hT
        obtain ⟨_, hT⟩ := hT
        obtain ⟨_, hT⟩ := hT
        obtain ⟨_, hT⟩ := hT
        obtain ⟨_, hT⟩ := hT
        obtain ⟨_, hT⟩ := hT
        obtain ⟨_, hT⟩ := hT
        obtain ⟨_, hT⟩ := hT
        obtain ⟨_, hT⟩ := hT
        obtain ⟨_, hT⟩ := hT
        obtain ⟨_, hT⟩ := hT
        obtain ⟨_, hT⟩ := hT
        obtain ⟨_, hT⟩ := hT
        obtain ⟨_, hT⟩ := hT
        obtain ⟨_, hT⟩ := hT
        obtain ⟨_, hT⟩ := hT
        obtain ⟨_, hT⟩ := hT
        obtain ⟨_, hT⟩ := hT
        obtain ⟨_, hT⟩ := hT
        obtain ⟨_, hT⟩ := hT
        obtain ⟨_, hT⟩ := hT
        obtain ⟨_, hT⟩ := hT
        obtain ⟨_, hT⟩ := hT
        obtain ⟨_, hT⟩ := hT
        obtain ⟨_, hT⟩ := hT
        obtain ⟨_, hT⟩ := hT
        obtain ⟨_, hT⟩ := hT
        obtain ⟨_, hT⟩ := hT
        obtain ⟨_, hT⟩ := hT
        obtain ⟨_, hT⟩ := hT
        obtain ⟨_, hT⟩ := hT
        obtain ⟨_, hT⟩ := hT
        obtain ⟨_, hT⟩ := hT
        obtain ⟨_, hT⟩ := hT
        obtain ⟨_, hT⟩ := hT
        obtain ⟨_, hT⟩ := hT
        obtain ⟨_, hT⟩ := hT
        obtain ⟨_, hT⟩ := hT
        obtain ⟨_, hT⟩ := hT
        obtain ⟨_, hT⟩ := hT
        obtain ⟨_, hT⟩ := hT
        obtain ⟨_, hT⟩ := hT
        obtain ⟨_, hT⟩ := hT
        obtain ⟨_, hT⟩ := hT
        obtain ⟨_, hT⟩ := hT
        obtain ⟨_, hT⟩ := hT
        obtain ⟨_, hT⟩ := hT
        obtain ⟨_, hT⟩ := hT
        obtain ⟨_, hT⟩ := hT
        obtain ⟨_, hT⟩ := hT
        obtain ⟨_, hT⟩ := hT
        obtain ⟨_, hT⟩ := hT
        obtain ⟨_, hT⟩ := hT
        obtain ⟨_, hT⟩ := hT
        obtain ⟨_, hT⟩ := hT
        obtain ⟨_, hT⟩ := hT
        obtain ⟨_, hT⟩ := hT
        obtain ⟨_, hT⟩ := hT
        obtain ⟨_, hT⟩ := hT
        obtain ⟨_, hT⟩ := hT
        obtain ⟨_, hT⟩ := hT
        obtain ⟨_, hT⟩ := hT
        obtain ⟨_, hT⟩ := hT
        obtain ⟨_, hT⟩ := hT
        obtain ⟨_, hT⟩ := hT
        obtain ⟨_, hT⟩ := hT
        obtain ⟨_, hT⟩ := hT
        obtain ⟨_, hT⟩ := hT
        obtain ⟨_, hT⟩ := hT
        obtain ⟨_, hT⟩ := hT
        obtain ⟨_, hT⟩ := hT
        obtain ⟨_, hT⟩ := hT
        obtain ⟨_, hT⟩ := hT
        obtain ⟨_, hT⟩ := hT
        obtain ⟨_, hT⟩ := hT
        obtain ⟨_, hT⟩ := hT
        obtain ⟨_, hT⟩ := hT
        obtain ⟨_, hT⟩ := hT
        obtain ⟨_, hT⟩ := hT
        obtain ⟨_, hT⟩ := hT
        obtain ⟨_, hT⟩ := hT
        obtain ⟨_, hT⟩ := hT
        obtain ⟨_, hT⟩ := hT
        obtain ⟨_, ha2⟩ := hT
        rw [ha2]; rfl
      rw [h1]
      show ls.length - (k + 1) < ls.length - k
      omega
    | _ => exact False.elim hq
  · have he : k = ls.length := by omega
    subst he
    exact tml_end w T4 A T5 F8 base ls la lc v0 v1 w' hl hti _ _ _ _ _ _ _ _ _ _ _ _ _ _ _ _ _ _ _ _ _ _ _ _ _ _ _ _ _ _ _ _ _ _ _ _ _ _ _ _ _ _ _ _ _ _ _ _ _ _ _ _ _ _ _ _ _ _ _ _ _ _ _ _ _ _ _ _ _ _ _ _ _ _ _ _ _ _ _ _ _ _ _ _ _ _ _ _ _ _ _ _ _ _ _ _ _ _ _ _ _ _ _ _ _ _ _ _ _ _ _ _ _ _ _ _ _ _ _ _ _ _ _ _ _ _ _ _ _ _ _ _ _ _ _ _ _ _ _ _ _ _ _ _ _ _ _ _ _ _ _ _ _ _ _ _ _ _ _ _ _ _ _ _ _ _ _ _ _ _ _ _ _ _ _ _ _ _ _ _ _ _ _ _ _ _ _ _ _ _ _ _ _ _ _ _ _ _ _ _ _ _ _ _ _ _ _ _ _ _ _ _ _ _ _ _ _ _ _ _ _ _ _ _ _ _ _ _ _ _ _ _ _ _ _ _ _ _ _ _ _ _ _ _ _ _ _ _ _ _ _ _ _ _ _ _ (fun a3 h3 => hM _ _ (Met.intro (hJ _ _ h3)))
end Go.Proofs.YtpgjfpphigeliaaGreatDoor

namespace Go.Proofs.YtpgjfpphigeliaaGreatDoor
open Go.RowKit
set_option maxHeartbeats 4000000
set_option maxRecDepth 100000

/-- Lines appended to lines, of any number. -/
theorem tm_rapp (w : World) {o : Oper} {a : Act} {K : Act → World → Prop} {Q : Exit → Act → World → Prop} (s x : Operand) (ho : o.op = .call { callee := .builtin .append, args := #[s, x], argTypes := #[22, 22] })
    (base : Nat) (L : List Ln) (v : Value) (hs : a.eval s = v) (hown : LnsOwn w base L v) (M : List Ln) (ad : Addr) (m c : Nat) (hx : a.eval x = .slice (some ad) m c) (hm : M.length = m) (hnews : ∀ j u, (M.flatMap lnCells)[j]? = some u → w.cell? (ad.add j) = some u)
    (hlen : L.length + m ≤ 1000000) (hbase : base ≤ w.heap.size)
    (h : ∀ v' w', LnsOwn w' base (L ++ M) v' → w.grownBy w' v.ownBlock → (v'.ownBlock = v.ownBlock ∨ v'.ownBlock = some w.heap.size) → K (a.put o.dst v') w') : o.wp Tryz.prog a w K Q := by
  obtain ⟨i0, hi, hz0, hz1, hz2⟩ := info_parts infoLn
  have hfl : ∀ M : List Ln, (M.flatMap lnCells).length = M.length * 7 := fun M => by
    induction M with
    | nil => rfl
    | cons y M ih => rw [List.flatMap_cons, List.length_append, ih, lnCells_len, List.length_cons]; omega
  obtain ⟨v', w', hr, h2, h3, h4, h5⟩ := run_append_own_at (P := Tryz.prog) w base 22 o.type 41 i0 _ 7 72 Tryz.underlying22 hi hz0 hz1 hz2 rfl (by decide) v L.length (L.flatMap lnCells) hown ad m c (M.flatMap lnCells) (by rw [hfl, hm]) hnews (fun u hu => by obtain ⟨y, _, hy⟩ := List.mem_flatMap.1 hu; exact lnCells_one y u hy) (by unfold maxLen; omega) (by omega) hbase
  unfold Oper.wp execOp
  simp only [ho, resolve, invoke, builtin, Sem.run_bind, Sem.run_pure, Result.andThen_ok, List.map_toArray, List.map_cons, List.map_nil, hs, hx, hr]
  refine h v' w' ?_ h3 h5
  unfold LnsOwn RwOwn
  rw [List.length_append, List.flatMap_append, hm]
  exact h2
theorem tm_row_cells {w : World} {base : Nat} {L : List Ln} {g n cap : Nat} (h : LnsOwn w base L (.slice (some ⟨g, 0, none⟩) n cap)) : ∀ j u, (L.flatMap lnCells)[j]? = some u → w.cell? ⟨g, j, none⟩ = some u := by
  intro j u hu
  have h2 := World.ownsRow.cells h (g := g) rfl j u hu
  have h3 : (⟨g, 0, none⟩ : Addr).add j = ⟨g, j, none⟩ := by unfold Addr.add; split <;> simp_all
  rwa [h3] at h2
theorem tmList_rapp (w : World) {ops : Array Oper} {rest : List Oper} {o : Oper} {a : Act} {Q : Exit → Act → World → Prop} (hgd : o.guard = none) (s x : Operand) (ho : o.op = .call { callee := .builtin .append, args := #[s, x], argTypes := #[22, 22] })
    (base : Nat) (L : List Ln) (v : Value) (hs : a.eval s = v) (hown : LnsOwn w base L v) (M : List Ln) (ad : Addr) (m c : Nat) (hx : a.eval x = .slice (some ad) m c) (hm : M.length = m) (hnews : ∀ j u, (M.flatMap lnCells)[j]? = some u → w.cell? (ad.add j) = some u)
    (hlen : L.length + m ≤ 1000000) (hbase : base ≤ w.heap.size)
    (h : ∀ v' w', LnsOwn w' base (L ++ M) v' → w.grownBy w' v.ownBlock → (v'.ownBlock = v.ownBlock ∨ v'.ownBlock = some w.heap.size) → wpList Tryz.prog ops Q rest (a.put o.dst v') w') : wpList Tryz.prog ops Q (o :: rest) a w :=
  wpList_plain hgd fun K hK => tm_rapp w s x ho base L v hs hown M ad m c hx hm hnews hlen hbase fun v' w' h1 h2 h3 => hK _ _ (h v' w' h1 h2 h3)
/-- The head as it grows. -/
def headP (first : List Int) (j : Nat) : List Ln := (List.range j).map fun i => lnI ⟨16, fewN i, 0, 0, firZ first i, []⟩
theorem headP_succ (first : List Int) (j : Nat) : headP first (j + 1) = headP first j ++ [lnI ⟨16, fewN j, 0, 0, firZ first j, []⟩] := by
  unfold headP
  rw [List.range_succ, List.map_append]; rfl
theorem headP_len (first : List Int) (j : Nat) : (headP first j).length = j := by unfold headP; simp
theorem TmIn.grow {w : World} {T4 A T5 F8 base : Nat} {ls : List Ln} {vl : Value} {wr w' : World} (h : TmIn w T4 A T5 F8 base ls vl wr) {row : Option Nat} (hg : wr.grownBy w' row) (hr : ∀ g, row = some g → F8 < g) : TmIn w T4 A T5 F8 base ls vl w' := by
  have h1 := h.o1; have h2 := h.o2; have h3 := h.o3; have h4 := h.o4; have h5 := h.o5
  refine ⟨h.r.grow hg (fun e => by have := hr _ e; omega), h.aa.grow hg (fun e => by have := hr _ e; omega), h.x.grow hg (fun e => by have := hr _ e; omega), h.few.grow hg (fun e => by have := hr _ e; omega), RwOwn.grown h.ln hg ?_, h.lt5, h1, h2, h3, h4, h5, below_grow h.be hg (fun g e => by have := hr g e; omega) h.be.size⟩
  cases e : vl.ownBlock with
  | none => exact .inl rfl
  | some g => exact .inr (fun e2 => by have := h.lt5 g e; have := hr g e2.symm; omega)
theorem TmIn.other {w : World} {T4 A T5 F8 base : Nat} {ls : List Ln} {vl : Value} {wr : World} (h : TmIn w T4 A T5 F8 base ls vl wr) {g : Nat} (hg : F8 < g) (i : Nat) (v : Value) : TmIn w T4 A T5 F8 base ls vl (wr.setCell ⟨g, i, none⟩ v) := by
  have h1 := h.o1; have h2 := h.o2; have h3 := h.o3; have h4 := h.o4; have h5 := h.o5
  exact ⟨h.r.other (by omega) i v, h.aa.other (by omega) i v, h.x.other (by omega) i v, h.few.other (by omega) i v, RwOwn.set h.ln (fun e => by have := h.lt5 g e; omega) i v, h.lt5, h1, h2, h3, h4, h5, zbelow_set h.be (by omega) i v⟩
theorem addr0 (g j : Nat) : (⟨g, 0, none⟩ : Addr).add j = ⟨g, j, none⟩ := by unfold Addr.add; split <;> simp_all
def head5 (first : List Int) : List Ln := [lnI ⟨17, 5, 0, 0, 0, bB⟩, lnI ⟨16, 6, 0, 0, firZ first 1, []⟩, lnI ⟨16, 7, 0, 0, firZ first 2, []⟩, lnI ⟨16, 10, 0, 0, firZ first 3, []⟩, lnI ⟨16, 17, 0, 0, firZ first 4, []⟩]
theorem rawfit_ok {raw : List Ln} (h : RawL raw) : ∀ x, x ∈ (fitC raw).lines → LnOk x := by
  intro x hx
  have hg := fitC_good h
  obtain ⟨j, hj, e⟩ := List.getElem_of_mem hx
  rcases hg.line j hj with ⟨h1, h2, h3, _⟩ | ⟨h1, h2, m, h3⟩
  · rw [e] at h1 h2 h3
    exact .inl ⟨h1, h2, h3⟩
  · rw [e] at h1 h2 h3
    exact .inr ⟨h1, by rw [h3]; exact (label_mem (iname_ok m)).2.2, by rw [h2]; exact Nat.zero_le _⟩
end Go.Proofs.YtpgjfpphigeliaaGreatDoor
