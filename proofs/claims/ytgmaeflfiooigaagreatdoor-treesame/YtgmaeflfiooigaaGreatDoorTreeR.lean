/-
  The switch of scope.stmts, case ret. Conditions: the source, the scope and the statement lie in memory as the types say.
  The switch of scope.stmts, case retno. Conditions: the source, the scope and the statement lie in memory as the types say.
  The switch of scope.stmts, case brk. Conditions: the source, the scope and the statement lie in memory as the types say.
  The switch of scope.stmts, case brkno. Conditions: the source, the scope and the statement lie in memory as the types say.
  The switch of scope.stmts, case if. Conditions: the source, the scope and the statement lie in memory as the types say.
-/
import Derived.Test.YtgmaeflfiooigaaGreatDoorTreeP
set_option linter.unusedVariables false
set_option linter.unusedSimpArgs false
namespace Go.Proofs.YtgmaeflfiooigaaGreatDoor
open Go.RowKit
set_option maxHeartbeats 8000000
set_option maxRecDepth 100000

theorem sw_ret (d s : Nat) (raw : List Int) (sc : Sc) (v1 a1 f1 : Option Addr) (v2 a2 f2 : Nat) (gs gl : Nat → List St × Nat) (C X : Nat) (K : Int) (HA HV HB : Bool) (ka : Nat) (wr W : World) (hd1 : d ≤ 1000) (hsc : ScAt s wr sc (.slice v1 sc.vars.length v2) (.slice a1 sc.arrays.length a2) (.slice f1 sc.funcs.length f2)) (hC : OwnAt W C [.slice v1 sc.vars.length v2, .slice a1 sc.arrays.length a2, .slice f1 sc.funcs.length f2, .bool sc.free, .bool sc.loop] 69) (hH : HeadIs wr X s raw 8 [] [] none 0 [] [] (.slice none 0 0) (.slice none 0 0) ka W) (hCX : C < X) (hsC : s < C) (hd0 : 0 ≤ K) (hd14 : K < 14) (hKd : 7 ≤ K → K < 11 → 2 ≤ d) (eA : sc.hasArrays = HA) (eV : sc.hasVars = HV) (eF : sc.hasFuncs = HB) (hK : K = 6) (hv : (gNext raw ka 3).1 = 2)  (q0 q4 q5 q6 q7 q8 q9 q15 q16 q17 q18 q19 q20 q21 q22 q23 q24 q25 q26 q27 q28 q29 q30 q31 q32 q33 q34 q35 q36 q37 q38 q39 q40 q41 q42 q43 q44 q45 q46 q47 q48 q49 q50 q51 q52 q53 q54 q55 q56 q57 q58 q59 q60 q61 q62 q63 q64 q65 q66 q67 q68 q69 q70 q71 q72 q73 q74 q75 q76 q77 q78 q79 q80 q81 q82 q83 q84 q85 q86 q87 q88 q89 q90 q91 q92 q93 q94 q95 q96 q97 q98 q99 q100 q101 q102 q103 q104 q105 q106 q107 q108 q109 q110 q111 q112 q113 q114 q115 q116 q117 q118 q119 q120 q121 q122 q123 q124 q125 q126 q127 q128 q129 q130 q131 q132 q133 q134 q135 q136 q137 q138 q139 q140 q141 q142 q143 q144 q145 q146 q147 q148 q149 q150 q151 q152 q153 q154 q155 q156 q157 q158 q159 q160 q161 q162 q163 q164 q165 q166 q167 q168 q169 q170 q171 q172 q173 q174 q175 q176 q177 q178 q179 q180 q181 q182 q183 q184 q185 q186 q187 q188 q189 q190 q191 q192 q193 q194 q195 q196 q197 q198 q199 q200 q201 q202 q203 q204 q205 q206 q207 q208 q209 q210 q211 q212 q213 q214 q215 q216 q217 q218 q219 q220 q221 q222 q223 q224 q225 : Value) (J K' : Act → World → Prop) (hJ : ∀ a' w', SwR d s C X K HA HV HB wr raw (gStHead sc raw gs gl K ka) q0 q4 q5 q6 q7 q8 q9 q16 q17 q18 q19 q20 q21 q22 q23 q24 q25 q26 q27 q28 q29 q30 q31 q32 q33 q34 q35 q36 q37 q38 q39 q40 q41 q42 q43 q44 q45 q46 q47 q48 q49 q50 q51 q52 q53 q54 q55 q56 q57 q58 q59 q60 q197 q198 q199 q200 q201 q202 q203 q204 q205 q206 q207 q208 q209 q210 q211 q212 q213 q214 q215 q216 q217 q218 q219 q220 q221 q222 q223 q224 q225 a' w' → J a' w') (hM : ∀ a' w', Met J a' w' → K' a' w') :
    Code.wp Tryz.prog swCode (Exit.then K' (fun _ _ _ => False)) ⟨[q0, .pointer (some ⟨s, 0, none⟩), .int .i64 d, .pointer (some ⟨C, 0, none⟩), q4, q5, q6, q7, q8, q9, .int .i64 K, .pointer (some ⟨X, 0, none⟩), .bool HA, .bool HV, .bool HB, q15, q16, q17, q18, q19, q20, q21, q22, q23, q24, q25, q26, q27, q28, q29, q30, q31, q32, q33, q34, q35, q36, q37, q38, q39, q40, q41, q42, q43, q44, q45, q46, q47, q48, q49, q50, q51, q52, q53, q54, q55, q56, q57, q58, q59, q60, q61, q62, q63, q64, q65, q66, q67, q68, q69, q70, q71, q72, q73, q74, q75, q76, q77, q78, q79, q80, q81, q82, q83, q84, q85, q86, q87, q88, q89, q90, q91, q92, q93, q94, q95, q96, q97, q98, q99, q100, q101, q102, q103, q104, q105, q106, q107, q108, q109, q110, q111, q112, q113, q114, q115, q116, q117, q118, q119, q120, q121, q122, q123, q124, q125, q126, q127, q128, q129, q130, q131, q132, q133, q134, q135, q136, q137, q138, q139, q140, q141, q142, q143, q144, q145, q146, q147, q148, q149, q150, q151, q152, q153, q154, q155, q156, q157, q158, q159, q160, q161, q162, q163, q164, q165, q166, q167, q168, q169, q170, q171, q172, q173, q174, q175, q176, q177, q178, q179, q180, q181, q182, q183, q184, q185, q186, q187, q188, q189, q190, q191, q192, q193, q194, q195, q196, q197, q198, q199, q200, q201, q202, q203, q204, q205, q206, q207, q208, q209, q210, q211, q212, q213, q214, q215, q216, q217, q218, q219, q220, q221, q222, q223, q224, q225].toArray, []⟩ W := by
  obtain ⟨lv, la, lf⟩ : sc.vars.length ≤ 1000000 ∧ sc.arrays.length ≤ 1000000 ∧ sc.funcs.length ≤ 1000000 := ⟨hsc.v1, hsc.a1, hsc.f1⟩
  have HSC := Lib.hid hsc; have HH3 := Lib.hid hH; have HC3 := Lib.hid hC
  have HY : Hid (C ≠ s) := by show _ ≠ _; omega
  have HCX : Hid (C < X) := hCX
  have hXl := hH.lt; have hCl := hC.lt; have hsX := hH.gt
  clear hsc hH hC
  have EV := Lib.hid eV; have EA := Lib.hid eA; have EF := Lib.hid eF
  clear eV eA eF
  subst hK
  have E := head_ret (sc := sc) (raw := raw) (gs := gs) (gl := gl) (a := ka) hv
  rw [E] at hJ
  clear E
  have HN : Hid (∀ w1, SrcAt w1 s raw ka → Calls Tryz.prog 32 #[.pointer (some ⟨s, 0, none⟩), .int .i64 3] w1 (Takes w1 s raw (.int .i64 (gNext raw ka 3).1) (gNext raw ka 3).2)) := fun w1 h1 => next_any s raw ka 3 w1 h1 (by decide) (by decide)
  rw [hv] at HN
  generalize (gNext raw ka 3).2 = na at *
  have HM : Hid (∀ w1, SrcAt w1 s raw na → Calls Tryz.prog 32 #[.pointer (some ⟨s, 0, none⟩), .int .i64 2] w1 (Takes w1 s raw (.int .i64 (gNext raw na 2).1) (gNext raw na 2).2)) := fun w1 h1 => next_any s raw na 2 w1 h1 (by decide) (by decide)
  have hr := gNext_range raw na 2 (by decide)
  generalize gNext raw na 2 = j at *
  obtain ⟨j, ja⟩ := j
  dsimp only at HM hJ hr
  clear hv
  conv => arg 2; whnf
  go_wp2_with fail
  refine (HN.out _ HH3.out.src).mono ?_
  rintro r w5 ⟨rfl, hs5, hf5⟩
  have hb5 : Below w5.heap.size w5 (w5.alloc (.cells #[.int .i64 7, .int .i64 9] 3)) := (Below.refl _ _).alloc (Nat.le_refl _) _
  have HH5 := Lib.hid ((HH3.out.sfr hs5 hf5).below hb5)
  have HL5 := Lib.hid (OwnAt.new w5 [.int .i64 7, .int .i64 9] 3)
  have hs5z := hf5.size
  clear hs5 hf5 hb5
  go_wp2_with fail
  refine (HM.out _ HH5.out.src).mono ?_
  rintro r w7 ⟨rfl, hs7, hf7⟩
  have HH7 := Lib.hid (HH5.out.sfr hs7 hf7)
  have HL7 := Lib.hid (HL5.out.sfr hf7 (by omega))
  clear hs7 hf7 HL5 HH5
  have y0 := HH7.out.own.at 0 _ rfl
  have y1 := HH7.out.own.at 1 _ rfl
  have y2 := HH7.out.own.at 2 _ rfl
  have y3 := HH7.out.own.at 3 _ rfl
  have y4 := HH7.out.own.at 4 _ rfl
  have fy0 := HH7.out.own.fz 0
  have hXl5 := HH7.out.lt
  have l0 := HL7.out.at 0 _ rfl
  have l1 := HL7.out.at 1 _ rfl
  obtain ⟨j0, j1⟩ := hr
  have hj : j = 0 ∨ j = 1 := by omega
  rcases hj with rfl | rfl
  · rw [if_pos rfl] at hJ
    go_wp2_with fail
    go_meet
    exact (HH7.out.kind 7).to rfl
  · rw [if_neg (by decide)] at hJ
    go_wp2_with fail
    go_meet
    exact (HH7.out.kind 9).to rfl
end Go.Proofs.YtgmaeflfiooigaaGreatDoor

namespace Go.Proofs.YtgmaeflfiooigaaGreatDoor
open Go.RowKit
set_option maxHeartbeats 8000000
set_option maxRecDepth 100000

theorem sw_retno (d s : Nat) (raw : List Int) (sc : Sc) (v1 a1 f1 : Option Addr) (v2 a2 f2 : Nat) (gs gl : Nat → List St × Nat) (C X : Nat) (K : Int) (HA HV HB : Bool) (ka : Nat) (wr W : World) (hd1 : d ≤ 1000) (hsc : ScAt s wr sc (.slice v1 sc.vars.length v2) (.slice a1 sc.arrays.length a2) (.slice f1 sc.funcs.length f2)) (hC : OwnAt W C [.slice v1 sc.vars.length v2, .slice a1 sc.arrays.length a2, .slice f1 sc.funcs.length f2, .bool sc.free, .bool sc.loop] 69) (hH : HeadIs wr X s raw 8 [] [] none 0 [] [] (.slice none 0 0) (.slice none 0 0) ka W) (hCX : C < X) (hsC : s < C) (hd0 : 0 ≤ K) (hd14 : K < 14) (hKd : 7 ≤ K → K < 11 → 2 ≤ d) (eA : sc.hasArrays = HA) (eV : sc.hasVars = HV) (eF : sc.hasFuncs = HB) (hK : K = 6) (hv : ¬ (gNext raw ka 3).1 = 2)  (q0 q4 q5 q6 q7 q8 q9 q15 q16 q17 q18 q19 q20 q21 q22 q23 q24 q25 q26 q27 q28 q29 q30 q31 q32 q33 q34 q35 q36 q37 q38 q39 q40 q41 q42 q43 q44 q45 q46 q47 q48 q49 q50 q51 q52 q53 q54 q55 q56 q57 q58 q59 q60 q61 q62 q63 q64 q65 q66 q67 q68 q69 q70 q71 q72 q73 q74 q75 q76 q77 q78 q79 q80 q81 q82 q83 q84 q85 q86 q87 q88 q89 q90 q91 q92 q93 q94 q95 q96 q97 q98 q99 q100 q101 q102 q103 q104 q105 q106 q107 q108 q109 q110 q111 q112 q113 q114 q115 q116 q117 q118 q119 q120 q121 q122 q123 q124 q125 q126 q127 q128 q129 q130 q131 q132 q133 q134 q135 q136 q137 q138 q139 q140 q141 q142 q143 q144 q145 q146 q147 q148 q149 q150 q151 q152 q153 q154 q155 q156 q157 q158 q159 q160 q161 q162 q163 q164 q165 q166 q167 q168 q169 q170 q171 q172 q173 q174 q175 q176 q177 q178 q179 q180 q181 q182 q183 q184 q185 q186 q187 q188 q189 q190 q191 q192 q193 q194 q195 q196 q197 q198 q199 q200 q201 q202 q203 q204 q205 q206 q207 q208 q209 q210 q211 q212 q213 q214 q215 q216 q217 q218 q219 q220 q221 q222 q223 q224 q225 : Value) (J K' : Act → World → Prop) (hJ : ∀ a' w', SwR d s C X K HA HV HB wr raw (gStHead sc raw gs gl K ka) q0 q4 q5 q6 q7 q8 q9 q16 q17 q18 q19 q20 q21 q22 q23 q24 q25 q26 q27 q28 q29 q30 q31 q32 q33 q34 q35 q36 q37 q38 q39 q40 q41 q42 q43 q44 q45 q46 q47 q48 q49 q50 q51 q52 q53 q54 q55 q56 q57 q58 q59 q60 q197 q198 q199 q200 q201 q202 q203 q204 q205 q206 q207 q208 q209 q210 q211 q212 q213 q214 q215 q216 q217 q218 q219 q220 q221 q222 q223 q224 q225 a' w' → J a' w') (hM : ∀ a' w', Met J a' w' → K' a' w') :
    Code.wp Tryz.prog swCode (Exit.then K' (fun _ _ _ => False)) ⟨[q0, .pointer (some ⟨s, 0, none⟩), .int .i64 d, .pointer (some ⟨C, 0, none⟩), q4, q5, q6, q7, q8, q9, .int .i64 K, .pointer (some ⟨X, 0, none⟩), .bool HA, .bool HV, .bool HB, q15, q16, q17, q18, q19, q20, q21, q22, q23, q24, q25, q26, q27, q28, q29, q30, q31, q32, q33, q34, q35, q36, q37, q38, q39, q40, q41, q42, q43, q44, q45, q46, q47, q48, q49, q50, q51, q52, q53, q54, q55, q56, q57, q58, q59, q60, q61, q62, q63, q64, q65, q66, q67, q68, q69, q70, q71, q72, q73, q74, q75, q76, q77, q78, q79, q80, q81, q82, q83, q84, q85, q86, q87, q88, q89, q90, q91, q92, q93, q94, q95, q96, q97, q98, q99, q100, q101, q102, q103, q104, q105, q106, q107, q108, q109, q110, q111, q112, q113, q114, q115, q116, q117, q118, q119, q120, q121, q122, q123, q124, q125, q126, q127, q128, q129, q130, q131, q132, q133, q134, q135, q136, q137, q138, q139, q140, q141, q142, q143, q144, q145, q146, q147, q148, q149, q150, q151, q152, q153, q154, q155, q156, q157, q158, q159, q160, q161, q162, q163, q164, q165, q166, q167, q168, q169, q170, q171, q172, q173, q174, q175, q176, q177, q178, q179, q180, q181, q182, q183, q184, q185, q186, q187, q188, q189, q190, q191, q192, q193, q194, q195, q196, q197, q198, q199, q200, q201, q202, q203, q204, q205, q206, q207, q208, q209, q210, q211, q212, q213, q214, q215, q216, q217, q218, q219, q220, q221, q222, q223, q224, q225].toArray, []⟩ W := by
  obtain ⟨lv, la, lf⟩ : sc.vars.length ≤ 1000000 ∧ sc.arrays.length ≤ 1000000 ∧ sc.funcs.length ≤ 1000000 := ⟨hsc.v1, hsc.a1, hsc.f1⟩
  have HSC := Lib.hid hsc; have HH3 := Lib.hid hH; have HC3 := Lib.hid hC
  have HY : Hid (C ≠ s) := by show _ ≠ _; omega
  have HCX : Hid (C < X) := hCX
  have hXl := hH.lt; have hCl := hC.lt; have hsX := hH.gt
  clear hsc hH hC
  have EV := Lib.hid eV; have EA := Lib.hid eA; have EF := Lib.hid eF
  clear eV eA eF
  subst hK
  have E := head_ret_no (sc := sc) (raw := raw) (gs := gs) (gl := gl) (a := ka) hv
  rw [E] at hJ
  clear E
  have HN : Hid (∀ w1, SrcAt w1 s raw ka → Calls Tryz.prog 32 #[.pointer (some ⟨s, 0, none⟩), .int .i64 3] w1 (Takes w1 s raw (.int .i64 (gNext raw ka 3).1) (gNext raw ka 3).2)) := fun w1 h1 => next_any s raw ka 3 w1 h1 (by decide) (by decide)
  generalize gNext raw ka 3 = j at *
  obtain ⟨j, ja⟩ := j
  dsimp only at HN hJ hv
  have hne : (j == 2) = false := beq_eq_false_iff_ne.2 hv
  clear hv
  conv => arg 2; whnf
  go_wp2_with fail
  refine (HN.out _ HH3.out.src).mono ?_
  rintro r w5 ⟨rfl, hs5, hf5⟩
  have HH5 := Lib.hid (HH3.out.sfr hs5 hf5)
  clear hs5 hf5
  go_wp2_with fail
  go_meet
  exact HH5.out.to rfl
end Go.Proofs.YtgmaeflfiooigaaGreatDoor

namespace Go.Proofs.YtgmaeflfiooigaaGreatDoor
open Go.RowKit
set_option maxHeartbeats 8000000
set_option maxRecDepth 100000

theorem sw_brk (d s : Nat) (raw : List Int) (sc : Sc) (v1 a1 f1 : Option Addr) (v2 a2 f2 : Nat) (gs gl : Nat → List St × Nat) (C X : Nat) (K : Int) (HA HV HB : Bool) (ka : Nat) (wr W : World) (hd1 : d ≤ 1000) (hsc : ScAt s wr sc (.slice v1 sc.vars.length v2) (.slice a1 sc.arrays.length a2) (.slice f1 sc.funcs.length f2)) (hC : OwnAt W C [.slice v1 sc.vars.length v2, .slice a1 sc.arrays.length a2, .slice f1 sc.funcs.length f2, .bool sc.free, .bool sc.loop] 69) (hH : HeadIs wr X s raw 8 [] [] none 0 [] [] (.slice none 0 0) (.slice none 0 0) ka W) (hCX : C < X) (hsC : s < C) (hd0 : 0 ≤ K) (hd14 : K < 14) (hKd : 7 ≤ K → K < 11 → 2 ≤ d) (eA : sc.hasArrays = HA) (eV : sc.hasVars = HV) (eF : sc.hasFuncs = HB) (hK : K = 11) (hb : (sc.loop || sc.free) = true) (hv : (gNext raw ka 2).1 = 1)  (q0 q4 q5 q6 q7 q8 q9 q15 q16 q17 q18 q19 q20 q21 q22 q23 q24 q25 q26 q27 q28 q29 q30 q31 q32 q33 q34 q35 q36 q37 q38 q39 q40 q41 q42 q43 q44 q45 q46 q47 q48 q49 q50 q51 q52 q53 q54 q55 q56 q57 q58 q59 q60 q61 q62 q63 q64 q65 q66 q67 q68 q69 q70 q71 q72 q73 q74 q75 q76 q77 q78 q79 q80 q81 q82 q83 q84 q85 q86 q87 q88 q89 q90 q91 q92 q93 q94 q95 q96 q97 q98 q99 q100 q101 q102 q103 q104 q105 q106 q107 q108 q109 q110 q111 q112 q113 q114 q115 q116 q117 q118 q119 q120 q121 q122 q123 q124 q125 q126 q127 q128 q129 q130 q131 q132 q133 q134 q135 q136 q137 q138 q139 q140 q141 q142 q143 q144 q145 q146 q147 q148 q149 q150 q151 q152 q153 q154 q155 q156 q157 q158 q159 q160 q161 q162 q163 q164 q165 q166 q167 q168 q169 q170 q171 q172 q173 q174 q175 q176 q177 q178 q179 q180 q181 q182 q183 q184 q185 q186 q187 q188 q189 q190 q191 q192 q193 q194 q195 q196 q197 q198 q199 q200 q201 q202 q203 q204 q205 q206 q207 q208 q209 q210 q211 q212 q213 q214 q215 q216 q217 q218 q219 q220 q221 q222 q223 q224 q225 : Value) (J K' : Act → World → Prop) (hJ : ∀ a' w', SwR d s C X K HA HV HB wr raw (gStHead sc raw gs gl K ka) q0 q4 q5 q6 q7 q8 q9 q16 q17 q18 q19 q20 q21 q22 q23 q24 q25 q26 q27 q28 q29 q30 q31 q32 q33 q34 q35 q36 q37 q38 q39 q40 q41 q42 q43 q44 q45 q46 q47 q48 q49 q50 q51 q52 q53 q54 q55 q56 q57 q58 q59 q60 q197 q198 q199 q200 q201 q202 q203 q204 q205 q206 q207 q208 q209 q210 q211 q212 q213 q214 q215 q216 q217 q218 q219 q220 q221 q222 q223 q224 q225 a' w' → J a' w') (hM : ∀ a' w', Met J a' w' → K' a' w') :
    Code.wp Tryz.prog swCode (Exit.then K' (fun _ _ _ => False)) ⟨[q0, .pointer (some ⟨s, 0, none⟩), .int .i64 d, .pointer (some ⟨C, 0, none⟩), q4, q5, q6, q7, q8, q9, .int .i64 K, .pointer (some ⟨X, 0, none⟩), .bool HA, .bool HV, .bool HB, q15, q16, q17, q18, q19, q20, q21, q22, q23, q24, q25, q26, q27, q28, q29, q30, q31, q32, q33, q34, q35, q36, q37, q38, q39, q40, q41, q42, q43, q44, q45, q46, q47, q48, q49, q50, q51, q52, q53, q54, q55, q56, q57, q58, q59, q60, q61, q62, q63, q64, q65, q66, q67, q68, q69, q70, q71, q72, q73, q74, q75, q76, q77, q78, q79, q80, q81, q82, q83, q84, q85, q86, q87, q88, q89, q90, q91, q92, q93, q94, q95, q96, q97, q98, q99, q100, q101, q102, q103, q104, q105, q106, q107, q108, q109, q110, q111, q112, q113, q114, q115, q116, q117, q118, q119, q120, q121, q122, q123, q124, q125, q126, q127, q128, q129, q130, q131, q132, q133, q134, q135, q136, q137, q138, q139, q140, q141, q142, q143, q144, q145, q146, q147, q148, q149, q150, q151, q152, q153, q154, q155, q156, q157, q158, q159, q160, q161, q162, q163, q164, q165, q166, q167, q168, q169, q170, q171, q172, q173, q174, q175, q176, q177, q178, q179, q180, q181, q182, q183, q184, q185, q186, q187, q188, q189, q190, q191, q192, q193, q194, q195, q196, q197, q198, q199, q200, q201, q202, q203, q204, q205, q206, q207, q208, q209, q210, q211, q212, q213, q214, q215, q216, q217, q218, q219, q220, q221, q222, q223, q224, q225].toArray, []⟩ W := by
  obtain ⟨lv, la, lf⟩ : sc.vars.length ≤ 1000000 ∧ sc.arrays.length ≤ 1000000 ∧ sc.funcs.length ≤ 1000000 := ⟨hsc.v1, hsc.a1, hsc.f1⟩
  have HSC := Lib.hid hsc; have HH3 := Lib.hid hH; have HC3 := Lib.hid hC
  have HY : Hid (C ≠ s) := by show _ ≠ _; omega
  have HCX : Hid (C < X) := hCX
  have hXl := hH.lt; have hCl := hC.lt; have hsX := hH.gt
  clear hsc hH hC
  have EV := Lib.hid eV; have EA := Lib.hid eA; have EF := Lib.hid eF
  clear eV eA eF
  subst hK
  have E := head_brk (sc := sc) (raw := raw) (gs := gs) (gl := gl) (a := ka) hb hv
  rw [E] at hJ
  clear E
  have HN : Hid (∀ w1, SrcAt w1 s raw ka → Calls Tryz.prog 32 #[.pointer (some ⟨s, 0, none⟩), .int .i64 2] w1 (Takes w1 s raw (.int .i64 (gNext raw ka 2).1) (gNext raw ka 2).2)) := fun w1 h1 => next_any s raw ka 2 w1 h1 (by decide) (by decide)
  rw [hv] at HN
  generalize (gNext raw ka 2).2 = na at *
  have HM : Hid (∀ w1, SrcAt w1 s raw na → Calls Tryz.prog 32 #[.pointer (some ⟨s, 0, none⟩), .int .i64 2] w1 (Takes w1 s raw (.int .i64 (gNext raw na 2).1) (gNext raw na 2).2)) := fun w1 h1 => next_any s raw na 2 w1 h1 (by decide) (by decide)
  have hr := gNext_range raw na 2 (by decide)
  generalize gNext raw na 2 = j at *
  obtain ⟨j, ja⟩ := j
  dsimp only at HM hJ hr
  clear hv
  obtain ⟨lb, elb⟩ : ∃ lb, lb = sc.loop := ⟨_, rfl⟩
  obtain ⟨fb, efb⟩ : ∃ fb, fb = sc.free := ⟨_, rfl⟩
  rw [← elb, ← efb] at HC3 hb
  have b3 := HC3.out.at 3 _ rfl
  have b4 := HC3.out.at 4 _ rfl
  clear elb efb
  have hcase : (lb = true) ∨ (lb = false ∧ fb = true) := by revert hb; cases lb <;> cases fb <;> simp
  clear hb
  rcases hcase with rfl | ⟨rfl, rfl⟩
  all_goals
    conv => arg 2; whnf
    go_wp2_with fail
    refine (HN.out _ HH3.out.src).mono ?_
    rintro r w5 ⟨rfl, hs5, hf5⟩
    have hb5 : Below w5.heap.size w5 (w5.alloc (.cells #[.int .i64 5, .int .i64 6] 3)) := (Below.refl _ _).alloc (Nat.le_refl _) _
    have HH5 := Lib.hid ((HH3.out.sfr hs5 hf5).below hb5)
    have HL5 := Lib.hid (OwnAt.new w5 [.int .i64 5, .int .i64 6] 3)
    have hs5z := hf5.size
    clear hs5 hf5 hb5
    go_wp2_with fail
    refine (HM.out _ HH5.out.src).mono ?_
    rintro r w7 ⟨rfl, hs7, hf7⟩
    have HH7 := Lib.hid (HH5.out.sfr hs7 hf7)
    have HL7 := Lib.hid (HL5.out.sfr hf7 (by omega))
    clear hs7 hf7 HL5 HH5
    have y0 := HH7.out.own.at 0 _ rfl
    have y1 := HH7.out.own.at 1 _ rfl
    have y2 := HH7.out.own.at 2 _ rfl
    have y3 := HH7.out.own.at 3 _ rfl
    have y4 := HH7.out.own.at 4 _ rfl
    have fy0 := HH7.out.own.fz 0
    have hXl5 := HH7.out.lt
    have l0 := HL7.out.at 0 _ rfl
    have l1 := HL7.out.at 1 _ rfl
    obtain ⟨j0, j1⟩ := hr
    have hj : j = 0 ∨ j = 1 := by omega
    rcases hj with rfl | rfl
    · rw [if_pos rfl] at hJ
      go_wp2_with fail
      go_meet
      exact (HH7.out.kind 5).to rfl
    · rw [if_neg (by decide)] at hJ
      go_wp2_with fail
      go_meet
      exact (HH7.out.kind 6).to rfl
end Go.Proofs.YtgmaeflfiooigaaGreatDoor

namespace Go.Proofs.YtgmaeflfiooigaaGreatDoor
open Go.RowKit
set_option maxHeartbeats 8000000
set_option maxRecDepth 100000

theorem sw_brkno (d s : Nat) (raw : List Int) (sc : Sc) (v1 a1 f1 : Option Addr) (v2 a2 f2 : Nat) (gs gl : Nat → List St × Nat) (C X : Nat) (K : Int) (HA HV HB : Bool) (ka : Nat) (wr W : World) (hd1 : d ≤ 1000) (hsc : ScAt s wr sc (.slice v1 sc.vars.length v2) (.slice a1 sc.arrays.length a2) (.slice f1 sc.funcs.length f2)) (hC : OwnAt W C [.slice v1 sc.vars.length v2, .slice a1 sc.arrays.length a2, .slice f1 sc.funcs.length f2, .bool sc.free, .bool sc.loop] 69) (hH : HeadIs wr X s raw 8 [] [] none 0 [] [] (.slice none 0 0) (.slice none 0 0) ka W) (hCX : C < X) (hsC : s < C) (hd0 : 0 ≤ K) (hd14 : K < 14) (hKd : 7 ≤ K → K < 11 → 2 ≤ d) (eA : sc.hasArrays = HA) (eV : sc.hasVars = HV) (eF : sc.hasFuncs = HB) (hK : K = 11) (hb : (sc.loop || sc.free) = true) (hv : ¬ (gNext raw ka 2).1 = 1)  (q0 q4 q5 q6 q7 q8 q9 q15 q16 q17 q18 q19 q20 q21 q22 q23 q24 q25 q26 q27 q28 q29 q30 q31 q32 q33 q34 q35 q36 q37 q38 q39 q40 q41 q42 q43 q44 q45 q46 q47 q48 q49 q50 q51 q52 q53 q54 q55 q56 q57 q58 q59 q60 q61 q62 q63 q64 q65 q66 q67 q68 q69 q70 q71 q72 q73 q74 q75 q76 q77 q78 q79 q80 q81 q82 q83 q84 q85 q86 q87 q88 q89 q90 q91 q92 q93 q94 q95 q96 q97 q98 q99 q100 q101 q102 q103 q104 q105 q106 q107 q108 q109 q110 q111 q112 q113 q114 q115 q116 q117 q118 q119 q120 q121 q122 q123 q124 q125 q126 q127 q128 q129 q130 q131 q132 q133 q134 q135 q136 q137 q138 q139 q140 q141 q142 q143 q144 q145 q146 q147 q148 q149 q150 q151 q152 q153 q154 q155 q156 q157 q158 q159 q160 q161 q162 q163 q164 q165 q166 q167 q168 q169 q170 q171 q172 q173 q174 q175 q176 q177 q178 q179 q180 q181 q182 q183 q184 q185 q186 q187 q188 q189 q190 q191 q192 q193 q194 q195 q196 q197 q198 q199 q200 q201 q202 q203 q204 q205 q206 q207 q208 q209 q210 q211 q212 q213 q214 q215 q216 q217 q218 q219 q220 q221 q222 q223 q224 q225 : Value) (J K' : Act → World → Prop) (hJ : ∀ a' w', SwR d s C X K HA HV HB wr raw (gStHead sc raw gs gl K ka) q0 q4 q5 q6 q7 q8 q9 q16 q17 q18 q19 q20 q21 q22 q23 q24 q25 q26 q27 q28 q29 q30 q31 q32 q33 q34 q35 q36 q37 q38 q39 q40 q41 q42 q43 q44 q45 q46 q47 q48 q49 q50 q51 q52 q53 q54 q55 q56 q57 q58 q59 q60 q197 q198 q199 q200 q201 q202 q203 q204 q205 q206 q207 q208 q209 q210 q211 q212 q213 q214 q215 q216 q217 q218 q219 q220 q221 q222 q223 q224 q225 a' w' → J a' w') (hM : ∀ a' w', Met J a' w' → K' a' w') :
    Code.wp Tryz.prog swCode (Exit.then K' (fun _ _ _ => False)) ⟨[q0, .pointer (some ⟨s, 0, none⟩), .int .i64 d, .pointer (some ⟨C, 0, none⟩), q4, q5, q6, q7, q8, q9, .int .i64 K, .pointer (some ⟨X, 0, none⟩), .bool HA, .bool HV, .bool HB, q15, q16, q17, q18, q19, q20, q21, q22, q23, q24, q25, q26, q27, q28, q29, q30, q31, q32, q33, q34, q35, q36, q37, q38, q39, q40, q41, q42, q43, q44, q45, q46, q47, q48, q49, q50, q51, q52, q53, q54, q55, q56, q57, q58, q59, q60, q61, q62, q63, q64, q65, q66, q67, q68, q69, q70, q71, q72, q73, q74, q75, q76, q77, q78, q79, q80, q81, q82, q83, q84, q85, q86, q87, q88, q89, q90, q91, q92, q93, q94, q95, q96, q97, q98, q99, q100, q101, q102, q103, q104, q105, q106, q107, q108, q109, q110, q111, q112, q113, q114, q115, q116, q117, q118, q119, q120, q121, q122, q123, q124, q125, q126, q127, q128, q129, q130, q131, q132, q133, q134, q135, q136, q137, q138, q139, q140, q141, q142, q143, q144, q145, q146, q147, q148, q149, q150, q151, q152, q153, q154, q155, q156, q157, q158, q159, q160, q161, q162, q163, q164, q165, q166, q167, q168, q169, q170, q171, q172, q173, q174, q175, q176, q177, q178, q179, q180, q181, q182, q183, q184, q185, q186, q187, q188, q189, q190, q191, q192, q193, q194, q195, q196, q197, q198, q199, q200, q201, q202, q203, q204, q205, q206, q207, q208, q209, q210, q211, q212, q213, q214, q215, q216, q217, q218, q219, q220, q221, q222, q223, q224, q225].toArray, []⟩ W := by
  obtain ⟨lv, la, lf⟩ : sc.vars.length ≤ 1000000 ∧ sc.arrays.length ≤ 1000000 ∧ sc.funcs.length ≤ 1000000 := ⟨hsc.v1, hsc.a1, hsc.f1⟩
  have HSC := Lib.hid hsc; have HH3 := Lib.hid hH; have HC3 := Lib.hid hC
  have HY : Hid (C ≠ s) := by show _ ≠ _; omega
  have HCX : Hid (C < X) := hCX
  have hXl := hH.lt; have hCl := hC.lt; have hsX := hH.gt
  clear hsc hH hC
  have EV := Lib.hid eV; have EA := Lib.hid eA; have EF := Lib.hid eF
  clear eV eA eF
  subst hK
  have E := head_brk_no (sc := sc) (raw := raw) (gs := gs) (gl := gl) (a := ka) hb hv
  rw [E] at hJ
  clear E
  have HN : Hid (∀ w1, SrcAt w1 s raw ka → Calls Tryz.prog 32 #[.pointer (some ⟨s, 0, none⟩), .int .i64 2] w1 (Takes w1 s raw (.int .i64 (gNext raw ka 2).1) (gNext raw ka 2).2)) := fun w1 h1 => next_any s raw ka 2 w1 h1 (by decide) (by decide)
  generalize gNext raw ka 2 = j at *
  obtain ⟨j, ja⟩ := j
  dsimp only at HN hJ hv
  have hne : (j == 1) = false := beq_eq_false_iff_ne.2 hv
  clear hv
  obtain ⟨lb, elb⟩ : ∃ lb, lb = sc.loop := ⟨_, rfl⟩
  obtain ⟨fb, efb⟩ : ∃ fb, fb = sc.free := ⟨_, rfl⟩
  rw [← elb, ← efb] at HC3 hb
  have b3 := HC3.out.at 3 _ rfl
  have b4 := HC3.out.at 4 _ rfl
  clear elb efb
  have hcase : (lb = true) ∨ (lb = false ∧ fb = true) := by revert hb; cases lb <;> cases fb <;> simp
  clear hb
  rcases hcase with rfl | ⟨rfl, rfl⟩
  all_goals
    conv => arg 2; whnf
    go_wp2_with fail
    refine (HN.out _ HH3.out.src).mono ?_
    rintro r w5 ⟨rfl, hs5, hf5⟩
    have HH5 := Lib.hid (HH3.out.sfr hs5 hf5)
    clear hs5 hf5
    go_wp2_with fail
    go_meet
    exact HH5.out.to rfl
end Go.Proofs.YtgmaeflfiooigaaGreatDoor

namespace Go.Proofs.YtgmaeflfiooigaaGreatDoor
open Go.RowKit
set_option maxHeartbeats 8000000
set_option maxRecDepth 100000

theorem sw_if (d s : Nat) (raw : List Int) (sc : Sc) (v1 a1 f1 : Option Addr) (v2 a2 f2 : Nat) (gs gl : Nat → List St × Nat) (C X : Nat) (K : Int) (HA HV HB : Bool) (ka : Nat) (wr W : World) (hd1 : d ≤ 1000) (hsc : ScAt s wr sc (.slice v1 sc.vars.length v2) (.slice a1 sc.arrays.length a2) (.slice f1 sc.funcs.length f2)) (hC : OwnAt W C [.slice v1 sc.vars.length v2, .slice a1 sc.arrays.length a2, .slice f1 sc.funcs.length f2, .bool sc.free, .bool sc.loop] 69) (hH : HeadIs wr X s raw 8 [] [] none 0 [] [] (.slice none 0 0) (.slice none 0 0) ka W) (hCX : C < X) (hsC : s < C) (hd0 : 0 ≤ K) (hd14 : K < 14) (hKd : 7 ≤ K → K < 11 → 2 ≤ d) (eA : sc.hasArrays = HA) (eV : sc.hasVars = HV) (eF : sc.hasFuncs = HB) (hK : K = 7 ∨ K = 8) (hIH : 2 ≤ d → ∀ w1 b, SrcAt w1 s raw b → ScAt s w1 sc (.slice v1 sc.vars.length v2) (.slice a1 sc.arrays.length a2) (.slice f1 sc.funcs.length f2) → Calls Tryz.prog 37 #[.agg #[.slice v1 sc.vars.length v2, .slice a1 sc.arrays.length a2, .slice f1 sc.funcs.length f2, .bool sc.free, .bool sc.loop], .pointer (some ⟨s, 0, none⟩), .int .i64 ((d : Int) - 1)] w1 (GivesSts w1 s raw (gs b))) (hIL : 2 ≤ d → ∀ w1 b, SrcAt w1 s raw b → ScAt s w1 sc (.slice v1 sc.vars.length v2) (.slice a1 sc.arrays.length a2) (.slice f1 sc.funcs.length f2) → Calls Tryz.prog 37 #[.agg #[.slice v1 sc.vars.length v2, .slice a1 sc.arrays.length a2, .slice f1 sc.funcs.length f2, .bool sc.free, .bool true], .pointer (some ⟨s, 0, none⟩), .int .i64 ((d : Int) - 1)] w1 (GivesSts w1 s raw (gl b))) (q0 q4 q5 q6 q7 q8 q9 q15 q16 q17 q18 q19 q20 q21 q22 q23 q24 q25 q26 q27 q28 q29 q30 q31 q32 q33 q34 q35 q36 q37 q38 q39 q40 q41 q42 q43 q44 q45 q46 q47 q48 q49 q50 q51 q52 q53 q54 q55 q56 q57 q58 q59 q60 q61 q62 q63 q64 q65 q66 q67 q68 q69 q70 q71 q72 q73 q74 q75 q76 q77 q78 q79 q80 q81 q82 q83 q84 q85 q86 q87 q88 q89 q90 q91 q92 q93 q94 q95 q96 q97 q98 q99 q100 q101 q102 q103 q104 q105 q106 q107 q108 q109 q110 q111 q112 q113 q114 q115 q116 q117 q118 q119 q120 q121 q122 q123 q124 q125 q126 q127 q128 q129 q130 q131 q132 q133 q134 q135 q136 q137 q138 q139 q140 q141 q142 q143 q144 q145 q146 q147 q148 q149 q150 q151 q152 q153 q154 q155 q156 q157 q158 q159 q160 q161 q162 q163 q164 q165 q166 q167 q168 q169 q170 q171 q172 q173 q174 q175 q176 q177 q178 q179 q180 q181 q182 q183 q184 q185 q186 q187 q188 q189 q190 q191 q192 q193 q194 q195 q196 q197 q198 q199 q200 q201 q202 q203 q204 q205 q206 q207 q208 q209 q210 q211 q212 q213 q214 q215 q216 q217 q218 q219 q220 q221 q222 q223 q224 q225 : Value) (J K' : Act → World → Prop) (hJ : ∀ a' w', SwR d s C X K HA HV HB wr raw (gStHead sc raw gs gl K ka) q0 q4 q5 q6 q7 q8 q9 q16 q17 q18 q19 q20 q21 q22 q23 q24 q25 q26 q27 q28 q29 q30 q31 q32 q33 q34 q35 q36 q37 q38 q39 q40 q41 q42 q43 q44 q45 q46 q47 q48 q49 q50 q51 q52 q53 q54 q55 q56 q57 q58 q59 q60 q197 q198 q199 q200 q201 q202 q203 q204 q205 q206 q207 q208 q209 q210 q211 q212 q213 q214 q215 q216 q217 q218 q219 q220 q221 q222 q223 q224 q225 a' w' → J a' w') (hM : ∀ a' w', Met J a' w' → K' a' w') :
    Code.wp Tryz.prog swCode (Exit.then K' (fun _ _ _ => False)) ⟨[q0, .pointer (some ⟨s, 0, none⟩), .int .i64 d, .pointer (some ⟨C, 0, none⟩), q4, q5, q6, q7, q8, q9, .int .i64 K, .pointer (some ⟨X, 0, none⟩), .bool HA, .bool HV, .bool HB, q15, q16, q17, q18, q19, q20, q21, q22, q23, q24, q25, q26, q27, q28, q29, q30, q31, q32, q33, q34, q35, q36, q37, q38, q39, q40, q41, q42, q43, q44, q45, q46, q47, q48, q49, q50, q51, q52, q53, q54, q55, q56, q57, q58, q59, q60, q61, q62, q63, q64, q65, q66, q67, q68, q69, q70, q71, q72, q73, q74, q75, q76, q77, q78, q79, q80, q81, q82, q83, q84, q85, q86, q87, q88, q89, q90, q91, q92, q93, q94, q95, q96, q97, q98, q99, q100, q101, q102, q103, q104, q105, q106, q107, q108, q109, q110, q111, q112, q113, q114, q115, q116, q117, q118, q119, q120, q121, q122, q123, q124, q125, q126, q127, q128, q129, q130, q131, q132, q133, q134, q135, q136, q137, q138, q139, q140, q141, q142, q143, q144, q145, q146, q147, q148, q149, q150, q151, q152, q153, q154, q155, q156, q157, q158, q159, q160, q161, q162, q163, q164, q165, q166, q167, q168, q169, q170, q171, q172, q173, q174, q175, q176, q177, q178, q179, q180, q181, q182, q183, q184, q185, q186, q187, q188, q189, q190, q191, q192, q193, q194, q195, q196, q197, q198, q199, q200, q201, q202, q203, q204, q205, q206, q207, q208, q209, q210, q211, q212, q213, q214, q215, q216, q217, q218, q219, q220, q221, q222, q223, q224, q225].toArray, []⟩ W := by
  obtain ⟨lv, la, lf⟩ : sc.vars.length ≤ 1000000 ∧ sc.arrays.length ≤ 1000000 ∧ sc.funcs.length ≤ 1000000 := ⟨hsc.v1, hsc.a1, hsc.f1⟩
  have HSC := Lib.hid hsc; have HH3 := Lib.hid hH; have HC3 := Lib.hid hC
  have HY : Hid (C ≠ s) := by show _ ≠ _; omega
  have HCX : Hid (C < X) := hCX
  have hXl := hH.lt; have hCl := hC.lt; have hsX := hH.gt
  clear hsc hH hC
  have EV := Lib.hid eV; have EA := Lib.hid eA; have EF := Lib.hid eF
  clear eV eA eF
  have E := head_if (sc := sc) (raw := raw) (gs := gs) (gl := gl) (a := ka) hK
  have hd2 : 2 ≤ d := hKd (by omega) (by omega)
  have hdI : (2 : Int) ≤ (d : Int) := by omega
  have hdM : (d : Int) ≤ 1000 := by omega
  rw [E] at hJ
  clear E
  have HE3 : Hid (∀ b w1, SrcAt w1 s raw b → ScAt s w1 sc (.slice v1 sc.vars.length v2) (.slice a1 sc.arrays.length a2) (.slice f1 sc.funcs.length f2) → Calls Tryz.prog 35 #[.agg #[.slice v1 sc.vars.length v2, .slice a1 sc.arrays.length a2, .slice f1 sc.funcs.length f2, .bool sc.free, .bool sc.loop], .pointer (some ⟨s, 0, none⟩), .int .i64 3] w1 (GivesEx w1 s raw (gExpr sc raw 3 b))) := fun b w1 h1 h2 => expr_all 3 (by decide) s raw b sc _ _ _ w1 h1 h2
  replace HE3 := Lib.hid (HE3.out ka)
  have HIH := Lib.hid (hIH hd2)
  clear hIH hIL hKd
  generalize gExpr sc raw 3 ka = x at *
  obtain ⟨x, xa⟩ := x
  dsimp only at HE3 hJ
  have HH4 := Lib.hid (HH3.out.kind 3)
  have HC4 := Lib.hid (HC3.out.other (show C ≠ X by omega) 0 (.int .i64 3))
  have y0 := HH3.out.own.at 0 _ rfl
  have y1 := HH3.out.own.at 1 _ rfl
  have y2 := HH3.out.own.at 2 _ rfl
  have y3 := HH3.out.own.at 3 _ rfl
  have y4 := HH3.out.own.at 4 _ rfl
  have fy0 := HH3.out.own.fz 0
  rcases hK with rfl | rfl
  all_goals
    conv => arg 2; whnf
    go_upto_region 27 with (fail)
    generalize W.setCell ⟨X, 0, none⟩ (.int .i64 3) = W4 at *
    clear y0 y1 y2 y3 y4 fy0
    go_cut [] from 131 to 138 (fun wx => ArgAt wr X s raw 3 [] [x] xa C [.slice v1 sc.vars.length v2, .slice a1 sc.arrays.length a2, .slice f1 sc.funcs.length f2, .bool sc.free, .bool sc.loop] wx)
    case first =>
      have hdr : Below W4.heap.size W4 W4.drew := (Below.refl _ _).drew
      have HHd := Lib.hid (HH4.out.below hdr)
      have HCd := Lib.hid (HC4.out.old hdr)
      clear hdr
      have b0 := HC4.out.at 0 _ rfl
      have b1 := HC4.out.at 1 _ rfl
      have b2 := HC4.out.at 2 _ rfl
      have b3 := HC4.out.at 3 _ rfl
      have b4 := HC4.out.at 4 _ rfl
      have x0 := HH4.out.own.at 0 _ rfl
      have x1 := HH4.out.own.at 1 _ rfl
      have x2 := HH4.out.own.at 2 _ rfl
      have x3 := HH4.out.own.at 3 _ rfl
      have x4 := HH4.out.own.at 4 _ rfl
      have fx2 := HH4.out.own.fz 2
      have hXd := HH4.out.lt
      have hCd := HC4.out.lt
      obtain ⟨i0, hi0, hz0, hz1, hz2⟩ := info_parts infoEx
      go_wp2_with fail
      go_region_law (first
        | ((try go_simp); go_at_call 35; refine (HE3.out _ HHd.out.src (HSC.out.sfr HHd.out.fr)).mono ?_; rintro r w6 ⟨xv, he, hs6, hf6, hx6, hn6⟩; obtain ⟨xs, xc, hxv⟩ := hx6.shape; subst hxv; subst he; have hc : ∀ b o, b < _ → b ≠ s → w6.cell? ⟨b, o, none⟩ = _ := fun b o h hn => World.cell?_of_block (a := ⟨b, o, none⟩) (hf6.block b h hn); have HH6 := Lib.hid (HHd.out.sfr hs6 hf6); have HC6 := Lib.hid (HCd.out.sfr hf6 HY.out); have Hx6 := Lib.hid hx6; have Hn6 := Lib.hid hn6; have hz6 := hf6.size; have u2 := HH6.out.own.at 2 _ rfl; have hX6 := HH6.out.lt; clear hs6 hf6 hx6 hn6; have hw7 : Below w6.heap.size w6 (w6.alloc (.cells #[.int .i64 x.kind, .int .i64 x.op, .int .i64 x.n, .string (strOf x.name), .slice xs x.args.length xc] 31)) := (Below.refl _ _).alloc (Nat.le_refl _) _; have HH7 := Lib.hid (HH6.out.below hw7); have HC7 := Lib.hid (HC6.out.old hw7); have HN7 := Lib.hid (RowAt.new w6 (exCells x (.slice xs x.args.length xc)) 31); have Hx7 := Lib.hid ((Hx6.out.old hw7).mono (fun b hb => HHd.out.beside b hb)); clear hw7)
        | (refine step_append_lies (P := Tryz.prog) _ rfl _ _ 29 rfl (X + 1) 31 i0 _ 5 64 Tryz.underlying29 hi0 hz0 hz1 hz2 rfl (by decide) (.slice none 0 0) 0 (exFlat []) rfl HH7.out.exs.1 ⟨w6.heap.size, 0, none⟩ 1 1 (exCells x (.slice xs x.args.length xc)) rfl rfl (news_at HN7.out) (ex_one x _ _ _) (by decide) (by unfold maxLen; omega) (by omega) (by have := HH7.out.lt; omega) _ rfl ?_; intro g cap w8 hown hgrow hat hlt8; have hge8 : ∀ k, (Value.slice none 0 0).ownBlock = some k → X + 1 ≤ k := fun k e => (HH7.out.exs.ge e).1; have HH9 := Lib.hid (HH7.out.more x _ Hx7.out Hn6.out hown hgrow hat); have hO8 := HH7.out.own.low (hgrow.block X HH7.out.lt (fun e => by have := hge8 _ e.symm; omega)); have HC8 := Lib.hid (HC7.out.low (hgrow.block _ HC7.out.lt (fun e => by have := hge8 _ e.symm; have := HCX.out; omega))); have y2 := hO8.at 2 _ rfl; have fy2 := hO8.fz 2; have hX8 := hO8.lt; clear hown hgrow hat hO8))
      all_goals
        have HC9 := Lib.hid (HC8.out.other (show C ≠ X by have := HCX.out; omega) 2 (.slice (some ⟨g, 0, none⟩) (0 + 1) cap))
        go_wp2_with fail
        go_meet
        exact ⟨⟨_, _, _, rfl, HH9.out⟩, HC9.out⟩
    case rest =>
    obtain ⟨⟨ps, va, vc, hps, hh⟩, hcc⟩ := hcut
    have HPS := Lib.hid hps; have HHB := Lib.hid hh; have HCB := Lib.hid hcc
    clear hps hh hcc HH4 HC4 HE3
    have HI1 := Lib.hid (fun w1 h1 h2 => HIH.out w1 xa h1 h2)
    generalize gs xa = y at HI1 hJ
    obtain ⟨ys, ya⟩ := y
    dsimp only at HI1 hJ
    have HI2 := Lib.hid (fun w1 h1 h2 => HIH.out w1 ya h1 h2)
    generalize gs ya = z at HI2 hJ
    obtain ⟨zs, za⟩ := z
    dsimp only at HI2 hJ
    clear HIH
    have b0 := HCB.out.at 0 _ rfl
    have b1 := HCB.out.at 1 _ rfl
    have b2 := HCB.out.at 2 _ rfl
    have b3 := HCB.out.at 3 _ rfl
    have b4 := HCB.out.at 4 _ rfl
    have x0 := HHB.out.own.at 0 _ rfl
    have x1 := HHB.out.own.at 1 _ rfl
    have x2 := HHB.out.own.at 2 _ rfl
    have x3 := HHB.out.own.at 3 _ rfl
    have x4 := HHB.out.own.at 4 _ rfl
    have hXB := HHB.out.lt
    go_wp2_with fail
    refine (HI1.out _ HHB.out.src (HSC.out.sfr HHB.out.fr)).mono ?_
    rintro r w5 ⟨sv, rfl, hs5, hf5, hx5⟩
    obtain ⟨ta, tc, rfl⟩ := hx5.shape
    have hh5 := HHB.out.sfr hs5 hf5
    have HX5 := Lib.hid (hx5.mono (fun b hb => HHB.out.beside b hb))
    have hcb5 := HCB.out.sfr hf5 HY.out
    have HH6 := Lib.hid (hh5.setThn ys (.slice ta ys.length tc) HX5.out)
    have HC6 := Lib.hid (hcb5.other (show C ≠ X by have := HCX.out; omega) 3 (.slice ta ys.length tc))
    have y3 := hh5.own.at 3 _ rfl
    have fy3 := hh5.own.fz 3
    have hX5 := hh5.lt
    clear b0 b1 b2 b3 b4 x0 x1 x2 x3 x4 hs5 hf5 hx5 hh5 hcb5 hXB HHB HCB HI1
    have b0 := HC6.out.at 0 _ rfl
    have b1 := HC6.out.at 1 _ rfl
    have b2 := HC6.out.at 2 _ rfl
    have b3 := HC6.out.at 3 _ rfl
    have b4 := HC6.out.at 4 _ rfl
    have x0 := HH6.out.own.at 0 _ rfl
    have x1 := HH6.out.own.at 1 _ rfl
    have x2 := HH6.out.own.at 2 _ rfl
    have x3 := HH6.out.own.at 3 _ rfl
    have x4 := HH6.out.own.at 4 _ rfl
    go_wp2_with fail
    refine (HI2.out _ HH6.out.src (HSC.out.sfr HH6.out.fr)).mono ?_
    rintro r w7 ⟨sv, rfl, hs7, hf7, hx7⟩
    obtain ⟨ua, uc, rfl⟩ := hx7.shape
    have hh7 := HH6.out.sfr hs7 hf7
    have HX7 := Lib.hid (hx7.mono (fun b hb => HH6.out.beside b hb))
    have HH8 := Lib.hid (hh7.setEls zs (.slice ua zs.length uc) HX7.out)
    have y4 := hh7.own.at 4 _ rfl
    have fy4 := hh7.own.fz 4
    have hX7 := hh7.lt
    clear b0 b1 b2 b3 b4 x0 x1 x2 x3 x4 hs7 hf7 hx7 hh7 HC6 HI2
    go_wp2_with fail
    go_meet
    exact HH8.out.to HPS.out
end Go.Proofs.YtgmaeflfiooigaaGreatDoor
