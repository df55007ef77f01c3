/-
  The switch of scope.stmts, case none. Conditions: the source, the scope and the statement lie in memory as the types say.
  The switch of scope.stmts, case set. Conditions: the source, the scope and the statement lie in memory as the types say.
  The switch of scope.stmts, case store. Conditions: the source, the scope and the statement lie in memory as the types say.
  The switch of scope.stmts, case call. Conditions: the source, the scope and the statement lie in memory as the types say.
-/
import Derived.Test.YtgmaeflfiooigaaGreatDoorTreeP
set_option linter.unusedVariables false
set_option linter.unusedSimpArgs false
namespace Go.Proofs.YtgmaeflfiooigaaGreatDoor
open Go.RowKit
set_option maxHeartbeats 8000000
set_option maxRecDepth 100000

theorem sw_none (d s : Nat) (raw : List Int) (sc : Sc) (v1 a1 f1 : Option Addr) (v2 a2 f2 : Nat) (gs gl : Nat → List St × Nat) (C X : Nat) (K : Int) (HA HV HB : Bool) (ka : Nat) (wr W : World) (hd1 : d ≤ 1000) (hsc : ScAt s wr sc (.slice v1 sc.vars.length v2) (.slice a1 sc.arrays.length a2) (.slice f1 sc.funcs.length f2)) (hC : OwnAt W C [.slice v1 sc.vars.length v2, .slice a1 sc.arrays.length a2, .slice f1 sc.funcs.length f2, .bool sc.free, .bool sc.loop] 69) (hH : HeadIs wr X s raw 8 [] [] none 0 [] [] (.slice none 0 0) (.slice none 0 0) ka W) (hCX : C < X) (hsC : s < C) (hd0 : 0 ≤ K) (hd14 : K < 14) (hKd : 7 ≤ K → K < 11 → 2 ≤ d) (eA : sc.hasArrays = HA) (eV : sc.hasVars = HV) (eF : sc.hasFuncs = HB) (hv : K < 4 → HV = false) (ha : K = 4 → HA = false) (hf : K = 5 → HB = false) (h6 : K ≠ 6) (h7 : K < 7 ∨ 10 < K) (h8 : K = 11 → (sc.loop || sc.free) = false)  (q0 q4 q5 q6 q7 q8 q9 q15 q16 q17 q18 q19 q20 q21 q22 q23 q24 q25 q26 q27 q28 q29 q30 q31 q32 q33 q34 q35 q36 q37 q38 q39 q40 q41 q42 q43 q44 q45 q46 q47 q48 q49 q50 q51 q52 q53 q54 q55 q56 q57 q58 q59 q60 q61 q62 q63 q64 q65 q66 q67 q68 q69 q70 q71 q72 q73 q74 q75 q76 q77 q78 q79 q80 q81 q82 q83 q84 q85 q86 q87 q88 q89 q90 q91 q92 q93 q94 q95 q96 q97 q98 q99 q100 q101 q102 q103 q104 q105 q106 q107 q108 q109 q110 q111 q112 q113 q114 q115 q116 q117 q118 q119 q120 q121 q122 q123 q124 q125 q126 q127 q128 q129 q130 q131 q132 q133 q134 q135 q136 q137 q138 q139 q140 q141 q142 q143 q144 q145 q146 q147 q148 q149 q150 q151 q152 q153 q154 q155 q156 q157 q158 q159 q160 q161 q162 q163 q164 q165 q166 q167 q168 q169 q170 q171 q172 q173 q174 q175 q176 q177 q178 q179 q180 q181 q182 q183 q184 q185 q186 q187 q188 q189 q190 q191 q192 q193 q194 q195 q196 q197 q198 q199 q200 q201 q202 q203 q204 q205 q206 q207 q208 q209 q210 q211 q212 q213 q214 q215 q216 q217 q218 q219 q220 q221 q222 q223 q224 q225 : Value) (J K' : Act → World → Prop) (hJ : ∀ a' w', SwR d s C X K HA HV HB wr raw (gStHead sc raw gs gl K ka) q0 q4 q5 q6 q7 q8 q9 q16 q17 q18 q19 q20 q21 q22 q23 q24 q25 q26 q27 q28 q29 q30 q31 q32 q33 q34 q35 q36 q37 q38 q39 q40 q41 q42 q43 q44 q45 q46 q47 q48 q49 q50 q51 q52 q53 q54 q55 q56 q57 q58 q59 q60 q197 q198 q199 q200 q201 q202 q203 q204 q205 q206 q207 q208 q209 q210 q211 q212 q213 q214 q215 q216 q217 q218 q219 q220 q221 q222 q223 q224 q225 a' w' → J a' w') (hM : ∀ a' w', Met J a' w' → K' a' w') :
    Code.wp Tryz.prog swCode (Exit.then K' (fun _ _ _ => False)) ⟨[q0, .pointer (some ⟨s, 0, none⟩), .int .i64 d, .pointer (some ⟨C, 0, none⟩), q4, q5, q6, q7, q8, q9, .int .i64 K, .pointer (some ⟨X, 0, none⟩), .bool HA, .bool HV, .bool HB, q15, q16, q17, q18, q19, q20, q21, q22, q23, q24, q25, q26, q27, q28, q29, q30, q31, q32, q33, q34, q35, q36, q37, q38, q39, q40, q41, q42, q43, q44, q45, q46, q47, q48, q49, q50, q51, q52, q53, q54, q55, q56, q57, q58, q59, q60, q61, q62, q63, q64, q65, q66, q67, q68, q69, q70, q71, q72, q73, q74, q75, q76, q77, q78, q79, q80, q81, q82, q83, q84, q85, q86, q87, q88, q89, q90, q91, q92, q93, q94, q95, q96, q97, q98, q99, q100, q101, q102, q103, q104, q105, q106, q107, q108, q109, q110, q111, q112, q113, q114, q115, q116, q117, q118, q119, q120, q121, q122, q123, q124, q125, q126, q127, q128, q129, q130, q131, q132, q133, q134, q135, q136, q137, q138, q139, q140, q141, q142, q143, q144, q145, q146, q147, q148, q149, q150, q151, q152, q153, q154, q155, q156, q157, q158, q159, q160, q161, q162, q163, q164, q165, q166, q167, q168, q169, q170, q171, q172, q173, q174, q175, q176, q177, q178, q179, q180, q181, q182, q183, q184, q185, q186, q187, q188, q189, q190, q191, q192, q193, q194, q195, q196, q197, q198, q199, q200, q201, q202, q203, q204, q205, q206, q207, q208, q209, q210, q211, q212, q213, q214, q215, q216, q217, q218, q219, q220, q221, q222, q223, q224, q225].toArray, []⟩ W := by
  obtain ⟨lv, la, lf⟩ : sc.vars.length ≤ 1000000 ∧ sc.arrays.length ≤ 1000000 ∧ sc.funcs.length ≤ 1000000 := ⟨hsc.v1, hsc.a1, hsc.f1⟩
  have HSC := Lib.hid hsc; have HH3 := Lib.hid hH; have HC3 := Lib.hid hC
  have HY : Hid (C ≠ s) := by show _ ≠ _; omega
  have HCX : Hid (C < X) := hCX
  have hXl := hH.lt; have hCl := hC.lt; have hsX := hH.gt
  clear hsc hH hC
  have EV := Lib.hid eV; have EA := Lib.hid eA; have EF := Lib.hid eF
  clear eV eA eF
  have E := head_none (sc := sc) (raw := raw) (gs := gs) (gl := gl) (a := ka) (fun h => EV.out.trans (hv h)) (fun h => EA.out.trans (ha h)) (fun h => EF.out.trans (hf h)) h6 h7 h8
  rw [E] at hJ
  clear E
  have b3 := HC3.out.at 3 _ rfl
  have b4 := HC3.out.at 4 _ rfl
  have hcase : (K < 4 ∧ HV = false) ∨ (K = 4 ∧ HA = false) ∨ (K = 5 ∧ HB = false) ∨ (K = 11 ∧ sc.loop = false ∧ sc.free = false) ∨ 12 ≤ K := by
    by_cases h1 : K < 4
    · exact .inl ⟨h1, hv h1⟩
    by_cases h2 : K = 4
    · exact .inr (.inl ⟨h2, ha h2⟩)
    by_cases h3 : K = 5
    · exact .inr (.inr (.inl ⟨h3, hf h3⟩))
    by_cases h4 : K = 11
    · exact .inr (.inr (.inr (.inl ⟨h4, by simpa using h8 h4⟩)))
    exact .inr (.inr (.inr (.inr (by omega))))
  clear hv ha hf h6 h7 h8
  rcases hcase with ⟨h1, rfl⟩ | ⟨rfl, rfl⟩ | ⟨rfl, rfl⟩ | ⟨rfl, h2, h3⟩ | h1
  case inl | inr.inr.inr.inr =>
    all_goals
      have n4 : (K == 4) = false := beq_eq_false_iff_ne.2 (by omega)
      have n5 : (K == 5) = false := beq_eq_false_iff_ne.2 (by omega)
      have n6 : (K == 6) = false := beq_eq_false_iff_ne.2 (by omega)
      have n7 : (K == 7) = false := beq_eq_false_iff_ne.2 (by omega)
      have n8 : (K == 8) = false := beq_eq_false_iff_ne.2 (by omega)
      have n9 : (K == 9) = false := beq_eq_false_iff_ne.2 (by omega)
      have n10 : (K == 10) = false := beq_eq_false_iff_ne.2 (by omega)
      have n11 : (K == 11) = false := beq_eq_false_iff_ne.2 (by omega)
      conv => arg 2; whnf
      go_wp2_with fail
      go_meet
      exact HH3.out.to rfl
  all_goals
    conv => arg 2; whnf
    go_wp2_with fail
    go_meet
    exact HH3.out.to rfl
end Go.Proofs.YtgmaeflfiooigaaGreatDoor

namespace Go.Proofs.YtgmaeflfiooigaaGreatDoor
open Go.RowKit
set_option maxHeartbeats 8000000
set_option maxRecDepth 100000

theorem sw_set (d s : Nat) (raw : List Int) (sc : Sc) (v1 a1 f1 : Option Addr) (v2 a2 f2 : Nat) (gs gl : Nat → List St × Nat) (C X : Nat) (K : Int) (HA HV HB : Bool) (ka : Nat) (wr W : World) (hd1 : d ≤ 1000) (hsc : ScAt s wr sc (.slice v1 sc.vars.length v2) (.slice a1 sc.arrays.length a2) (.slice f1 sc.funcs.length f2)) (hC : OwnAt W C [.slice v1 sc.vars.length v2, .slice a1 sc.arrays.length a2, .slice f1 sc.funcs.length f2, .bool sc.free, .bool sc.loop] 69) (hH : HeadIs wr X s raw 8 [] [] none 0 [] [] (.slice none 0 0) (.slice none 0 0) ka W) (hCX : C < X) (hsC : s < C) (hd0 : 0 ≤ K) (hd14 : K < 14) (hKd : 7 ≤ K → K < 11 → 2 ≤ d) (eA : sc.hasArrays = HA) (eV : sc.hasVars = HV) (eF : sc.hasFuncs = HB) (hlt : K < 4) (hv : HV = true)  (q0 q4 q5 q6 q7 q8 q9 q15 q16 q17 q18 q19 q20 q21 q22 q23 q24 q25 q26 q27 q28 q29 q30 q31 q32 q33 q34 q35 q36 q37 q38 q39 q40 q41 q42 q43 q44 q45 q46 q47 q48 q49 q50 q51 q52 q53 q54 q55 q56 q57 q58 q59 q60 q61 q62 q63 q64 q65 q66 q67 q68 q69 q70 q71 q72 q73 q74 q75 q76 q77 q78 q79 q80 q81 q82 q83 q84 q85 q86 q87 q88 q89 q90 q91 q92 q93 q94 q95 q96 q97 q98 q99 q100 q101 q102 q103 q104 q105 q106 q107 q108 q109 q110 q111 q112 q113 q114 q115 q116 q117 q118 q119 q120 q121 q122 q123 q124 q125 q126 q127 q128 q129 q130 q131 q132 q133 q134 q135 q136 q137 q138 q139 q140 q141 q142 q143 q144 q145 q146 q147 q148 q149 q150 q151 q152 q153 q154 q155 q156 q157 q158 q159 q160 q161 q162 q163 q164 q165 q166 q167 q168 q169 q170 q171 q172 q173 q174 q175 q176 q177 q178 q179 q180 q181 q182 q183 q184 q185 q186 q187 q188 q189 q190 q191 q192 q193 q194 q195 q196 q197 q198 q199 q200 q201 q202 q203 q204 q205 q206 q207 q208 q209 q210 q211 q212 q213 q214 q215 q216 q217 q218 q219 q220 q221 q222 q223 q224 q225 : Value) (J K' : Act → World → Prop) (hJ : ∀ a' w', SwR d s C X K HA HV HB wr raw (gStHead sc raw gs gl K ka) q0 q4 q5 q6 q7 q8 q9 q16 q17 q18 q19 q20 q21 q22 q23 q24 q25 q26 q27 q28 q29 q30 q31 q32 q33 q34 q35 q36 q37 q38 q39 q40 q41 q42 q43 q44 q45 q46 q47 q48 q49 q50 q51 q52 q53 q54 q55 q56 q57 q58 q59 q60 q197 q198 q199 q200 q201 q202 q203 q204 q205 q206 q207 q208 q209 q210 q211 q212 q213 q214 q215 q216 q217 q218 q219 q220 q221 q222 q223 q224 q225 a' w' → J a' w') (hM : ∀ a' w', Met J a' w' → K' a' w') :
    Code.wp Tryz.prog swCode (Exit.then K' (fun _ _ _ => False)) ⟨[q0, .pointer (some ⟨s, 0, none⟩), .int .i64 d, .pointer (some ⟨C, 0, none⟩), q4, q5, q6, q7, q8, q9, .int .i64 K, .pointer (some ⟨X, 0, none⟩), .bool HA, .bool HV, .bool HB, q15, q16, q17, q18, q19, q20, q21, q22, q23, q24, q25, q26, q27, q28, q29, q30, q31, q32, q33, q34, q35, q36, q37, q38, q39, q40, q41, q42, q43, q44, q45, q46, q47, q48, q49, q50, q51, q52, q53, q54, q55, q56, q57, q58, q59, q60, q61, q62, q63, q64, q65, q66, q67, q68, q69, q70, q71, q72, q73, q74, q75, q76, q77, q78, q79, q80, q81, q82, q83, q84, q85, q86, q87, q88, q89, q90, q91, q92, q93, q94, q95, q96, q97, q98, q99, q100, q101, q102, q103, q104, q105, q106, q107, q108, q109, q110, q111, q112, q113, q114, q115, q116, q117, q118, q119, q120, q121, q122, q123, q124, q125, q126, q127, q128, q129, q130, q131, q132, q133, q134, q135, q136, q137, q138, q139, q140, q141, q142, q143, q144, q145, q146, q147, q148, q149, q150, q151, q152, q153, q154, q155, q156, q157, q158, q159, q160, q161, q162, q163, q164, q165, q166, q167, q168, q169, q170, q171, q172, q173, q174, q175, q176, q177, q178, q179, q180, q181, q182, q183, q184, q185, q186, q187, q188, q189, q190, q191, q192, q193, q194, q195, q196, q197, q198, q199, q200, q201, q202, q203, q204, q205, q206, q207, q208, q209, q210, q211, q212, q213, q214, q215, q216, q217, q218, q219, q220, q221, q222, q223, q224, q225].toArray, []⟩ W := by
  obtain ⟨lv, la, lf⟩ : sc.vars.length ≤ 1000000 ∧ sc.arrays.length ≤ 1000000 ∧ sc.funcs.length ≤ 1000000 := ⟨hsc.v1, hsc.a1, hsc.f1⟩
  have HSC := Lib.hid hsc; have HH3 := Lib.hid hH; have HC3 := Lib.hid hC
  have HY : Hid (C ≠ s) := by show _ ≠ _; omega
  have HCX : Hid (C < X) := hCX
  have hXl := hH.lt; have hCl := hC.lt; have hsX := hH.gt
  clear hsc hH hC
  have EV := Lib.hid eV; have EA := Lib.hid eA; have EF := Lib.hid eF
  clear eV eA eF
  have E := head_set (sc := sc) (raw := raw) (gs := gs) (gl := gl) (a := ka) hlt (EV.out.trans hv)
  have HNM : Hid (∀ w1, SrcAt w1 s raw ka → StrsAt (· ≠ s) w1 sc.vars (.slice v1 sc.vars.length v2) → Calls Tryz.prog 69 #[.agg #[.slice v1 sc.vars.length v2, .slice a1 sc.arrays.length a2, .slice f1 sc.funcs.length f2, .bool sc.free, .bool sc.loop], .pointer (some ⟨s, 0, none⟩), .slice v1 sc.vars.length v2] w1 (Takes w1 s raw (.string (strOf (gName sc.free sc.vars raw ka).1)) (gName sc.free sc.vars raw ka).2)) := fun w1 h1 h2 => name_take s raw ka sc _ _ _ _ sc.vars w1 h1 h2 lv
  rw [E] at hJ
  clear E
  generalize gName sc.free sc.vars raw ka = g at *
  obtain ⟨nm, na⟩ := g
  dsimp only at HNM hJ
  subst hv
  have HH4 := Lib.hid (HH3.out.kind 1)
  have HC4 := Lib.hid (HC3.out.other (show C ≠ X by omega) 0 (.int .i64 1))
  have HS4 := Lib.hid (HSC.out.sfr HH4.out.fr)
  have b0 := HC4.out.at 0 _ rfl
  have b1 := HC4.out.at 1 _ rfl
  have b2 := HC4.out.at 2 _ rfl
  have b3 := HC4.out.at 3 _ rfl
  have b4 := HC4.out.at 4 _ rfl
  have x0 := HH3.out.own.at 0 _ rfl
  have x1 := HH3.out.own.at 1 _ rfl
  have x2 := HH3.out.own.at 2 _ rfl
  have x3 := HH3.out.own.at 3 _ rfl
  have x4 := HH3.out.own.at 4 _ rfl
  have fx0 := HH3.out.own.fz 0
  conv => arg 2; whnf
  go_wp2_with fail
  refine (HNM.out _ HH4.out.src HS4.out.vars).mono ?_
  rintro r w5 ⟨rfl, hs5, hf5⟩
  have HH5 := Lib.hid (HH4.out.sfr hs5 hf5)
  clear hs5 hf5
  have y0 := HH5.out.own.at 0 _ rfl
  have y1 := HH5.out.own.at 1 _ rfl
  have y2 := HH5.out.own.at 2 _ rfl
  have y3 := HH5.out.own.at 3 _ rfl
  have y4 := HH5.out.own.at 4 _ rfl
  have fy1 := HH5.out.own.fz 1
  have hXl5 := HH5.out.lt
  go_wp2_with fail
  go_meet
  exact (HH5.out.name nm).to rfl
end Go.Proofs.YtgmaeflfiooigaaGreatDoor

namespace Go.Proofs.YtgmaeflfiooigaaGreatDoor
open Go.RowKit
set_option maxHeartbeats 8000000
set_option maxRecDepth 100000

theorem sw_store (d s : Nat) (raw : List Int) (sc : Sc) (v1 a1 f1 : Option Addr) (v2 a2 f2 : Nat) (gs gl : Nat → List St × Nat) (C X : Nat) (K : Int) (HA HV HB : Bool) (ka : Nat) (wr W : World) (hd1 : d ≤ 1000) (hsc : ScAt s wr sc (.slice v1 sc.vars.length v2) (.slice a1 sc.arrays.length a2) (.slice f1 sc.funcs.length f2)) (hC : OwnAt W C [.slice v1 sc.vars.length v2, .slice a1 sc.arrays.length a2, .slice f1 sc.funcs.length f2, .bool sc.free, .bool sc.loop] 69) (hH : HeadIs wr X s raw 8 [] [] none 0 [] [] (.slice none 0 0) (.slice none 0 0) ka W) (hCX : C < X) (hsC : s < C) (hd0 : 0 ≤ K) (hd14 : K < 14) (hKd : 7 ≤ K → K < 11 → 2 ≤ d) (eA : sc.hasArrays = HA) (eV : sc.hasVars = HV) (eF : sc.hasFuncs = HB) (hK : K = 4) (hv : HA = true)  (q0 q4 q5 q6 q7 q8 q9 q15 q16 q17 q18 q19 q20 q21 q22 q23 q24 q25 q26 q27 q28 q29 q30 q31 q32 q33 q34 q35 q36 q37 q38 q39 q40 q41 q42 q43 q44 q45 q46 q47 q48 q49 q50 q51 q52 q53 q54 q55 q56 q57 q58 q59 q60 q61 q62 q63 q64 q65 q66 q67 q68 q69 q70 q71 q72 q73 q74 q75 q76 q77 q78 q79 q80 q81 q82 q83 q84 q85 q86 q87 q88 q89 q90 q91 q92 q93 q94 q95 q96 q97 q98 q99 q100 q101 q102 q103 q104 q105 q106 q107 q108 q109 q110 q111 q112 q113 q114 q115 q116 q117 q118 q119 q120 q121 q122 q123 q124 q125 q126 q127 q128 q129 q130 q131 q132 q133 q134 q135 q136 q137 q138 q139 q140 q141 q142 q143 q144 q145 q146 q147 q148 q149 q150 q151 q152 q153 q154 q155 q156 q157 q158 q159 q160 q161 q162 q163 q164 q165 q166 q167 q168 q169 q170 q171 q172 q173 q174 q175 q176 q177 q178 q179 q180 q181 q182 q183 q184 q185 q186 q187 q188 q189 q190 q191 q192 q193 q194 q195 q196 q197 q198 q199 q200 q201 q202 q203 q204 q205 q206 q207 q208 q209 q210 q211 q212 q213 q214 q215 q216 q217 q218 q219 q220 q221 q222 q223 q224 q225 : Value) (J K' : Act → World → Prop) (hJ : ∀ a' w', SwR d s C X K HA HV HB wr raw (gStHead sc raw gs gl K ka) q0 q4 q5 q6 q7 q8 q9 q16 q17 q18 q19 q20 q21 q22 q23 q24 q25 q26 q27 q28 q29 q30 q31 q32 q33 q34 q35 q36 q37 q38 q39 q40 q41 q42 q43 q44 q45 q46 q47 q48 q49 q50 q51 q52 q53 q54 q55 q56 q57 q58 q59 q60 q197 q198 q199 q200 q201 q202 q203 q204 q205 q206 q207 q208 q209 q210 q211 q212 q213 q214 q215 q216 q217 q218 q219 q220 q221 q222 q223 q224 q225 a' w' → J a' w') (hM : ∀ a' w', Met J a' w' → K' a' w') :
    Code.wp Tryz.prog swCode (Exit.then K' (fun _ _ _ => False)) ⟨[q0, .pointer (some ⟨s, 0, none⟩), .int .i64 d, .pointer (some ⟨C, 0, none⟩), q4, q5, q6, q7, q8, q9, .int .i64 K, .pointer (some ⟨X, 0, none⟩), .bool HA, .bool HV, .bool HB, q15, q16, q17, q18, q19, q20, q21, q22, q23, q24, q25, q26, q27, q28, q29, q30, q31, q32, q33, q34, q35, q36, q37, q38, q39, q40, q41, q42, q43, q44, q45, q46, q47, q48, q49, q50, q51, q52, q53, q54, q55, q56, q57, q58, q59, q60, q61, q62, q63, q64, q65, q66, q67, q68, q69, q70, q71, q72, q73, q74, q75, q76, q77, q78, q79, q80, q81, q82, q83, q84, q85, q86, q87, q88, q89, q90, q91, q92, q93, q94, q95, q96, q97, q98, q99, q100, q101, q102, q103, q104, q105, q106, q107, q108, q109, q110, q111, q112, q113, q114, q115, q116, q117, q118, q119, q120, q121, q122, q123, q124, q125, q126, q127, q128, q129, q130, q131, q132, q133, q134, q135, q136, q137, q138, q139, q140, q141, q142, q143, q144, q145, q146, q147, q148, q149, q150, q151, q152, q153, q154, q155, q156, q157, q158, q159, q160, q161, q162, q163, q164, q165, q166, q167, q168, q169, q170, q171, q172, q173, q174, q175, q176, q177, q178, q179, q180, q181, q182, q183, q184, q185, q186, q187, q188, q189, q190, q191, q192, q193, q194, q195, q196, q197, q198, q199, q200, q201, q202, q203, q204, q205, q206, q207, q208, q209, q210, q211, q212, q213, q214, q215, q216, q217, q218, q219, q220, q221, q222, q223, q224, q225].toArray, []⟩ W := by
  obtain ⟨lv, la, lf⟩ : sc.vars.length ≤ 1000000 ∧ sc.arrays.length ≤ 1000000 ∧ sc.funcs.length ≤ 1000000 := ⟨hsc.v1, hsc.a1, hsc.f1⟩
  have HSC := Lib.hid hsc; have HH3 := Lib.hid hH; have HC3 := Lib.hid hC
  have HY : Hid (C ≠ s) := by show _ ≠ _; omega
  have HCX : Hid (C < X) := hCX
  have hXl := hH.lt; have hCl := hC.lt; have hsX := hH.gt
  clear hsc hH hC
  have EV := Lib.hid eV; have EA := Lib.hid eA; have EF := Lib.hid eF
  clear eV eA eF
  subst hK
  have E := head_store (sc := sc) (raw := raw) (gs := gs) (gl := gl) (a := ka) (EA.out.trans hv)
  have HN : Hid (∀ w1, SrcAt w1 s raw ka → ArsAt (· ≠ s) w1 sc.arrays (.slice a1 sc.arrays.length a2) → Calls Tryz.prog 36 #[.agg #[.slice v1 sc.vars.length v2, .slice a1 sc.arrays.length a2, .slice f1 sc.funcs.length f2, .bool sc.free, .bool sc.loop], .pointer (some ⟨s, 0, none⟩)] w1 (Takes w1 s raw (.agg #[.string (strOf (gArray sc.free sc.arrays raw ka).1.name), .int .i64 (gArray sc.free sc.arrays raw ka).1.size]) (gArray sc.free sc.arrays raw ka).2)) := fun w1 h1 h2 => array_take s raw ka sc _ _ _ w1 h1 h2 la
  rw [E] at hJ
  clear E
  generalize gArray sc.free sc.arrays raw ka = q at *
  obtain ⟨⟨qn, qz⟩, qa⟩ := q
  dsimp only at HN hJ
  have HE3 : Hid (∀ b w1, SrcAt w1 s raw b → ScAt s w1 sc (.slice v1 sc.vars.length v2) (.slice a1 sc.arrays.length a2) (.slice f1 sc.funcs.length f2) → Calls Tryz.prog 35 #[.agg #[.slice v1 sc.vars.length v2, .slice a1 sc.arrays.length a2, .slice f1 sc.funcs.length f2, .bool sc.free, .bool sc.loop], .pointer (some ⟨s, 0, none⟩), .int .i64 3] w1 (GivesEx w1 s raw (gExpr sc raw 3 b))) := fun b w1 h1 h2 => expr_all 3 (by decide) s raw b sc _ _ _ w1 h1 h2
  replace HE3 := Lib.hid (HE3.out qa)
  generalize gExpr sc raw 3 qa = x at *
  obtain ⟨x, xa⟩ := x
  dsimp only at HE3 hJ
  subst hv
  have HH4 := Lib.hid (HH3.out.kind 2)
  have HC4 := Lib.hid (HC3.out.other (show C ≠ X by omega) 0 (.int .i64 2))
  have HS4 := Lib.hid (HSC.out.sfr HH4.out.fr)
  have b0 := HC4.out.at 0 _ rfl
  have b1 := HC4.out.at 1 _ rfl
  have b2 := HC4.out.at 2 _ rfl
  have b3 := HC4.out.at 3 _ rfl
  have b4 := HC4.out.at 4 _ rfl
  have x0 := HH3.out.own.at 0 _ rfl
  have x1 := HH3.out.own.at 1 _ rfl
  have x2 := HH3.out.own.at 2 _ rfl
  have x3 := HH3.out.own.at 3 _ rfl
  have x4 := HH3.out.own.at 4 _ rfl
  have fx0 := HH3.out.own.fz 0
  conv => arg 2; whnf
  go_wp2_with fail
  refine (HN.out _ HH4.out.src HS4.out.arrays).mono ?_
  rintro r w5 ⟨rfl, hs5, hf5⟩
  have HH5 := Lib.hid (HH4.out.sfr hs5 hf5)
  have HC5 := Lib.hid (HC4.out.sfr hf5 HY.out)
  clear hs5 hf5 b0 b1 b2 b3 b4 x0 x1 x2 x3 x4 fx0
  have y0 := HH5.out.own.at 0 _ rfl
  have y1 := HH5.out.own.at 1 _ rfl
  have y2 := HH5.out.own.at 2 _ rfl
  have y3 := HH5.out.own.at 3 _ rfl
  have y4 := HH5.out.own.at 4 _ rfl
  have fy1 := HH5.out.own.fz 1
  have hXl5 := HH5.out.lt
  have HHA := Lib.hid (HH5.out.name qn)
  have HCA := Lib.hid (HC5.out.other (show C ≠ X by omega) 1 (.string (strOf qn)))
  go_upto_region 19 with (fail)
  generalize w5.setCell ⟨X, 1, none⟩ (.string (strOf qn)) = W6 at *
  clear y0 y1 y2 y3 y4 fy1 hXl5
  have hdr : Below W6.heap.size W6 W6.drew := (Below.refl _ _).drew
  have HHd := Lib.hid (HHA.out.below hdr)
  have HCd := Lib.hid (HCA.out.old hdr)
  clear hdr
  have b0 := HCA.out.at 0 _ rfl
  have b1 := HCA.out.at 1 _ rfl
  have b2 := HCA.out.at 2 _ rfl
  have b3 := HCA.out.at 3 _ rfl
  have b4 := HCA.out.at 4 _ rfl
  have x0 := HHA.out.own.at 0 _ rfl
  have x1 := HHA.out.own.at 1 _ rfl
  have x2 := HHA.out.own.at 2 _ rfl
  have x3 := HHA.out.own.at 3 _ rfl
  have x4 := HHA.out.own.at 4 _ rfl
  have fx2 := HHA.out.own.fz 2
  have hXd := HHA.out.lt
  have hCd := HCA.out.lt
  obtain ⟨i0, hi0, hz0, hz1, hz2⟩ := info_parts infoEx
  go_wp2_with fail
  go_region_law (first
    | ((try go_simp); go_at_call 35; refine (HE3.out _ HHd.out.src (HSC.out.sfr HHd.out.fr)).mono ?_; rintro r w6 ⟨xv, he, hs6, hf6, hx6, hn6⟩; obtain ⟨xs, xc, hxv⟩ := hx6.shape; subst hxv; subst he; have hc : ∀ b o, b < _ → b ≠ s → w6.cell? ⟨b, o, none⟩ = _ := fun b o h hn => World.cell?_of_block (a := ⟨b, o, none⟩) (hf6.block b h hn); have HH6 := Lib.hid (HHd.out.sfr hs6 hf6); have HC6 := Lib.hid (HCd.out.sfr hf6 HY.out); have Hx6 := Lib.hid hx6; have Hn6 := Lib.hid hn6; have hz6 := hf6.size; have u2 := HH6.out.own.at 2 _ rfl; have hX6 := HH6.out.lt; clear hs6 hf6 hx6 hn6; have hw7 : Below w6.heap.size w6 (w6.alloc (.cells #[.int .i64 x.kind, .int .i64 x.op, .int .i64 x.n, .string (strOf x.name), .slice xs x.args.length xc] 31)) := (Below.refl _ _).alloc (Nat.le_refl _) _; have HH7 := Lib.hid (HH6.out.below hw7); have HC7 := Lib.hid (HC6.out.old hw7); have HN7 := Lib.hid (RowAt.new w6 (exCells x (.slice xs x.args.length xc)) 31); have Hx7 := Lib.hid ((Hx6.out.old hw7).mono (fun b hb => HHd.out.beside b hb)); clear hw7)
    | (refine step_append_lies (P := Tryz.prog) _ rfl _ _ 29 rfl (X + 1) 31 i0 _ 5 64 Tryz.underlying29 hi0 hz0 hz1 hz2 rfl (by decide) (.slice none 0 0) 0 (exFlat []) rfl HH7.out.exs.1 ⟨w6.heap.size, 0, none⟩ 1 1 (exCells x (.slice xs x.args.length xc)) rfl rfl (news_at HN7.out) (ex_one x _ _ _) (by decide) (by unfold maxLen; omega) (by omega) (by have := HH7.out.lt; omega) _ rfl ?_; intro g cap w8 hown hgrow hat hlt8; have hge8 : ∀ k, (Value.slice none 0 0).ownBlock = some k → X + 1 ≤ k := fun k e => (HH7.out.exs.ge e).1; have HH9 := Lib.hid (HH7.out.more x _ Hx7.out Hn6.out hown hgrow hat); have hO8 := HH7.out.own.low (hgrow.block X HH7.out.lt (fun e => by have := hge8 _ e.symm; omega)); have HC8 := Lib.hid (HC7.out.low (hgrow.block _ HC7.out.lt (fun e => by have := hge8 _ e.symm; have := HCX.out; omega))); have y2 := hO8.at 2 _ rfl; have fy2 := hO8.fz 2; have hX8 := hO8.lt; clear hown hgrow hat hO8))
  all_goals
    have HC9 := Lib.hid (HC8.out.other (show C ≠ X by have := HCX.out; omega) 2 (.slice (some ⟨g, 0, none⟩) (0 + 1) cap))
    go_wp2_with fail
    go_meet
    exact HH9.out.to rfl
end Go.Proofs.YtgmaeflfiooigaaGreatDoor

namespace Go.Proofs.YtgmaeflfiooigaaGreatDoor
open Go.RowKit
set_option maxHeartbeats 8000000
set_option maxRecDepth 100000

theorem sw_call (d s : Nat) (raw : List Int) (sc : Sc) (v1 a1 f1 : Option Addr) (v2 a2 f2 : Nat) (gs gl : Nat → List St × Nat) (C X : Nat) (K : Int) (HA HV HB : Bool) (ka : Nat) (wr W : World) (hd1 : d ≤ 1000) (hsc : ScAt s wr sc (.slice v1 sc.vars.length v2) (.slice a1 sc.arrays.length a2) (.slice f1 sc.funcs.length f2)) (hC : OwnAt W C [.slice v1 sc.vars.length v2, .slice a1 sc.arrays.length a2, .slice f1 sc.funcs.length f2, .bool sc.free, .bool sc.loop] 69) (hH : HeadIs wr X s raw 8 [] [] none 0 [] [] (.slice none 0 0) (.slice none 0 0) ka W) (hCX : C < X) (hsC : s < C) (hd0 : 0 ≤ K) (hd14 : K < 14) (hKd : 7 ≤ K → K < 11 → 2 ≤ d) (eA : sc.hasArrays = HA) (eV : sc.hasVars = HV) (eF : sc.hasFuncs = HB) (hK : K = 5) (hv : HB = true)  (q0 q4 q5 q6 q7 q8 q9 q15 q16 q17 q18 q19 q20 q21 q22 q23 q24 q25 q26 q27 q28 q29 q30 q31 q32 q33 q34 q35 q36 q37 q38 q39 q40 q41 q42 q43 q44 q45 q46 q47 q48 q49 q50 q51 q52 q53 q54 q55 q56 q57 q58 q59 q60 q61 q62 q63 q64 q65 q66 q67 q68 q69 q70 q71 q72 q73 q74 q75 q76 q77 q78 q79 q80 q81 q82 q83 q84 q85 q86 q87 q88 q89 q90 q91 q92 q93 q94 q95 q96 q97 q98 q99 q100 q101 q102 q103 q104 q105 q106 q107 q108 q109 q110 q111 q112 q113 q114 q115 q116 q117 q118 q119 q120 q121 q122 q123 q124 q125 q126 q127 q128 q129 q130 q131 q132 q133 q134 q135 q136 q137 q138 q139 q140 q141 q142 q143 q144 q145 q146 q147 q148 q149 q150 q151 q152 q153 q154 q155 q156 q157 q158 q159 q160 q161 q162 q163 q164 q165 q166 q167 q168 q169 q170 q171 q172 q173 q174 q175 q176 q177 q178 q179 q180 q181 q182 q183 q184 q185 q186 q187 q188 q189 q190 q191 q192 q193 q194 q195 q196 q197 q198 q199 q200 q201 q202 q203 q204 q205 q206 q207 q208 q209 q210 q211 q212 q213 q214 q215 q216 q217 q218 q219 q220 q221 q222 q223 q224 q225 : Value) (J K' : Act → World → Prop) (hJ : ∀ a' w', SwR d s C X K HA HV HB wr raw (gStHead sc raw gs gl K ka) q0 q4 q5 q6 q7 q8 q9 q16 q17 q18 q19 q20 q21 q22 q23 q24 q25 q26 q27 q28 q29 q30 q31 q32 q33 q34 q35 q36 q37 q38 q39 q40 q41 q42 q43 q44 q45 q46 q47 q48 q49 q50 q51 q52 q53 q54 q55 q56 q57 q58 q59 q60 q197 q198 q199 q200 q201 q202 q203 q204 q205 q206 q207 q208 q209 q210 q211 q212 q213 q214 q215 q216 q217 q218 q219 q220 q221 q222 q223 q224 q225 a' w' → J a' w') (hM : ∀ a' w', Met J a' w' → K' a' w') :
    Code.wp Tryz.prog swCode (Exit.then K' (fun _ _ _ => False)) ⟨[q0, .pointer (some ⟨s, 0, none⟩), .int .i64 d, .pointer (some ⟨C, 0, none⟩), q4, q5, q6, q7, q8, q9, .int .i64 K, .pointer (some ⟨X, 0, none⟩), .bool HA, .bool HV, .bool HB, q15, q16, q17, q18, q19, q20, q21, q22, q23, q24, q25, q26, q27, q28, q29, q30, q31, q32, q33, q34, q35, q36, q37, q38, q39, q40, q41, q42, q43, q44, q45, q46, q47, q48, q49, q50, q51, q52, q53, q54, q55, q56, q57, q58, q59, q60, q61, q62, q63, q64, q65, q66, q67, q68, q69, q70, q71, q72, q73, q74, q75, q76, q77, q78, q79, q80, q81, q82, q83, q84, q85, q86, q87, q88, q89, q90, q91, q92, q93, q94, q95, q96, q97, q98, q99, q100, q101, q102, q103, q104, q105, q106, q107, q108, q109, q110, q111, q112, q113, q114, q115, q116, q117, q118, q119, q120, q121, q122, q123, q124, q125, q126, q127, q128, q129, q130, q131, q132, q133, q134, q135, q136, q137, q138, q139, q140, q141, q142, q143, q144, q145, q146, q147, q148, q149, q150, q151, q152, q153, q154, q155, q156, q157, q158, q159, q160, q161, q162, q163, q164, q165, q166, q167, q168, q169, q170, q171, q172, q173, q174, q175, q176, q177, q178, q179, q180, q181, q182, q183, q184, q185, q186, q187, q188, q189, q190, q191, q192, q193, q194, q195, q196, q197, q198, q199, q200, q201, q202, q203, q204, q205, q206, q207, q208, q209, q210, q211, q212, q213, q214, q215, q216, q217, q218, q219, q220, q221, q222, q223, q224, q225].toArray, []⟩ W := by
  obtain ⟨lv, la, lf⟩ : sc.vars.length ≤ 1000000 ∧ sc.arrays.length ≤ 1000000 ∧ sc.funcs.length ≤ 1000000 := ⟨hsc.v1, hsc.a1, hsc.f1⟩
  have HSC := Lib.hid hsc; have HH3 := Lib.hid hH; have HC3 := Lib.hid hC
  have HY : Hid (C ≠ s) := by show _ ≠ _; omega
  have HCX : Hid (C < X) := hCX
  have hXl := hH.lt; have hCl := hC.lt; have hsX := hH.gt
  clear hsc hH hC
  have EV := Lib.hid eV; have EA := Lib.hid eA; have EF := Lib.hid eF
  clear eV eA eF
  subst hK
  have E := head_call (sc := sc) (raw := raw) (gs := gs) (gl := gl) (a := ka) (EF.out.trans hv)
  rw [E] at hJ
  clear E
  have HCA : Hid (∀ w1, SrcAt w1 s raw ka → ScAt s w1 sc (.slice v1 sc.vars.length v2) (.slice a1 sc.arrays.length a2) (.slice f1 sc.funcs.length f2) → Calls Tryz.prog 70 #[.agg #[.slice v1 sc.vars.length v2, .slice a1 sc.arrays.length a2, .slice f1 sc.funcs.length f2, .bool sc.free, .bool sc.loop], .pointer (some ⟨s, 0, none⟩), .int .i64 3] w1 (GivesEx w1 s raw (gCall sc raw (gExpr sc raw 2) ka))) := fun w1 h1 h2 => call_all 3 (by decide) (by decide) s raw ka sc _ _ _ w1 h1 h2
  generalize gCall sc raw (gExpr sc raw 2) ka = x at *
  obtain ⟨x, xa⟩ := x
  dsimp only at HCA hJ
  subst hv
  have HH4 := Lib.hid (HH3.out.kind 10)
  have HC4 := Lib.hid (HC3.out.other (show C ≠ X by omega) 0 (.int .i64 10))
  have y0 := HH3.out.own.at 0 _ rfl
  have y1 := HH3.out.own.at 1 _ rfl
  have y2 := HH3.out.own.at 2 _ rfl
  have y3 := HH3.out.own.at 3 _ rfl
  have y4 := HH3.out.own.at 4 _ rfl
  have fy0 := HH3.out.own.fz 0
  conv => arg 2; whnf
  go_upto_region 22 with (fail)
  generalize W.setCell ⟨X, 0, none⟩ (.int .i64 10) = W4 at *
  clear y0 y1 y2 y3 y4 fy0
  have hdr : Below W4.heap.size W4 W4.drew := (Below.refl _ _).drew
  have HHd := Lib.hid (HH4.out.below hdr)
  have HCd := Lib.hid (HC4.out.old hdr)
  clear hdr
  have b0 := HC4.out.at 0 _ rfl
  have b1 := HC4.out.at 1 _ rfl
  have b2 := HC4.out.at 2 _ rfl
  have b3 := HC4.out.at 3 _ rfl
  have b4 := HC4.out.at 4 _ rfl
  have x0 := HH4.out.own.at 0 _ rfl
  have x1 := HH4.out.own.at 1 _ rfl
  have x2 := HH4.out.own.at 2 _ rfl
  have x3 := HH4.out.own.at 3 _ rfl
  have x4 := HH4.out.own.at 4 _ rfl
  have fx2 := HH4.out.own.fz 2
  have hXd := HH4.out.lt
  have hCd := HC4.out.lt
  obtain ⟨i0, hi0, hz0, hz1, hz2⟩ := info_parts infoEx
  go_wp2_with fail
  go_region_law (first
    | ((try go_simp); go_at_call 70; refine (HCA.out _ HHd.out.src (HSC.out.sfr HHd.out.fr)).mono ?_; rintro r w6 ⟨xv, he, hs6, hf6, hx6, hn6⟩; obtain ⟨xs, xc, hxv⟩ := hx6.shape; subst hxv; subst he; have hc : ∀ b o, b < _ → b ≠ s → w6.cell? ⟨b, o, none⟩ = _ := fun b o h hn => World.cell?_of_block (a := ⟨b, o, none⟩) (hf6.block b h hn); have HH6 := Lib.hid (HHd.out.sfr hs6 hf6); have HC6 := Lib.hid (HCd.out.sfr hf6 HY.out); have Hx6 := Lib.hid hx6; have Hn6 := Lib.hid hn6; have hz6 := hf6.size; have u2 := HH6.out.own.at 2 _ rfl; have hX6 := HH6.out.lt; clear hs6 hf6 hx6 hn6; have hw7 : Below w6.heap.size w6 (w6.alloc (.cells #[.int .i64 x.kind, .int .i64 x.op, .int .i64 x.n, .string (strOf x.name), .slice xs x.args.length xc] 31)) := (Below.refl _ _).alloc (Nat.le_refl _) _; have HH7 := Lib.hid (HH6.out.below hw7); have HC7 := Lib.hid (HC6.out.old hw7); have HN7 := Lib.hid (RowAt.new w6 (exCells x (.slice xs x.args.length xc)) 31); have Hx7 := Lib.hid ((Hx6.out.old hw7).mono (fun b hb => HHd.out.beside b hb)); clear hw7)
    | (refine step_append_lies (P := Tryz.prog) _ rfl _ _ 29 rfl (X + 1) 31 i0 _ 5 64 Tryz.underlying29 hi0 hz0 hz1 hz2 rfl (by decide) (.slice none 0 0) 0 (exFlat []) rfl HH7.out.exs.1 ⟨w6.heap.size, 0, none⟩ 1 1 (exCells x (.slice xs x.args.length xc)) rfl rfl (news_at HN7.out) (ex_one x _ _ _) (by decide) (by unfold maxLen; omega) (by omega) (by have := HH7.out.lt; omega) _ rfl ?_; intro g cap w8 hown hgrow hat hlt8; have hge8 : ∀ k, (Value.slice none 0 0).ownBlock = some k → X + 1 ≤ k := fun k e => (HH7.out.exs.ge e).1; have HH9 := Lib.hid (HH7.out.more x _ Hx7.out Hn6.out hown hgrow hat); have hO8 := HH7.out.own.low (hgrow.block X HH7.out.lt (fun e => by have := hge8 _ e.symm; omega)); have HC8 := Lib.hid (HC7.out.low (hgrow.block _ HC7.out.lt (fun e => by have := hge8 _ e.symm; have := HCX.out; omega))); have y2 := hO8.at 2 _ rfl; have fy2 := hO8.fz 2; have hX8 := hO8.lt; clear hown hgrow hat hO8))
  all_goals
    have HC9 := Lib.hid (HC8.out.other (show C ≠ X by have := HCX.out; omega) 2 (.slice (some ⟨g, 0, none⟩) (0 + 1) cap))
    go_wp2_with fail
    go_meet
    exact HH9.out.to rfl
end Go.Proofs.YtgmaeflfiooigaaGreatDoor
