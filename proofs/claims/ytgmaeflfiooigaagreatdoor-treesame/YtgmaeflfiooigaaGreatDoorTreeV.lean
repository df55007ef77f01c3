/-
  The middle of a round of scope.stmts. Conditions: as the round.
-/
import Derived.Test.YtgmaeflfiooigaaGreatDoorTreeU
import Derived.Test.YtgmaeflfiooigaaGreatDoorTreeS
import Derived.Deep.CutRange
set_option linter.unusedVariables false
set_option linter.unusedSimpArgs false
namespace Go.Proofs.YtgmaeflfiooigaaGreatDoor
open Go.RowKit
set_option maxHeartbeats 8000000
set_option maxRecDepth 100000

theorem gsts_mid (d s c k : Nat) (raw : List Int) (sc : Sc) (v1 a1 f1 : Option Addr) (v2 a2 f2 : Nat) (gs gl : Nat → List St × Nat) (a0 : Nat) (w wr : World) (v : Value) (hd1 : d ≤ 1000) (hsc : ScAt s w sc (.slice v1 sc.vars.length v2) (.slice a1 sc.arrays.length a2) (.slice f1 sc.funcs.length f2)) (hsl : s < w.heap.size) (hc6 : c ≤ 4) (hIH : 2 ≤ d → ∀ w1 b, SrcAt w1 s raw b → ScAt s w1 sc (.slice v1 sc.vars.length v2) (.slice a1 sc.arrays.length a2) (.slice f1 sc.funcs.length f2) → Calls Tryz.prog 37 #[.agg #[.slice v1 sc.vars.length v2, .slice a1 sc.arrays.length a2, .slice f1 sc.funcs.length f2, .bool sc.free, .bool sc.loop], .pointer (some ⟨s, 0, none⟩), .int .i64 ((d : Int) - 1)] w1 (GivesSts w1 s raw (gs b))) (hIL : 2 ≤ d → ∀ w1 b, SrcAt w1 s raw b → ScAt s w1 sc (.slice v1 sc.vars.length v2) (.slice a1 sc.arrays.length a2) (.slice f1 sc.funcs.length f2) → Calls Tryz.prog 37 #[.agg #[.slice v1 sc.vars.length v2, .slice a1 sc.arrays.length a2, .slice f1 sc.funcs.length f2, .bool sc.free, .bool true], .pointer (some ⟨s, 0, none⟩), .int .i64 ((d : Int) - 1)] w1 (GivesSts w1 s raw (gl b))) (hlt : k < c) (ls : List StV) (lk : List St) (bk : Nat) (hps : ls.map (·.x) = lk) (hfr : SFr s w wr) (hC : OwnAt wr w.heap.size [.slice v1 sc.vars.length v2, .slice a1 sc.arrays.length a2, .slice f1 sc.funcs.length f2, .bool sc.free, .bool sc.loop] 69) (hO : StsOwn wr (w.heap.size + 1) ls v)
    (hnx : gStsN (gSt sc raw gs gl d) (k + 1) a0 = (lk ++ [((gSt sc raw gs gl d) bk).1], ((gSt sc raw gs gl d) bk).2)) (hlk : ls.length = k) (X : Nat) (K : Int) (ka : Nat) (W3 : World) (hone : gSt sc raw gs gl d bk = gFill sc raw (gStHead sc raw gs gl K ka).1 (gStHead sc raw gs gl K ka).2)
    (hCX : w.heap.size < X) (hK0 : 0 ≤ K) (hK1 : K < 14) (hKd : 7 ≤ K → K < 11 → 2 ≤ d) (hC3 : OwnAt W3 w.heap.size [.slice v1 sc.vars.length v2, .slice a1 sc.arrays.length a2, .slice f1 sc.funcs.length f2, .bool sc.free, .bool sc.loop] 69) (hH3 : HeadIs wr X s raw 8 [] [] none 0 [] [] (.slice none 0 0) (.slice none 0 0) ka W3)
    (q0 q4 q5 q6 q12 q13 q14 q15 q16 q17 q18 q19 q20 q21 q22 q23 q24 q25 q26 q27 q28 q29 q30 q31 q32 q33 q34 q35 q36 q37 q38 q39 q40 q41 q42 q43 q44 q45 q46 q47 q48 q49 q50 q51 q52 q53 q54 q55 q56 q57 q58 q59 q60 q61 q62 q63 q64 q65 q66 q67 q68 q69 q70 q71 q72 q73 q74 q75 q76 q77 q78 q79 q80 q81 q82 q83 q84 q85 q86 q87 q88 q89 q90 q91 q92 q93 q94 q95 q96 q97 q98 q99 q100 q101 q102 q103 q104 q105 q106 q107 q108 q109 q110 q111 q112 q113 q114 q115 q116 q117 q118 q119 q120 q121 q122 q123 q124 q125 q126 q127 q128 q129 q130 q131 q132 q133 q134 q135 q136 q137 q138 q139 q140 q141 q142 q143 q144 q145 q146 q147 q148 q149 q150 q151 q152 q153 q154 q155 q156 q157 q158 q159 q160 q161 q162 q163 q164 q165 q166 q167 q168 q169 q170 q171 q172 q173 q174 q175 q176 q177 q178 q179 q180 q181 q182 q183 q184 q185 q186 q187 q188 q189 q190 q191 q192 q193 q194 q195 q196 q197 q198 q199 q200 q201 q202 q203 q204 q205 q206 q207 q208 q209 q210 q211 q212 q213 q214 q215 q216 q217 q218 q219 q220 q221 q222 q223 q224 q225 : Value) (J K' : Act → World → Prop) (hJ : ∀ a' w', StsWJ w s d c raw (gSt sc raw gs gl d) a0 [.slice v1 sc.vars.length v2, .slice a1 sc.arrays.length a2, .slice f1 sc.funcs.length f2, .bool sc.free, .bool sc.loop] k (k + 1) a' w' → J a' w') (hM : ∀ a' w', Met J a' w' → K' a' w') :
    Code.wp Tryz.prog midCode (Exit.then K' (fun _ _ _ => False)) ⟨[q0, .pointer (some ⟨s, 0, none⟩), .int .i64 d, .pointer (some ⟨w.heap.size, 0, none⟩), q4, q5, q6, v, .int .i64 c, .int .i64 k, .int .i64 K, .pointer (some ⟨X, 0, none⟩), q12, q13, q14, q15, q16, q17, q18, q19, q20, q21, q22, q23, q24, q25, q26, q27, q28, q29, q30, q31, q32, q33, q34, q35, q36, q37, q38, q39, q40, q41, q42, q43, q44, q45, q46, q47, q48, q49, q50, q51, q52, q53, q54, q55, q56, q57, q58, q59, q60, q61, q62, q63, q64, q65, q66, q67, q68, q69, q70, q71, q72, q73, q74, q75, q76, q77, q78, q79, q80, q81, q82, q83, q84, q85, q86, q87, q88, q89, q90, q91, q92, q93, q94, q95, q96, q97, q98, q99, q100, q101, q102, q103, q104, q105, q106, q107, q108, q109, q110, q111, q112, q113, q114, q115, q116, q117, q118, q119, q120, q121, q122, q123, q124, q125, q126, q127, q128, q129, q130, q131, q132, q133, q134, q135, q136, q137, q138, q139, q140, q141, q142, q143, q144, q145, q146, q147, q148, q149, q150, q151, q152, q153, q154, q155, q156, q157, q158, q159, q160, q161, q162, q163, q164, q165, q166, q167, q168, q169, q170, q171, q172, q173, q174, q175, q176, q177, q178, q179, q180, q181, q182, q183, q184, q185, q186, q187, q188, q189, q190, q191, q192, q193, q194, q195, q196, q197, q198, q199, q200, q201, q202, q203, q204, q205, q206, q207, q208, q209, q210, q211, q212, q213, q214, q215, q216, q217, q218, q219, q220, q221, q222, q223, q224, q225].toArray, []⟩ W3 := by
  have lf := hsc.f1; have lv := hsc.v1; have la := hsc.a1
  have hva : Hid (sc.hasVars = (decide (0 < sc.vars.length) || sc.free)) := hasVars_eq sc
  have haa : Hid (sc.hasArrays = (decide (0 < sc.arrays.length) || sc.free)) := hasArrays_eq sc
  have hfa : Hid (sc.hasFuncs = (decide (0 < sc.funcs.length) || sc.free)) := hasFuncs_eq sc
  have HSC := Lib.hid hsc; have HIH := Lib.hid hIH; have HIL := Lib.hid hIL
  have HY : Hid (w.heap.size ≠ s) := by show _ ≠ _; omega
  obtain ⟨oa, oc, rfl⟩ := hO.shape
  have HPS := Lib.hid hps; have HFK := Lib.hid hfr; have HCK := Lib.hid hC; have HOK := Lib.hid hO; have HNX := Lib.hid hnx; have HLN := Lib.hid hlk; have HONE := Lib.hid hone; have HCX : Hid (w.heap.size < X) := hCX; have HKD := Lib.hid hKd; have HC3 := Lib.hid hC3; have HH3 := Lib.hid hH3
  clear hps hfr hC hO hsc hIH hIL hnx hlk hone hKd hC3 hH3
  conv => arg 2; whnf
  dsimp only
  have b0 := HC3.out.at 0 _ rfl
  have b1 := HC3.out.at 1 _ rfl
  have b2 := HC3.out.at 2 _ rfl
  have b3 := HC3.out.at 3 _ rfl
  have b4 := HC3.out.at 4 _ rfl
  go_upto_region 10 with (fail)
  go_cut [12] from 19 to 224 (fun q wx => q = .bool sc.hasArrays ∧ W3 = wx)
  case first =>
    by_cases hlv : 0 < sc.arrays.length
    · have hlv' : (0 : Int) < (sc.arrays.length : Int) := by omega
      go_wp2_with fail
      go_meet
      exact ⟨by rw [haa.out, decide_eq_true hlv]; rfl, rfl⟩
    · have hlv' : (sc.arrays.length : Int) ≤ 0 := by omega
      go_wp2_with fail
      go_meet
      exact ⟨by rw [haa.out, decide_eq_false hlv]; rfl, rfl⟩
  case rest =>
  obtain ⟨rfl, rfl⟩ := hcut
  go_upto_region 11 with (fail)
  go_cut [13] from 19 to 224 (fun q wx => q = .bool sc.hasVars ∧ W3 = wx)
  case first =>
    by_cases hlv : 0 < sc.vars.length
    · have hlv' : (0 : Int) < (sc.vars.length : Int) := by omega
      go_wp2_with fail
      go_meet
      exact ⟨by rw [hva.out, decide_eq_true hlv]; rfl, rfl⟩
    · have hlv' : (sc.vars.length : Int) ≤ 0 := by omega
      go_wp2_with fail
      go_meet
      exact ⟨by rw [hva.out, decide_eq_false hlv]; rfl, rfl⟩
  case rest =>
  obtain ⟨rfl, rfl⟩ := hcut
  go_upto_region 12 with (fail)
  go_cut [14] from 19 to 224 (fun q wx => q = .bool sc.hasFuncs ∧ W3 = wx)
  case first =>
    by_cases hlv : 0 < sc.funcs.length
    · have hlv' : (0 : Int) < (sc.funcs.length : Int) := by omega
      go_wp2_with fail
      go_meet
      exact ⟨by rw [hfa.out, decide_eq_true hlv]; rfl, rfl⟩
    · have hlv' : (sc.funcs.length : Int) ≤ 0 := by omega
      go_wp2_with fail
      go_meet
      exact ⟨by rw [hfa.out, decide_eq_false hlv]; rfl, rfl⟩
  case rest =>
  obtain ⟨rfl, rfl⟩ := hcut
  clear b0 b1 b2 b3 b4 haa hva hfa
  go_upto_block 2 with (fail)
  refine wp_cut (fun a' w' => SwR d s w.heap.size X K sc.hasArrays sc.hasVars sc.hasFuncs wr raw (gStHead sc raw gs gl K ka) _ _ _ _ _ _ _ _ _ _ _ _ _ _ _ _ _ _ _ _ _ _ _ _ _ _ _ _ _ _ _ _ _ _ _ _ _ _ _ _ _ _ _ _ _ _ _ _ _ _ _ _ _ _ _ _ _ _ _ _ _ _ _ _ _ _ _ _ _ _ _ _ _ _ _ _ _ _ _ _ _ a' w') ?rest (fun J K' hJ hM => then_any (sw_all d s raw sc v1 a1 f1 v2 a2 f2 gs gl w.heap.size X K sc.hasArrays sc.hasVars sc.hasFuncs ka wr W3 hd1 (HSC.out.sfr HFK.out) HC3.out HH3.out HCX.out hsl hK0 hK1 HKD.out rfl rfl rfl HIH.out HIL.out _ _ _ _ _ _ _ _ _ _ _ _ _ _ _ _ _ _ _ _ _ _ _ _ _ _ _ _ _ _ _ _ _ _ _ _ _ _ _ _ _ _ _ _ _ _ _ _ _ _ _ _ _ _ _ _ _ _ _ _ _ _ _ _ _ _ _ _ _ _ _ _ _ _ _ _ _ _ _ _ _ _ _ _ _ _ _ _ _ _ _ _ _ _ _ _ _ _ _ _ _ _ _ _ _ _ _ _ _ _ _ _ _ _ _ _ _ _ _ _ _ _ _ _ _ _ _ _ _ _ _ _ _ _ _ _ _ _ _ _ _ _ _ _ _ _ _ _ _ _ _ _ _ _ _ _ _ _ _ _ _ _ _ _ _ _ _ _ _ _ _ _ _ _ _ _ _ _ _ _ _ _ _ _ _ _ _ _ _ _ _ _ _ _ _ _ _ _ _ _ _ _ _ _ _ _ _ _ _ _ _ _ _ _ _ _ _ _ J K' hJ hM))
  case rest =>
  intro a' wc hcut
  obtain ⟨z15, hcut⟩ := hcut
  obtain ⟨z61, hcut⟩ := hcut
  obtain ⟨z62, hcut⟩ := hcut
  obtain ⟨z63, hcut⟩ := hcut
  obtain ⟨z64, hcut⟩ := hcut
  obtain ⟨z65, hcut⟩ := hcut
  obtain ⟨z66, hcut⟩ := hcut
  obtain ⟨z67, hcut⟩ := hcut
  obtain ⟨z68, hcut⟩ := hcut
  obtain ⟨z69, hcut⟩ := hcut
  obtain ⟨z70, hcut⟩ := hcut
  obtain ⟨z71, hcut⟩ := hcut
  obtain ⟨z72, hcut⟩ := hcut
  obtain ⟨z73, hcut⟩ := hcut
  obtain ⟨z74, hcut⟩ := hcut
  obtain ⟨z75, hcut⟩ := hcut
  obtain ⟨z76, hcut⟩ := hcut
  obtain ⟨z77, hcut⟩ := hcut
  obtain ⟨z78, hcut⟩ := hcut
  obtain ⟨z79, hcut⟩ := hcut
  obtain ⟨z80, hcut⟩ := hcut
  obtain ⟨z81, hcut⟩ := hcut
  obtain ⟨z82, hcut⟩ := hcut
  obtain ⟨z83, hcut⟩ := hcut
  obtain ⟨z84, hcut⟩ := hcut
  obtain ⟨z85, hcut⟩ := hcut
  obtain ⟨z86, hcut⟩ := hcut
  obtain ⟨z87, hcut⟩ := hcut
  obtain ⟨z88, hcut⟩ := hcut
  obtain ⟨z89, hcut⟩ := hcut
  obtain ⟨z90, hcut⟩ := hcut
  obtain ⟨z91, hcut⟩ := hcut
  obtain ⟨z92, hcut⟩ := hcut
  obtain ⟨z93, hcut⟩ := hcut
  obtain ⟨z94, hcut⟩ := hcut
  obtain ⟨z95, hcut⟩ := hcut
  obtain ⟨z96, hcut⟩ := hcut
  obtain ⟨z97, hcut⟩ := hcut
  obtain ⟨z98, hcut⟩ := hcut
  obtain ⟨z99, hcut⟩ := hcut
  obtain ⟨z100, hcut⟩ := hcut
  obtain ⟨z101, hcut⟩ := hcut
  obtain ⟨z102, hcut⟩ := hcut
  obtain ⟨z103, hcut⟩ := hcut
  obtain ⟨z104, hcut⟩ := hcut
  obtain ⟨z105, hcut⟩ := hcut
  obtain ⟨z106, hcut⟩ := hcut
  obtain ⟨z107, hcut⟩ := hcut
  obtain ⟨z108, hcut⟩ := hcut
  obtain ⟨z109, hcut⟩ := hcut
  obtain ⟨z110, hcut⟩ := hcut
  obtain ⟨z111, hcut⟩ := hcut
  obtain ⟨z112, hcut⟩ := hcut
  obtain ⟨z113, hcut⟩ := hcut
  obtain ⟨z114, hcut⟩ := hcut
  obtain ⟨z115, hcut⟩ := hcut
  obtain ⟨z116, hcut⟩ := hcut
  obtain ⟨z117, hcut⟩ := hcut
  obtain ⟨z118, hcut⟩ := hcut
  obtain ⟨z119, hcut⟩ := hcut
  obtain ⟨z120, hcut⟩ := hcut
  obtain ⟨z121, hcut⟩ := hcut
  obtain ⟨z122, hcut⟩ := hcut
  obtain ⟨z123, hcut⟩ := hcut
  obtain ⟨z124, hcut⟩ := hcut
  obtain ⟨z125, hcut⟩ := hcut
  obtain ⟨z126, hcut⟩ := hcut
  obtain ⟨z127, hcut⟩ := hcut
  obtain ⟨z128, hcut⟩ := hcut
  obtain ⟨z129, hcut⟩ := hcut
  obtain ⟨z130, hcut⟩ := hcut
  obtain ⟨z131, hcut⟩ := hcut
  obtain ⟨z132, hcut⟩ := hcut
  obtain ⟨z133, hcut⟩ := hcut
  obtain ⟨z134, hcut⟩ := hcut
  obtain ⟨z135, hcut⟩ := hcut
  obtain ⟨z136, hcut⟩ := hcut
  obtain ⟨z137, hcut⟩ := hcut
  obtain ⟨z138, hcut⟩ := hcut
  obtain ⟨z139, hcut⟩ := hcut
  obtain ⟨z140, hcut⟩ := hcut
  obtain ⟨z141, hcut⟩ := hcut
  obtain ⟨z142, hcut⟩ := hcut
  obtain ⟨z143, hcut⟩ := hcut
  obtain ⟨z144, hcut⟩ := hcut
  obtain ⟨z145, hcut⟩ := hcut
  obtain ⟨z146, hcut⟩ := hcut
  obtain ⟨z147, hcut⟩ := hcut
  obtain ⟨z148, hcut⟩ := hcut
  obtain ⟨z149, hcut⟩ := hcut
  obtain ⟨z150, hcut⟩ := hcut
  obtain ⟨z151, hcut⟩ := hcut
  obtain ⟨z152, hcut⟩ := hcut
  obtain ⟨z153, hcut⟩ := hcut
  obtain ⟨z154, hcut⟩ := hcut
  obtain ⟨z155, hcut⟩ := hcut
  obtain ⟨z156, hcut⟩ := hcut
  obtain ⟨z157, hcut⟩ := hcut
  obtain ⟨z158, hcut⟩ := hcut
  obtain ⟨z159, hcut⟩ := hcut
  obtain ⟨z160, hcut⟩ := hcut
  obtain ⟨z161, hcut⟩ := hcut
  obtain ⟨z162, hcut⟩ := hcut
  obtain ⟨z163, hcut⟩ := hcut
  obtain ⟨z164, hcut⟩ := hcut
  obtain ⟨z165, hcut⟩ := hcut
  obtain ⟨z166, hcut⟩ := hcut
  obtain ⟨z167, hcut⟩ := hcut
  obtain ⟨z168, hcut⟩ := hcut
  obtain ⟨z169, hcut⟩ := hcut
  obtain ⟨z170, hcut⟩ := hcut
  obtain ⟨z171, hcut⟩ := hcut
  obtain ⟨z172, hcut⟩ := hcut
  obtain ⟨z173, hcut⟩ := hcut
  obtain ⟨z174, hcut⟩ := hcut
  obtain ⟨z175, hcut⟩ := hcut
  obtain ⟨z176, hcut⟩ := hcut
  obtain ⟨z177, hcut⟩ := hcut
  obtain ⟨z178, hcut⟩ := hcut
  obtain ⟨z179, hcut⟩ := hcut
  obtain ⟨z180, hcut⟩ := hcut
  obtain ⟨z181, hcut⟩ := hcut
  obtain ⟨z182, hcut⟩ := hcut
  obtain ⟨z183, hcut⟩ := hcut
  obtain ⟨z184, hcut⟩ := hcut
  obtain ⟨z185, hcut⟩ := hcut
  obtain ⟨z186, hcut⟩ := hcut
  obtain ⟨z187, hcut⟩ := hcut
  obtain ⟨z188, hcut⟩ := hcut
  obtain ⟨z189, hcut⟩ := hcut
  obtain ⟨z190, hcut⟩ := hcut
  obtain ⟨z191, hcut⟩ := hcut
  obtain ⟨z192, hcut⟩ := hcut
  obtain ⟨z193, hcut⟩ := hcut
  obtain ⟨z194, hcut⟩ := hcut
  obtain ⟨z195, hcut⟩ := hcut
  obtain ⟨z196, hcut⟩ := hcut
  obtain ⟨hcut, ha'⟩ := hcut
  subst ha'
  have hmany := head_many sc raw gs gl K ka
  have hargs := head_args sc raw gs gl K ka
  clear HKD HH3 HC3
  apply_assumption
  exact gsts_tail s d c k raw sc v1 a1 f1 v2 a2 f2 (gSt sc raw gs gl d) a0 w wr (.slice oa ls.length oc) X (gStHead sc raw gs gl K ka) wc HSC.out hsl hc6 hlt ls lk bk HPS.out HFK.out HCK.out HOK.out HNX.out HLN.out HONE.out HCX.out hmany hargs hcut _ _ _ _ _ _ _ _ _ _ _ _ _ _ _ _ _ _ _ _ _ _ _ _ _ _ _ _ _ _ _ _ _ _ _ _ _ _ _ _ _ _ _ _ _ _ _ _ _ _ _ _ _ _ _ _ _ _ _ _ _ _ _ _ _ _ _ _ _ _ _ _ _ _ _ _ _ _ _ _ _ _ _ _ _ _ _ _ _ _ _ _ _ _ _ _ _ _ _ _ _ _ _ _ _ _ _ _ _ _ _ _ _ _ _ _ _ _ _ _ _ _ _ _ _ _ _ _ _ _ _ _ _ _ _ _ _ _ _ _ _ _ _ _ _ _ _ _ _ _ _ _ _ _ _ _ _ _ _ _ _ _ _ _ _ _ _ _ _ _ _ _ _ _ _ _ _ _ _ _ _ _ _ _ _ _ _ _ _ _ _ _ _ _ _ _ _ _ _ _ _ _ _ _ _ _ _ _ _ _ _ _ _ _ _ _ _ _ _ J K' hJ hM
end Go.Proofs.YtgmaeflfiooigaaGreatDoor
