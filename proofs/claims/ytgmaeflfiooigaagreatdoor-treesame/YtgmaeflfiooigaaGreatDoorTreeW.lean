/-
  A round of scope.stmts. Conditions: the source and the scope lie in memory as the types say.
  The loop of scope.stmts; scope.stmts at a depth. Conditions: the source and the scope lie in memory as the types say.
-/
import Derived.Test.YtgmaeflfiooigaaGreatDoorTreeV
set_option linter.unusedVariables false
set_option linter.unusedSimpArgs false
namespace Go.Proofs.YtgmaeflfiooigaaGreatDoor
open Go.RowKit
set_option maxHeartbeats 8000000
set_option maxRecDepth 100000

theorem gsts_round (d s c k : Nat) (raw : List Int) (sc : Sc) (v1 a1 f1 : Option Addr) (v2 a2 f2 : Nat) (gs gl : Nat → List St × Nat) (a0 : Nat) (w wr : World) (v : Value) (hd1 : d ≤ 1000) (hsc : ScAt s w sc (.slice v1 sc.vars.length v2) (.slice a1 sc.arrays.length a2) (.slice f1 sc.funcs.length f2)) (hsl : s < w.heap.size) (hc6 : c ≤ 4) (hIH : 2 ≤ d → ∀ w1 b, SrcAt w1 s raw b → ScAt s w1 sc (.slice v1 sc.vars.length v2) (.slice a1 sc.arrays.length a2) (.slice f1 sc.funcs.length f2) → Calls Tryz.prog 37 #[.agg #[.slice v1 sc.vars.length v2, .slice a1 sc.arrays.length a2, .slice f1 sc.funcs.length f2, .bool sc.free, .bool sc.loop], .pointer (some ⟨s, 0, none⟩), .int .i64 ((d : Int) - 1)] w1 (GivesSts w1 s raw (gs b))) (hIL : 2 ≤ d → ∀ w1 b, SrcAt w1 s raw b → ScAt s w1 sc (.slice v1 sc.vars.length v2) (.slice a1 sc.arrays.length a2) (.slice f1 sc.funcs.length f2) → Calls Tryz.prog 37 #[.agg #[.slice v1 sc.vars.length v2, .slice a1 sc.arrays.length a2, .slice f1 sc.funcs.length f2, .bool sc.free, .bool true], .pointer (some ⟨s, 0, none⟩), .int .i64 ((d : Int) - 1)] w1 (GivesSts w1 s raw (gl b))) (hlt : k < c) (hinv : StsInv w s raw (gSt sc raw gs gl d) a0 [.slice v1 sc.vars.length v2, .slice a1 sc.arrays.length a2, .slice f1 sc.funcs.length f2, .bool sc.free, .bool sc.loop] k v wr) (q0 q4 q5 q6 q10 q11 q12 q13 q14 q15 q16 q17 q18 q19 q20 q21 q22 q23 q24 q25 q26 q27 q28 q29 q30 q31 q32 q33 q34 q35 q36 q37 q38 q39 q40 q41 q42 q43 q44 q45 q46 q47 q48 q49 q50 q51 q52 q53 q54 q55 q56 q57 q58 q59 q60 q61 q62 q63 q64 q65 q66 q67 q68 q69 q70 q71 q72 q73 q74 q75 q76 q77 q78 q79 q80 q81 q82 q83 q84 q85 q86 q87 q88 q89 q90 q91 q92 q93 q94 q95 q96 q97 q98 q99 q100 q101 q102 q103 q104 q105 q106 q107 q108 q109 q110 q111 q112 q113 q114 q115 q116 q117 q118 q119 q120 q121 q122 q123 q124 q125 q126 q127 q128 q129 q130 q131 q132 q133 q134 q135 q136 q137 q138 q139 q140 q141 q142 q143 q144 q145 q146 q147 q148 q149 q150 q151 q152 q153 q154 q155 q156 q157 q158 q159 q160 q161 q162 q163 q164 q165 q166 q167 q168 q169 q170 q171 q172 q173 q174 q175 q176 q177 q178 q179 q180 q181 q182 q183 q184 q185 q186 q187 q188 q189 q190 q191 q192 q193 q194 q195 q196 q197 q198 q199 q200 q201 q202 q203 q204 q205 q206 q207 q208 q209 q210 q211 q212 q213 q214 q215 q216 q217 q218 q219 q220 q221 q222 q223 q224 q225 : Value) (J K' : Act → World → Prop) (hJ : ∀ a' w', StsWJ w s d c raw (gSt sc raw gs gl d) a0 [.slice v1 sc.vars.length v2, .slice a1 sc.arrays.length a2, .slice f1 sc.funcs.length f2, .bool sc.free, .bool sc.loop] (k + 1) (k + 1) a' w' → J a' w') (hM : ∀ a' w', Met J a' w' → K' a' w') :
    Code.wp Tryz.prog roundCode (Exit.then K' (fun _ _ _ => False)) ⟨[q0, .pointer (some ⟨s, 0, none⟩), .int .i64 d, .pointer (some ⟨w.heap.size, 0, none⟩), q4, q5, q6, v, .int .i64 c, .int .i64 k, q10, q11, q12, q13, q14, q15, q16, q17, q18, q19, q20, q21, q22, q23, q24, q25, q26, q27, q28, q29, q30, q31, q32, q33, q34, q35, q36, q37, q38, q39, q40, q41, q42, q43, q44, q45, q46, q47, q48, q49, q50, q51, q52, q53, q54, q55, q56, q57, q58, q59, q60, q61, q62, q63, q64, q65, q66, q67, q68, q69, q70, q71, q72, q73, q74, q75, q76, q77, q78, q79, q80, q81, q82, q83, q84, q85, q86, q87, q88, q89, q90, q91, q92, q93, q94, q95, q96, q97, q98, q99, q100, q101, q102, q103, q104, q105, q106, q107, q108, q109, q110, q111, q112, q113, q114, q115, q116, q117, q118, q119, q120, q121, q122, q123, q124, q125, q126, q127, q128, q129, q130, q131, q132, q133, q134, q135, q136, q137, q138, q139, q140, q141, q142, q143, q144, q145, q146, q147, q148, q149, q150, q151, q152, q153, q154, q155, q156, q157, q158, q159, q160, q161, q162, q163, q164, q165, q166, q167, q168, q169, q170, q171, q172, q173, q174, q175, q176, q177, q178, q179, q180, q181, q182, q183, q184, q185, q186, q187, q188, q189, q190, q191, q192, q193, q194, q195, q196, q197, q198, q199, q200, q201, q202, q203, q204, q205, q206, q207, q208, q209, q210, q211, q212, q213, q214, q215, q216, q217, q218, q219, q220, q221, q222, q223, q224, q225].toArray, []⟩ wr := by
  have lf := hsc.f1; have lv := hsc.v1; have la := hsc.a1
  have HSC := Lib.hid hsc; have HIH := Lib.hid hIH; have HIL := Lib.hid hIL
  have HY : Hid (w.heap.size ≠ s) := by show _ ≠ _; omega
  obtain ⟨ls, hps, hsr, hfr, hC, hO⟩ := hinv
  obtain ⟨oa, oc, rfl⟩ := hO.shape
  have HPS := Lib.hid hps; have HSK := Lib.hid hsr; have HFK := Lib.hid hfr; have HCK := Lib.hid hC; have HOK := Lib.hid hO
  clear hps hsr hfr hC hO hsc hIH hIL
  have HNX := Lib.hid (gStsN_succ (gSt sc raw gs gl d) k a0)
  have HLN : Hid (ls.length = k) := by show _ = _; have h1 := congrArg List.length HPS.out; rw [List.length_map, gStsN_len] at h1; exact h1
  generalize gStsN (gSt sc raw gs gl d) k a0 = mk at HPS HSK HNX
  obtain ⟨lk, bk⟩ := mk
  dsimp only at HPS HSK HNX
  have HN : Hid (Calls Tryz.prog 32 #[.pointer (some ⟨s, 0, none⟩), .int .i64 14] wr (Takes wr s raw (.int .i64 (gNext raw bk 14).1) (gNext raw bk 14).2)) := next_any s raw bk 14 wr HSK.out (by decide) (by decide)
  have hr := gNext_range raw bk 14 (by decide)
  have hkr := gStK_range raw d bk
  obtain ⟨K, hK⟩ : ∃ K, K = gStK raw d bk := ⟨_, rfl⟩
  obtain ⟨B, hB⟩ : ∃ B, B = decide (d < 2 ∧ 7 ≤ (gNext raw bk 14).1 ∧ (gNext raw bk 14).1 < 11) := ⟨_, rfl⟩
  have hKB : K = if B = true then 0 else (gNext raw bk 14).1 := by rw [hK, hB]; unfold gStK; by_cases h : d < 2 ∧ 7 ≤ (gNext raw bk 14).1 ∧ (gNext raw bk 14).1 < 11 <;> simp [h]
  have hone : gSt sc raw gs gl d bk = gFill sc raw (gStHead sc raw gs gl K (gNext raw bk 14).2).1 (gStHead sc raw gs gl K (gNext raw bk 14).2).2 := by rw [hK]; rfl
  have HONE := Lib.hid hone
  rw [← hK] at hkr
  obtain ⟨hK0, hK1, hKd⟩ := hkr
  clear hone hK
  generalize gNext raw bk 14 = g at *
  obtain ⟨k0, ka⟩ := g
  obtain ⟨hk0, hk1⟩ := hr
  dsimp only at HN hB hKB HONE hk0 hk1
  have HB := Lib.hid hB; have HKB := Lib.hid hKB; have HKD := Lib.hid hKd
  clear hB hKB hKd
  have hltI : (k : Int) < (c : Int) := by omega
  conv => arg 2; whnf
  go_wp2_with fail
  refine HN.out.mono ?_
  rintro r w2 ⟨rfl, hs2, hf2⟩
  have HH3 := Lib.hid (HeadIs.new 8 hs2 hf2)
  have HC3 := Lib.hid ((HCK.out.sfr hf2 HY.out).alloc (.cells #[.int .i64 8, .string ⟨#[]⟩, .slice none 0 0, .slice none 0 0, .slice none 0 0] 49))
  have hgX := hf2.size
  have hwX := HCK.out.lt
  have hsX : s < w2.heap.size := hs2.lt
  clear hs2 hf2 HN
  go_upto_region 7 with (fail)
  go_cut [35] from 19 to 224 (fun q wx => q = .bool B ∧ w2 = wx)
  case first =>
    by_cases h1 : (d : Int) < 2
    · by_cases h2 : 7 ≤ k0
      · by_cases h3 : k0 < 11
        · have e : Hid (B = true) := by show _ = _; rw [HB.out]; exact decide_eq_true ⟨by omega, h2, h3⟩
          go_wp2_with fail
          go_meet
          exact ⟨by rw [e.out], rfl⟩
        · have e : Hid (B = false) := by show _ = _; rw [HB.out]; exact decide_eq_false (fun h => h3 h.2.2)
          go_wp2_with fail
          go_meet
          exact ⟨by rw [e.out], rfl⟩
      · have e : Hid (B = false) := by show _ = _; rw [HB.out]; exact decide_eq_false (fun h => h2 h.2.1)
        go_wp2_with fail
        go_meet
        exact ⟨by rw [e.out], rfl⟩
    · have e : Hid (B = false) := by show _ = _; rw [HB.out]; exact decide_eq_false (fun h => h1 (by omega))
      go_wp2_with fail
      go_meet
      exact ⟨by rw [e.out], rfl⟩
  case rest =>
  obtain ⟨rfl, rfl⟩ := hcut
  go_upto_if 35 with (fail)
  go_cut [10] from 19 to 224 (fun q wx => q = .int .i64 K ∧ w2 = wx)
  case first =>
    have hkb := HKB.out
    cases B
    · have e : Hid (K = k0) := hkb
      clear hkb
      go_wp2_with fail
      go_meet
      exact ⟨by rw [e.out], rfl⟩
    · have e : Hid (K = 0) := hkb
      clear hkb
      go_wp2_with fail
      go_meet
      exact ⟨by rw [e.out], rfl⟩
  case rest =>
  obtain ⟨rfl, rfl⟩ := hcut
  clear HB HKB hk0 hk1 HSK
  go_upto_region 9 with (fail)
  go_cut [11] from 19 to 224 (fun q wx => q = .pointer (some ⟨w2.heap.size, 0, none⟩) ∧ w2.alloc (.cells #[.int .i64 8, .string ⟨#[]⟩, .slice none 0 0, .slice none 0 0, .slice none 0 0] 49) = wx)
  case first =>
    go_wp2_with fail
    go_meet
    exact ⟨rfl, rfl⟩
  case rest =>
  obtain ⟨rfl, rfl⟩ := hcut
  generalize w2.alloc (.cells #[.int .i64 8, .string ⟨#[]⟩, .slice none 0 0, .slice none 0 0, .slice none 0 0] 49) = W3 at *
  generalize w2.heap.size = X at *
  apply_assumption
  refine wp_to (gsts_mid d s c k raw sc v1 a1 f1 v2 a2 f2 gs gl a0 w wr (.slice oa ls.length oc) hd1 HSC.out hsl hc6 HIH.out HIL.out hlt ls lk bk HPS.out HFK.out HCK.out HOK.out HNX.out HLN.out X K ka W3 HONE.out (show w.heap.size < X by omega) hK0 hK1 HKD.out HC3.out HH3.out _ _ _ _ _ _ _ _ _ _ _ _ _ _ _ _ _ _ _ _ _ _ _ _ _ _ _ _ _ _ _ _ _ _ _ _ _ _ _ _ _ _ _ _ _ _ _ _ _ _ _ _ _ _ _ _ _ _ _ _ _ _ _ _ _ _ _ _ _ _ _ _ _ _ _ _ _ _ _ _ _ _ _ _ _ _ _ _ _ _ _ _ _ _ _ _ _ _ _ _ _ _ _ _ _ _ _ _ _ _ _ _ _ _ _ _ _ _ _ _ _ _ _ _ _ _ _ _ _ _ _ _ _ _ _ _ _ _ _ _ _ _ _ _ _ _ _ _ _ _ _ _ _ _ _ _ _ _ _ _ _ _ _ _ _ _ _ _ _ _ _ _ _ _ _ _ _ _ _ _ _ _ _ _ _ _ _ _ _ _ _ _ _ _ _ _ _ _ _ _ _ _ _ _ _ _ _ _ _ _ _ _ _ _ _ _ _ _ _ _ (fun a' w' hT => ?_) (fun _ _ h => h))
  dsimp only [Exit.inBlock, Exit.then]
  apply_assumption
  obtain ⟨v, hT⟩ := hT
  obtain ⟨z0, hT⟩ := hT
  obtain ⟨z4, hT⟩ := hT
  obtain ⟨z5, hT⟩ := hT
  obtain ⟨z6, hT⟩ := hT
  obtain ⟨z10, hT⟩ := hT
  obtain ⟨z11, hT⟩ := hT
  obtain ⟨z12, hT⟩ := hT
  obtain ⟨z13, hT⟩ := hT
  obtain ⟨z14, hT⟩ := hT
  obtain ⟨z15, hT⟩ := hT
  obtain ⟨z16, hT⟩ := hT
  obtain ⟨z17, hT⟩ := hT
  obtain ⟨z18, hT⟩ := hT
  obtain ⟨z19, hT⟩ := hT
  obtain ⟨z20, hT⟩ := hT
  obtain ⟨z21, hT⟩ := hT
  obtain ⟨z22, hT⟩ := hT
  obtain ⟨z23, hT⟩ := hT
  obtain ⟨z24, hT⟩ := hT
  obtain ⟨z25, hT⟩ := hT
  obtain ⟨z26, hT⟩ := hT
  obtain ⟨z27, hT⟩ := hT
  obtain ⟨z28, hT⟩ := hT
  obtain ⟨z29, hT⟩ := hT
  obtain ⟨z30, hT⟩ := hT
  obtain ⟨z31, hT⟩ := hT
  obtain ⟨z32, hT⟩ := hT
  obtain ⟨z33, hT⟩ := hT
  obtain ⟨z34, hT⟩ := hT
  obtain ⟨z35, hT⟩ := hT
  obtain ⟨z36, hT⟩ := hT
  obtain ⟨z37, hT⟩ := hT
  obtain ⟨z38, hT⟩ := hT
  obtain ⟨z39, hT⟩ := hT
  obtain ⟨z40, hT⟩ := hT
  obtain ⟨z41, hT⟩ := hT
  obtain ⟨z42, hT⟩ := hT
  obtain ⟨z43, hT⟩ := hT
  obtain ⟨z44, hT⟩ := hT
  obtain ⟨z45, hT⟩ := hT
  obtain ⟨z46, hT⟩ := hT
  obtain ⟨z47, hT⟩ := hT
  obtain ⟨z48, hT⟩ := hT
  obtain ⟨z49, hT⟩ := hT
  obtain ⟨z50, hT⟩ := hT
  obtain ⟨z51, hT⟩ := hT
  obtain ⟨z52, hT⟩ := hT
  obtain ⟨z53, hT⟩ := hT
  obtain ⟨z54, hT⟩ := hT
  obtain ⟨z55, hT⟩ := hT
  obtain ⟨z56, hT⟩ := hT
  obtain ⟨z57, hT⟩ := hT
  obtain ⟨z58, hT⟩ := hT
  obtain ⟨z59, hT⟩ := hT
  obtain ⟨z60, hT⟩ := hT
  obtain ⟨z61, hT⟩ := hT
  obtain ⟨z62, hT⟩ := hT
  obtain ⟨z63, hT⟩ := hT
  obtain ⟨z64, hT⟩ := hT
  obtain ⟨z65, hT⟩ := hT
  obtain ⟨z66, hT⟩ := hT
  obtain ⟨z67, hT⟩ := hT
  obtain ⟨z68, hT⟩ := hT
  obtain ⟨z69, hT⟩ := hT
  obtain ⟨z70, hT⟩ := hT
  obtain ⟨z71, hT⟩ := hT
  obtain ⟨z72, hT⟩ := hT
  obtain ⟨z73, hT⟩ := hT
  obtain ⟨z74, hT⟩ := hT
  obtain ⟨z75, hT⟩ := hT
  obtain ⟨z76, hT⟩ := hT
  obtain ⟨z77, hT⟩ := hT
  obtain ⟨z78, hT⟩ := hT
  obtain ⟨z79, hT⟩ := hT
  obtain ⟨z80, hT⟩ := hT
  obtain ⟨z81, hT⟩ := hT
  obtain ⟨z82, hT⟩ := hT
  obtain ⟨z83, hT⟩ := hT
  obtain ⟨z84, hT⟩ := hT
  obtain ⟨z85, hT⟩ := hT
  obtain ⟨z86, hT⟩ := hT
  obtain ⟨z87, hT⟩ := hT
  obtain ⟨z88, hT⟩ := hT
  obtain ⟨z89, hT⟩ := hT
  obtain ⟨z90, hT⟩ := hT
  obtain ⟨z91, hT⟩ := hT
  obtain ⟨z92, hT⟩ := hT
  obtain ⟨z93, hT⟩ := hT
  obtain ⟨z94, hT⟩ := hT
  obtain ⟨z95, hT⟩ := hT
  obtain ⟨z96, hT⟩ := hT
  obtain ⟨z97, hT⟩ := hT
  obtain ⟨z98, hT⟩ := hT
  obtain ⟨z99, hT⟩ := hT
  obtain ⟨z100, hT⟩ := hT
  obtain ⟨z101, hT⟩ := hT
  obtain ⟨z102, hT⟩ := hT
  obtain ⟨z103, hT⟩ := hT
  obtain ⟨z104, hT⟩ := hT
  obtain ⟨z105, hT⟩ := hT
  obtain ⟨z106, hT⟩ := hT
  obtain ⟨z107, hT⟩ := hT
  obtain ⟨z108, hT⟩ := hT
  obtain ⟨z109, hT⟩ := hT
  obtain ⟨z110, hT⟩ := hT
  obtain ⟨z111, hT⟩ := hT
  obtain ⟨z112, hT⟩ := hT
  obtain ⟨z113, hT⟩ := hT
  obtain ⟨z114, hT⟩ := hT
  obtain ⟨z115, hT⟩ := hT
  obtain ⟨z116, hT⟩ := hT
  obtain ⟨z117, hT⟩ := hT
  obtain ⟨z118, hT⟩ := hT
  obtain ⟨z119, hT⟩ := hT
  obtain ⟨z120, hT⟩ := hT
  obtain ⟨z121, hT⟩ := hT
  obtain ⟨z122, hT⟩ := hT
  obtain ⟨z123, hT⟩ := hT
  obtain ⟨z124, hT⟩ := hT
  obtain ⟨z125, hT⟩ := hT
  obtain ⟨z126, hT⟩ := hT
  obtain ⟨z127, hT⟩ := hT
  obtain ⟨z128, hT⟩ := hT
  obtain ⟨z129, hT⟩ := hT
  obtain ⟨z130, hT⟩ := hT
  obtain ⟨z131, hT⟩ := hT
  obtain ⟨z132, hT⟩ := hT
  obtain ⟨z133, hT⟩ := hT
  obtain ⟨z134, hT⟩ := hT
  obtain ⟨z135, hT⟩ := hT
  obtain ⟨z136, hT⟩ := hT
  obtain ⟨z137, hT⟩ := hT
  obtain ⟨z138, hT⟩ := hT
  obtain ⟨z139, hT⟩ := hT
  obtain ⟨z140, hT⟩ := hT
  obtain ⟨z141, hT⟩ := hT
  obtain ⟨z142, hT⟩ := hT
  obtain ⟨z143, hT⟩ := hT
  obtain ⟨z144, hT⟩ := hT
  obtain ⟨z145, hT⟩ := hT
  obtain ⟨z146, hT⟩ := hT
  obtain ⟨z147, hT⟩ := hT
  obtain ⟨z148, hT⟩ := hT
  obtain ⟨z149, hT⟩ := hT
  obtain ⟨z150, hT⟩ := hT
  obtain ⟨z151, hT⟩ := hT
  obtain ⟨z152, hT⟩ := hT
  obtain ⟨z153, hT⟩ := hT
  obtain ⟨z154, hT⟩ := hT
  obtain ⟨z155, hT⟩ := hT
  obtain ⟨z156, hT⟩ := hT
  obtain ⟨z157, hT⟩ := hT
  obtain ⟨z158, hT⟩ := hT
  obtain ⟨z159, hT⟩ := hT
  obtain ⟨z160, hT⟩ := hT
  obtain ⟨z161, hT⟩ := hT
  obtain ⟨z162, hT⟩ := hT
  obtain ⟨z163, hT⟩ := hT
  obtain ⟨z164, hT⟩ := hT
  obtain ⟨z165, hT⟩ := hT
  obtain ⟨z166, hT⟩ := hT
  obtain ⟨z167, hT⟩ := hT
  obtain ⟨z168, hT⟩ := hT
  obtain ⟨z169, hT⟩ := hT
  obtain ⟨z170, hT⟩ := hT
  obtain ⟨z171, hT⟩ := hT
  obtain ⟨z172, hT⟩ := hT
  obtain ⟨z173, hT⟩ := hT
  obtain ⟨z174, hT⟩ := hT
  obtain ⟨z175, hT⟩ := hT
  obtain ⟨z176, hT⟩ := hT
  obtain ⟨z177, hT⟩ := hT
  obtain ⟨z178, hT⟩ := hT
  obtain ⟨z179, hT⟩ := hT
  obtain ⟨z180, hT⟩ := hT
  obtain ⟨z181, hT⟩ := hT
  obtain ⟨z182, hT⟩ := hT
  obtain ⟨z183, hT⟩ := hT
  obtain ⟨z184, hT⟩ := hT
  obtain ⟨z185, hT⟩ := hT
  obtain ⟨z186, hT⟩ := hT
  obtain ⟨z187, hT⟩ := hT
  obtain ⟨z188, hT⟩ := hT
  obtain ⟨z189, hT⟩ := hT
  obtain ⟨z190, hT⟩ := hT
  obtain ⟨z191, hT⟩ := hT
  obtain ⟨z192, hT⟩ := hT
  obtain ⟨z193, hT⟩ := hT
  obtain ⟨z194, hT⟩ := hT
  obtain ⟨z195, hT⟩ := hT
  obtain ⟨z196, hT⟩ := hT
  obtain ⟨z197, hT⟩ := hT
  obtain ⟨z198, hT⟩ := hT
  obtain ⟨z199, hT⟩ := hT
  obtain ⟨z200, hT⟩ := hT
  obtain ⟨z201, hT⟩ := hT
  obtain ⟨z202, hT⟩ := hT
  obtain ⟨z203, hT⟩ := hT
  obtain ⟨z204, hT⟩ := hT
  obtain ⟨z205, hT⟩ := hT
  obtain ⟨z206, hT⟩ := hT
  obtain ⟨z207, hT⟩ := hT
  obtain ⟨z208, hT⟩ := hT
  obtain ⟨z209, hT⟩ := hT
  obtain ⟨z210, hT⟩ := hT
  obtain ⟨z211, hT⟩ := hT
  obtain ⟨z212, hT⟩ := hT
  obtain ⟨z213, hT⟩ := hT
  obtain ⟨z214, hT⟩ := hT
  obtain ⟨z215, hT⟩ := hT
  obtain ⟨z216, hT⟩ := hT
  obtain ⟨z217, hT⟩ := hT
  obtain ⟨z218, hT⟩ := hT
  obtain ⟨z219, hT⟩ := hT
  obtain ⟨z220, hT⟩ := hT
  obtain ⟨z221, hT⟩ := hT
  obtain ⟨z222, hT⟩ := hT
  obtain ⟨z223, hT⟩ := hT
  obtain ⟨z224, hT⟩ := hT
  obtain ⟨z225, hT⟩ := hT
  obtain ⟨hT, ha'⟩ := hT
  subst ha'
  have HT := Lib.hid hT
  clear hT
  go_wp2_with fail
  go_meet
  exact HT.out
end Go.Proofs.YtgmaeflfiooigaaGreatDoor

namespace Go.Proofs.YtgmaeflfiooigaaGreatDoor
open Go.RowKit
set_option maxHeartbeats 8000000
set_option maxRecDepth 100000

noncomputable def loopCode : Code := ((Tryz.f37.body.bind (partOf (isBlock 0))).getD .skip)
theorem StsWJ.meas {w : World} {s d c : Nat} {raw : List Int} {one : Nat → St × Nat} {a0 : Nat} {scs : List Value} {k j : Nat} {a' : Act} {w' : World} (h : StsWJ w s d c raw one a0 scs k j a' w') : (intOf (a'.tmps.getD 9 undef)).toNat = k := by
  obtain ⟨v, h⟩ := h
  obtain ⟨z0, h⟩ := h
  obtain ⟨z4, h⟩ := h
  obtain ⟨z5, h⟩ := h
  obtain ⟨z6, h⟩ := h
  obtain ⟨z10, h⟩ := h
  obtain ⟨z11, h⟩ := h
  obtain ⟨z12, h⟩ := h
  obtain ⟨z13, h⟩ := h
  obtain ⟨z14, h⟩ := h
  obtain ⟨z15, h⟩ := h
  obtain ⟨z16, h⟩ := h
  obtain ⟨z17, h⟩ := h
  obtain ⟨z18, h⟩ := h
  obtain ⟨z19, h⟩ := h
  obtain ⟨z20, h⟩ := h
  obtain ⟨z21, h⟩ := h
  obtain ⟨z22, h⟩ := h
  obtain ⟨z23, h⟩ := h
  obtain ⟨z24, h⟩ := h
  obtain ⟨z25, h⟩ := h
  obtain ⟨z26, h⟩ := h
  obtain ⟨z27, h⟩ := h
  obtain ⟨z28, h⟩ := h
  obtain ⟨z29, h⟩ := h
  obtain ⟨z30, h⟩ := h
  obtain ⟨z31, h⟩ := h
  obtain ⟨z32, h⟩ := h
  obtain ⟨z33, h⟩ := h
  obtain ⟨z34, h⟩ := h
  obtain ⟨z35, h⟩ := h
  obtain ⟨z36, h⟩ := h
  obtain ⟨z37, h⟩ := h
  obtain ⟨z38, h⟩ := h
  obtain ⟨z39, h⟩ := h
  obtain ⟨z40, h⟩ := h
  obtain ⟨z41, h⟩ := h
  obtain ⟨z42, h⟩ := h
  obtain ⟨z43, h⟩ := h
  obtain ⟨z44, h⟩ := h
  obtain ⟨z45, h⟩ := h
  obtain ⟨z46, h⟩ := h
  obtain ⟨z47, h⟩ := h
  obtain ⟨z48, h⟩ := h
  obtain ⟨z49, h⟩ := h
  obtain ⟨z50, h⟩ := h
  obtain ⟨z51, h⟩ := h
  obtain ⟨z52, h⟩ := h
  obtain ⟨z53, h⟩ := h
  obtain ⟨z54, h⟩ := h
  obtain ⟨z55, h⟩ := h
  obtain ⟨z56, h⟩ := h
  obtain ⟨z57, h⟩ := h
  obtain ⟨z58, h⟩ := h
  obtain ⟨z59, h⟩ := h
  obtain ⟨z60, h⟩ := h
  obtain ⟨z61, h⟩ := h
  obtain ⟨z62, h⟩ := h
  obtain ⟨z63, h⟩ := h
  obtain ⟨z64, h⟩ := h
  obtain ⟨z65, h⟩ := h
  obtain ⟨z66, h⟩ := h
  obtain ⟨z67, h⟩ := h
  obtain ⟨z68, h⟩ := h
  obtain ⟨z69, h⟩ := h
  obtain ⟨z70, h⟩ := h
  obtain ⟨z71, h⟩ := h
  obtain ⟨z72, h⟩ := h
  obtain ⟨z73, h⟩ := h
  obtain ⟨z74, h⟩ := h
  obtain ⟨z75, h⟩ := h
  obtain ⟨z76, h⟩ := h
  obtain ⟨z77, h⟩ := h
  obtain ⟨z78, h⟩ := h
  obtain ⟨z79, h⟩ := h
  obtain ⟨z80, h⟩ := h
  obtain ⟨z81, h⟩ := h
  obtain ⟨z82, h⟩ := h
  obtain ⟨z83, h⟩ := h
  obtain ⟨z84, h⟩ := h
  obtain ⟨z85, h⟩ := h
  obtain ⟨z86, h⟩ := h
  obtain ⟨z87, h⟩ := h
  obtain ⟨z88, h⟩ := h
  obtain ⟨z89, h⟩ := h
  obtain ⟨z90, h⟩ := h
  obtain ⟨z91, h⟩ := h
  obtain ⟨z92, h⟩ := h
  obtain ⟨z93, h⟩ := h
  obtain ⟨z94, h⟩ := h
  obtain ⟨z95, h⟩ := h
  obtain ⟨z96, h⟩ := h
  obtain ⟨z97, h⟩ := h
  obtain ⟨z98, h⟩ := h
  obtain ⟨z99, h⟩ := h
  obtain ⟨z100, h⟩ := h
  obtain ⟨z101, h⟩ := h
  obtain ⟨z102, h⟩ := h
  obtain ⟨z103, h⟩ := h
  obtain ⟨z104, h⟩ := h
  obtain ⟨z105, h⟩ := h
  obtain ⟨z106, h⟩ := h
  obtain ⟨z107, h⟩ := h
  obtain ⟨z108, h⟩ := h
  obtain ⟨z109, h⟩ := h
  obtain ⟨z110, h⟩ := h
  obtain ⟨z111, h⟩ := h
  obtain ⟨z112, h⟩ := h
  obtain ⟨z113, h⟩ := h
  obtain ⟨z114, h⟩ := h
  obtain ⟨z115, h⟩ := h
  obtain ⟨z116, h⟩ := h
  obtain ⟨z117, h⟩ := h
  obtain ⟨z118, h⟩ := h
  obtain ⟨z119, h⟩ := h
  obtain ⟨z120, h⟩ := h
  obtain ⟨z121, h⟩ := h
  obtain ⟨z122, h⟩ := h
  obtain ⟨z123, h⟩ := h
  obtain ⟨z124, h⟩ := h
  obtain ⟨z125, h⟩ := h
  obtain ⟨z126, h⟩ := h
  obtain ⟨z127, h⟩ := h
  obtain ⟨z128, h⟩ := h
  obtain ⟨z129, h⟩ := h
  obtain ⟨z130, h⟩ := h
  obtain ⟨z131, h⟩ := h
  obtain ⟨z132, h⟩ := h
  obtain ⟨z133, h⟩ := h
  obtain ⟨z134, h⟩ := h
  obtain ⟨z135, h⟩ := h
  obtain ⟨z136, h⟩ := h
  obtain ⟨z137, h⟩ := h
  obtain ⟨z138, h⟩ := h
  obtain ⟨z139, h⟩ := h
  obtain ⟨z140, h⟩ := h
  obtain ⟨z141, h⟩ := h
  obtain ⟨z142, h⟩ := h
  obtain ⟨z143, h⟩ := h
  obtain ⟨z144, h⟩ := h
  obtain ⟨z145, h⟩ := h
  obtain ⟨z146, h⟩ := h
  obtain ⟨z147, h⟩ := h
  obtain ⟨z148, h⟩ := h
  obtain ⟨z149, h⟩ := h
  obtain ⟨z150, h⟩ := h
  obtain ⟨z151, h⟩ := h
  obtain ⟨z152, h⟩ := h
  obtain ⟨z153, h⟩ := h
  obtain ⟨z154, h⟩ := h
  obtain ⟨z155, h⟩ := h
  obtain ⟨z156, h⟩ := h
  obtain ⟨z157, h⟩ := h
  obtain ⟨z158, h⟩ := h
  obtain ⟨z159, h⟩ := h
  obtain ⟨z160, h⟩ := h
  obtain ⟨z161, h⟩ := h
  obtain ⟨z162, h⟩ := h
  obtain ⟨z163, h⟩ := h
  obtain ⟨z164, h⟩ := h
  obtain ⟨z165, h⟩ := h
  obtain ⟨z166, h⟩ := h
  obtain ⟨z167, h⟩ := h
  obtain ⟨z168, h⟩ := h
  obtain ⟨z169, h⟩ := h
  obtain ⟨z170, h⟩ := h
  obtain ⟨z171, h⟩ := h
  obtain ⟨z172, h⟩ := h
  obtain ⟨z173, h⟩ := h
  obtain ⟨z174, h⟩ := h
  obtain ⟨z175, h⟩ := h
  obtain ⟨z176, h⟩ := h
  obtain ⟨z177, h⟩ := h
  obtain ⟨z178, h⟩ := h
  obtain ⟨z179, h⟩ := h
  obtain ⟨z180, h⟩ := h
  obtain ⟨z181, h⟩ := h
  obtain ⟨z182, h⟩ := h
  obtain ⟨z183, h⟩ := h
  obtain ⟨z184, h⟩ := h
  obtain ⟨z185, h⟩ := h
  obtain ⟨z186, h⟩ := h
  obtain ⟨z187, h⟩ := h
  obtain ⟨z188, h⟩ := h
  obtain ⟨z189, h⟩ := h
  obtain ⟨z190, h⟩ := h
  obtain ⟨z191, h⟩ := h
  obtain ⟨z192, h⟩ := h
  obtain ⟨z193, h⟩ := h
  obtain ⟨z194, h⟩ := h
  obtain ⟨z195, h⟩ := h
  obtain ⟨z196, h⟩ := h
  obtain ⟨z197, h⟩ := h
  obtain ⟨z198, h⟩ := h
  obtain ⟨z199, h⟩ := h
  obtain ⟨z200, h⟩ := h
  obtain ⟨z201, h⟩ := h
  obtain ⟨z202, h⟩ := h
  obtain ⟨z203, h⟩ := h
  obtain ⟨z204, h⟩ := h
  obtain ⟨z205, h⟩ := h
  obtain ⟨z206, h⟩ := h
  obtain ⟨z207, h⟩ := h
  obtain ⟨z208, h⟩ := h
  obtain ⟨z209, h⟩ := h
  obtain ⟨z210, h⟩ := h
  obtain ⟨z211, h⟩ := h
  obtain ⟨z212, h⟩ := h
  obtain ⟨z213, h⟩ := h
  obtain ⟨z214, h⟩ := h
  obtain ⟨z215, h⟩ := h
  obtain ⟨z216, h⟩ := h
  obtain ⟨z217, h⟩ := h
  obtain ⟨z218, h⟩ := h
  obtain ⟨z219, h⟩ := h
  obtain ⟨z220, h⟩ := h
  obtain ⟨z221, h⟩ := h
  obtain ⟨z222, h⟩ := h
  obtain ⟨z223, h⟩ := h
  obtain ⟨z224, h⟩ := h
  obtain ⟨z225, h⟩ := h
  obtain ⟨_, ha'⟩ := h
  subst ha'
  show (intOf (.int .i64 (k : Int))).toNat = k
  simp [intOf]
theorem gsts_loop (d s c : Nat) (raw : List Int) (sc : Sc) (v1 a1 f1 : Option Addr) (v2 a2 f2 : Nat) (gs gl : Nat → List St × Nat) (a0 : Nat) (w w2 : World) (hd1 : d ≤ 1000) (hsc : ScAt s w sc (.slice v1 sc.vars.length v2) (.slice a1 sc.arrays.length a2) (.slice f1 sc.funcs.length f2)) (hsl : s < w.heap.size) (hc6 : c ≤ 4) (hIH : 2 ≤ d → ∀ w1 b, SrcAt w1 s raw b → ScAt s w1 sc (.slice v1 sc.vars.length v2) (.slice a1 sc.arrays.length a2) (.slice f1 sc.funcs.length f2) → Calls Tryz.prog 37 #[.agg #[.slice v1 sc.vars.length v2, .slice a1 sc.arrays.length a2, .slice f1 sc.funcs.length f2, .bool sc.free, .bool sc.loop], .pointer (some ⟨s, 0, none⟩), .int .i64 ((d : Int) - 1)] w1 (GivesSts w1 s raw (gs b))) (hIL : 2 ≤ d → ∀ w1 b, SrcAt w1 s raw b → ScAt s w1 sc (.slice v1 sc.vars.length v2) (.slice a1 sc.arrays.length a2) (.slice f1 sc.funcs.length f2) → Calls Tryz.prog 37 #[.agg #[.slice v1 sc.vars.length v2, .slice a1 sc.arrays.length a2, .slice f1 sc.funcs.length f2, .bool sc.free, .bool true], .pointer (some ⟨s, 0, none⟩), .int .i64 ((d : Int) - 1)] w1 (GivesSts w1 s raw (gl b))) (hinv : StsInv w s raw (gSt sc raw gs gl d) a0 [.slice v1 sc.vars.length v2, .slice a1 sc.arrays.length a2, .slice f1 sc.funcs.length f2, .bool sc.free, .bool sc.loop] 0 (.slice none 0 0) w2) (q0 q4 q5 q6 q10 q11 q12 q13 q14 q15 q16 q17 q18 q19 q20 q21 q22 q23 q24 q25 q26 q27 q28 q29 q30 q31 q32 q33 q34 q35 q36 q37 q38 q39 q40 q41 q42 q43 q44 q45 q46 q47 q48 q49 q50 q51 q52 q53 q54 q55 q56 q57 q58 q59 q60 q61 q62 q63 q64 q65 q66 q67 q68 q69 q70 q71 q72 q73 q74 q75 q76 q77 q78 q79 q80 q81 q82 q83 q84 q85 q86 q87 q88 q89 q90 q91 q92 q93 q94 q95 q96 q97 q98 q99 q100 q101 q102 q103 q104 q105 q106 q107 q108 q109 q110 q111 q112 q113 q114 q115 q116 q117 q118 q119 q120 q121 q122 q123 q124 q125 q126 q127 q128 q129 q130 q131 q132 q133 q134 q135 q136 q137 q138 q139 q140 q141 q142 q143 q144 q145 q146 q147 q148 q149 q150 q151 q152 q153 q154 q155 q156 q157 q158 q159 q160 q161 q162 q163 q164 q165 q166 q167 q168 q169 q170 q171 q172 q173 q174 q175 q176 q177 q178 q179 q180 q181 q182 q183 q184 q185 q186 q187 q188 q189 q190 q191 q192 q193 q194 q195 q196 q197 q198 q199 q200 q201 q202 q203 q204 q205 q206 q207 q208 q209 q210 q211 q212 q213 q214 q215 q216 q217 q218 q219 q220 q221 q222 q223 q224 q225 : Value) (J K' : Act → World → Prop) (hJ : ∀ a' w', StsWJ w s d c raw (gSt sc raw gs gl d) a0 [.slice v1 sc.vars.length v2, .slice a1 sc.arrays.length a2, .slice f1 sc.funcs.length f2, .bool sc.free, .bool sc.loop] c c a' w' → J a' w') (hM : ∀ a' w', Met J a' w' → K' a' w') :
    Code.wp Tryz.prog loopCode (Exit.then K' (fun _ _ _ => False)) ⟨[q0, .pointer (some ⟨s, 0, none⟩), .int .i64 d, .pointer (some ⟨w.heap.size, 0, none⟩), q4, q5, q6, .slice none 0 0, .int .i64 c, .int .i64 (0 : Nat), q10, q11, q12, q13, q14, q15, q16, q17, q18, q19, q20, q21, q22, q23, q24, q25, q26, q27, q28, q29, q30, q31, q32, q33, q34, q35, q36, q37, q38, q39, q40, q41, q42, q43, q44, q45, q46, q47, q48, q49, q50, q51, q52, q53, q54, q55, q56, q57, q58, q59, q60, q61, q62, q63, q64, q65, q66, q67, q68, q69, q70, q71, q72, q73, q74, q75, q76, q77, q78, q79, q80, q81, q82, q83, q84, q85, q86, q87, q88, q89, q90, q91, q92, q93, q94, q95, q96, q97, q98, q99, q100, q101, q102, q103, q104, q105, q106, q107, q108, q109, q110, q111, q112, q113, q114, q115, q116, q117, q118, q119, q120, q121, q122, q123, q124, q125, q126, q127, q128, q129, q130, q131, q132, q133, q134, q135, q136, q137, q138, q139, q140, q141, q142, q143, q144, q145, q146, q147, q148, q149, q150, q151, q152, q153, q154, q155, q156, q157, q158, q159, q160, q161, q162, q163, q164, q165, q166, q167, q168, q169, q170, q171, q172, q173, q174, q175, q176, q177, q178, q179, q180, q181, q182, q183, q184, q185, q186, q187, q188, q189, q190, q191, q192, q193, q194, q195, q196, q197, q198, q199, q200, q201, q202, q203, q204, q205, q206, q207, q208, q209, q210, q211, q212, q213, q214, q215, q216, q217, q218, q219, q220, q221, q222, q223, q224, q225].toArray, []⟩ w2 := by
  conv => arg 2; whnf
  refine wp_block (wp_loop (fun a' w' => ∃ k, k ≤ c ∧ StsWJ w s d c raw (gSt sc raw gs gl d) a0 [.slice v1 sc.vars.length v2, .slice a1 sc.arrays.length a2, .slice f1 sc.funcs.length f2, .bool sc.free, .bool sc.loop] k k a' w') (fun a' _ => c - (intOf (a'.tmps.getD 9 undef)).toNat) ⟨0, Nat.zero_le _, .slice none 0 0, q0, q4, q5, q6, q10, q11, q12, q13, q14, q15, q16, q17, q18, q19, q20, q21, q22, q23, q24, q25, q26, q27, q28, q29, q30, q31, q32, q33, q34, q35, q36, q37, q38, q39, q40, q41, q42, q43, q44, q45, q46, q47, q48, q49, q50, q51, q52, q53, q54, q55, q56, q57, q58, q59, q60, q61, q62, q63, q64, q65, q66, q67, q68, q69, q70, q71, q72, q73, q74, q75, q76, q77, q78, q79, q80, q81, q82, q83, q84, q85, q86, q87, q88, q89, q90, q91, q92, q93, q94, q95, q96, q97, q98, q99, q100, q101, q102, q103, q104, q105, q106, q107, q108, q109, q110, q111, q112, q113, q114, q115, q116, q117, q118, q119, q120, q121, q122, q123, q124, q125, q126, q127, q128, q129, q130, q131, q132, q133, q134, q135, q136, q137, q138, q139, q140, q141, q142, q143, q144, q145, q146, q147, q148, q149, q150, q151, q152, q153, q154, q155, q156, q157, q158, q159, q160, q161, q162, q163, q164, q165, q166, q167, q168, q169, q170, q171, q172, q173, q174, q175, q176, q177, q178, q179, q180, q181, q182, q183, q184, q185, q186, q187, q188, q189, q190, q191, q192, q193, q194, q195, q196, q197, q198, q199, q200, q201, q202, q203, q204, q205, q206, q207, q208, q209, q210, q211, q212, q213, q214, q215, q216, q217, q218, q219, q220, q221, q222, q223, q224, q225, hinv, rfl⟩ ?_)
  intro a' w' hI
  obtain ⟨k, hk, hI⟩ := hI
  have hme := hI.meas
  obtain ⟨v, hI⟩ := hI
  obtain ⟨z0, hI⟩ := hI
  obtain ⟨z4, hI⟩ := hI
  obtain ⟨z5, hI⟩ := hI
  obtain ⟨z6, hI⟩ := hI
  obtain ⟨z10, hI⟩ := hI
  obtain ⟨z11, hI⟩ := hI
  obtain ⟨z12, hI⟩ := hI
  obtain ⟨z13, hI⟩ := hI
  obtain ⟨z14, hI⟩ := hI
  obtain ⟨z15, hI⟩ := hI
  obtain ⟨z16, hI⟩ := hI
  obtain ⟨z17, hI⟩ := hI
  obtain ⟨z18, hI⟩ := hI
  obtain ⟨z19, hI⟩ := hI
  obtain ⟨z20, hI⟩ := hI
  obtain ⟨z21, hI⟩ := hI
  obtain ⟨z22, hI⟩ := hI
  obtain ⟨z23, hI⟩ := hI
  obtain ⟨z24, hI⟩ := hI
  obtain ⟨z25, hI⟩ := hI
  obtain ⟨z26, hI⟩ := hI
  obtain ⟨z27, hI⟩ := hI
  obtain ⟨z28, hI⟩ := hI
  obtain ⟨z29, hI⟩ := hI
  obtain ⟨z30, hI⟩ := hI
  obtain ⟨z31, hI⟩ := hI
  obtain ⟨z32, hI⟩ := hI
  obtain ⟨z33, hI⟩ := hI
  obtain ⟨z34, hI⟩ := hI
  obtain ⟨z35, hI⟩ := hI
  obtain ⟨z36, hI⟩ := hI
  obtain ⟨z37, hI⟩ := hI
  obtain ⟨z38, hI⟩ := hI
  obtain ⟨z39, hI⟩ := hI
  obtain ⟨z40, hI⟩ := hI
  obtain ⟨z41, hI⟩ := hI
  obtain ⟨z42, hI⟩ := hI
  obtain ⟨z43, hI⟩ := hI
  obtain ⟨z44, hI⟩ := hI
  obtain ⟨z45, hI⟩ := hI
  obtain ⟨z46, hI⟩ := hI
  obtain ⟨z47, hI⟩ := hI
  obtain ⟨z48, hI⟩ := hI
  obtain ⟨z49, hI⟩ := hI
  obtain ⟨z50, hI⟩ := hI
  obtain ⟨z51, hI⟩ := hI
  obtain ⟨z52, hI⟩ := hI
  obtain ⟨z53, hI⟩ := hI
  obtain ⟨z54, hI⟩ := hI
  obtain ⟨z55, hI⟩ := hI
  obtain ⟨z56, hI⟩ := hI
  obtain ⟨z57, hI⟩ := hI
  obtain ⟨z58, hI⟩ := hI
  obtain ⟨z59, hI⟩ := hI
  obtain ⟨z60, hI⟩ := hI
  obtain ⟨z61, hI⟩ := hI
  obtain ⟨z62, hI⟩ := hI
  obtain ⟨z63, hI⟩ := hI
  obtain ⟨z64, hI⟩ := hI
  obtain ⟨z65, hI⟩ := hI
  obtain ⟨z66, hI⟩ := hI
  obtain ⟨z67, hI⟩ := hI
  obtain ⟨z68, hI⟩ := hI
  obtain ⟨z69, hI⟩ := hI
  obtain ⟨z70, hI⟩ := hI
  obtain ⟨z71, hI⟩ := hI
  obtain ⟨z72, hI⟩ := hI
  obtain ⟨z73, hI⟩ := hI
  obtain ⟨z74, hI⟩ := hI
  obtain ⟨z75, hI⟩ := hI
  obtain ⟨z76, hI⟩ := hI
  obtain ⟨z77, hI⟩ := hI
  obtain ⟨z78, hI⟩ := hI
  obtain ⟨z79, hI⟩ := hI
  obtain ⟨z80, hI⟩ := hI
  obtain ⟨z81, hI⟩ := hI
  obtain ⟨z82, hI⟩ := hI
  obtain ⟨z83, hI⟩ := hI
  obtain ⟨z84, hI⟩ := hI
  obtain ⟨z85, hI⟩ := hI
  obtain ⟨z86, hI⟩ := hI
  obtain ⟨z87, hI⟩ := hI
  obtain ⟨z88, hI⟩ := hI
  obtain ⟨z89, hI⟩ := hI
  obtain ⟨z90, hI⟩ := hI
  obtain ⟨z91, hI⟩ := hI
  obtain ⟨z92, hI⟩ := hI
  obtain ⟨z93, hI⟩ := hI
  obtain ⟨z94, hI⟩ := hI
  obtain ⟨z95, hI⟩ := hI
  obtain ⟨z96, hI⟩ := hI
  obtain ⟨z97, hI⟩ := hI
  obtain ⟨z98, hI⟩ := hI
  obtain ⟨z99, hI⟩ := hI
  obtain ⟨z100, hI⟩ := hI
  obtain ⟨z101, hI⟩ := hI
  obtain ⟨z102, hI⟩ := hI
  obtain ⟨z103, hI⟩ := hI
  obtain ⟨z104, hI⟩ := hI
  obtain ⟨z105, hI⟩ := hI
  obtain ⟨z106, hI⟩ := hI
  obtain ⟨z107, hI⟩ := hI
  obtain ⟨z108, hI⟩ := hI
  obtain ⟨z109, hI⟩ := hI
  obtain ⟨z110, hI⟩ := hI
  obtain ⟨z111, hI⟩ := hI
  obtain ⟨z112, hI⟩ := hI
  obtain ⟨z113, hI⟩ := hI
  obtain ⟨z114, hI⟩ := hI
  obtain ⟨z115, hI⟩ := hI
  obtain ⟨z116, hI⟩ := hI
  obtain ⟨z117, hI⟩ := hI
  obtain ⟨z118, hI⟩ := hI
  obtain ⟨z119, hI⟩ := hI
  obtain ⟨z120, hI⟩ := hI
  obtain ⟨z121, hI⟩ := hI
  obtain ⟨z122, hI⟩ := hI
  obtain ⟨z123, hI⟩ := hI
  obtain ⟨z124, hI⟩ := hI
  obtain ⟨z125, hI⟩ := hI
  obtain ⟨z126, hI⟩ := hI
  obtain ⟨z127, hI⟩ := hI
  obtain ⟨z128, hI⟩ := hI
  obtain ⟨z129, hI⟩ := hI
  obtain ⟨z130, hI⟩ := hI
  obtain ⟨z131, hI⟩ := hI
  obtain ⟨z132, hI⟩ := hI
  obtain ⟨z133, hI⟩ := hI
  obtain ⟨z134, hI⟩ := hI
  obtain ⟨z135, hI⟩ := hI
  obtain ⟨z136, hI⟩ := hI
  obtain ⟨z137, hI⟩ := hI
  obtain ⟨z138, hI⟩ := hI
  obtain ⟨z139, hI⟩ := hI
  obtain ⟨z140, hI⟩ := hI
  obtain ⟨z141, hI⟩ := hI
  obtain ⟨z142, hI⟩ := hI
  obtain ⟨z143, hI⟩ := hI
  obtain ⟨z144, hI⟩ := hI
  obtain ⟨z145, hI⟩ := hI
  obtain ⟨z146, hI⟩ := hI
  obtain ⟨z147, hI⟩ := hI
  obtain ⟨z148, hI⟩ := hI
  obtain ⟨z149, hI⟩ := hI
  obtain ⟨z150, hI⟩ := hI
  obtain ⟨z151, hI⟩ := hI
  obtain ⟨z152, hI⟩ := hI
  obtain ⟨z153, hI⟩ := hI
  obtain ⟨z154, hI⟩ := hI
  obtain ⟨z155, hI⟩ := hI
  obtain ⟨z156, hI⟩ := hI
  obtain ⟨z157, hI⟩ := hI
  obtain ⟨z158, hI⟩ := hI
  obtain ⟨z159, hI⟩ := hI
  obtain ⟨z160, hI⟩ := hI
  obtain ⟨z161, hI⟩ := hI
  obtain ⟨z162, hI⟩ := hI
  obtain ⟨z163, hI⟩ := hI
  obtain ⟨z164, hI⟩ := hI
  obtain ⟨z165, hI⟩ := hI
  obtain ⟨z166, hI⟩ := hI
  obtain ⟨z167, hI⟩ := hI
  obtain ⟨z168, hI⟩ := hI
  obtain ⟨z169, hI⟩ := hI
  obtain ⟨z170, hI⟩ := hI
  obtain ⟨z171, hI⟩ := hI
  obtain ⟨z172, hI⟩ := hI
  obtain ⟨z173, hI⟩ := hI
  obtain ⟨z174, hI⟩ := hI
  obtain ⟨z175, hI⟩ := hI
  obtain ⟨z176, hI⟩ := hI
  obtain ⟨z177, hI⟩ := hI
  obtain ⟨z178, hI⟩ := hI
  obtain ⟨z179, hI⟩ := hI
  obtain ⟨z180, hI⟩ := hI
  obtain ⟨z181, hI⟩ := hI
  obtain ⟨z182, hI⟩ := hI
  obtain ⟨z183, hI⟩ := hI
  obtain ⟨z184, hI⟩ := hI
  obtain ⟨z185, hI⟩ := hI
  obtain ⟨z186, hI⟩ := hI
  obtain ⟨z187, hI⟩ := hI
  obtain ⟨z188, hI⟩ := hI
  obtain ⟨z189, hI⟩ := hI
  obtain ⟨z190, hI⟩ := hI
  obtain ⟨z191, hI⟩ := hI
  obtain ⟨z192, hI⟩ := hI
  obtain ⟨z193, hI⟩ := hI
  obtain ⟨z194, hI⟩ := hI
  obtain ⟨z195, hI⟩ := hI
  obtain ⟨z196, hI⟩ := hI
  obtain ⟨z197, hI⟩ := hI
  obtain ⟨z198, hI⟩ := hI
  obtain ⟨z199, hI⟩ := hI
  obtain ⟨z200, hI⟩ := hI
  obtain ⟨z201, hI⟩ := hI
  obtain ⟨z202, hI⟩ := hI
  obtain ⟨z203, hI⟩ := hI
  obtain ⟨z204, hI⟩ := hI
  obtain ⟨z205, hI⟩ := hI
  obtain ⟨z206, hI⟩ := hI
  obtain ⟨z207, hI⟩ := hI
  obtain ⟨z208, hI⟩ := hI
  obtain ⟨z209, hI⟩ := hI
  obtain ⟨z210, hI⟩ := hI
  obtain ⟨z211, hI⟩ := hI
  obtain ⟨z212, hI⟩ := hI
  obtain ⟨z213, hI⟩ := hI
  obtain ⟨z214, hI⟩ := hI
  obtain ⟨z215, hI⟩ := hI
  obtain ⟨z216, hI⟩ := hI
  obtain ⟨z217, hI⟩ := hI
  obtain ⟨z218, hI⟩ := hI
  obtain ⟨z219, hI⟩ := hI
  obtain ⟨z220, hI⟩ := hI
  obtain ⟨z221, hI⟩ := hI
  obtain ⟨z222, hI⟩ := hI
  obtain ⟨z223, hI⟩ := hI
  obtain ⟨z224, hI⟩ := hI
  obtain ⟨z225, hI⟩ := hI
  obtain ⟨hI, ha'⟩ := hI
  subst ha'
  by_cases hlt : k < c
  · refine then_any (gsts_round d s c k raw sc v1 a1 f1 v2 a2 f2 gs gl a0 w w' v hd1 hsc hsl hc6 hIH hIL hlt hI z0 z4 z5 z6 z10 z11 z12 z13 z14 z15 z16 z17 z18 z19 z20 z21 z22 z23 z24 z25 z26 z27 z28 z29 z30 z31 z32 z33 z34 z35 z36 z37 z38 z39 z40 z41 z42 z43 z44 z45 z46 z47 z48 z49 z50 z51 z52 z53 z54 z55 z56 z57 z58 z59 z60 z61 z62 z63 z64 z65 z66 z67 z68 z69 z70 z71 z72 z73 z74 z75 z76 z77 z78 z79 z80 z81 z82 z83 z84 z85 z86 z87 z88 z89 z90 z91 z92 z93 z94 z95 z96 z97 z98 z99 z100 z101 z102 z103 z104 z105 z106 z107 z108 z109 z110 z111 z112 z113 z114 z115 z116 z117 z118 z119 z120 z121 z122 z123 z124 z125 z126 z127 z128 z129 z130 z131 z132 z133 z134 z135 z136 z137 z138 z139 z140 z141 z142 z143 z144 z145 z146 z147 z148 z149 z150 z151 z152 z153 z154 z155 z156 z157 z158 z159 z160 z161 z162 z163 z164 z165 z166 z167 z168 z169 z170 z171 z172 z173 z174 z175 z176 z177 z178 z179 z180 z181 z182 z183 z184 z185 z186 z187 z188 z189 z190 z191 z192 z193 z194 z195 z196 z197 z198 z199 z200 z201 z202 z203 z204 z205 z206 z207 z208 z209 z210 z211 z212 z213 z214 z215 z216 z217 z218 z219 z220 z221 z222 z223 z224 z225 _ _ (fun a' w' hT => ⟨⟨k + 1, hlt, hT⟩, ?_⟩) (fun _ _ h => h))
    rw [hT.meas, hme]; omega
  · obtain rfl : k = c := by omega
    have HI := Lib.hid hI
    clear hI hme hk hlt hIH hIL hinv
    go_wp2_with fail
    go_meet
    exact HI.out
/-- What stmts leaves, and whose it is. -/
def GivesOwn (w : World) (s : Nat) (raw : List Int) (x : List St × Nat) (r : Ending) (w' : World) : Prop :=
  ∃ v ls, r = .returned v ∧ SrcAt w' s raw x.2 ∧ SFr s w w' ∧ ls.map (·.x) = x.1 ∧ ls.length ≤ 4 ∧ StsOwn w' (w.heap.size + 1) ls v
theorem GivesOwn.sts {w w' : World} {s : Nat} {raw : List Int} {x : List St × Nat} {r : Ending} (h : GivesOwn w s raw x r w') : GivesSts w s raw x r w' := by
  obtain ⟨v, ls, h1, h2, h3, h4, h5, h6⟩ := h
  have q := h6.sts (show ls.length ≤ 140737488355328 by omega)
  rw [h4] at q
  exact ⟨v, h1, h2, h3, q.mono (fun b h => (Nat.le_trans (by omega) h : w.heap.size ≤ b))⟩
def StmtsOwn (d : Nat) : Prop := ∀ (s : Nat) (raw : List Int) (a : Nat) (sc : Sc) (vv av fv : Value) (w : World), SrcAt w s raw a → ScAt s w sc vv av fv →
  Calls Tryz.prog 37 #[scV sc vv av fv, .pointer (some ⟨s, 0, none⟩), .int .i64 d] w (GivesOwn w s raw (gStmts raw d sc a))
theorem gsts_own (d : Nat) (hd1 : d ≤ 1000) (ih : 2 ≤ d → StmtsTake (d - 1)) : StmtsOwn d := by
  intro s raw a sc vv av fv w hs hsc
  obtain ⟨gs, gl, E, hgs⟩ := gStmts_top raw d sc
  rw [E]
  clear E
  obtain ⟨v1, v2, rfl⟩ := hsc.vars.shape
  obtain ⟨a1, a2, rfl⟩ := hsc.arrays.shape
  obtain ⟨f1, f2, rfl⟩ := hsc.funcs.shape
  have hsl := hs.lt
  have hb1 : Below w.heap.size w (w.alloc (.cells #[.slice v1 sc.vars.length v2, .slice a1 sc.arrays.length a2, .slice f1 sc.funcs.length f2, .bool sc.free, .bool sc.loop] 69)) := (Below.refl _ _).alloc (Nat.le_refl _) _
  have HC1 := Lib.hid (OwnAt.new w [.slice v1 sc.vars.length v2, .slice a1 sc.arrays.length a2, .slice f1 sc.funcs.length f2, .bool sc.free, .bool sc.loop] 69)
  have HS1 := Lib.hid (hs.old hb1); have HF1 : Hid (SFr s w (w.alloc (.cells #[.slice v1 sc.vars.length v2, .slice a1 sc.arrays.length a2, .slice f1 sc.funcs.length f2, .bool sc.free, .bool sc.loop] 69))) := SFr.of_below hb1
  have HSC := Lib.hid hsc
  have HY : Hid (w.heap.size ≠ s) := by show _ ≠ _; omega
  have HN : Hid (∀ w1, SrcAt w1 s raw a → Calls Tryz.prog 32 #[.pointer (some ⟨s, 0, none⟩), .int .i64 5] w1 (Takes w1 s raw (.int .i64 (gNext raw a 5).1) (gNext raw a 5).2)) := fun w1 h1 => next_any s raw a 5 w1 h1 (by decide) (by decide)
  have HIH : Hid (2 ≤ d → ∀ w1 b, SrcAt w1 s raw b → ScAt s w1 sc (.slice v1 sc.vars.length v2) (.slice a1 sc.arrays.length a2) (.slice f1 sc.funcs.length f2) → Calls Tryz.prog 37 #[.agg #[.slice v1 sc.vars.length v2, .slice a1 sc.arrays.length a2, .slice f1 sc.funcs.length f2, .bool sc.free, .bool sc.loop], .pointer (some ⟨s, 0, none⟩), .int .i64 ((d : Int) - 1)] w1 (GivesSts w1 s raw (gs b))) := fun h w1 b h1 h2 => by
    have q := ih h s raw b sc _ _ _ w1 h1 h2
    rw [(hgs h).1]
    rw [show ((d - 1 : Nat) : Int) = (d : Int) - 1 by omega] at q; exact q
  have HIL : Hid (2 ≤ d → ∀ w1 b, SrcAt w1 s raw b → ScAt s w1 sc (.slice v1 sc.vars.length v2) (.slice a1 sc.arrays.length a2) (.slice f1 sc.funcs.length f2) → Calls Tryz.prog 37 #[.agg #[.slice v1 sc.vars.length v2, .slice a1 sc.arrays.length a2, .slice f1 sc.funcs.length f2, .bool sc.free, .bool true], .pointer (some ⟨s, 0, none⟩), .int .i64 ((d : Int) - 1)] w1 (GivesSts w1 s raw (gl b))) := fun h w1 b h1 h2 => by
    have q := ih h s raw b sc.inLoop _ _ _ w1 h1 h2.inLoop
    rw [(hgs h).2]
    rw [show ((d - 1 : Nat) : Int) = (d : Int) - 1 by omega] at q; exact q
  have hr := gNext_range raw a 5 (by decide)
  generalize gNext raw a 5 = g at *
  obtain ⟨c, a0⟩ := g
  obtain ⟨c0, c1⟩ := hr
  dsimp only at *
  obtain ⟨c, rfl⟩ := Int.eq_ofNat_of_zero_le c0
  rw [Int.toNat_natCast]
  have hc6 : c ≤ 4 := by omega
  clear hb1 hs hsc ih hgs c0 c1
  unfold scV
  go_enter Tryz.func37, Tryz.ntmps37
  go_wp2_with fail
  refine (HN.out _ HS1.out).mono ?_
  rintro r w2 ⟨rfl, hs2, hf2⟩
  have HI2 : Hid (StsInv w s raw (gSt sc raw gs gl d) a0 [.slice v1 sc.vars.length v2, .slice a1 sc.arrays.length a2, .slice f1 sc.funcs.length f2, .bool sc.free, .bool sc.loop] 0 (.slice none 0 0) w2) := ⟨[], rfl, hs2, HF1.out.trans hf2, HC1.out.sfr hf2 HY.out, StsOwn.zero _ _⟩
  clear hs2 hf2 HS1 HF1 HC1 HN
  go_upto_block 0 with (fail)
  refine wp_cut (fun a' w' => StsWJ w s d c raw (gSt sc raw gs gl d) a0 [.slice v1 sc.vars.length v2, .slice a1 sc.arrays.length a2, .slice f1 sc.funcs.length f2, .bool sc.free, .bool sc.loop] c c a' w') ?rest (fun J K' hJ hM => then_any (gsts_loop d s c raw sc v1 a1 f1 v2 a2 f2 gs gl a0 w w2 hd1 HSC.out hsl hc6 HIH.out HIL.out HI2.out _ _ _ _ _ _ _ _ _ _ _ _ _ _ _ _ _ _ _ _ _ _ _ _ _ _ _ _ _ _ _ _ _ _ _ _ _ _ _ _ _ _ _ _ _ _ _ _ _ _ _ _ _ _ _ _ _ _ _ _ _ _ _ _ _ _ _ _ _ _ _ _ _ _ _ _ _ _ _ _ _ _ _ _ _ _ _ _ _ _ _ _ _ _ _ _ _ _ _ _ _ _ _ _ _ _ _ _ _ _ _ _ _ _ _ _ _ _ _ _ _ _ _ _ _ _ _ _ _ _ _ _ _ _ _ _ _ _ _ _ _ _ _ _ _ _ _ _ _ _ _ _ _ _ _ _ _ _ _ _ _ _ _ _ _ _ _ _ _ _ _ _ _ _ _ _ _ _ _ _ _ _ _ _ _ _ _ _ _ _ _ _ _ _ _ _ _ _ _ _ _ _ _ _ _ _ _ _ _ _ _ _ _ _ _ _ _ _ _ _ J K' hJ hM))
  case rest =>
  intro a' wc hT
  obtain ⟨v, hT⟩ := hT
  obtain ⟨z0, hT⟩ := hT
  obtain ⟨z4, hT⟩ := hT
  obtain ⟨z5, hT⟩ := hT
  obtain ⟨z6, hT⟩ := hT
  obtain ⟨z10, hT⟩ := hT
  obtain ⟨z11, hT⟩ := hT
  obtain ⟨z12, hT⟩ := hT
  obtain ⟨z13, hT⟩ := hT
  obtain ⟨z14, hT⟩ := hT
  obtain ⟨z15, hT⟩ := hT
  obtain ⟨z16, hT⟩ := hT
  obtain ⟨z17, hT⟩ := hT
  obtain ⟨z18, hT⟩ := hT
  obtain ⟨z19, hT⟩ := hT
  obtain ⟨z20, hT⟩ := hT
  obtain ⟨z21, hT⟩ := hT
  obtain ⟨z22, hT⟩ := hT
  obtain ⟨z23, hT⟩ := hT
  obtain ⟨z24, hT⟩ := hT
  obtain ⟨z25, hT⟩ := hT
  obtain ⟨z26, hT⟩ := hT
  obtain ⟨z27, hT⟩ := hT
  obtain ⟨z28, hT⟩ := hT
  obtain ⟨z29, hT⟩ := hT
  obtain ⟨z30, hT⟩ := hT
  obtain ⟨z31, hT⟩ := hT
  obtain ⟨z32, hT⟩ := hT
  obtain ⟨z33, hT⟩ := hT
  obtain ⟨z34, hT⟩ := hT
  obtain ⟨z35, hT⟩ := hT
  obtain ⟨z36, hT⟩ := hT
  obtain ⟨z37, hT⟩ := hT
  obtain ⟨z38, hT⟩ := hT
  obtain ⟨z39, hT⟩ := hT
  obtain ⟨z40, hT⟩ := hT
  obtain ⟨z41, hT⟩ := hT
  obtain ⟨z42, hT⟩ := hT
  obtain ⟨z43, hT⟩ := hT
  obtain ⟨z44, hT⟩ := hT
  obtain ⟨z45, hT⟩ := hT
  obtain ⟨z46, hT⟩ := hT
  obtain ⟨z47, hT⟩ := hT
  obtain ⟨z48, hT⟩ := hT
  obtain ⟨z49, hT⟩ := hT
  obtain ⟨z50, hT⟩ := hT
  obtain ⟨z51, hT⟩ := hT
  obtain ⟨z52, hT⟩ := hT
  obtain ⟨z53, hT⟩ := hT
  obtain ⟨z54, hT⟩ := hT
  obtain ⟨z55, hT⟩ := hT
  obtain ⟨z56, hT⟩ := hT
  obtain ⟨z57, hT⟩ := hT
  obtain ⟨z58, hT⟩ := hT
  obtain ⟨z59, hT⟩ := hT
  obtain ⟨z60, hT⟩ := hT
  obtain ⟨z61, hT⟩ := hT
  obtain ⟨z62, hT⟩ := hT
  obtain ⟨z63, hT⟩ := hT
  obtain ⟨z64, hT⟩ := hT
  obtain ⟨z65, hT⟩ := hT
  obtain ⟨z66, hT⟩ := hT
  obtain ⟨z67, hT⟩ := hT
  obtain ⟨z68, hT⟩ := hT
  obtain ⟨z69, hT⟩ := hT
  obtain ⟨z70, hT⟩ := hT
  obtain ⟨z71, hT⟩ := hT
  obtain ⟨z72, hT⟩ := hT
  obtain ⟨z73, hT⟩ := hT
  obtain ⟨z74, hT⟩ := hT
  obtain ⟨z75, hT⟩ := hT
  obtain ⟨z76, hT⟩ := hT
  obtain ⟨z77, hT⟩ := hT
  obtain ⟨z78, hT⟩ := hT
  obtain ⟨z79, hT⟩ := hT
  obtain ⟨z80, hT⟩ := hT
  obtain ⟨z81, hT⟩ := hT
  obtain ⟨z82, hT⟩ := hT
  obtain ⟨z83, hT⟩ := hT
  obtain ⟨z84, hT⟩ := hT
  obtain ⟨z85, hT⟩ := hT
  obtain ⟨z86, hT⟩ := hT
  obtain ⟨z87, hT⟩ := hT
  obtain ⟨z88, hT⟩ := hT
  obtain ⟨z89, hT⟩ := hT
  obtain ⟨z90, hT⟩ := hT
  obtain ⟨z91, hT⟩ := hT
  obtain ⟨z92, hT⟩ := hT
  obtain ⟨z93, hT⟩ := hT
  obtain ⟨z94, hT⟩ := hT
  obtain ⟨z95, hT⟩ := hT
  obtain ⟨z96, hT⟩ := hT
  obtain ⟨z97, hT⟩ := hT
  obtain ⟨z98, hT⟩ := hT
  obtain ⟨z99, hT⟩ := hT
  obtain ⟨z100, hT⟩ := hT
  obtain ⟨z101, hT⟩ := hT
  obtain ⟨z102, hT⟩ := hT
  obtain ⟨z103, hT⟩ := hT
  obtain ⟨z104, hT⟩ := hT
  obtain ⟨z105, hT⟩ := hT
  obtain ⟨z106, hT⟩ := hT
  obtain ⟨z107, hT⟩ := hT
  obtain ⟨z108, hT⟩ := hT
  obtain ⟨z109, hT⟩ := hT
  obtain ⟨z110, hT⟩ := hT
  obtain ⟨z111, hT⟩ := hT
  obtain ⟨z112, hT⟩ := hT
  obtain ⟨z113, hT⟩ := hT
  obtain ⟨z114, hT⟩ := hT
  obtain ⟨z115, hT⟩ := hT
  obtain ⟨z116, hT⟩ := hT
  obtain ⟨z117, hT⟩ := hT
  obtain ⟨z118, hT⟩ := hT
  obtain ⟨z119, hT⟩ := hT
  obtain ⟨z120, hT⟩ := hT
  obtain ⟨z121, hT⟩ := hT
  obtain ⟨z122, hT⟩ := hT
  obtain ⟨z123, hT⟩ := hT
  obtain ⟨z124, hT⟩ := hT
  obtain ⟨z125, hT⟩ := hT
  obtain ⟨z126, hT⟩ := hT
  obtain ⟨z127, hT⟩ := hT
  obtain ⟨z128, hT⟩ := hT
  obtain ⟨z129, hT⟩ := hT
  obtain ⟨z130, hT⟩ := hT
  obtain ⟨z131, hT⟩ := hT
  obtain ⟨z132, hT⟩ := hT
  obtain ⟨z133, hT⟩ := hT
  obtain ⟨z134, hT⟩ := hT
  obtain ⟨z135, hT⟩ := hT
  obtain ⟨z136, hT⟩ := hT
  obtain ⟨z137, hT⟩ := hT
  obtain ⟨z138, hT⟩ := hT
  obtain ⟨z139, hT⟩ := hT
  obtain ⟨z140, hT⟩ := hT
  obtain ⟨z141, hT⟩ := hT
  obtain ⟨z142, hT⟩ := hT
  obtain ⟨z143, hT⟩ := hT
  obtain ⟨z144, hT⟩ := hT
  obtain ⟨z145, hT⟩ := hT
  obtain ⟨z146, hT⟩ := hT
  obtain ⟨z147, hT⟩ := hT
  obtain ⟨z148, hT⟩ := hT
  obtain ⟨z149, hT⟩ := hT
  obtain ⟨z150, hT⟩ := hT
  obtain ⟨z151, hT⟩ := hT
  obtain ⟨z152, hT⟩ := hT
  obtain ⟨z153, hT⟩ := hT
  obtain ⟨z154, hT⟩ := hT
  obtain ⟨z155, hT⟩ := hT
  obtain ⟨z156, hT⟩ := hT
  obtain ⟨z157, hT⟩ := hT
  obtain ⟨z158, hT⟩ := hT
  obtain ⟨z159, hT⟩ := hT
  obtain ⟨z160, hT⟩ := hT
  obtain ⟨z161, hT⟩ := hT
  obtain ⟨z162, hT⟩ := hT
  obtain ⟨z163, hT⟩ := hT
  obtain ⟨z164, hT⟩ := hT
  obtain ⟨z165, hT⟩ := hT
  obtain ⟨z166, hT⟩ := hT
  obtain ⟨z167, hT⟩ := hT
  obtain ⟨z168, hT⟩ := hT
  obtain ⟨z169, hT⟩ := hT
  obtain ⟨z170, hT⟩ := hT
  obtain ⟨z171, hT⟩ := hT
  obtain ⟨z172, hT⟩ := hT
  obtain ⟨z173, hT⟩ := hT
  obtain ⟨z174, hT⟩ := hT
  obtain ⟨z175, hT⟩ := hT
  obtain ⟨z176, hT⟩ := hT
  obtain ⟨z177, hT⟩ := hT
  obtain ⟨z178, hT⟩ := hT
  obtain ⟨z179, hT⟩ := hT
  obtain ⟨z180, hT⟩ := hT
  obtain ⟨z181, hT⟩ := hT
  obtain ⟨z182, hT⟩ := hT
  obtain ⟨z183, hT⟩ := hT
  obtain ⟨z184, hT⟩ := hT
  obtain ⟨z185, hT⟩ := hT
  obtain ⟨z186, hT⟩ := hT
  obtain ⟨z187, hT⟩ := hT
  obtain ⟨z188, hT⟩ := hT
  obtain ⟨z189, hT⟩ := hT
  obtain ⟨z190, hT⟩ := hT
  obtain ⟨z191, hT⟩ := hT
  obtain ⟨z192, hT⟩ := hT
  obtain ⟨z193, hT⟩ := hT
  obtain ⟨z194, hT⟩ := hT
  obtain ⟨z195, hT⟩ := hT
  obtain ⟨z196, hT⟩ := hT
  obtain ⟨z197, hT⟩ := hT
  obtain ⟨z198, hT⟩ := hT
  obtain ⟨z199, hT⟩ := hT
  obtain ⟨z200, hT⟩ := hT
  obtain ⟨z201, hT⟩ := hT
  obtain ⟨z202, hT⟩ := hT
  obtain ⟨z203, hT⟩ := hT
  obtain ⟨z204, hT⟩ := hT
  obtain ⟨z205, hT⟩ := hT
  obtain ⟨z206, hT⟩ := hT
  obtain ⟨z207, hT⟩ := hT
  obtain ⟨z208, hT⟩ := hT
  obtain ⟨z209, hT⟩ := hT
  obtain ⟨z210, hT⟩ := hT
  obtain ⟨z211, hT⟩ := hT
  obtain ⟨z212, hT⟩ := hT
  obtain ⟨z213, hT⟩ := hT
  obtain ⟨z214, hT⟩ := hT
  obtain ⟨z215, hT⟩ := hT
  obtain ⟨z216, hT⟩ := hT
  obtain ⟨z217, hT⟩ := hT
  obtain ⟨z218, hT⟩ := hT
  obtain ⟨z219, hT⟩ := hT
  obtain ⟨z220, hT⟩ := hT
  obtain ⟨z221, hT⟩ := hT
  obtain ⟨z222, hT⟩ := hT
  obtain ⟨z223, hT⟩ := hT
  obtain ⟨z224, hT⟩ := hT
  obtain ⟨z225, hT⟩ := hT
  obtain ⟨hT, ha'⟩ := hT
  subst ha'
  obtain ⟨ls, hps, hsr, hfr, hC, hO⟩ := hT
  obtain ⟨oa, oc, rfl⟩ := hO.shape
  have hlen : ls.length ≤ 4 := by have h1 := congrArg List.length hps; rw [List.length_map, gStsN_len] at h1; omega
  have HX9 := Lib.hid hO; have HPS := Lib.hid hps; have HLE := Lib.hid hlen
  have HSR := Lib.hid hsr; have HFR := Lib.hid hfr
  clear hps hsr hfr hC hO hlen HIH HIL HI2
  go_wp2_with fail
  go_ret
  exact ⟨_, ls, rfl, HSR.out, HFR.out, HPS.out, HLE.out, HX9.out⟩
theorem gsts_step (d : Nat) (hd1 : d ≤ 1000) (ih : 2 ≤ d → StmtsTake (d - 1)) : StmtsTake d := fun s raw a sc vv av fv w h1 h2 => (gsts_own d hd1 ih s raw a sc vv av fv w h1 h2).mono (fun _ _ h => h.sts)
theorem stmts_all : ∀ d : Nat, d ≤ 1000 → StmtsTake d
  | 0, h => gsts_step 0 h (fun h => absurd h (by decide))
  | d + 1, h => gsts_step (d + 1) h (fun _ => stmts_all d (by omega))
theorem stmts_own (d : Nat) (h : d ≤ 1000) : StmtsOwn d := gsts_own d h (fun _ => stmts_all (d - 1) (by omega))
end Go.Proofs.YtgmaeflfiooigaaGreatDoor
