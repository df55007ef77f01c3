/-
  The end of a round of scope.stmts. Conditions: the source and the scope lie in memory as the types say.
-/
import Derived.Test.YtgmaeflfiooigaaGreatDoorTreeT
set_option linter.unusedVariables false
set_option linter.unusedSimpArgs false
namespace Go.Proofs.YtgmaeflfiooigaaGreatDoor
open Go.RowKit
set_option maxHeartbeats 8000000
set_option maxRecDepth 100000

theorem gsts_tail (s d c k : Nat) (raw : List Int) (sc : Sc) (v1 a1 f1 : Option Addr) (v2 a2 f2 : Nat) (one : Nat → St × Nat) (a0 : Nat) (w wr : World) (v : Value) (X : Nat) (y : St × Nat) (wc : World)
    (hsc : ScAt s w sc (.slice v1 sc.vars.length v2) (.slice a1 sc.arrays.length a2) (.slice f1 sc.funcs.length f2)) (hsl : s < w.heap.size) (hc6 : c ≤ 4) (hlt : k < c) (ls : List StV) (lk : List St) (bk : Nat) (hps : ls.map (·.x) = lk) (hfr : SFr s w wr) (hC : OwnAt wr w.heap.size [.slice v1 sc.vars.length v2, .slice a1 sc.arrays.length a2, .slice f1 sc.funcs.length f2, .bool sc.free, .bool sc.loop] 69) (hO : StsOwn wr (w.heap.size + 1) ls v)
    (hnx : gStsN one (k + 1) a0 = (lk ++ [(one bk).1], (one bk).2)) (hlk : ls.length = k) (hone : one bk = gFill sc raw y.1 y.2) (hCX : w.heap.size < X) (hmany : manyOf y.1.kind ≤ y.1.args.length + 1) (hargs : y.1.args.length ≤ 1) (hcut : HeadAt' wr X s raw y wc)
    (q0 q4 q5 q6 q10 q12 q13 q14 q15 q16 q17 q18 q19 q20 q21 q22 q23 q24 q25 q26 q27 q28 q29 q30 q31 q32 q33 q34 q35 q36 q37 q38 q39 q40 q41 q42 q43 q44 q45 q46 q47 q48 q49 q50 q51 q52 q53 q54 q55 q56 q57 q58 q59 q60 q61 q62 q63 q64 q65 q66 q67 q68 q69 q70 q71 q72 q73 q74 q75 q76 q77 q78 q79 q80 q81 q82 q83 q84 q85 q86 q87 q88 q89 q90 q91 q92 q93 q94 q95 q96 q97 q98 q99 q100 q101 q102 q103 q104 q105 q106 q107 q108 q109 q110 q111 q112 q113 q114 q115 q116 q117 q118 q119 q120 q121 q122 q123 q124 q125 q126 q127 q128 q129 q130 q131 q132 q133 q134 q135 q136 q137 q138 q139 q140 q141 q142 q143 q144 q145 q146 q147 q148 q149 q150 q151 q152 q153 q154 q155 q156 q157 q158 q159 q160 q161 q162 q163 q164 q165 q166 q167 q168 q169 q170 q171 q172 q173 q174 q175 q176 q177 q178 q179 q180 q181 q182 q183 q184 q185 q186 q187 q188 q189 q190 q191 q192 q193 q194 q195 q196 q197 q198 q199 q200 q201 q202 q203 q204 q205 q206 q207 q208 q209 q210 q211 q212 q213 q214 q215 q216 q217 q218 q219 q220 q221 q222 q223 q224 q225 : Value) (J K' : Act → World → Prop) (hJ : ∀ a' w', StsWJ w s d c raw one a0 [.slice v1 sc.vars.length v2, .slice a1 sc.arrays.length a2, .slice f1 sc.funcs.length f2, .bool sc.free, .bool sc.loop] k (k + 1) a' w' → J a' w') (hM : ∀ a' w', Met J a' w' → K' a' w') :
    Code.wp Tryz.prog tailCode (Exit.then K' (fun _ _ _ => False)) ⟨[q0, .pointer (some ⟨s, 0, none⟩), .int .i64 d, .pointer (some ⟨w.heap.size, 0, none⟩), q4, q5, q6, v, .int .i64 c, .int .i64 k, q10, .pointer (some ⟨X, 0, none⟩), q12, q13, q14, q15, q16, q17, q18, q19, q20, q21, q22, q23, q24, q25, q26, q27, q28, q29, q30, q31, q32, q33, q34, q35, q36, q37, q38, q39, q40, q41, q42, q43, q44, q45, q46, q47, q48, q49, q50, q51, q52, q53, q54, q55, q56, q57, q58, q59, q60, q61, q62, q63, q64, q65, q66, q67, q68, q69, q70, q71, q72, q73, q74, q75, q76, q77, q78, q79, q80, q81, q82, q83, q84, q85, q86, q87, q88, q89, q90, q91, q92, q93, q94, q95, q96, q97, q98, q99, q100, q101, q102, q103, q104, q105, q106, q107, q108, q109, q110, q111, q112, q113, q114, q115, q116, q117, q118, q119, q120, q121, q122, q123, q124, q125, q126, q127, q128, q129, q130, q131, q132, q133, q134, q135, q136, q137, q138, q139, q140, q141, q142, q143, q144, q145, q146, q147, q148, q149, q150, q151, q152, q153, q154, q155, q156, q157, q158, q159, q160, q161, q162, q163, q164, q165, q166, q167, q168, q169, q170, q171, q172, q173, q174, q175, q176, q177, q178, q179, q180, q181, q182, q183, q184, q185, q186, q187, q188, q189, q190, q191, q192, q193, q194, q195, q196, q197, q198, q199, q200, q201, q202, q203, q204, q205, q206, q207, q208, q209, q210, q211, q212, q213, q214, q215, q216, q217, q218, q219, q220, q221, q222, q223, q224, q225].toArray, []⟩ wc := by
  have HSC := Lib.hid hsc
  have HY : Hid (w.heap.size ≠ s) := by show _ ≠ _; omega
  obtain ⟨oa, oc, rfl⟩ := hO.shape
  have HPS := Lib.hid hps; have HFK := Lib.hid hfr; have HCK := Lib.hid hC; have HOK := Lib.hid hO; have HNX := Lib.hid hnx; have HONE := Lib.hid hone; have HLN := Lib.hid hlk; have HCX : Hid (w.heap.size < X) := hCX; have HMANY := Lib.hid hmany; have HARGS := Lib.hid (gFill_args sc raw y.1 y.2 hargs)
  clear hps hfr hC hO hsc hnx hone hlk hmany hargs
  conv => arg 2; whnf
  obtain ⟨y0, hy0⟩ : ∃ y0, y0 = gFill sc raw y.1 y.2 := ⟨_, rfl⟩
  rw [← hy0] at HONE HARGS
  have HY0 := Lib.hid hy0
  clear hy0
  obtain ⟨⟨yk, ynm, yargs, yt, ye⟩, ya⟩ := y
  obtain ⟨ps, va, vc, xt, xe, hps, hh⟩ := hcut
  dsimp only [St.kind, St.name, St.args, St.thn, St.els] at HMANY HY0 hps hh
  subst hps
  have HHA := Lib.hid hh
  have x0 := hh.own.at 0 _ rfl
  have hXl := hh.lt
  clear hh
  go_upto_if 199 with (fail)
  go_cut [16] from 19 to 224 (fun q wx => q = .int .i64 (if yk = 2 then 2 else 1) ∧ wc = wx)
  case first =>
    by_cases h : yk = 2
    · subst h
      go_wp2_with fail
      go_meet
      exact ⟨rfl, rfl⟩
    · have h2 : (yk == 2) = false := beq_eq_false_iff_ne.2 h
      have e : Hid ((if yk = 2 then (2 : Int) else 1) = 1) := if_neg h
      clear h
      go_wp2_with fail
      go_meet
      exact ⟨by rw [e.out], rfl⟩
  case rest =>
  obtain ⟨rfl, rfl⟩ := hcut
  obtain ⟨t2, ht2⟩ : ∃ t2, t2 = (if yk = 2 then (2 : Int) else 1) := ⟨_, rfl⟩
  rw [← ht2]
  have HT2 := Lib.hid ht2
  clear ht2
  go_upto_region 41 with (fail)
  go_cut [207] from 19 to 224 (fun q wx => q = .bool (decide (yk = 5 ∨ yk = 6)) ∧ wc = wx)
  case first =>
    by_cases h : yk = 5
    · subst h
      go_wp2_with fail
      go_meet
      exact ⟨rfl, rfl⟩
    · by_cases h6 : yk = 6
      · subst h6
        go_wp2_with fail
        go_meet
        exact ⟨rfl, rfl⟩
      · have e : Hid (decide (yk = 5 ∨ yk = 6) = false) := by show _ = _; exact decide_eq_false (by omega)
        have n5 : (yk == 5) = false := beq_eq_false_iff_ne.2 h
        have n6 : (yk == 6) = false := beq_eq_false_iff_ne.2 h6
        clear h h6
        go_wp2_with fail
        go_meet
        exact ⟨by rw [e.out], rfl⟩
  case rest =>
  obtain ⟨rfl, rfl⟩ := hcut
  obtain ⟨b56, hb56⟩ : ∃ b56, b56 = decide (yk = 5 ∨ yk = 6) := ⟨_, rfl⟩
  rw [← hb56]
  have HM : Hid ((manyOf yk : Int) = if b56 = true then 0 else t2) := by
    show _ = _
    rw [HT2.out, hb56]; unfold manyOf
    by_cases h2 : yk = 2
    · subst h2; rfl
    · by_cases h56 : yk = 5 ∨ yk = 6 <;> simp [h2, h56]
  clear HT2 hb56
  go_upto_if 207 with (fail)
  go_cut [16] from 19 to 224 (fun q wx => q = .int .i64 (manyOf yk : Nat) ∧ wc = wx)
  case first =>
    have hm := HM.out
    cases b56
    · have e : Hid ((manyOf yk : Int) = t2) := hm
      clear hm
      go_wp2_with fail
      go_meet
      exact ⟨by rw [e.out], rfl⟩
    · have e : Hid ((manyOf yk : Int) = 0) := hm
      clear hm
      go_wp2_with fail
      go_meet
      exact ⟨by rw [e.out], rfl⟩
  case rest =>
  obtain ⟨rfl, rfl⟩ := hcut
  clear HM x0
  go_upto_block 3 with (fail)
  refine wp_cut (fun a' w' => FillR s sc raw w.heap.size X yk wr (gFill sc raw (.mk yk ynm (ps.map (·.1)) yt ye) ya) _ _ _ _ _ _ _ _ _ _ _ _ _ _ _ _ _ _ _ _ _ _ _ _ _ _ _ _ _ _ _ _ _ _ _ _ _ _ _ _ _ _ _ _ _ _ _ _ _ _ _ _ _ _ _ _ _ _ _ _ _ _ _ _ _ _ _ _ _ _ _ _ _ _ _ _ _ _ _ _ _ _ _ _ _ _ _ _ _ _ _ _ _ _ _ _ _ _ _ _ _ _ _ _ _ _ _ _ _ _ _ _ _ _ _ _ _ _ _ _ _ _ _ _ _ _ _ _ _ _ _ _ _ _ _ _ _ _ _ _ _ _ _ _ _ _ _ _ _ _ _ _ _ _ _ _ _ _ _ _ _ _ _ _ _ _ _ _ _ _ _ _ _ _ _ _ _ _ _ _ _ _ _ _ _ _ _ _ _ _ _ _ _ _ _ _ _ _ _ _ _ _ _ _ _ _ _ _ _ a' w') ?rest (fun J K' hJ hM => then_any (fill_code s raw sc v1 a1 f1 v2 a2 f2 w.heap.size X yk ynm ps va vc yt ye xt xe ya wr wc (HSC.out.sfr HFK.out) HCK.out HHA.out HCX.out hsl (by have := HMANY.out; rwa [List.length_map] at this) _ _ _ _ _ _ _ _ _ _ _ _ _ _ _ _ _ _ _ _ _ _ _ _ _ _ _ _ _ _ _ _ _ _ _ _ _ _ _ _ _ _ _ _ _ _ _ _ _ _ _ _ _ _ _ _ _ _ _ _ _ _ _ _ _ _ _ _ _ _ _ _ _ _ _ _ _ _ _ _ _ _ _ _ _ _ _ _ _ _ _ _ _ _ _ _ _ _ _ _ _ _ _ _ _ _ _ _ _ _ _ _ _ _ _ _ _ _ _ _ _ _ _ _ _ _ _ _ _ _ _ _ _ _ _ _ _ _ _ _ _ _ _ _ _ _ _ _ _ _ _ _ _ _ _ _ _ _ _ _ _ _ _ _ _ _ _ _ _ _ _ _ _ _ _ _ _ _ _ _ _ _ _ _ _ _ _ _ _ _ _ _ _ _ _ _ _ _ _ _ _ _ _ _ _ _ _ _ _ _ _ _ _ _ _ _ _ _ _ _ _ _ J K' hJ hM))
  case rest =>
  intro a' we hcut
  obtain ⟨z208, hcut⟩ := hcut
  obtain ⟨z209, hcut⟩ := hcut
  obtain ⟨z210, hcut⟩ := hcut
  obtain ⟨z211, hcut⟩ := hcut
  obtain ⟨z212, hcut⟩ := hcut
  obtain ⟨z213, hcut⟩ := hcut
  obtain ⟨z214, hcut⟩ := hcut
  obtain ⟨z215, hcut⟩ := hcut
  obtain ⟨z216, hcut⟩ := hcut
  obtain ⟨z217, hcut⟩ := hcut
  obtain ⟨z218, hcut⟩ := hcut
  obtain ⟨z219, hcut⟩ := hcut
  obtain ⟨z220, hcut⟩ := hcut
  obtain ⟨hcut, ha'⟩ := hcut
  subst ha'
  clear HHA HMANY
  rw [← HY0.out] at hcut
  apply_assumption
  exact gsts_app s d c k raw sc v1 a1 f1 v2 a2 f2 one a0 w wr (.slice oa ls.length oc) X y0 we hsl hc6 hlt ls lk bk HPS.out HFK.out HCK.out HOK.out HNX.out HLN.out HONE.out HCX.out HARGS.out hcut _ _ _ _ _ _ _ _ _ _ _ _ _ _ _ _ _ _ _ _ _ _ _ _ _ _ _ _ _ _ _ _ _ _ _ _ _ _ _ _ _ _ _ _ _ _ _ _ _ _ _ _ _ _ _ _ _ _ _ _ _ _ _ _ _ _ _ _ _ _ _ _ _ _ _ _ _ _ _ _ _ _ _ _ _ _ _ _ _ _ _ _ _ _ _ _ _ _ _ _ _ _ _ _ _ _ _ _ _ _ _ _ _ _ _ _ _ _ _ _ _ _ _ _ _ _ _ _ _ _ _ _ _ _ _ _ _ _ _ _ _ _ _ _ _ _ _ _ _ _ _ _ _ _ _ _ _ _ _ _ _ _ _ _ _ _ _ _ _ _ _ _ _ _ _ _ _ _ _ _ _ _ _ _ _ _ _ _ _ _ _ _ _ _ _ _ _ _ _ _ _ _ _ _ _ _ _ _ _ _ _ _ _ _ _ _ _ _ _ J K' hJ hM
end Go.Proofs.YtgmaeflfiooigaaGreatDoor
