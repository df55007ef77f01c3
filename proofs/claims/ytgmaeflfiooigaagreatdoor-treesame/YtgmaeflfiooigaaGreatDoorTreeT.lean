/-
  The loop of scope.stmts that fills a statement's expressions. Conditions: the source, the scope and the statement lie in memory as the types say.
  The end of a round of scope.stmts. Conditions: the source and the scope lie in memory as the types say.
-/
import Derived.Test.YtgmaeflfiooigaaGreatDoorTreeP
import Derived.Test.YtgmaeflfiooigaaGreatDoorTreeS
import Derived.Deep.CutRange
set_option linter.unusedVariables false
set_option linter.unusedSimpArgs false
namespace Go.Proofs.YtgmaeflfiooigaaGreatDoor
open Go.RowKit
set_option maxHeartbeats 8000000
set_option maxRecDepth 100000

/-- How many expressions the statement in the block X has. -/
def argLen (w : World) (X : Nat) : Nat := match w.cell? ⟨X, 2, none⟩ with
  | some (.slice _ n _) => n
  | _ => 0
theorem argLen_of {wq w : World} {X s : Nat} {raw : List Int} {k : Int} {nm : Bs} {ps : List (Ex × Value)} {va : Option Addr} {vc : Nat} {t e : List St} {xt xe : Value} {a : Nat} (h : HeadIs wq X s raw k nm ps va vc t e xt xe a w) : argLen w X = ps.length := by
  have := h.own.at 2 _ rfl
  unfold argLen; rw [this]
/-- Behind the loop. -/
def FillR (s : Nat) (sc : Sc) (raw : List Int) (C X : Nat) (k : Int) (wq : World) (y : St × Nat) (q0 q2 q4 q5 q6 q7 q8 q9 q10 q12 q13 q14 q15 q17 q18 q19 q20 q21 q22 q23 q24 q25 q26 q27 q28 q29 q30 q31 q32 q33 q34 q35 q36 q37 q38 q39 q40 q41 q42 q43 q44 q45 q46 q47 q48 q49 q50 q51 q52 q53 q54 q55 q56 q57 q58 q59 q60 q61 q62 q63 q64 q65 q66 q67 q68 q69 q70 q71 q72 q73 q74 q75 q76 q77 q78 q79 q80 q81 q82 q83 q84 q85 q86 q87 q88 q89 q90 q91 q92 q93 q94 q95 q96 q97 q98 q99 q100 q101 q102 q103 q104 q105 q106 q107 q108 q109 q110 q111 q112 q113 q114 q115 q116 q117 q118 q119 q120 q121 q122 q123 q124 q125 q126 q127 q128 q129 q130 q131 q132 q133 q134 q135 q136 q137 q138 q139 q140 q141 q142 q143 q144 q145 q146 q147 q148 q149 q150 q151 q152 q153 q154 q155 q156 q157 q158 q159 q160 q161 q162 q163 q164 q165 q166 q167 q168 q169 q170 q171 q172 q173 q174 q175 q176 q177 q178 q179 q180 q181 q182 q183 q184 q185 q186 q187 q188 q189 q190 q191 q192 q193 q194 q195 q196 q197 q198 q199 q200 q201 q202 q203 q204 q205 q206 q207 q221 q222 q223 q224 q225 : Value) (a' : Act) (w' : World) : Prop :=
  ∃ z208 z209 z210 z211 z212 z213 z214 z215 z216 z217 z218 z219 z220 : Value, HeadAt' wq X s raw y w' ∧ a' = ⟨[q0, .pointer (some ⟨s, 0, none⟩), q2, .pointer (some ⟨C, 0, none⟩), q4, q5, q6, q7, q8, q9, q10, .pointer (some ⟨X, 0, none⟩), q12, q13, q14, q15, .int .i64 (manyOf k : Nat), q17, q18, q19, q20, q21, q22, q23, q24, q25, q26, q27, q28, q29, q30, q31, q32, q33, q34, q35, q36, q37, q38, q39, q40, q41, q42, q43, q44, q45, q46, q47, q48, q49, q50, q51, q52, q53, q54, q55, q56, q57, q58, q59, q60, q61, q62, q63, q64, q65, q66, q67, q68, q69, q70, q71, q72, q73, q74, q75, q76, q77, q78, q79, q80, q81, q82, q83, q84, q85, q86, q87, q88, q89, q90, q91, q92, q93, q94, q95, q96, q97, q98, q99, q100, q101, q102, q103, q104, q105, q106, q107, q108, q109, q110, q111, q112, q113, q114, q115, q116, q117, q118, q119, q120, q121, q122, q123, q124, q125, q126, q127, q128, q129, q130, q131, q132, q133, q134, q135, q136, q137, q138, q139, q140, q141, q142, q143, q144, q145, q146, q147, q148, q149, q150, q151, q152, q153, q154, q155, q156, q157, q158, q159, q160, q161, q162, q163, q164, q165, q166, q167, q168, q169, q170, q171, q172, q173, q174, q175, q176, q177, q178, q179, q180, q181, q182, q183, q184, q185, q186, q187, q188, q189, q190, q191, q192, q193, q194, q195, q196, q197, q198, q199, q200, q201, q202, q203, q204, q205, q206, q207, z208, z209, z210, z211, z212, z213, z214, z215, z216, z217, z218, z219, z220, q221, q222, q223, q224, q225].toArray, []⟩
def FillInv (sc : Sc) (raw : List Int) (wq : World) (X s : Nat) (k : Int) (nm : Bs) (t e : List St) (xt xe : Value) (y : St × Nat) (w' : World) : Prop :=
  ∃ ps va vc a, gFill sc raw (.mk k nm (ps.map (·.1)) t e) a = y ∧ manyOf k ≤ ps.length + 1 ∧ HeadIs wq X s raw k nm ps va vc t e xt xe a w'
theorem fill_code (s : Nat) (raw : List Int) (sc : Sc) (v1 a1 f1 : Option Addr) (v2 a2 f2 : Nat) (C X : Nat) (k : Int) (nm : Bs) (ps : List (Ex × Value)) (va : Option Addr) (vc : Nat) (t e : List St) (xt xe : Value) (a : Nat) (wq W : World)
    (hsc : ScAt s wq sc (.slice v1 sc.vars.length v2) (.slice a1 sc.arrays.length a2) (.slice f1 sc.funcs.length f2)) (hC : OwnAt wq C [.slice v1 sc.vars.length v2, .slice a1 sc.arrays.length a2, .slice f1 sc.funcs.length f2, .bool sc.free, .bool sc.loop] 69) (hH : HeadIs wq X s raw k nm ps va vc t e xt xe a W) (hCX : C < X) (hsC : s < C) (hm : manyOf k ≤ ps.length + 1)
    (q0 q2 q4 q5 q6 q7 q8 q9 q10 q12 q13 q14 q15 q17 q18 q19 q20 q21 q22 q23 q24 q25 q26 q27 q28 q29 q30 q31 q32 q33 q34 q35 q36 q37 q38 q39 q40 q41 q42 q43 q44 q45 q46 q47 q48 q49 q50 q51 q52 q53 q54 q55 q56 q57 q58 q59 q60 q61 q62 q63 q64 q65 q66 q67 q68 q69 q70 q71 q72 q73 q74 q75 q76 q77 q78 q79 q80 q81 q82 q83 q84 q85 q86 q87 q88 q89 q90 q91 q92 q93 q94 q95 q96 q97 q98 q99 q100 q101 q102 q103 q104 q105 q106 q107 q108 q109 q110 q111 q112 q113 q114 q115 q116 q117 q118 q119 q120 q121 q122 q123 q124 q125 q126 q127 q128 q129 q130 q131 q132 q133 q134 q135 q136 q137 q138 q139 q140 q141 q142 q143 q144 q145 q146 q147 q148 q149 q150 q151 q152 q153 q154 q155 q156 q157 q158 q159 q160 q161 q162 q163 q164 q165 q166 q167 q168 q169 q170 q171 q172 q173 q174 q175 q176 q177 q178 q179 q180 q181 q182 q183 q184 q185 q186 q187 q188 q189 q190 q191 q192 q193 q194 q195 q196 q197 q198 q199 q200 q201 q202 q203 q204 q205 q206 q207 q208 q209 q210 q211 q212 q213 q214 q215 q216 q217 q218 q219 q220 q221 q222 q223 q224 q225 : Value) (J K' : Act → World → Prop) (hJ : ∀ a' w', FillR s sc raw C X k wq (gFill sc raw (.mk k nm (ps.map (·.1)) t e) a) q0 q2 q4 q5 q6 q7 q8 q9 q10 q12 q13 q14 q15 q17 q18 q19 q20 q21 q22 q23 q24 q25 q26 q27 q28 q29 q30 q31 q32 q33 q34 q35 q36 q37 q38 q39 q40 q41 q42 q43 q44 q45 q46 q47 q48 q49 q50 q51 q52 q53 q54 q55 q56 q57 q58 q59 q60 q61 q62 q63 q64 q65 q66 q67 q68 q69 q70 q71 q72 q73 q74 q75 q76 q77 q78 q79 q80 q81 q82 q83 q84 q85 q86 q87 q88 q89 q90 q91 q92 q93 q94 q95 q96 q97 q98 q99 q100 q101 q102 q103 q104 q105 q106 q107 q108 q109 q110 q111 q112 q113 q114 q115 q116 q117 q118 q119 q120 q121 q122 q123 q124 q125 q126 q127 q128 q129 q130 q131 q132 q133 q134 q135 q136 q137 q138 q139 q140 q141 q142 q143 q144 q145 q146 q147 q148 q149 q150 q151 q152 q153 q154 q155 q156 q157 q158 q159 q160 q161 q162 q163 q164 q165 q166 q167 q168 q169 q170 q171 q172 q173 q174 q175 q176 q177 q178 q179 q180 q181 q182 q183 q184 q185 q186 q187 q188 q189 q190 q191 q192 q193 q194 q195 q196 q197 q198 q199 q200 q201 q202 q203 q204 q205 q206 q207 q221 q222 q223 q224 q225 a' w' → J a' w') (hM : ∀ a' w', Met J a' w' → K' a' w') :
    Code.wp Tryz.prog fillCode (Exit.then K' (fun _ _ _ => False)) ⟨[q0, .pointer (some ⟨s, 0, none⟩), q2, .pointer (some ⟨C, 0, none⟩), q4, q5, q6, q7, q8, q9, q10, .pointer (some ⟨X, 0, none⟩), q12, q13, q14, q15, .int .i64 (manyOf k : Nat), q17, q18, q19, q20, q21, q22, q23, q24, q25, q26, q27, q28, q29, q30, q31, q32, q33, q34, q35, q36, q37, q38, q39, q40, q41, q42, q43, q44, q45, q46, q47, q48, q49, q50, q51, q52, q53, q54, q55, q56, q57, q58, q59, q60, q61, q62, q63, q64, q65, q66, q67, q68, q69, q70, q71, q72, q73, q74, q75, q76, q77, q78, q79, q80, q81, q82, q83, q84, q85, q86, q87, q88, q89, q90, q91, q92, q93, q94, q95, q96, q97, q98, q99, q100, q101, q102, q103, q104, q105, q106, q107, q108, q109, q110, q111, q112, q113, q114, q115, q116, q117, q118, q119, q120, q121, q122, q123, q124, q125, q126, q127, q128, q129, q130, q131, q132, q133, q134, q135, q136, q137, q138, q139, q140, q141, q142, q143, q144, q145, q146, q147, q148, q149, q150, q151, q152, q153, q154, q155, q156, q157, q158, q159, q160, q161, q162, q163, q164, q165, q166, q167, q168, q169, q170, q171, q172, q173, q174, q175, q176, q177, q178, q179, q180, q181, q182, q183, q184, q185, q186, q187, q188, q189, q190, q191, q192, q193, q194, q195, q196, q197, q198, q199, q200, q201, q202, q203, q204, q205, q206, q207, q208, q209, q210, q211, q212, q213, q214, q215, q216, q217, q218, q219, q220, q221, q222, q223, q224, q225].toArray, []⟩ W := by
  have hm2 := manyOf_le k
  have HSC := Lib.hid hsc; have HCR := Lib.hid hC
  have HY : Hid (C ≠ s) := by show _ ≠ _; omega
  have HCX : Hid (C < X) := hCX
  have HE4 : Hid (∀ b w1, SrcAt w1 s raw b → ScAt s w1 sc (.slice v1 sc.vars.length v2) (.slice a1 sc.arrays.length a2) (.slice f1 sc.funcs.length f2) → Calls Tryz.prog 35 #[.agg #[.slice v1 sc.vars.length v2, .slice a1 sc.arrays.length a2, .slice f1 sc.funcs.length f2, .bool sc.free, .bool sc.loop], .pointer (some ⟨s, 0, none⟩), .int .i64 4] w1 (GivesEx w1 s raw (gExpr sc raw 4 b))) := fun b w1 h1 h2 => expr_all 4 (by decide) s raw b sc _ _ _ w1 h1 h2
  have HI0 : Hid (FillInv sc raw wq X s k nm t e xt xe (gFill sc raw (.mk k nm (ps.map (·.1)) t e) a) W) := ⟨ps, va, vc, a, rfl, hm, hH⟩
  generalize gFill sc raw (.mk k nm (ps.map (·.1)) t e) a = y at *
  obtain ⟨m, hmm⟩ : ∃ m, m = manyOf k := ⟨_, rfl⟩
  have HMM := Lib.hid hmm
  have hm9 : m ≤ 2 := by omega
  rw [← hmm]
  clear hsc hC hH hm hm2 hmm
  conv => arg 2; whnf
  go_wp2_with fail
  go_loopw [] (fun w' => FillInv sc raw wq X s k nm t e xt xe y w') (fun w' => 3 - argLen w' X)
  case atStart => exact HI0.out
  case round =>
    clear HI0
    obtain ⟨qs, va, vc, b, hy, hmq, hh⟩ := hrel
    have hal := argLen_of hh
    have HAL := Lib.hid hal; have HQ := Lib.hid hy; have HM9 := Lib.hid hmq
    have HHA := Lib.hid hh
    have HCA := Lib.hid (HCR.out.sfr hh.fr HY.out)
    clear hy hmq hh hal
    by_cases hl : qs.length < m
    · have hl' : ((qs.length : Int) < (m : Int)) := by omega
      have hlen : Hid (qs.length ≤ 10) := by show _ ≤ _; omega
      have hF := gFill_add sc raw (k := k) (nm := nm) (args := qs.map (·.1)) (t := t) (e := e) b (by rw [List.length_map, ← HMM.out]; exact hl)
      rw [HQ.out] at hF
      have hNF : ∀ z b', gFill sc raw (.mk k nm (qs.map (·.1) ++ [z]) t e) b' = (.mk k nm (qs.map (·.1) ++ [z]) t e, b') := fun z b' => gFill_no sc raw b' (by rw [List.length_append, List.length_map, List.length_singleton]; have := HM9.out; omega)
      have HNF := Lib.hid hNF
      have HE := Lib.hid (HE4.out b)
      generalize gExpr sc raw 4 b = x at *
      obtain ⟨x, xa⟩ := x
      dsimp only at HE hF
      have HF := Lib.hid hF
      clear hF hNF
      have x0 := HHA.out.own.at 0 _ rfl
      have x1 := HHA.out.own.at 1 _ rfl
      have x2 := HHA.out.own.at 2 _ rfl
      have x3 := HHA.out.own.at 3 _ rfl
      have x4 := HHA.out.own.at 4 _ rfl
      go_upto_region 44 with (fail)
      clear x0 x1 x2 x3 x4
      have hdr : Below wr.heap.size wr wr.drew := (Below.refl _ _).drew
      have HHd := Lib.hid (HHA.out.below hdr)
      have HCd := Lib.hid (HCA.out.old hdr)
      clear hdr
      have b0 := HCA.out.at 0 _ rfl
      have b1 := HCA.out.at 1 _ rfl
      have b2 := HCA.out.at 2 _ rfl
      have b3 := HCA.out.at 3 _ rfl
      have b4 := HCA.out.at 4 _ rfl
      have x0 := HHA.out.own.at 0 _ rfl
      have x1 := HHA.out.own.at 1 _ rfl
      have x2 := HHA.out.own.at 2 _ rfl
      have x3 := HHA.out.own.at 3 _ rfl
      have x4 := HHA.out.own.at 4 _ rfl
      have fx2 := HHA.out.own.fz 2
      have hXd := HHA.out.lt
      have hCd := HCA.out.lt
      obtain ⟨i0, hi0, hz0, hz1, hz2⟩ := info_parts infoEx
      go_wp2_with fail
      go_region_law (first
        | ((try go_simp); go_at_call 35; refine (HE.out _ HHd.out.src (HSC.out.sfr HHd.out.fr)).mono ?_; rintro r w6 ⟨xv, he, hs6, hf6, hx6, hn6⟩; obtain ⟨xs, xc, hxv⟩ := hx6.shape; subst hxv; subst he; have hc : ∀ b o, b < _ → b ≠ s → w6.cell? ⟨b, o, none⟩ = _ := fun b o h hn => World.cell?_of_block (a := ⟨b, o, none⟩) (hf6.block b h hn); have HH6 := Lib.hid (HHd.out.sfr hs6 hf6); have HC6 := Lib.hid (HCd.out.sfr hf6 HY.out); have Hx6 := Lib.hid hx6; have Hn6 := Lib.hid hn6; have hz6 := hf6.size; have u2 := HH6.out.own.at 2 _ rfl; have hX6 := HH6.out.lt; clear hs6 hf6 hx6 hn6; have hw7 : Below w6.heap.size w6 (w6.alloc (.cells #[.int .i64 x.kind, .int .i64 x.op, .int .i64 x.n, .string (strOf x.name), .slice xs x.args.length xc] 31)) := (Below.refl _ _).alloc (Nat.le_refl _) _; have HH7 := Lib.hid (HH6.out.below hw7); have HC7 := Lib.hid (HC6.out.old hw7); have HN7 := Lib.hid (RowAt.new w6 (exCells x (.slice xs x.args.length xc)) 31); have Hx7 := Lib.hid ((Hx6.out.old hw7).mono (fun b hb => HHd.out.beside b hb)); clear hw7)
        | (refine step_append_lies (P := Tryz.prog) _ rfl _ _ 29 rfl (X + 1) 31 i0 _ 5 64 Tryz.underlying29 hi0 hz0 hz1 hz2 rfl (by decide) (.slice va qs.length vc) qs.length (exFlat qs) rfl HH7.out.exs.1 ⟨w6.heap.size, 0, none⟩ 1 1 (exCells x (.slice xs x.args.length xc)) rfl rfl (news_at HN7.out) (ex_one x _ _ _) (by decide) (by have := hlen.out; unfold maxLen; omega) (by have := hlen.out; omega) (by have := HH7.out.lt; omega) _ rfl ?_; intro g cap w8 hown hgrow hat hlt8; have hge8 : ∀ k, (Value.slice va qs.length vc).ownBlock = some k → X + 1 ≤ k := fun k e => (HH7.out.exs.ge e).1; have HH9 := Lib.hid (HH7.out.more x _ Hx7.out Hn6.out hown hgrow hat); have hO8 := HH7.out.own.low (hgrow.block X HH7.out.lt (fun e => by have := hge8 _ e.symm; omega)); have HC8 := Lib.hid (HC7.out.low (hgrow.block _ HC7.out.lt (fun e => by have := hge8 _ e.symm; have := HCX.out; omega))); have y2 := hO8.at 2 _ rfl; have fy2 := hO8.fz 2; have hX8 := hO8.lt; clear hown hgrow hat hO8))
      all_goals
        have HC9 := Lib.hid (HC8.out.other (show C ≠ X by have := HCX.out; omega) 2 (.slice (some ⟨g, 0, none⟩) (qs.length + 1) cap))
        go_wp2_with fail
        go_roundw
        case rel => exact ⟨qs ++ [(x, .slice xs x.args.length xc)], _, _, xa, by rw [List.map_append]; show gFill sc raw (.mk k nm (qs.map (·.1) ++ [x]) t e) xa = y; rw [HNF.out, HF.out], by rw [List.length_append, List.length_singleton]; have := HM9.out; omega, HH9.out⟩
        case measure => rw [argLen_of HH9.out, HAL.out, List.length_append, List.length_singleton]; omega
    · have hl' : ((m : Int) ≤ (qs.length : Int)) := by omega
      have hF := gFill_no sc raw (k := k) (nm := nm) (args := qs.map (·.1)) (t := t) (e := e) b (by rw [List.length_map, ← HMM.out]; exact hl)
      rw [HQ.out] at hF
      subst hF
      rw [HMM.out] at *
      have x0 := HHA.out.own.at 0 _ rfl
      have x1 := HHA.out.own.at 1 _ rfl
      have x2 := HHA.out.own.at 2 _ rfl
      have x3 := HHA.out.own.at 3 _ rfl
      have x4 := HHA.out.own.at 4 _ rfl
      go_wp2_with fail
      go_meet
      exact HHA.out.to rfl
end Go.Proofs.YtgmaeflfiooigaaGreatDoor

namespace Go.Proofs.YtgmaeflfiooigaaGreatDoor
open Go.RowKit
set_option maxHeartbeats 8000000
set_option maxRecDepth 100000

theorem gStK_range (raw : List Int) (d a : Nat) : 0 ≤ gStK raw d a ∧ gStK raw d a < 14 ∧ (7 ≤ gStK raw d a → gStK raw d a < 11 → 2 ≤ d) := by
  have := gNext_range raw a 14 (by decide)
  unfold gStK; split <;> omega
/-- What holds at the head of stmts' loop. -/
def StsInv (w : World) (s : Nat) (raw : List Int) (one : Nat → St × Nat) (a0 : Nat) (scs : List Value) (k : Nat) (v : Value) (wr : World) : Prop :=
  ∃ ps, ps.map (·.x) = (gStsN one k a0).1 ∧ SrcAt wr s raw (gStsN one k a0).2 ∧ SFr s w wr ∧ OwnAt wr w.heap.size scs 69 ∧ StsOwn wr (w.heap.size + 1) ps v
/-- The frame there. -/
def StsWJ (w : World) (s d : Nat) (c : Nat) (raw : List Int) (one : Nat → St × Nat) (a0 : Nat) (scs : List Value) (k j : Nat) (a' : Act) (w' : World) : Prop :=
  ∃ v q0 q4 q5 q6 q10 q11 q12 q13 q14 q15 q16 q17 q18 q19 q20 q21 q22 q23 q24 q25 q26 q27 q28 q29 q30 q31 q32 q33 q34 q35 q36 q37 q38 q39 q40 q41 q42 q43 q44 q45 q46 q47 q48 q49 q50 q51 q52 q53 q54 q55 q56 q57 q58 q59 q60 q61 q62 q63 q64 q65 q66 q67 q68 q69 q70 q71 q72 q73 q74 q75 q76 q77 q78 q79 q80 q81 q82 q83 q84 q85 q86 q87 q88 q89 q90 q91 q92 q93 q94 q95 q96 q97 q98 q99 q100 q101 q102 q103 q104 q105 q106 q107 q108 q109 q110 q111 q112 q113 q114 q115 q116 q117 q118 q119 q120 q121 q122 q123 q124 q125 q126 q127 q128 q129 q130 q131 q132 q133 q134 q135 q136 q137 q138 q139 q140 q141 q142 q143 q144 q145 q146 q147 q148 q149 q150 q151 q152 q153 q154 q155 q156 q157 q158 q159 q160 q161 q162 q163 q164 q165 q166 q167 q168 q169 q170 q171 q172 q173 q174 q175 q176 q177 q178 q179 q180 q181 q182 q183 q184 q185 q186 q187 q188 q189 q190 q191 q192 q193 q194 q195 q196 q197 q198 q199 q200 q201 q202 q203 q204 q205 q206 q207 q208 q209 q210 q211 q212 q213 q214 q215 q216 q217 q218 q219 q220 q221 q222 q223 q224 q225 : Value, StsInv w s raw one a0 scs j v w' ∧ a' = ⟨[q0, .pointer (some ⟨s, 0, none⟩), .int .i64 d, .pointer (some ⟨w.heap.size, 0, none⟩), q4, q5, q6, v, .int .i64 c, .int .i64 k, q10, q11, q12, q13, q14, q15, q16, q17, q18, q19, q20, q21, q22, q23, q24, q25, q26, q27, q28, q29, q30, q31, q32, q33, q34, q35, q36, q37, q38, q39, q40, q41, q42, q43, q44, q45, q46, q47, q48, q49, q50, q51, q52, q53, q54, q55, q56, q57, q58, q59, q60, q61, q62, q63, q64, q65, q66, q67, q68, q69, q70, q71, q72, q73, q74, q75, q76, q77, q78, q79, q80, q81, q82, q83, q84, q85, q86, q87, q88, q89, q90, q91, q92, q93, q94, q95, q96, q97, q98, q99, q100, q101, q102, q103, q104, q105, q106, q107, q108, q109, q110, q111, q112, q113, q114, q115, q116, q117, q118, q119, q120, q121, q122, q123, q124, q125, q126, q127, q128, q129, q130, q131, q132, q133, q134, q135, q136, q137, q138, q139, q140, q141, q142, q143, q144, q145, q146, q147, q148, q149, q150, q151, q152, q153, q154, q155, q156, q157, q158, q159, q160, q161, q162, q163, q164, q165, q166, q167, q168, q169, q170, q171, q172, q173, q174, q175, q176, q177, q178, q179, q180, q181, q182, q183, q184, q185, q186, q187, q188, q189, q190, q191, q192, q193, q194, q195, q196, q197, q198, q199, q200, q201, q202, q203, q204, q205, q206, q207, q208, q209, q210, q211, q212, q213, q214, q215, q216, q217, q218, q219, q220, q221, q222, q223, q224, q225].toArray, []⟩
theorem head_many (sc : Sc) (raw : List Int) (gs gl : Nat → List St × Nat) (k : Int) (a : Nat) : manyOf (gStHead sc raw gs gl k a).1.kind ≤ (gStHead sc raw gs gl k a).1.args.length + 1 := by
  have h : ∀ (k : Int) (n : Bs) (l : List Ex) (t e : List St), manyOf k ≤ l.length + 1 → manyOf (St.mk k n l t e).kind ≤ (St.mk k n l t e).args.length + 1 := fun _ _ _ _ _ h => h
  unfold gStHead
  split
  · exact h _ _ _ _ _ (by decide)
  split
  · exact h _ _ _ _ _ (by show manyOf 2 ≤ 1 + 1; decide)
  split
  · exact h _ _ _ _ _ (by show manyOf 10 ≤ 1 + 1; decide)
  split
  · dsimp only
    split
    · exact h _ _ _ _ _ (by decide)
    · exact h _ _ _ _ _ (by decide)
  split
  · exact h _ _ _ _ _ (by show manyOf 3 ≤ 1 + 1; decide)
  split
  · exact h _ _ _ _ _ (by show manyOf 4 ≤ 1 + 1; decide)
  split
  · dsimp only
    split
    · exact h _ _ _ _ _ (by decide)
    · exact h _ _ _ _ _ (by decide)
  · exact h _ _ _ _ _ (by decide)
theorem then_any {P : Program} {c : Code} {K : Act → World → Prop} {Q : Exit → Act → World → Prop} {a : Act} {w : World} (h : c.wp P (Exit.then K (fun _ _ _ => False)) a w) : c.wp P (Exit.then K Q) a w :=
  wp_mono h (fun e a w q => by cases e with
    | normal => exact q
    | _ => exact False.elim q)
noncomputable def roundCode : Code := match (Tryz.f37.body.bind (partOf isLoop)) with
  | some (.loop c) => c
  | _ => .skip
theorem head_args (sc : Sc) (raw : List Int) (gs gl : Nat → List St × Nat) (k : Int) (a : Nat) : (gStHead sc raw gs gl k a).1.args.length ≤ 1 := by
  have h : ∀ (k : Int) (n : Bs) (l : List Ex) (t e : List St), l.length ≤ 1 → (St.mk k n l t e).args.length ≤ 1 := fun _ _ _ _ _ h => h
  unfold gStHead
  split
  · exact h _ _ _ _ _ (by simp)
  split
  · exact h _ _ _ _ _ (by simp)
  split
  · exact h _ _ _ _ _ (by simp)
  split
  · dsimp only
    split
    · exact h _ _ _ _ _ (by simp)
    · exact h _ _ _ _ _ (by simp)
  split
  · exact h _ _ _ _ _ (by simp)
  split
  · exact h _ _ _ _ _ (by simp)
  split
  · dsimp only
    split
    · exact h _ _ _ _ _ (by simp)
    · exact h _ _ _ _ _ (by simp)
  · exact h _ _ _ _ _ (by simp)
theorem gFill_args (sc : Sc) (raw : List Int) (x : St) (a : Nat) (h : x.args.length ≤ 1) : (gFill sc raw x a).1.args.length ≤ 2 := by
  unfold gFill; split
  · show (x.args ++ [_]).length ≤ 2
    rw [List.length_append, List.length_singleton]; omega
  · show x.args.length ≤ 2; omega
theorem wp_to {P : Program} {c : Code} {Q : Exit → Act → World → Prop} {a : Act} {w : World} (h : c.wp P (Exit.then (fun a w => Q .normal a w) (fun _ _ _ => False)) a w) : c.wp P Q a w :=
  wp_mono h (fun e a w q => by cases e with
    | normal => exact q
    | _ => exact False.elim q)
def isRegion (n : Nat) : Code → Bool
  | .region k _ _ => k == n
  | _ => false
/-- What stands behind the region n. -/
def behindR (n : Nat) : Code → Option Code
  | .loop c => behindR n c
  | .seq a b => if isRegion n a then some b else match behindR n a with
    | some c => some c
    | none => behindR n b
  | .block _ c => behindR n c
  | .scope c => behindR n c
  | .cond _ a b => match behindR n a with
    | some c => some c
    | none => behindR n b
  | _ => none
noncomputable def midCode : Code := ((Tryz.f37.body.bind (behindR 9)).getD .skip)
/-- What stands behind the block n. -/
def behind (n : Nat) : Code → Option Code
  | .loop c => behind n c
  | .seq a b => if isBlock n a then some b else match behind n a with
    | some c => some c
    | none => behind n b
  | .block _ c => behind n c
  | .scope c => behind n c
  | .cond _ a b => match behind n a with
    | some c => some c
    | none => behind n b
  | _ => none
noncomputable def tailCode : Code := ((Tryz.f37.body.bind (behind 2)).getD .skip)
noncomputable def appCode : Code := ((Tryz.f37.body.bind (behind 3)).getD .skip)
theorem gsts_app (s d c k : Nat) (raw : List Int) (sc : Sc) (v1 a1 f1 : Option Addr) (v2 a2 f2 : Nat) (one : Nat → St × Nat) (a0 : Nat) (w wr : World) (v : Value) (X : Nat) (y : St × Nat) (we : World)
    (hsl : s < w.heap.size) (hc6 : c ≤ 4) (hlt : k < c) (ls : List StV) (lk : List St) (bk : Nat) (hps : ls.map (·.x) = lk) (hfr : SFr s w wr) (hC : OwnAt wr w.heap.size [.slice v1 sc.vars.length v2, .slice a1 sc.arrays.length a2, .slice f1 sc.funcs.length f2, .bool sc.free, .bool sc.loop] 69) (hO : StsOwn wr (w.heap.size + 1) ls v)
    (hnx : gStsN one (k + 1) a0 = (lk ++ [(one bk).1], (one bk).2)) (hlk : ls.length = k) (hone : one bk = y) (hCX : w.heap.size < X) (hargs : y.1.args.length ≤ 2) (hcut : HeadAt' wr X s raw y we)
    (q0 q4 q5 q6 q10 q12 q13 q14 q15 q16 q17 q18 q19 q20 q21 q22 q23 q24 q25 q26 q27 q28 q29 q30 q31 q32 q33 q34 q35 q36 q37 q38 q39 q40 q41 q42 q43 q44 q45 q46 q47 q48 q49 q50 q51 q52 q53 q54 q55 q56 q57 q58 q59 q60 q61 q62 q63 q64 q65 q66 q67 q68 q69 q70 q71 q72 q73 q74 q75 q76 q77 q78 q79 q80 q81 q82 q83 q84 q85 q86 q87 q88 q89 q90 q91 q92 q93 q94 q95 q96 q97 q98 q99 q100 q101 q102 q103 q104 q105 q106 q107 q108 q109 q110 q111 q112 q113 q114 q115 q116 q117 q118 q119 q120 q121 q122 q123 q124 q125 q126 q127 q128 q129 q130 q131 q132 q133 q134 q135 q136 q137 q138 q139 q140 q141 q142 q143 q144 q145 q146 q147 q148 q149 q150 q151 q152 q153 q154 q155 q156 q157 q158 q159 q160 q161 q162 q163 q164 q165 q166 q167 q168 q169 q170 q171 q172 q173 q174 q175 q176 q177 q178 q179 q180 q181 q182 q183 q184 q185 q186 q187 q188 q189 q190 q191 q192 q193 q194 q195 q196 q197 q198 q199 q200 q201 q202 q203 q204 q205 q206 q207 q208 q209 q210 q211 q212 q213 q214 q215 q216 q217 q218 q219 q220 q221 q222 q223 q224 q225 : Value) (J K' : Act → World → Prop) (hJ : ∀ a' w', StsWJ w s d c raw one a0 [.slice v1 sc.vars.length v2, .slice a1 sc.arrays.length a2, .slice f1 sc.funcs.length f2, .bool sc.free, .bool sc.loop] k (k + 1) a' w' → J a' w') (hM : ∀ a' w', Met J a' w' → K' a' w') :
    Code.wp Tryz.prog appCode (Exit.then K' (fun _ _ _ => False)) ⟨[q0, .pointer (some ⟨s, 0, none⟩), .int .i64 d, .pointer (some ⟨w.heap.size, 0, none⟩), q4, q5, q6, v, .int .i64 c, .int .i64 k, q10, .pointer (some ⟨X, 0, none⟩), q12, q13, q14, q15, q16, q17, q18, q19, q20, q21, q22, q23, q24, q25, q26, q27, q28, q29, q30, q31, q32, q33, q34, q35, q36, q37, q38, q39, q40, q41, q42, q43, q44, q45, q46, q47, q48, q49, q50, q51, q52, q53, q54, q55, q56, q57, q58, q59, q60, q61, q62, q63, q64, q65, q66, q67, q68, q69, q70, q71, q72, q73, q74, q75, q76, q77, q78, q79, q80, q81, q82, q83, q84, q85, q86, q87, q88, q89, q90, q91, q92, q93, q94, q95, q96, q97, q98, q99, q100, q101, q102, q103, q104, q105, q106, q107, q108, q109, q110, q111, q112, q113, q114, q115, q116, q117, q118, q119, q120, q121, q122, q123, q124, q125, q126, q127, q128, q129, q130, q131, q132, q133, q134, q135, q136, q137, q138, q139, q140, q141, q142, q143, q144, q145, q146, q147, q148, q149, q150, q151, q152, q153, q154, q155, q156, q157, q158, q159, q160, q161, q162, q163, q164, q165, q166, q167, q168, q169, q170, q171, q172, q173, q174, q175, q176, q177, q178, q179, q180, q181, q182, q183, q184, q185, q186, q187, q188, q189, q190, q191, q192, q193, q194, q195, q196, q197, q198, q199, q200, q201, q202, q203, q204, q205, q206, q207, q208, q209, q210, q211, q212, q213, q214, q215, q216, q217, q218, q219, q220, q221, q222, q223, q224, q225].toArray, []⟩ we := by
  have HY : Hid (w.heap.size ≠ s) := by show _ ≠ _; omega
  obtain ⟨oa, oc, rfl⟩ := hO.shape
  have HPS := Lib.hid hps; have HFK := Lib.hid hfr; have HCK := Lib.hid hC; have HOK := Lib.hid hO; have HLN := Lib.hid hlk; have HCX : Hid (w.heap.size < X) := hCX
  rw [hone] at hnx
  have HNX := Lib.hid hnx
  have harg := hargs
  clear hps hfr hC hO hnx hone hlk hargs
  conv => arg 2; whnf
  obtain ⟨⟨yk, ynm, yargs, yt, ye⟩, ya⟩ := y
  obtain ⟨ps, va, vc, xt, xe, hps, hh⟩ := hcut
  dsimp only [St.kind, St.name, St.args, St.thn, St.els] at HNX hps hh harg
  subst hps
  rw [List.length_map] at harg
  obtain ⟨ta, tc, rfl⟩ := hh.thn.shape
  obtain ⟨ea, ec, rfl⟩ := hh.els.shape
  have HHA := Lib.hid hh
  have x0 := hh.own.at 0 _ rfl
  have x1 := hh.own.at 1 _ rfl
  have x2 := hh.own.at 2 _ rfl
  have x3 := hh.own.at 3 _ rfl
  have x4 := hh.own.at 4 _ rfl
  have hXl := hh.lt
  have hout : ∀ k, (Value.slice oa ls.length oc).ownBlock = some k → k < X := fun k e => by have := (HOK.out.ge e).2; have := hh.ge; omega
  have hpar : StParts (fun b => w.heap.size + 1 ≤ b ∧ (Value.slice oa ls.length oc).ownBlock ≠ some b) we ⟨.mk yk ynm (ps.map (·.1)) yt ye, .slice va ps.length vc, .slice ta yt.length tc, .slice ea ye.length ec⟩ := by
    have hf : Fits ps.length := Nat.le_trans harg (by decide)
    exact ⟨(hh.exs.exs hf).mono (fun b hb => ⟨by have := HCX.out; omega, fun e => by have := hout b e; omega⟩), hh.thn.mono (fun b hb => ⟨by have := HCX.out; have := hb.1; omega, fun e => by have := hout b e; have := hb.1; omega⟩), hh.els.mono (fun b hb => ⟨by have := HCX.out; have := hb.1; omega, fun e => by have := hout b e; have := hb.1; omega⟩)⟩
  have hb10 : Below we.heap.size we (we.alloc (.cells #[.int .i64 yk, .string (strOf ynm), .slice va ps.length vc, .slice ta yt.length tc, .slice ea ye.length ec] 49)) := (Below.refl _ _).alloc (Nat.le_refl _) _
  have HO9 := HOK.out.sfr hh.fr (show s < w.heap.size + 1 by omega)
  have HO10 := Lib.hid (HO9.keep (w' := we.alloc (.cells #[.int .i64 yk, .string (strOf ynm), .slice va ps.length vc, .slice ta yt.length tc, .slice ea ye.length ec] 49)) (fun k h1 h2 => hb10.block k h1))
  have HP10 := Lib.hid (hpar.keep (keeps_below hb10))
  have HS10 := Lib.hid (hh.src.old hb10)
  have HF10 := Lib.hid ((HFK.out.trans hh.fr).trans (SFr.of_below hb10))
  have HC10 := Lib.hid ((HCK.out.sfr hh.fr HY.out).old hb10)
  have HN10 := Lib.hid (RowAt.new we (stCells (.mk yk ynm (ps.map (·.1)) yt ye) (.slice va ps.length vc) (.slice ta yt.length tc) (.slice ea ye.length ec)) 49)
  clear hb10 hpar HO9 hh hout
  obtain ⟨i0, hi0, hz0, hz1, hz2⟩ := info_parts infoSt
  have HI0 := Lib.hid hi0; have HZ0 := Lib.hid hz0; have HZ1 := Lib.hid hz1; have HZ2 := Lib.hid hz2
  clear hi0 hz0 hz1 hz2
  go_wp2_with (at_builtin; (refine wpList_append_lies (P := Tryz.prog) _ rfl _ _ 47 rfl (w.heap.size + 1) 49 i0 _ 5 96 Tryz.underlying47 HI0.out HZ0.out HZ1.out HZ2.out rfl (by decide) (.slice oa ls.length oc) ls.length (stFlat ls) rfl HO10.out.1 ⟨we.heap.size, 0, none⟩ 1 1 (stCells (.mk yk ynm (ps.map (·.1)) yt ye) (.slice va ps.length vc) (.slice ta yt.length tc) (.slice ea ye.length ec)) rfl rfl (news_at HN10.out) (st_one _ _ _ _ _ _ _ _ _ _) (by decide) (by have := HLN.out; unfold maxLen; omega) (by have := HLN.out; omega) (by have := HC10.out.lt; omega) _ rfl ?_; intro g cap w11 hown hgrow hat hlt11; have hge8 : ∀ k, (Value.slice oa ls.length oc).ownBlock = some k → w.heap.size + 1 ≤ k := fun k e => (HO10.out.ge e).1; have HS11 := Lib.hid (HS10.out.low (w' := w11) (fun k hk => hgrow.block k (Nat.lt_of_le_of_lt hk HS10.out.lt) (fun e => by have := hge8 k e.symm; omega))); have HF11 := Lib.hid (HF10.out.grow hgrow (fun k e => by have := hge8 k e; omega)); have HC11 := Lib.hid (HC10.out.low (hgrow.block _ HC10.out.lt (fun e => by have := hge8 _ e.symm; omega))); have HO11 := Lib.hid (HO10.out.snoc _ HP10.out hown hgrow hat); clear hown hgrow hat hge8))
  go_meet
  exact ⟨ls ++ [⟨.mk yk ynm (ps.map (·.1)) yt ye, .slice va ps.length vc, .slice ta yt.length tc, .slice ea ye.length ec⟩], by rw [HNX.out, List.map_append, HPS.out]; rfl, by rw [HNX.out]; exact HS11.out, HF11.out, HC11.out, HO11.out⟩
end Go.Proofs.YtgmaeflfiooigaaGreatDoor
