/-
  Tame, a round, case A. Conditions: the code lies in memory, its registers are registers.
  Tame, a round, case B. Conditions: the code lies in memory, its registers are registers.
  Tame, a round, case C. Conditions: the code lies in memory, its registers are registers.
  Tame, a round, case D. Conditions: the code lies in memory, its registers are registers.
-/
import Derived.Test.YtpgjfpphigeliaaGreatDoorMachTa
import Derived.BigRegion
set_option linter.unusedVariables false
set_option linter.unusedSimpArgs false
namespace Go.Proofs.YtpgjfpphigeliaaGreatDoor
open Go.RowKit
set_option maxHeartbeats 4000000
set_option maxRecDepth 100000

theorem tmr_A (w : World) (T4 A T5 F8 base : Nat) (ls : List Ln) (g cap : Nat) (wr : World) (h : TmIn w T4 A T5 F8 base ls (.slice (some ⟨g, 0, none⟩) ls.length cap) wr) (i : Nat) (hi : i < ls.length) (hl : ls.length ≤ 1000) (ins : Ins) (hln : ls[i] = ⟨[], ins⟩) (hd : 0 ≤ ins.d ∧ ins.d < 32) (ha : 0 ≤ ins.a ∧ ins.a < 32) (hb : 0 ≤ ins.b ∧ ins.b < 32) (hn : I64 ins.n) (hnm : ins.name.length ≤ 40) (ho : ins.op ≤ 12) (v0 v1 : Value) (q2 q3 q8 q9 q10 q11 q12 q13 q14 q15 q16 q17 q18 q19 q20 q21 q22 q23 q24 q25 q26 q27 q28 q29 q30 q31 q32 q33 q34 q35 q36 q37 q38 q39 q40 q41 q42 q43 q44 q45 q46 q47 q48 q49 q50 q51 q52 q53 q54 q55 q56 q57 q58 q59 q60 q61 q62 q63 q64 q65 q66 q67 q68 q69 q70 q71 q72 q73 q74 q75 q76 q77 q78 q79 q80 q81 q82 q83 q84 q85 q86 q87 q88 q89 q90 q91 q92 q93 q94 q95 q96 q97 q98 q99 q100 q101 q102 q103 q104 q105 q106 q107 q108 q109 q110 q111 q112 q113 q114 q115 q116 q117 q118 q119 q120 q121 q122 q123 q124 q125 q126 q127 q128 q129 q130 q131 q132 q133 q134 q135 q136 q137 q138 q139 q140 q141 q142 q143 q144 q145 q146 q147 q148 q149 q150 q151 q152 q153 q154 q155 q156 q157 q158 q159 q160 q161 q162 q163 q164 q165 q166 q167 q168 q169 q170 q171 q172 q173 q174 q175 q176 q177 q178 q179 q180 q181 q182 q183 q184 q185 q186 q187 q188 q189 q190 q191 q192 q193 q194 q195 q196 q197 q198 q199 q200 q201 q202 q203 q204 q205 q206 q207 q208 q209 q210 q211 q212 q213 q214 q215 q216 q217 q218 q219 q220 q221 q222 q223 q224 q225 q226 q227 q228 q229 q230 q231 q232 q233 q234 q235 q236 q237 q238 q239 q240 q241 q242 q243 q244 q245 q246 q247 q248 q249 q250 q251 q252 q253 q254 q255 q256 q257 q258 q259 q260 : Value) (J K' : Act → World → Prop) (hJ : ∀ a' w', RTm w T4 A T5 F8 base (ls.set i (tameL ls[i])) (.slice (some ⟨g, 0, none⟩) ls.length cap) i v0 v1 q2 q3 q12 q13 q14 q15 q16 q17 q18 q19 q20 q21 q22 q23 q24 q224 q225 q226 q227 q228 q229 q230 q231 q232 q233 q234 q235 q236 q237 q238 q239 q240 q241 q242 q243 q244 q245 q246 q247 q248 q249 q250 q251 q252 q253 q254 q255 q256 q257 q258 q259 q260 a' w' → J a' w') (hM : ∀ a' w', Met J a' w' → K' a' w') :
    Code.wp Tryz.prog tmCode (Exit.then K' (fun _ _ _ => False)) ⟨[v0, v1, q2, q3, .pointer (some ⟨T4, 0, none⟩), .pointer (some ⟨T5, 0, none⟩), .slice (some ⟨F8, 0, none⟩) 8 8, .int .i64 i, q8, q9, q10, q11, q12, q13, q14, q15, q16, q17, q18, q19, q20, q21, q22, q23, q24, q25, q26, q27, q28, q29, q30, q31, q32, q33, q34, q35, q36, q37, q38, q39, q40, q41, q42, q43, q44, q45, q46, q47, q48, q49, q50, q51, q52, q53, q54, q55, q56, q57, q58, q59, q60, q61, q62, q63, q64, q65, q66, q67, q68, q69, q70, q71, q72, q73, q74, q75, q76, q77, q78, q79, q80, q81, q82, q83, q84, q85, q86, q87, q88, q89, q90, q91, q92, q93, q94, q95, q96, q97, q98, q99, q100, q101, q102, q103, q104, q105, q106, q107, q108, q109, q110, q111, q112, q113, q114, q115, q116, q117, q118, q119, q120, q121, q122, q123, q124, q125, q126, q127, q128, q129, q130, q131, q132, q133, q134, q135, q136, q137, q138, q139, q140, q141, q142, q143, q144, q145, q146, q147, q148, q149, q150, q151, q152, q153, q154, q155, q156, q157, q158, q159, q160, q161, q162, q163, q164, q165, q166, q167, q168, q169, q170, q171, q172, q173, q174, q175, q176, q177, q178, q179, q180, q181, q182, q183, q184, q185, q186, q187, q188, q189, q190, q191, q192, q193, q194, q195, q196, q197, q198, q199, q200, q201, q202, q203, q204, q205, q206, q207, q208, q209, q210, q211, q212, q213, q214, q215, q216, q217, q218, q219, q220, q221, q222, q223, q224, q225, q226, q227, q228, q229, q230, q231, q232, q233, q234, q235, q236, q237, q238, q239, q240, q241, q242, q243, q244, q245, q246, q247, q248, q249, q250, q251, q252, q253, q254, q255, q256, q257, q258, q259, q260].toArray, []⟩ wr := by
  have hlI : (ls.length : Int) ≤ 1000 := by omega
  have hiI : (i : Int) < (ls.length : Int) := by omega
  obtain ⟨g', e', hgb, hgl, hic, hfz⟩ := lns_at h.ln hi
  have hrw := RwOwn.nilv h.ln (show ls.length ≤ 140737488355328 by omega) lnCells_len
  obtain ⟨b', o', e2, _, c0, _⟩ := LnsAt.at hrw hi
  cases e'
  cases e2
  rw [Nat.zero_add] at c0
  have x0 := h.x.at 0 _ rfl
  have x1 := h.x.at 1 _ rfl
  have hxl := h.x.lt
  have hFl := h.few.lt
  have HI := Lib.hid h
  rw [hln] at hic c0
  obtain ⟨op, d, a, b, n, nm⟩ := ins
  dsimp only at hd ha hb hn hnm ho c0
  obtain ⟨dn, rfl⟩ : ∃ dn : Nat, d = dn := ⟨d.toNat, by omega⟩
  obtain ⟨an, rfl⟩ : ∃ an : Nat, a = an := ⟨a.toNat, by omega⟩
  obtain ⟨bn, rfl⟩ : ∃ bn : Nat, b = bn := ⟨b.toNat, by omega⟩
  obtain ⟨hn1, hn2⟩ := hn
  obtain ⟨c1, c2, c3, c4, c5, c6⟩ := hic.all
  dsimp only at c1 c2 c3 c4 c5 c6
  have hy : tameL ls[i] = ⟨ls[i].label, ⟨op, fewN (dn % 4), fewN (an % 6), fewN (bn % 7), 0, []⟩⟩ := by
    rw [hln]
    unfold tameL
    rw [if_pos rfl]
    unfold tameI
    dsimp only
    rw [if_pos ho]; rfl
  rw [hy] at hJ

  have HIA := Lib.hid (HI.out.old ((Below.refl _ _).alloc (Nat.le_refl _) (.cells #[.int .i64 op, .int .i64 dn, .int .i64 an, .int .i64 bn, .int .i64 n, .string (strOf nm)] 39)))
  have HPUT := Lib.hid (HI.out.put hi ⟨op, fewN (dn % 4), fewN (an % 6), fewN (bn % 7), 0, []⟩)
  clear HIA
  obtain ⟨qd, hqd⟩ : ∃ qd, dn % 8 = qd := ⟨_, rfl⟩
  have qdl : qd < 8 := by omega
  have qdI : ((dn : Nat) : Int) % 8 = (qd : Int) := by omega
  have fqd := HI.out.few.at qd _ (few_at qd (by omega))
  clear hqd
  obtain ⟨qa, hqa⟩ : ∃ qa, an % 6 = qa := ⟨_, rfl⟩
  have qal : qa < 6 := by omega
  have qaI : ((an : Nat) : Int) % 6 = (qa : Int) := by omega
  have fqa := HI.out.few.at qa _ (few_at qa (by omega))
  rw [hqa] at HPUT hJ
  clear hqa
  obtain ⟨qb, hqb⟩ : ∃ qb, bn % 7 = qb := ⟨_, rfl⟩
  have qbl : qb < 7 := by omega
  have qbI : ((bn : Nat) : Int) % 7 = (qb : Int) := by omega
  have fqb := HI.out.few.at qb _ (few_at qb (by omega))
  rw [hqb] at HPUT hJ
  clear hqb
  obtain ⟨qx, hqx⟩ : ∃ qx, dn % 4 = qx := ⟨_, rfl⟩
  have qxl : qx < 4 := by omega
  have qxI : ((dn : Nat) : Int) % 4 = (qx : Int) := by omega
  have fqx := HI.out.few.at qx _ (few_at qx (by omega))
  rw [hqx] at HPUT hJ
  clear hqx
  have fz1 := hfz (i * 7 + 1)
  have fz2 := hfz (i * 7 + 2)
  have fz3 := hfz (i * 7 + 3)
  have fz4 := hfz (i * 7 + 4)
  have fz5 := hfz (i * 7 + 5)
  have fz6 := hfz (i * 7 + 6)
  have hgT : g ≠ wr.heap.size := by omega
  clear h hic hfz hrw hy hln hgb
  conv => arg 2; whnf
  go_upto_region 12 with (fail)
  go_region
  refine hM _ _ (Met.intro (hJ _ _ ⟨_, _, _, _, _, _, _, _, _, _, _, _, _, _, _, _, _, _, _, _, _, _, _, _, _, _, _, _, _, _, _, _, _, _, _, _, _, _, _, _, _, _, _, _, _, _, _, _, _, _, _, _, _, _, _, _, _, _, _, _, _, _, _, _, _, _, _, _, _, _, _, _, _, _, _, _, _, _, _, _, _, _, _, _, _, _, _, _, _, _, _, _, _, _, _, _, _, _, _, _, _, _, _, _, _, _, _, _, _, _, _, _, _, _, _, _, _, _, _, _, _, _, _, _, _, _, _, _, _, _, _, _, _, _, _, _, _, _, _, _, _, _, _, _, _, _, _, _, _, _, _, _, _, _, _, _, _, _, _, _, _, _, _, _, _, _, _, _, _, _, _, _, _, _, _, _, _, _, _, _, _, _, _, _, _, _, _, _, _, _, _, _, _, _, _, _, _, _, _, _, _, _, _, ?_, rfl⟩))
  exact ((HPUT.out.old ((Below.refl _ _).alloc (Nat.le_refl _) (.cells #[.int .i64 op, .int .i64 dn, .int .i64 an, .int .i64 bn, .int .i64 n, .string (strOf nm)] 39))).old (Below.refl _ _).drew)
end Go.Proofs.YtpgjfpphigeliaaGreatDoor

namespace Go.Proofs.YtpgjfpphigeliaaGreatDoor
open Go.RowKit
set_option maxHeartbeats 4000000
set_option maxRecDepth 100000

theorem tmr_B (w : World) (T4 A T5 F8 base : Nat) (ls : List Ln) (g cap : Nat) (wr : World) (h : TmIn w T4 A T5 F8 base ls (.slice (some ⟨g, 0, none⟩) ls.length cap) wr) (i : Nat) (hi : i < ls.length) (hl : ls.length ≤ 1000) (ins : Ins) (hln : ls[i] = ⟨[], ins⟩) (hd : 0 ≤ ins.d ∧ ins.d < 32) (ha : 0 ≤ ins.a ∧ ins.a < 32) (hb : 0 ≤ ins.b ∧ ins.b < 32) (hn : I64 ins.n) (hnm : ins.name.length ≤ 40) (ho : 12 < ins.op ∧ ins.op ≤ 15) (v0 v1 : Value) (q2 q3 q8 q9 q10 q11 q12 q13 q14 q15 q16 q17 q18 q19 q20 q21 q22 q23 q24 q25 q26 q27 q28 q29 q30 q31 q32 q33 q34 q35 q36 q37 q38 q39 q40 q41 q42 q43 q44 q45 q46 q47 q48 q49 q50 q51 q52 q53 q54 q55 q56 q57 q58 q59 q60 q61 q62 q63 q64 q65 q66 q67 q68 q69 q70 q71 q72 q73 q74 q75 q76 q77 q78 q79 q80 q81 q82 q83 q84 q85 q86 q87 q88 q89 q90 q91 q92 q93 q94 q95 q96 q97 q98 q99 q100 q101 q102 q103 q104 q105 q106 q107 q108 q109 q110 q111 q112 q113 q114 q115 q116 q117 q118 q119 q120 q121 q122 q123 q124 q125 q126 q127 q128 q129 q130 q131 q132 q133 q134 q135 q136 q137 q138 q139 q140 q141 q142 q143 q144 q145 q146 q147 q148 q149 q150 q151 q152 q153 q154 q155 q156 q157 q158 q159 q160 q161 q162 q163 q164 q165 q166 q167 q168 q169 q170 q171 q172 q173 q174 q175 q176 q177 q178 q179 q180 q181 q182 q183 q184 q185 q186 q187 q188 q189 q190 q191 q192 q193 q194 q195 q196 q197 q198 q199 q200 q201 q202 q203 q204 q205 q206 q207 q208 q209 q210 q211 q212 q213 q214 q215 q216 q217 q218 q219 q220 q221 q222 q223 q224 q225 q226 q227 q228 q229 q230 q231 q232 q233 q234 q235 q236 q237 q238 q239 q240 q241 q242 q243 q244 q245 q246 q247 q248 q249 q250 q251 q252 q253 q254 q255 q256 q257 q258 q259 q260 : Value) (J K' : Act → World → Prop) (hJ : ∀ a' w', RTm w T4 A T5 F8 base (ls.set i (tameL ls[i])) (.slice (some ⟨g, 0, none⟩) ls.length cap) i v0 v1 q2 q3 q12 q13 q14 q15 q16 q17 q18 q19 q20 q21 q22 q23 q24 q224 q225 q226 q227 q228 q229 q230 q231 q232 q233 q234 q235 q236 q237 q238 q239 q240 q241 q242 q243 q244 q245 q246 q247 q248 q249 q250 q251 q252 q253 q254 q255 q256 q257 q258 q259 q260 a' w' → J a' w') (hM : ∀ a' w', Met J a' w' → K' a' w') :
    Code.wp Tryz.prog tmCode (Exit.then K' (fun _ _ _ => False)) ⟨[v0, v1, q2, q3, .pointer (some ⟨T4, 0, none⟩), .pointer (some ⟨T5, 0, none⟩), .slice (some ⟨F8, 0, none⟩) 8 8, .int .i64 i, q8, q9, q10, q11, q12, q13, q14, q15, q16, q17, q18, q19, q20, q21, q22, q23, q24, q25, q26, q27, q28, q29, q30, q31, q32, q33, q34, q35, q36, q37, q38, q39, q40, q41, q42, q43, q44, q45, q46, q47, q48, q49, q50, q51, q52, q53, q54, q55, q56, q57, q58, q59, q60, q61, q62, q63, q64, q65, q66, q67, q68, q69, q70, q71, q72, q73, q74, q75, q76, q77, q78, q79, q80, q81, q82, q83, q84, q85, q86, q87, q88, q89, q90, q91, q92, q93, q94, q95, q96, q97, q98, q99, q100, q101, q102, q103, q104, q105, q106, q107, q108, q109, q110, q111, q112, q113, q114, q115, q116, q117, q118, q119, q120, q121, q122, q123, q124, q125, q126, q127, q128, q129, q130, q131, q132, q133, q134, q135, q136, q137, q138, q139, q140, q141, q142, q143, q144, q145, q146, q147, q148, q149, q150, q151, q152, q153, q154, q155, q156, q157, q158, q159, q160, q161, q162, q163, q164, q165, q166, q167, q168, q169, q170, q171, q172, q173, q174, q175, q176, q177, q178, q179, q180, q181, q182, q183, q184, q185, q186, q187, q188, q189, q190, q191, q192, q193, q194, q195, q196, q197, q198, q199, q200, q201, q202, q203, q204, q205, q206, q207, q208, q209, q210, q211, q212, q213, q214, q215, q216, q217, q218, q219, q220, q221, q222, q223, q224, q225, q226, q227, q228, q229, q230, q231, q232, q233, q234, q235, q236, q237, q238, q239, q240, q241, q242, q243, q244, q245, q246, q247, q248, q249, q250, q251, q252, q253, q254, q255, q256, q257, q258, q259, q260].toArray, []⟩ wr := by
  have hlI : (ls.length : Int) ≤ 1000 := by omega
  have hiI : (i : Int) < (ls.length : Int) := by omega
  obtain ⟨g', e', hgb, hgl, hic, hfz⟩ := lns_at h.ln hi
  have hrw := RwOwn.nilv h.ln (show ls.length ≤ 140737488355328 by omega) lnCells_len
  obtain ⟨b', o', e2, _, c0, _⟩ := LnsAt.at hrw hi
  cases e'
  cases e2
  rw [Nat.zero_add] at c0
  have x0 := h.x.at 0 _ rfl
  have x1 := h.x.at 1 _ rfl
  have hxl := h.x.lt
  have hFl := h.few.lt
  have HI := Lib.hid h
  rw [hln] at hic c0
  obtain ⟨op, d, a, b, n, nm⟩ := ins
  dsimp only at hd ha hb hn hnm ho c0
  obtain ⟨dn, rfl⟩ : ∃ dn : Nat, d = dn := ⟨d.toNat, by omega⟩
  obtain ⟨an, rfl⟩ : ∃ an : Nat, a = an := ⟨a.toNat, by omega⟩
  obtain ⟨bn, rfl⟩ : ∃ bn : Nat, b = bn := ⟨b.toNat, by omega⟩
  obtain ⟨hn1, hn2⟩ := hn
  obtain ⟨c1, c2, c3, c4, c5, c6⟩ := hic.all
  dsimp only at c1 c2 c3 c4 c5 c6
  obtain ⟨ho1, ho2⟩ := ho
  have hy : tameL ls[i] = ⟨ls[i].label, ⟨op, fewN (dn % 4), fewN (an % 6), 0, 0, []⟩⟩ := by
    rw [hln]
    unfold tameL
    rw [if_pos rfl]
    unfold tameI
    dsimp only
    rw [if_neg (by omega), if_pos ho2]; rfl
  rw [hy] at hJ

  have HIA := Lib.hid (HI.out.old ((Below.refl _ _).alloc (Nat.le_refl _) (.cells #[.int .i64 op, .int .i64 dn, .int .i64 an, .int .i64 bn, .int .i64 n, .string (strOf nm)] 39)))
  have HPUT := Lib.hid (HI.out.put hi ⟨op, fewN (dn % 4), fewN (an % 6), 0, 0, []⟩)
  clear HIA
  obtain ⟨qd, hqd⟩ : ∃ qd, dn % 8 = qd := ⟨_, rfl⟩
  have qdl : qd < 8 := by omega
  have qdI : ((dn : Nat) : Int) % 8 = (qd : Int) := by omega
  have fqd := HI.out.few.at qd _ (few_at qd (by omega))
  clear hqd
  obtain ⟨qa, hqa⟩ : ∃ qa, an % 6 = qa := ⟨_, rfl⟩
  have qal : qa < 6 := by omega
  have qaI : ((an : Nat) : Int) % 6 = (qa : Int) := by omega
  have fqa := HI.out.few.at qa _ (few_at qa (by omega))
  rw [hqa] at HPUT hJ
  clear hqa
  obtain ⟨qb, hqb⟩ : ∃ qb, bn % 7 = qb := ⟨_, rfl⟩
  have qbl : qb < 7 := by omega
  have qbI : ((bn : Nat) : Int) % 7 = (qb : Int) := by omega
  have fqb := HI.out.few.at qb _ (few_at qb (by omega))
  clear hqb
  obtain ⟨qx, hqx⟩ : ∃ qx, dn % 4 = qx := ⟨_, rfl⟩
  have qxl : qx < 4 := by omega
  have qxI : ((dn : Nat) : Int) % 4 = (qx : Int) := by omega
  have fqx := HI.out.few.at qx _ (few_at qx (by omega))
  rw [hqx] at HPUT hJ
  clear hqx
  have fz1 := hfz (i * 7 + 1)
  have fz2 := hfz (i * 7 + 2)
  have fz3 := hfz (i * 7 + 3)
  have fz4 := hfz (i * 7 + 4)
  have fz5 := hfz (i * 7 + 5)
  have fz6 := hfz (i * 7 + 6)
  have hgT : g ≠ wr.heap.size := by omega
  clear h hic hfz hrw hy hln hgb
  conv => arg 2; whnf
  go_upto_region 14 with (fail)
  go_region
  refine hM _ _ (Met.intro (hJ _ _ ⟨_, _, _, _, _, _, _, _, _, _, _, _, _, _, _, _, _, _, _, _, _, _, _, _, _, _, _, _, _, _, _, _, _, _, _, _, _, _, _, _, _, _, _, _, _, _, _, _, _, _, _, _, _, _, _, _, _, _, _, _, _, _, _, _, _, _, _, _, _, _, _, _, _, _, _, _, _, _, _, _, _, _, _, _, _, _, _, _, _, _, _, _, _, _, _, _, _, _, _, _, _, _, _, _, _, _, _, _, _, _, _, _, _, _, _, _, _, _, _, _, _, _, _, _, _, _, _, _, _, _, _, _, _, _, _, _, _, _, _, _, _, _, _, _, _, _, _, _, _, _, _, _, _, _, _, _, _, _, _, _, _, _, _, _, _, _, _, _, _, _, _, _, _, _, _, _, _, _, _, _, _, _, _, _, _, _, _, _, _, _, _, _, _, _, _, _, _, _, _, _, _, _, _, ?_, rfl⟩))
  exact ((HPUT.out.old ((Below.refl _ _).alloc (Nat.le_refl _) (.cells #[.int .i64 op, .int .i64 dn, .int .i64 an, .int .i64 bn, .int .i64 n, .string (strOf nm)] 39))).old (Below.refl _ _).drew)
end Go.Proofs.YtpgjfpphigeliaaGreatDoor

namespace Go.Proofs.YtpgjfpphigeliaaGreatDoor
open Go.RowKit
set_option maxHeartbeats 4000000
set_option maxRecDepth 100000

theorem tmr_C (w : World) (T4 A T5 F8 base : Nat) (ls : List Ln) (g cap : Nat) (wr : World) (h : TmIn w T4 A T5 F8 base ls (.slice (some ⟨g, 0, none⟩) ls.length cap) wr) (i : Nat) (hi : i < ls.length) (hl : ls.length ≤ 1000) (ins : Ins) (hln : ls[i] = ⟨[], ins⟩) (hd : 0 ≤ ins.d ∧ ins.d < 32) (ha : 0 ≤ ins.a ∧ ins.a < 32) (hb : 0 ≤ ins.b ∧ ins.b < 32) (hn : I64 ins.n) (hnm : ins.name.length ≤ 40) (ho : ins.op = 16) (v0 v1 : Value) (q2 q3 q8 q9 q10 q11 q12 q13 q14 q15 q16 q17 q18 q19 q20 q21 q22 q23 q24 q25 q26 q27 q28 q29 q30 q31 q32 q33 q34 q35 q36 q37 q38 q39 q40 q41 q42 q43 q44 q45 q46 q47 q48 q49 q50 q51 q52 q53 q54 q55 q56 q57 q58 q59 q60 q61 q62 q63 q64 q65 q66 q67 q68 q69 q70 q71 q72 q73 q74 q75 q76 q77 q78 q79 q80 q81 q82 q83 q84 q85 q86 q87 q88 q89 q90 q91 q92 q93 q94 q95 q96 q97 q98 q99 q100 q101 q102 q103 q104 q105 q106 q107 q108 q109 q110 q111 q112 q113 q114 q115 q116 q117 q118 q119 q120 q121 q122 q123 q124 q125 q126 q127 q128 q129 q130 q131 q132 q133 q134 q135 q136 q137 q138 q139 q140 q141 q142 q143 q144 q145 q146 q147 q148 q149 q150 q151 q152 q153 q154 q155 q156 q157 q158 q159 q160 q161 q162 q163 q164 q165 q166 q167 q168 q169 q170 q171 q172 q173 q174 q175 q176 q177 q178 q179 q180 q181 q182 q183 q184 q185 q186 q187 q188 q189 q190 q191 q192 q193 q194 q195 q196 q197 q198 q199 q200 q201 q202 q203 q204 q205 q206 q207 q208 q209 q210 q211 q212 q213 q214 q215 q216 q217 q218 q219 q220 q221 q222 q223 q224 q225 q226 q227 q228 q229 q230 q231 q232 q233 q234 q235 q236 q237 q238 q239 q240 q241 q242 q243 q244 q245 q246 q247 q248 q249 q250 q251 q252 q253 q254 q255 q256 q257 q258 q259 q260 : Value) (J K' : Act → World → Prop) (hJ : ∀ a' w', RTm w T4 A T5 F8 base (ls.set i (tameL ls[i])) (.slice (some ⟨g, 0, none⟩) ls.length cap) i v0 v1 q2 q3 q12 q13 q14 q15 q16 q17 q18 q19 q20 q21 q22 q23 q24 q224 q225 q226 q227 q228 q229 q230 q231 q232 q233 q234 q235 q236 q237 q238 q239 q240 q241 q242 q243 q244 q245 q246 q247 q248 q249 q250 q251 q252 q253 q254 q255 q256 q257 q258 q259 q260 a' w' → J a' w') (hM : ∀ a' w', Met J a' w' → K' a' w') :
    Code.wp Tryz.prog tmCode (Exit.then K' (fun _ _ _ => False)) ⟨[v0, v1, q2, q3, .pointer (some ⟨T4, 0, none⟩), .pointer (some ⟨T5, 0, none⟩), .slice (some ⟨F8, 0, none⟩) 8 8, .int .i64 i, q8, q9, q10, q11, q12, q13, q14, q15, q16, q17, q18, q19, q20, q21, q22, q23, q24, q25, q26, q27, q28, q29, q30, q31, q32, q33, q34, q35, q36, q37, q38, q39, q40, q41, q42, q43, q44, q45, q46, q47, q48, q49, q50, q51, q52, q53, q54, q55, q56, q57, q58, q59, q60, q61, q62, q63, q64, q65, q66, q67, q68, q69, q70, q71, q72, q73, q74, q75, q76, q77, q78, q79, q80, q81, q82, q83, q84, q85, q86, q87, q88, q89, q90, q91, q92, q93, q94, q95, q96, q97, q98, q99, q100, q101, q102, q103, q104, q105, q106, q107, q108, q109, q110, q111, q112, q113, q114, q115, q116, q117, q118, q119, q120, q121, q122, q123, q124, q125, q126, q127, q128, q129, q130, q131, q132, q133, q134, q135, q136, q137, q138, q139, q140, q141, q142, q143, q144, q145, q146, q147, q148, q149, q150, q151, q152, q153, q154, q155, q156, q157, q158, q159, q160, q161, q162, q163, q164, q165, q166, q167, q168, q169, q170, q171, q172, q173, q174, q175, q176, q177, q178, q179, q180, q181, q182, q183, q184, q185, q186, q187, q188, q189, q190, q191, q192, q193, q194, q195, q196, q197, q198, q199, q200, q201, q202, q203, q204, q205, q206, q207, q208, q209, q210, q211, q212, q213, q214, q215, q216, q217, q218, q219, q220, q221, q222, q223, q224, q225, q226, q227, q228, q229, q230, q231, q232, q233, q234, q235, q236, q237, q238, q239, q240, q241, q242, q243, q244, q245, q246, q247, q248, q249, q250, q251, q252, q253, q254, q255, q256, q257, q258, q259, q260].toArray, []⟩ wr := by
  have hlI : (ls.length : Int) ≤ 1000 := by omega
  have hiI : (i : Int) < (ls.length : Int) := by omega
  obtain ⟨g', e', hgb, hgl, hic, hfz⟩ := lns_at h.ln hi
  have hrw := RwOwn.nilv h.ln (show ls.length ≤ 140737488355328 by omega) lnCells_len
  obtain ⟨b', o', e2, _, c0, _⟩ := LnsAt.at hrw hi
  cases e'
  cases e2
  rw [Nat.zero_add] at c0
  have x0 := h.x.at 0 _ rfl
  have x1 := h.x.at 1 _ rfl
  have hxl := h.x.lt
  have hFl := h.few.lt
  have HI := Lib.hid h
  rw [hln] at hic c0
  obtain ⟨op, d, a, b, n, nm⟩ := ins
  dsimp only at hd ha hb hn hnm ho c0
  obtain ⟨dn, rfl⟩ : ∃ dn : Nat, d = dn := ⟨d.toNat, by omega⟩
  obtain ⟨an, rfl⟩ : ∃ an : Nat, a = an := ⟨a.toNat, by omega⟩
  obtain ⟨bn, rfl⟩ : ∃ bn : Nat, b = bn := ⟨b.toNat, by omega⟩
  obtain ⟨hn1, hn2⟩ := hn
  obtain ⟨c1, c2, c3, c4, c5, c6⟩ := hic.all
  dsimp only at c1 c2 c3 c4 c5 c6
  subst ho
  have hy : tameL ls[i] = ⟨ls[i].label, ⟨16, fewN (dn % 5), 0, 0, n.tmod 9, []⟩⟩ := by
    rw [hln]
    unfold tameL
    rw [if_pos rfl]
    unfold tameI
    dsimp only
    rfl
  rw [hy] at hJ

  have HIA := Lib.hid (HI.out.old ((Below.refl _ _).alloc (Nat.le_refl _) (.cells #[.int .i64 16, .int .i64 dn, .int .i64 an, .int .i64 bn, .int .i64 n, .string (strOf nm)] 39)))
  have HPUT := Lib.hid (HI.out.put hi ⟨16, fewN (dn % 5), 0, 0, n.tmod 9, []⟩)
  clear HIA
  obtain ⟨qd, hqd⟩ : ∃ qd, dn % 8 = qd := ⟨_, rfl⟩
  have qdl : qd < 8 := by omega
  have qdI : ((dn : Nat) : Int) % 8 = (qd : Int) := by omega
  have fqd := HI.out.few.at qd _ (few_at qd (by omega))
  clear hqd
  obtain ⟨qa, hqa⟩ : ∃ qa, an % 6 = qa := ⟨_, rfl⟩
  have qal : qa < 6 := by omega
  have qaI : ((an : Nat) : Int) % 6 = (qa : Int) := by omega
  have fqa := HI.out.few.at qa _ (few_at qa (by omega))
  clear hqa
  obtain ⟨qb, hqb⟩ : ∃ qb, bn % 7 = qb := ⟨_, rfl⟩
  have qbl : qb < 7 := by omega
  have qbI : ((bn : Nat) : Int) % 7 = (qb : Int) := by omega
  have fqb := HI.out.few.at qb _ (few_at qb (by omega))
  clear hqb
  obtain ⟨qx, hqx⟩ : ∃ qx, dn % 5 = qx := ⟨_, rfl⟩
  have qxl : qx < 5 := by omega
  have qxI : ((dn : Nat) : Int) % 5 = (qx : Int) := by omega
  have fqx := HI.out.few.at qx _ (few_at qx (by omega))
  rw [hqx] at HPUT hJ
  clear hqx
  have fz1 := hfz (i * 7 + 1)
  have fz2 := hfz (i * 7 + 2)
  have fz3 := hfz (i * 7 + 3)
  have fz4 := hfz (i * 7 + 4)
  have fz5 := hfz (i * 7 + 5)
  have fz6 := hfz (i * 7 + 6)
  have hgT : g ≠ wr.heap.size := by omega
  obtain ⟨tm1, tm2⟩ := tmod_in n 9 (by decide)
  clear h hic hfz hrw hy hln hgb
  conv => arg 2; whnf
  go_upto_region 16 with (fail)
  go_region
  refine hM _ _ (Met.intro (hJ _ _ ⟨_, _, _, _, _, _, _, _, _, _, _, _, _, _, _, _, _, _, _, _, _, _, _, _, _, _, _, _, _, _, _, _, _, _, _, _, _, _, _, _, _, _, _, _, _, _, _, _, _, _, _, _, _, _, _, _, _, _, _, _, _, _, _, _, _, _, _, _, _, _, _, _, _, _, _, _, _, _, _, _, _, _, _, _, _, _, _, _, _, _, _, _, _, _, _, _, _, _, _, _, _, _, _, _, _, _, _, _, _, _, _, _, _, _, _, _, _, _, _, _, _, _, _, _, _, _, _, _, _, _, _, _, _, _, _, _, _, _, _, _, _, _, _, _, _, _, _, _, _, _, _, _, _, _, _, _, _, _, _, _, _, _, _, _, _, _, _, _, _, _, _, _, _, _, _, _, _, _, _, _, _, _, _, _, _, _, _, _, _, _, _, _, _, _, _, _, _, _, _, _, _, _, _, ?_, rfl⟩))
  exact ((HPUT.out.old ((Below.refl _ _).alloc (Nat.le_refl _) (.cells #[.int .i64 16, .int .i64 dn, .int .i64 an, .int .i64 bn, .int .i64 n, .string (strOf nm)] 39))).old (Below.refl _ _).drew)
end Go.Proofs.YtpgjfpphigeliaaGreatDoor

namespace Go.Proofs.YtpgjfpphigeliaaGreatDoor
open Go.RowKit
set_option maxHeartbeats 4000000
set_option maxRecDepth 100000

theorem tmr_D (w : World) (T4 A T5 F8 base : Nat) (ls : List Ln) (g cap : Nat) (wr : World) (h : TmIn w T4 A T5 F8 base ls (.slice (some ⟨g, 0, none⟩) ls.length cap) wr) (i : Nat) (hi : i < ls.length) (hl : ls.length ≤ 1000) (ins : Ins) (hln : ls[i] = ⟨[], ins⟩) (hd : 0 ≤ ins.d ∧ ins.d < 32) (ha : 0 ≤ ins.a ∧ ins.a < 32) (hb : 0 ≤ ins.b ∧ ins.b < 32) (hn : I64 ins.n) (hnm : ins.name.length ≤ 40) (ho : ins.op = 17) (v0 v1 : Value) (q2 q3 q8 q9 q10 q11 q12 q13 q14 q15 q16 q17 q18 q19 q20 q21 q22 q23 q24 q25 q26 q27 q28 q29 q30 q31 q32 q33 q34 q35 q36 q37 q38 q39 q40 q41 q42 q43 q44 q45 q46 q47 q48 q49 q50 q51 q52 q53 q54 q55 q56 q57 q58 q59 q60 q61 q62 q63 q64 q65 q66 q67 q68 q69 q70 q71 q72 q73 q74 q75 q76 q77 q78 q79 q80 q81 q82 q83 q84 q85 q86 q87 q88 q89 q90 q91 q92 q93 q94 q95 q96 q97 q98 q99 q100 q101 q102 q103 q104 q105 q106 q107 q108 q109 q110 q111 q112 q113 q114 q115 q116 q117 q118 q119 q120 q121 q122 q123 q124 q125 q126 q127 q128 q129 q130 q131 q132 q133 q134 q135 q136 q137 q138 q139 q140 q141 q142 q143 q144 q145 q146 q147 q148 q149 q150 q151 q152 q153 q154 q155 q156 q157 q158 q159 q160 q161 q162 q163 q164 q165 q166 q167 q168 q169 q170 q171 q172 q173 q174 q175 q176 q177 q178 q179 q180 q181 q182 q183 q184 q185 q186 q187 q188 q189 q190 q191 q192 q193 q194 q195 q196 q197 q198 q199 q200 q201 q202 q203 q204 q205 q206 q207 q208 q209 q210 q211 q212 q213 q214 q215 q216 q217 q218 q219 q220 q221 q222 q223 q224 q225 q226 q227 q228 q229 q230 q231 q232 q233 q234 q235 q236 q237 q238 q239 q240 q241 q242 q243 q244 q245 q246 q247 q248 q249 q250 q251 q252 q253 q254 q255 q256 q257 q258 q259 q260 : Value) (J K' : Act → World → Prop) (hJ : ∀ a' w', RTm w T4 A T5 F8 base (ls.set i (tameL ls[i])) (.slice (some ⟨g, 0, none⟩) ls.length cap) i v0 v1 q2 q3 q12 q13 q14 q15 q16 q17 q18 q19 q20 q21 q22 q23 q24 q224 q225 q226 q227 q228 q229 q230 q231 q232 q233 q234 q235 q236 q237 q238 q239 q240 q241 q242 q243 q244 q245 q246 q247 q248 q249 q250 q251 q252 q253 q254 q255 q256 q257 q258 q259 q260 a' w' → J a' w') (hM : ∀ a' w', Met J a' w' → K' a' w') :
    Code.wp Tryz.prog tmCode (Exit.then K' (fun _ _ _ => False)) ⟨[v0, v1, q2, q3, .pointer (some ⟨T4, 0, none⟩), .pointer (some ⟨T5, 0, none⟩), .slice (some ⟨F8, 0, none⟩) 8 8, .int .i64 i, q8, q9, q10, q11, q12, q13, q14, q15, q16, q17, q18, q19, q20, q21, q22, q23, q24, q25, q26, q27, q28, q29, q30, q31, q32, q33, q34, q35, q36, q37, q38, q39, q40, q41, q42, q43, q44, q45, q46, q47, q48, q49, q50, q51, q52, q53, q54, q55, q56, q57, q58, q59, q60, q61, q62, q63, q64, q65, q66, q67, q68, q69, q70, q71, q72, q73, q74, q75, q76, q77, q78, q79, q80, q81, q82, q83, q84, q85, q86, q87, q88, q89, q90, q91, q92, q93, q94, q95, q96, q97, q98, q99, q100, q101, q102, q103, q104, q105, q106, q107, q108, q109, q110, q111, q112, q113, q114, q115, q116, q117, q118, q119, q120, q121, q122, q123, q124, q125, q126, q127, q128, q129, q130, q131, q132, q133, q134, q135, q136, q137, q138, q139, q140, q141, q142, q143, q144, q145, q146, q147, q148, q149, q150, q151, q152, q153, q154, q155, q156, q157, q158, q159, q160, q161, q162, q163, q164, q165, q166, q167, q168, q169, q170, q171, q172, q173, q174, q175, q176, q177, q178, q179, q180, q181, q182, q183, q184, q185, q186, q187, q188, q189, q190, q191, q192, q193, q194, q195, q196, q197, q198, q199, q200, q201, q202, q203, q204, q205, q206, q207, q208, q209, q210, q211, q212, q213, q214, q215, q216, q217, q218, q219, q220, q221, q222, q223, q224, q225, q226, q227, q228, q229, q230, q231, q232, q233, q234, q235, q236, q237, q238, q239, q240, q241, q242, q243, q244, q245, q246, q247, q248, q249, q250, q251, q252, q253, q254, q255, q256, q257, q258, q259, q260].toArray, []⟩ wr := by
  have hlI : (ls.length : Int) ≤ 1000 := by omega
  have hiI : (i : Int) < (ls.length : Int) := by omega
  obtain ⟨g', e', hgb, hgl, hic, hfz⟩ := lns_at h.ln hi
  have hrw := RwOwn.nilv h.ln (show ls.length ≤ 140737488355328 by omega) lnCells_len
  obtain ⟨b', o', e2, _, c0, _⟩ := LnsAt.at hrw hi
  cases e'
  cases e2
  rw [Nat.zero_add] at c0
  have x0 := h.x.at 0 _ rfl
  have x1 := h.x.at 1 _ rfl
  have hxl := h.x.lt
  have hFl := h.few.lt
  have HI := Lib.hid h
  rw [hln] at hic c0
  obtain ⟨op, d, a, b, n, nm⟩ := ins
  dsimp only at hd ha hb hn hnm ho c0
  obtain ⟨dn, rfl⟩ : ∃ dn : Nat, d = dn := ⟨d.toNat, by omega⟩
  obtain ⟨an, rfl⟩ : ∃ an : Nat, a = an := ⟨a.toNat, by omega⟩
  obtain ⟨bn, rfl⟩ : ∃ bn : Nat, b = bn := ⟨b.toNat, by omega⟩
  obtain ⟨hn1, hn2⟩ := hn
  obtain ⟨c1, c2, c3, c4, c5, c6⟩ := hic.all
  dsimp only at c1 c2 c3 c4 c5 c6
  subst ho
  have hy : tameL ls[i] = ⟨ls[i].label, ⟨17, fewN (dn % 3), 0, 0, 0, nm⟩⟩ := by
    rw [hln]
    unfold tameL
    rw [if_pos rfl]
    unfold tameI
    dsimp only
    rfl
  rw [hy] at hJ

  have HIA := Lib.hid (HI.out.old ((Below.refl _ _).alloc (Nat.le_refl _) (.cells #[.int .i64 17, .int .i64 dn, .int .i64 an, .int .i64 bn, .int .i64 n, .string (strOf nm)] 39)))
  have HPUT := Lib.hid (HI.out.put hi ⟨17, fewN (dn % 3), 0, 0, 0, nm⟩)
  clear HIA
  obtain ⟨qd, hqd⟩ : ∃ qd, dn % 8 = qd := ⟨_, rfl⟩
  have qdl : qd < 8 := by omega
  have qdI : ((dn : Nat) : Int) % 8 = (qd : Int) := by omega
  have fqd := HI.out.few.at qd _ (few_at qd (by omega))
  clear hqd
  obtain ⟨qa, hqa⟩ : ∃ qa, an % 6 = qa := ⟨_, rfl⟩
  have qal : qa < 6 := by omega
  have qaI : ((an : Nat) : Int) % 6 = (qa : Int) := by omega
  have fqa := HI.out.few.at qa _ (few_at qa (by omega))
  clear hqa
  obtain ⟨qb, hqb⟩ : ∃ qb, bn % 7 = qb := ⟨_, rfl⟩
  have qbl : qb < 7 := by omega
  have qbI : ((bn : Nat) : Int) % 7 = (qb : Int) := by omega
  have fqb := HI.out.few.at qb _ (few_at qb (by omega))
  clear hqb
  obtain ⟨qx, hqx⟩ : ∃ qx, dn % 3 = qx := ⟨_, rfl⟩
  have qxl : qx < 3 := by omega
  have qxI : ((dn : Nat) : Int) % 3 = (qx : Int) := by omega
  have fqx := HI.out.few.at qx _ (few_at qx (by omega))
  rw [hqx] at HPUT hJ
  clear hqx
  have fz1 := hfz (i * 7 + 1)
  have fz2 := hfz (i * 7 + 2)
  have fz3 := hfz (i * 7 + 3)
  have fz4 := hfz (i * 7 + 4)
  have fz5 := hfz (i * 7 + 5)
  have fz6 := hfz (i * 7 + 6)
  have hgT : g ≠ wr.heap.size := by omega
  clear h hic hfz hrw hy hln hgb
  conv => arg 2; whnf
  go_upto_region 18 with (fail)
  go_region
  refine hM _ _ (Met.intro (hJ _ _ ⟨_, _, _, _, _, _, _, _, _, _, _, _, _, _, _, _, _, _, _, _, _, _, _, _, _, _, _, _, _, _, _, _, _, _, _, _, _, _, _, _, _, _, _, _, _, _, _, _, _, _, _, _, _, _, _, _, _, _, _, _, _, _, _, _, _, _, _, _, _, _, _, _, _, _, _, _, _, _, _, _, _, _, _, _, _, _, _, _, _, _, _, _, _, _, _, _, _, _, _, _, _, _, _, _, _, _, _, _, _, _, _, _, _, _, _, _, _, _, _, _, _, _, _, _, _, _, _, _, _, _, _, _, _, _, _, _, _, _, _, _, _, _, _, _, _, _, _, _, _, _, _, _, _, _, _, _, _, _, _, _, _, _, _, _, _, _, _, _, _, _, _, _, _, _, _, _, _, _, _, _, _, _, _, _, _, _, _, _, _, _, _, _, _, _, _, _, _, _, _, _, _, _, _, ?_, rfl⟩))
  exact ((HPUT.out.old ((Below.refl _ _).alloc (Nat.le_refl _) (.cells #[.int .i64 17, .int .i64 dn, .int .i64 an, .int .i64 bn, .int .i64 n, .string (strOf nm)] 39))).old (Below.refl _ _).drew)
end Go.Proofs.YtpgjfpphigeliaaGreatDoor
