/-
  Tame code: which it is; its place in memory while it is made. Plain functions, and its place in memory.
  Tame's loop over lines: its code, what a round comes to. No condition.
  Tame: a load made tame, in whatever order. Conditions: the code lies in memory.
-/
import Derived.Test.YtpgjfpphigeliaaGreatDoorMachF
import Derived.Test.YtpgjfpphigeliaaGreatDoorAsmK
import Derived.Test.YtpgjfpphigeliaaGreatDoorAsmH
import Derived.Test.YtpgjfpphigeliaaGreatDoorAsmC
import Derived.BigRegion
set_option linter.unusedVariables false
set_option linter.unusedSimpArgs false
namespace Go.Proofs.YtpgjfpphigeliaaGreatDoor
open Go.RowKit
set_option maxHeartbeats 4000000
set_option maxRecDepth 100000

def fewN (q : Nat) : Int := ([5, 6, 7, 10, 17, 2, 0, 1] : List Int).getD q 0
def twoN (q : Nat) : Int := ([2, 5] : List Int).getD q 0
def tameI (x : Ins) : Ins :=
  if x.op ≤ 12 then ⟨x.op, fewN (x.d.toNat % 4), fewN (x.a.toNat % 6), fewN (x.b.toNat % 7), 0, []⟩
  else if x.op ≤ 15 then ⟨x.op, fewN (x.d.toNat % 4), fewN (x.a.toNat % 6), 0, 0, []⟩
  else if x.op = 16 then ⟨16, fewN (x.d.toNat % 5), 0, 0, x.n.tmod 9, []⟩
  else if x.op = 17 then ⟨17, fewN (x.d.toNat % 3), 0, 0, 0, x.name⟩
  else if x.op = 18 then ⟨18, fewN (x.d.toNat % 8), fewN (x.a.toNat % 6), 0, (x.n.tdiv 8).tmod 9 * 8, []⟩
  else if x.op = 19 then ⟨19, fewN (x.d.toNat % 4), twoN (x.a.toNat % 2), 0, (x.n.tdiv 8).tmod 5 * 8, []⟩
  else if x.op = 20 then ⟨20, 0, twoN (x.a.toNat % 2), fewN (x.b.toNat % 7), (x.n.tdiv 8).tmod 5 * 8, []⟩
  else if x.op ≤ 24 then ⟨x.op, 0, fewN (x.a.toNat % 6), fewN (x.b.toNat % 7), 0, x.name⟩
  else x
def tameL (x : Ln) : Ln := if x.label = [] then ⟨[], tameI x.ins⟩ else x
def bB : Bs := [98]
def firZ (first : List Int) (i : Nat) : Int := first.getD i 1
/-- What tame code begins with. -/
def headT (first : List Int) : List Ln := [lnI ⟨17, 5, 0, 0, 0, bB⟩, lnI ⟨16, 6, 0, 0, firZ first 1, []⟩, lnI ⟨16, 7, 0, 0, firZ first 2, []⟩, lnI ⟨16, 10, 0, 0, firZ first 3, []⟩, lnI ⟨16, 17, 0, 0, firZ first 4, []⟩, lnI ⟨18, 2, 2, 0, -80, []⟩]
def tameC (raw : List Ln) (first : List Int) : Cd := ⟨arrs2, headT first ++ (fitC raw).lines.map tameL⟩
def fewC : List Value := [.int .i64 5, .int .i64 6, .int .i64 7, .int .i64 10, .int .i64 17, .int .i64 2, .int .i64 0, .int .i64 1]
theorem few_at (q : Nat) (h : q < 8) : fewC[q]? = some (.int .i64 (fewN q)) := by
  have : q = 0 ∨ q = 1 ∨ q = 2 ∨ q = 3 ∨ q = 4 ∨ q = 5 ∨ q = 6 ∨ q = 7 := by omega
  rcases this with rfl | rfl | rfl | rfl | rfl | rfl | rfl | rfl <;> rfl
theorem few_in (q : Nat) : 0 ≤ fewN q ∧ fewN q < 32 := by
  unfold fewN
  by_cases h : q < 8
  · have : q = 0 ∨ q = 1 ∨ q = 2 ∨ q = 3 ∨ q = 4 ∨ q = 5 ∨ q = 6 ∨ q = 7 := by omega
    rcases this with rfl | rfl | rfl | rfl | rfl | rfl | rfl | rfl <;> decide
  · rw [List.getD_eq_getElem?_getD, List.getElem?_eq_none (show 8 ≤ q by omega)]; decide
theorem two_in (q : Nat) : 0 ≤ twoN q ∧ twoN q < 32 := by
  unfold twoN
  by_cases h : q < 2
  · have : q = 0 ∨ q = 1 := by omega
    rcases this with rfl | rfl <;> decide
  · rw [List.getD_eq_getElem?_getD, List.getElem?_eq_none (show 2 ≤ q by omega)]; decide
/-- Tame code while it is made. -/
structure TmIn (w : World) (T4 A T5 F8 base : Nat) (ls : List Ln) (vl : Value) (wr : World) : Prop where
  r : OwnAt wr T4 [.slice none 0 0, .slice none 0 0] 27
  aa : OwnAt wr A arrC 37
  x : OwnAt wr T5 [.slice (some ⟨A, 0, none⟩) 2 2, vl] 27
  few : OwnAt wr F8 fewC 3
  ln : LnsOwn wr base ls vl
  lt5 : ∀ g, vl.ownBlock = some g → g < T5
  o1 : w.heap.size ≤ T4
  o2 : T4 < A
  o3 : A < base
  o4 : base ≤ T5
  o5 : T5 < F8
  be : Below w.heap.size w wr
theorem TmIn.old {w : World} {T4 A T5 F8 base : Nat} {ls : List Ln} {vl : Value} {wr w' : World} (h : TmIn w T4 A T5 F8 base ls vl wr) (hb : Below wr.heap.size wr w') : TmIn w T4 A T5 F8 base ls vl w' :=
  ⟨h.r.old hb, h.aa.old hb, h.x.old hb, h.few.old hb, RwOwn.old h.ln hb, h.lt5, h.o1, h.o2, h.o3, h.o4, h.o5, h.be.trans (hb.mono h.be.size)⟩
theorem TmIn.put {w : World} {T4 A T5 F8 base : Nat} {ls : List Ln} {g n cap : Nat} {wr : World} (h : TmIn w T4 A T5 F8 base ls (.slice (some ⟨g, 0, none⟩) n cap) wr) {i : Nat} (hi : i < ls.length) (y : Ins) :
    TmIn w T4 A T5 F8 base (ls.set i ⟨ls[i].label, y⟩) (.slice (some ⟨g, 0, none⟩) n cap) ((((((wr.setCell ⟨g, i * 7 + 1, none⟩ (.int .i64 y.op)).setCell ⟨g, i * 7 + 2, none⟩ (.int .i64 y.d)).setCell ⟨g, i * 7 + 3, none⟩ (.int .i64 y.a)).setCell ⟨g, i * 7 + 4, none⟩ (.int .i64 y.b)).setCell ⟨g, i * 7 + 5, none⟩ (.int .i64 y.n)).setCell ⟨g, i * 7 + 6, none⟩ (.string (strOf y.name))) := by
  have hb := RwOwn.lt h.ln g rfl
  have h5 := h.lt5 g rfl
  have h1 := h.o1; have h2 := h.o2; have h3 := h.o3; have h4 := h.o4; have h6 := h.o5
  have hN : ls.length = n := by
    obtain ⟨a, c, e⟩ := RwOwn.shape h.ln
    injection e with _ e1 _; exact e1.symm
  refine ⟨(((((h.r.other (by omega) _ _).other (by omega) _ _).other (by omega) _ _).other (by omega) _ _).other (by omega) _ _).other (by omega) _ _, (((((h.aa.other (by omega) _ _).other (by omega) _ _).other (by omega) _ _).other (by omega) _ _).other (by omega) _ _).other (by omega) _ _, (((((h.x.other (by omega) _ _).other (by omega) _ _).other (by omega) _ _).other (by omega) _ _).other (by omega) _ _).other (by omega) _ _, (((((h.few.other (by omega) _ _).other (by omega) _ _).other (by omega) _ _).other (by omega) _ _).other (by omega) _ _).other (by omega) _ _, ?_, h.lt5, h1, h2, h3, h4, h6, ?_⟩
  · have hl := h.ln
    unfold LnsOwn RwOwn at hl ⊢
    rw [List.length_set, ← flat_set ls i hi y]
    rw [hN] at hl ⊢
    exact own_cell (own_cell (own_cell (own_cell (own_cell (own_cell hl _ _) _ _) _ _) _ _) _ _) _ _
  · have hg : w.heap.size ≤ g := by omega
    exact zbelow_set (zbelow_set (zbelow_set (zbelow_set (zbelow_set (zbelow_set h.be hg _ _) hg _ _) hg _ _) hg _ _) hg _ _) hg _ _
end Go.Proofs.YtpgjfpphigeliaaGreatDoor

namespace Go.Proofs.YtpgjfpphigeliaaGreatDoor
open Go.RowKit
set_option maxHeartbeats 4000000
set_option maxRecDepth 100000

def partOf (p : Code → Bool) : Code → Option Code
  | .loop c => if p (.loop c) then some (.loop c) else partOf p c
  | .seq a b => match partOf p a with
    | some c => some c
    | none => partOf p b
  | .block k c => if p (.block k c) then some (.block k c) else partOf p c
  | .scope c => partOf p c
  | .cond o a b => match partOf p a with
    | some c => some c
    | none => partOf p b
  | _ => none
def isBlock (n : Nat) : Code → Bool
  | .block k _ => k == n
  | _ => false
theorem tmod_in (z : Int) (m : Int) (h : 0 < m) : -m < z.tmod m ∧ z.tmod m < m := by
  have e : (z.tmod m).natAbs = z.natAbs % m.natAbs := Int.natAbs_tmod _ _
  have := Nat.mod_lt z.natAbs (show 0 < m.natAbs by omega)
  omega
noncomputable def tmCode : Code := ((Tryz.f12.body.bind (partOf (isBlock 1))).getD .skip)
/-- Behind a round: the lines, one of them tame. -/
def RTm (w : World) (T4 A T5 F8 base : Nat) (ls : List Ln) (vl : Value) (i : Nat) (v0 v1 : Value) (q2 q3 q12 q13 q14 q15 q16 q17 q18 q19 q20 q21 q22 q23 q24 q224 q225 q226 q227 q228 q229 q230 q231 q232 q233 q234 q235 q236 q237 q238 q239 q240 q241 q242 q243 q244 q245 q246 q247 q248 q249 q250 q251 q252 q253 q254 q255 q256 q257 q258 q259 q260 : Value) (a' : Act) (w' : World) : Prop :=
  ∃ z8 z9 z10 z11 z25 z26 z27 z28 z29 z30 z31 z32 z33 z34 z35 z36 z37 z38 z39 z40 z41 z42 z43 z44 z45 z46 z47 z48 z49 z50 z51 z52 z53 z54 z55 z56 z57 z58 z59 z60 z61 z62 z63 z64 z65 z66 z67 z68 z69 z70 z71 z72 z73 z74 z75 z76 z77 z78 z79 z80 z81 z82 z83 z84 z85 z86 z87 z88 z89 z90 z91 z92 z93 z94 z95 z96 z97 z98 z99 z100 z101 z102 z103 z104 z105 z106 z107 z108 z109 z110 z111 z112 z113 z114 z115 z116 z117 z118 z119 z120 z121 z122 z123 z124 z125 z126 z127 z128 z129 z130 z131 z132 z133 z134 z135 z136 z137 z138 z139 z140 z141 z142 z143 z144 z145 z146 z147 z148 z149 z150 z151 z152 z153 z154 z155 z156 z157 z158 z159 z160 z161 z162 z163 z164 z165 z166 z167 z168 z169 z170 z171 z172 z173 z174 z175 z176 z177 z178 z179 z180 z181 z182 z183 z184 z185 z186 z187 z188 z189 z190 z191 z192 z193 z194 z195 z196 z197 z198 z199 z200 z201 z202 z203 z204 z205 z206 z207 z208 z209 z210 z211 z212 z213 z214 z215 z216 z217 z218 z219 z220 z221 z222 z223 : Value, TmIn w T4 A T5 F8 base ls vl w' ∧ a' = ⟨[v0, v1, q2, q3, .pointer (some ⟨T4, 0, none⟩), .pointer (some ⟨T5, 0, none⟩), .slice (some ⟨F8, 0, none⟩) 8 8, .int .i64 i, z8, z9, z10, z11, q12, q13, q14, q15, q16, q17, q18, q19, q20, q21, q22, q23, q24, z25, z26, z27, z28, z29, z30, z31, z32, z33, z34, z35, z36, z37, z38, z39, z40, z41, z42, z43, z44, z45, z46, z47, z48, z49, z50, z51, z52, z53, z54, z55, z56, z57, z58, z59, z60, z61, z62, z63, z64, z65, z66, z67, z68, z69, z70, z71, z72, z73, z74, z75, z76, z77, z78, z79, z80, z81, z82, z83, z84, z85, z86, z87, z88, z89, z90, z91, z92, z93, z94, z95, z96, z97, z98, z99, z100, z101, z102, z103, z104, z105, z106, z107, z108, z109, z110, z111, z112, z113, z114, z115, z116, z117, z118, z119, z120, z121, z122, z123, z124, z125, z126, z127, z128, z129, z130, z131, z132, z133, z134, z135, z136, z137, z138, z139, z140, z141, z142, z143, z144, z145, z146, z147, z148, z149, z150, z151, z152, z153, z154, z155, z156, z157, z158, z159, z160, z161, z162, z163, z164, z165, z166, z167, z168, z169, z170, z171, z172, z173, z174, z175, z176, z177, z178, z179, z180, z181, z182, z183, z184, z185, z186, z187, z188, z189, z190, z191, z192, z193, z194, z195, z196, z197, z198, z199, z200, z201, z202, z203, z204, z205, z206, z207, z208, z209, z210, z211, z212, z213, z214, z215, z216, z217, z218, z219, z220, z221, z222, z223, q224, q225, q226, q227, q228, q229, q230, q231, q232, q233, q234, q235, q236, q237, q238, q239, q240, q241, q242, q243, q244, q245, q246, q247, q248, q249, q250, q251, q252, q253, q254, q255, q256, q257, q258, q259, q260].toArray, []⟩
end Go.Proofs.YtpgjfpphigeliaaGreatDoor

namespace Go.Proofs.YtpgjfpphigeliaaGreatDoor
open Go.RowKit
set_option maxHeartbeats 8000000
set_option maxRecDepth 100000

structure VF22 (w : World) (T4 A T5 F8 base : Nat) (ls : List Ln) (g cap T8 i dn an bn qx qt : Nat) (n : Int) (nm : List UInt8) (L2 : List Ln) (W : World) (L : Nat → Bool) (tt : Nat) (z159 z160 z161 z162 z163 z164 z165 z166 z167 z168 z169 z170 z171 z172 z173 z174 z175 z176 z177 z178 z179 z180 z181 z182 z183 : Value) (wx : World) : Prop where
  ord : L 25 = true → ∀ j, j < 25 → L j = true
  p15_11 : L 15 = true → L 11 = true
  p24_23 : L 24 = true → L 23 = true
  c0 : L 0 = true → z159 = .pointer (some ⟨T5, 1, none⟩)
  c1 : L 1 = true → z160 = .slice (some ⟨g, 0, none⟩) ls.length cap
  c2 : L 2 = true → z161 = .int .i64 i
  c3 : L 3 = true → z162 = .pointer (some ⟨T8, 0, none⟩)
  c4 : L 4 = true → z163 = .int .i64 19
  c5 : L 5 = true → z164 = .slice (some ⟨F8, 0, none⟩) 8 8
  c6 : L 6 = true → z165 = .pointer (some ⟨T8, 1, none⟩)
  c7 : L 7 = true → z166 = .int .i64 dn
  c8 : L 8 = true → z167 = .int .i64 (qx : Int)
  c9 : L 9 = true → z168 = .pointer (some ⟨F8, qx, none⟩)
  c10 : L 10 = true → z169 = .int .i64 (fewN qx)
  c11 : L 11 = true → z170 = .slice (some ⟨tt, 0, none⟩) 2 2
  c12 : L 12 = true → z171 = .pointer (some ⟨T8, 2, none⟩)
  c13 : L 13 = true → z172 = .int .i64 an
  c14 : L 14 = true → z173 = .int .i64 (qt : Int)
  c15 : L 15 = true → z174 = .pointer (some ⟨tt, qt, none⟩)
  c16 : L 16 = true → z175 = .int .i64 (twoN qt)
  c17 : L 17 = true → z176 = .pointer (some ⟨T8, 4, none⟩)
  c18 : L 18 = true → z177 = .int .i64 n
  c19 : L 19 = true → z178 = .int .i64 (n.tdiv 8)
  c20 : L 20 = true → z179 = .int .i64 ((n.tdiv 8).tmod 5)
  c21 : L 21 = true → z180 = .int .i64 ((n.tdiv 8).tmod 5 * 8)
  c22 : L 22 = true → z181 = .agg #[.int .i64 19, .int .i64 (fewN qx), .int .i64 (twoN qt), .int .i64 0, .int .i64 ((n.tdiv 8).tmod 5 * 8), .string ⟨#[]⟩]
  c23 : L 23 = true → z182 = .pointer (some ⟨g, i * 7, none⟩)
  c24 : L 24 = true → z183 = .pointer (some ⟨g, i * 7 + 1, none⟩)
  fr : L 25 = false → Below W.heap.size W wx
  bt : L 11 = true → L 25 = false → OwnAt wx tt [.int .i64 2, .int .i64 5] 3 ∧ W.heap.size ≤ tt
  up : L 25 = true → TmIn w T4 A T5 F8 base L2 (.slice (some ⟨g, 0, none⟩) ls.length cap) wx
def IF22 (w : World) (T4 A T5 F8 base : Nat) (ls : List Ln) (g cap T8 i dn an bn qx qt : Nat) (n : Int) (nm : List UInt8) (L2 : List Ln) (W : World) (q0 q1 q2 q3 q4 q9 q10 q11 q12 q13 q14 q15 q16 q17 q18 q19 q20 q21 q22 q23 q24 q25 q26 q27 q28 q29 q30 q31 q32 q33 q34 q35 q36 q37 q38 q39 q40 q41 q42 q43 q44 q45 q46 q47 q48 q49 q50 q51 q52 q53 q54 q55 q56 q57 q58 q59 q60 q61 q62 q63 q64 q65 q66 q67 q68 q69 q70 q71 q72 q73 q74 q75 q76 q77 q78 q79 q80 q81 q82 q83 q84 q85 q86 q87 q88 q89 q90 q91 q92 q93 q94 q95 q96 q97 q98 q99 q100 q101 q102 q103 q104 q105 q106 q107 q108 q109 q110 q111 q112 q113 q114 q115 q116 q117 q118 q119 q120 q121 q122 q123 q124 q125 q126 q127 q128 q129 q130 q131 q132 q133 q134 q135 q136 q137 q138 q139 q140 q141 q142 q143 q144 q145 q146 q147 q148 q149 q150 q151 q152 q153 q154 q155 q156 q157 q158 q184 q185 q186 q187 q188 q189 q190 q191 q192 q193 q194 q195 q196 q197 q198 q199 q200 q201 q202 q203 q204 q205 q206 q207 q208 q209 q210 q211 q212 q213 q214 q215 q216 q217 q218 q219 q220 q221 q222 q223 q224 q225 q226 q227 q228 q229 q230 q231 q232 q233 q234 q235 q236 q237 q238 q239 q240 q241 q242 q243 q244 q245 q246 q247 q248 q249 q250 q251 q252 q253 q254 q255 q256 q257 q258 q259 q260 : Value) (L : Nat → Bool) (a' : Act) (w' : World) : Prop :=
  ∃ tt : Nat, ∃ z159 z160 z161 z162 z163 z164 z165 z166 z167 z168 z169 z170 z171 z172 z173 z174 z175 z176 z177 z178 z179 z180 z181 z182 z183 : Value, VF22 w T4 A T5 F8 base ls g cap T8 i dn an bn qx qt n nm L2 W L tt z159 z160 z161 z162 z163 z164 z165 z166 z167 z168 z169 z170 z171 z172 z173 z174 z175 z176 z177 z178 z179 z180 z181 z182 z183 w' ∧ a' = ⟨[q0, q1, q2, q3, q4, .pointer (some ⟨T5, 0, none⟩), .slice (some ⟨F8, 0, none⟩) 8 8, .int .i64 i, .pointer (some ⟨T8, 0, none⟩), q9, q10, q11, q12, q13, q14, q15, q16, q17, q18, q19, q20, q21, q22, q23, q24, q25, q26, q27, q28, q29, q30, q31, q32, q33, q34, q35, q36, q37, q38, q39, q40, q41, q42, q43, q44, q45, q46, q47, q48, q49, q50, q51, q52, q53, q54, q55, q56, q57, q58, q59, q60, q61, q62, q63, q64, q65, q66, q67, q68, q69, q70, q71, q72, q73, q74, q75, q76, q77, q78, q79, q80, q81, q82, q83, q84, q85, q86, q87, q88, q89, q90, q91, q92, q93, q94, q95, q96, q97, q98, q99, q100, q101, q102, q103, q104, q105, q106, q107, q108, q109, q110, q111, q112, q113, q114, q115, q116, q117, q118, q119, q120, q121, q122, q123, q124, q125, q126, q127, q128, q129, q130, q131, q132, q133, q134, q135, q136, q137, q138, q139, q140, q141, q142, q143, q144, q145, q146, q147, q148, q149, q150, q151, q152, q153, q154, q155, q156, q157, q158, z159, z160, z161, z162, z163, z164, z165, z166, z167, z168, z169, z170, z171, z172, z173, z174, z175, z176, z177, z178, z179, z180, z181, z182, z183, q184, q185, q186, q187, q188, q189, q190, q191, q192, q193, q194, q195, q196, q197, q198, q199, q200, q201, q202, q203, q204, q205, q206, q207, q208, q209, q210, q211, q212, q213, q214, q215, q216, q217, q218, q219, q220, q221, q222, q223, q224, q225, q226, q227, q228, q229, q230, q231, q232, q233, q234, q235, q236, q237, q238, q239, q240, q241, q242, q243, q244, q245, q246, q247, q248, q249, q250, q251, q252, q253, q254, q255, q256, q257, q258, q259, q260].toArray, []⟩
def RF22 (w : World) (T4 A T5 F8 base : Nat) (ls : List Ln) (g cap T8 i dn an bn qx qt : Nat) (n : Int) (nm : List UInt8) (L2 : List Ln) (W : World) (q0 q1 q2 q3 q4 q9 q10 q11 q12 q13 q14 q15 q16 q17 q18 q19 q20 q21 q22 q23 q24 q25 q26 q27 q28 q29 q30 q31 q32 q33 q34 q35 q36 q37 q38 q39 q40 q41 q42 q43 q44 q45 q46 q47 q48 q49 q50 q51 q52 q53 q54 q55 q56 q57 q58 q59 q60 q61 q62 q63 q64 q65 q66 q67 q68 q69 q70 q71 q72 q73 q74 q75 q76 q77 q78 q79 q80 q81 q82 q83 q84 q85 q86 q87 q88 q89 q90 q91 q92 q93 q94 q95 q96 q97 q98 q99 q100 q101 q102 q103 q104 q105 q106 q107 q108 q109 q110 q111 q112 q113 q114 q115 q116 q117 q118 q119 q120 q121 q122 q123 q124 q125 q126 q127 q128 q129 q130 q131 q132 q133 q134 q135 q136 q137 q138 q139 q140 q141 q142 q143 q144 q145 q146 q147 q148 q149 q150 q151 q152 q153 q154 q155 q156 q157 q158 q184 q185 q186 q187 q188 q189 q190 q191 q192 q193 q194 q195 q196 q197 q198 q199 q200 q201 q202 q203 q204 q205 q206 q207 q208 q209 q210 q211 q212 q213 q214 q215 q216 q217 q218 q219 q220 q221 q222 q223 q224 q225 q226 q227 q228 q229 q230 q231 q232 q233 q234 q235 q236 q237 q238 q239 q240 q241 q242 q243 q244 q245 q246 q247 q248 q249 q250 q251 q252 q253 q254 q255 q256 q257 q258 q259 q260 : Value) (a' : Act) (w' : World) : Prop :=
  ∃ tt : Nat, (TmIn w T4 A T5 F8 base L2 (.slice (some ⟨g, 0, none⟩) ls.length cap) w') ∧ a' = ⟨[q0, q1, q2, q3, q4, .pointer (some ⟨T5, 0, none⟩), .slice (some ⟨F8, 0, none⟩) 8 8, .int .i64 i, .pointer (some ⟨T8, 0, none⟩), q9, q10, q11, q12, q13, q14, q15, q16, q17, q18, q19, q20, q21, q22, q23, q24, q25, q26, q27, q28, q29, q30, q31, q32, q33, q34, q35, q36, q37, q38, q39, q40, q41, q42, q43, q44, q45, q46, q47, q48, q49, q50, q51, q52, q53, q54, q55, q56, q57, q58, q59, q60, q61, q62, q63, q64, q65, q66, q67, q68, q69, q70, q71, q72, q73, q74, q75, q76, q77, q78, q79, q80, q81, q82, q83, q84, q85, q86, q87, q88, q89, q90, q91, q92, q93, q94, q95, q96, q97, q98, q99, q100, q101, q102, q103, q104, q105, q106, q107, q108, q109, q110, q111, q112, q113, q114, q115, q116, q117, q118, q119, q120, q121, q122, q123, q124, q125, q126, q127, q128, q129, q130, q131, q132, q133, q134, q135, q136, q137, q138, q139, q140, q141, q142, q143, q144, q145, q146, q147, q148, q149, q150, q151, q152, q153, q154, q155, q156, q157, q158, .pointer (some ⟨T5, 1, none⟩), .slice (some ⟨g, 0, none⟩) ls.length cap, .int .i64 i, .pointer (some ⟨T8, 0, none⟩), .int .i64 19, .slice (some ⟨F8, 0, none⟩) 8 8, .pointer (some ⟨T8, 1, none⟩), .int .i64 dn, .int .i64 (qx : Int), .pointer (some ⟨F8, qx, none⟩), .int .i64 (fewN qx), .slice (some ⟨tt, 0, none⟩) 2 2, .pointer (some ⟨T8, 2, none⟩), .int .i64 an, .int .i64 (qt : Int), .pointer (some ⟨tt, qt, none⟩), .int .i64 (twoN qt), .pointer (some ⟨T8, 4, none⟩), .int .i64 n, .int .i64 (n.tdiv 8), .int .i64 ((n.tdiv 8).tmod 5), .int .i64 ((n.tdiv 8).tmod 5 * 8), .agg #[.int .i64 19, .int .i64 (fewN qx), .int .i64 (twoN qt), .int .i64 0, .int .i64 ((n.tdiv 8).tmod 5 * 8), .string ⟨#[]⟩], .pointer (some ⟨g, i * 7, none⟩), .pointer (some ⟨g, i * 7 + 1, none⟩), q184, q185, q186, q187, q188, q189, q190, q191, q192, q193, q194, q195, q196, q197, q198, q199, q200, q201, q202, q203, q204, q205, q206, q207, q208, q209, q210, q211, q212, q213, q214, q215, q216, q217, q218, q219, q220, q221, q222, q223, q224, q225, q226, q227, q228, q229, q230, q231, q232, q233, q234, q235, q236, q237, q238, q239, q240, q241, q242, q243, q244, q245, q246, q247, q248, q249, q250, q251, q252, q253, q254, q255, q256, q257, q258, q259, q260].toArray, []⟩
theorem reg_F22 (w : World) (T4 A T5 F8 base : Nat) (ls : List Ln) (g cap T8 i dn an bn qx qt : Nat) (n : Int) (nm : List UInt8) (L2 : List Ln) (W : World) (HI : Hid (TmIn w T4 A T5 F8 base ls (.slice (some ⟨g, 0, none⟩) ls.length cap) W)) (H8 : Hid (OwnAt W T8 [.int .i64 19, .int .i64 dn, .int .i64 an, .int .i64 bn, .int .i64 n, .string (strOf nm)] 39)) (hi : i < ls.length) (hl : ls.length ≤ 1000) (hqx : (dn : Int) % 4 = (qx : Int)) (hqx4 : qx < 4) (hqt : (an : Int) % 2 = (qt : Int)) (hqt2 : qt < 2) (hn1 : -9223372036854775808 ≤ n) (hn2 : n ≤ 9223372036854775807) (hL2 : L2 = ls.set i ⟨ls[i].label, ⟨19, fewN qx, twoN qt, 0, (n.tdiv 8).tmod 5 * 8, []⟩⟩) (hgT : g ≠ T8) (q0 q1 q2 q3 q4 q9 q10 q11 q12 q13 q14 q15 q16 q17 q18 q19 q20 q21 q22 q23 q24 q25 q26 q27 q28 q29 q30 q31 q32 q33 q34 q35 q36 q37 q38 q39 q40 q41 q42 q43 q44 q45 q46 q47 q48 q49 q50 q51 q52 q53 q54 q55 q56 q57 q58 q59 q60 q61 q62 q63 q64 q65 q66 q67 q68 q69 q70 q71 q72 q73 q74 q75 q76 q77 q78 q79 q80 q81 q82 q83 q84 q85 q86 q87 q88 q89 q90 q91 q92 q93 q94 q95 q96 q97 q98 q99 q100 q101 q102 q103 q104 q105 q106 q107 q108 q109 q110 q111 q112 q113 q114 q115 q116 q117 q118 q119 q120 q121 q122 q123 q124 q125 q126 q127 q128 q129 q130 q131 q132 q133 q134 q135 q136 q137 q138 q139 q140 q141 q142 q143 q144 q145 q146 q147 q148 q149 q150 q151 q152 q153 q154 q155 q156 q157 q158 q159 q160 q161 q162 q163 q164 q165 q166 q167 q168 q169 q170 q171 q172 q173 q174 q175 q176 q177 q178 q179 q180 q181 q182 q183 q184 q185 q186 q187 q188 q189 q190 q191 q192 q193 q194 q195 q196 q197 q198 q199 q200 q201 q202 q203 q204 q205 q206 q207 q208 q209 q210 q211 q212 q213 q214 q215 q216 q217 q218 q219 q220 q221 q222 q223 q224 q225 q226 q227 q228 q229 q230 q231 q232 q233 q234 q235 q236 q237 q238 q239 q240 q241 q242 q243 q244 q245 q246 q247 q248 q249 q250 q251 q252 q253 q254 q255 q256 q257 q258 q259 q260 : Value) (J K' : Act → World → Prop) (hJ : ∀ a' w', RF22 w T4 A T5 F8 base ls g cap T8 i dn an bn qx qt n nm L2 W q0 q1 q2 q3 q4 q9 q10 q11 q12 q13 q14 q15 q16 q17 q18 q19 q20 q21 q22 q23 q24 q25 q26 q27 q28 q29 q30 q31 q32 q33 q34 q35 q36 q37 q38 q39 q40 q41 q42 q43 q44 q45 q46 q47 q48 q49 q50 q51 q52 q53 q54 q55 q56 q57 q58 q59 q60 q61 q62 q63 q64 q65 q66 q67 q68 q69 q70 q71 q72 q73 q74 q75 q76 q77 q78 q79 q80 q81 q82 q83 q84 q85 q86 q87 q88 q89 q90 q91 q92 q93 q94 q95 q96 q97 q98 q99 q100 q101 q102 q103 q104 q105 q106 q107 q108 q109 q110 q111 q112 q113 q114 q115 q116 q117 q118 q119 q120 q121 q122 q123 q124 q125 q126 q127 q128 q129 q130 q131 q132 q133 q134 q135 q136 q137 q138 q139 q140 q141 q142 q143 q144 q145 q146 q147 q148 q149 q150 q151 q152 q153 q154 q155 q156 q157 q158 q184 q185 q186 q187 q188 q189 q190 q191 q192 q193 q194 q195 q196 q197 q198 q199 q200 q201 q202 q203 q204 q205 q206 q207 q208 q209 q210 q211 q212 q213 q214 q215 q216 q217 q218 q219 q220 q221 q222 q223 q224 q225 q226 q227 q228 q229 q230 q231 q232 q233 q234 q235 q236 q237 q238 q239 q240 q241 q242 q243 q244 q245 q246 q247 q248 q249 q250 q251 q252 q253 q254 q255 q256 q257 q258 q259 q260 a' w' → J a' w') (hM : ∀ a' w', Met J a' w' → K' a' w') :
    Code.wp Tryz.prog ((Tryz.f12.body.bind (regOf 22)).getD .skip) (Exit.then K' (fun _ _ _ => False)) ⟨[q0, q1, q2, q3, q4, .pointer (some ⟨T5, 0, none⟩), .slice (some ⟨F8, 0, none⟩) 8 8, .int .i64 i, .pointer (some ⟨T8, 0, none⟩), q9, q10, q11, q12, q13, q14, q15, q16, q17, q18, q19, q20, q21, q22, q23, q24, q25, q26, q27, q28, q29, q30, q31, q32, q33, q34, q35, q36, q37, q38, q39, q40, q41, q42, q43, q44, q45, q46, q47, q48, q49, q50, q51, q52, q53, q54, q55, q56, q57, q58, q59, q60, q61, q62, q63, q64, q65, q66, q67, q68, q69, q70, q71, q72, q73, q74, q75, q76, q77, q78, q79, q80, q81, q82, q83, q84, q85, q86, q87, q88, q89, q90, q91, q92, q93, q94, q95, q96, q97, q98, q99, q100, q101, q102, q103, q104, q105, q106, q107, q108, q109, q110, q111, q112, q113, q114, q115, q116, q117, q118, q119, q120, q121, q122, q123, q124, q125, q126, q127, q128, q129, q130, q131, q132, q133, q134, q135, q136, q137, q138, q139, q140, q141, q142, q143, q144, q145, q146, q147, q148, q149, q150, q151, q152, q153, q154, q155, q156, q157, q158, q159, q160, q161, q162, q163, q164, q165, q166, q167, q168, q169, q170, q171, q172, q173, q174, q175, q176, q177, q178, q179, q180, q181, q182, q183, q184, q185, q186, q187, q188, q189, q190, q191, q192, q193, q194, q195, q196, q197, q198, q199, q200, q201, q202, q203, q204, q205, q206, q207, q208, q209, q210, q211, q212, q213, q214, q215, q216, q217, q218, q219, q220, q221, q222, q223, q224, q225, q226, q227, q228, q229, q230, q231, q232, q233, q234, q235, q236, q237, q238, q239, q240, q241, q242, q243, q244, q245, q246, q247, q248, q249, q250, q251, q252, q253, q254, q255, q256, q257, q258, q259, q260].toArray, []⟩ W := by
  have hiI : (i : Int) < (ls.length : Int) := by omega
  have hlI : (ls.length : Int) ≤ 1000 := by omega
  obtain ⟨tm1, tm2⟩ := tmod_in (n.tdiv 8) 5 (by decide)
  have tm3 : wrap64 ((n.tdiv 8).tmod 5 * 8) = (n.tdiv 8).tmod 5 * 8 := wrap_small (by omega) (by omega)
  have HL2 := Lib.hid hL2
  clear hL2
  conv => arg 2; whnf
  dsimp only
  refine region_by (by kernel_rfl) (by kernel_rfl) (IF22 w T4 A T5 F8 base ls g cap T8 i dn an bn qx qt n nm L2 W q0 q1 q2 q3 q4 q9 q10 q11 q12 q13 q14 q15 q16 q17 q18 q19 q20 q21 q22 q23 q24 q25 q26 q27 q28 q29 q30 q31 q32 q33 q34 q35 q36 q37 q38 q39 q40 q41 q42 q43 q44 q45 q46 q47 q48 q49 q50 q51 q52 q53 q54 q55 q56 q57 q58 q59 q60 q61 q62 q63 q64 q65 q66 q67 q68 q69 q70 q71 q72 q73 q74 q75 q76 q77 q78 q79 q80 q81 q82 q83 q84 q85 q86 q87 q88 q89 q90 q91 q92 q93 q94 q95 q96 q97 q98 q99 q100 q101 q102 q103 q104 q105 q106 q107 q108 q109 q110 q111 q112 q113 q114 q115 q116 q117 q118 q119 q120 q121 q122 q123 q124 q125 q126 q127 q128 q129 q130 q131 q132 q133 q134 q135 q136 q137 q138 q139 q140 q141 q142 q143 q144 q145 q146 q147 q148 q149 q150 q151 q152 q153 q154 q155 q156 q157 q158 q184 q185 q186 q187 q188 q189 q190 q191 q192 q193 q194 q195 q196 q197 q198 q199 q200 q201 q202 q203 q204 q205 q206 q207 q208 q209 q210 q211 q212 q213 q214 q215 q216 q217 q218 q219 q220 q221 q222 q223 q224 q225 q226 q227 q228 q229 q230 q231 q232 q233 q234 q235 q236 q237 q238 q239 q240 q241 q242 q243 q244 q245 q246 q247 q248 q249 q250 q251 q252 q253 q254 q255 q256 q257 q258 q259 q260) ?_ ?_ ?_
  · exact ⟨0, q159, q160, q161, q162, q163, q164, q165, q166, q167, q168, q169, q170, q171, q172, q173, q174, q175, q176, q177, q178, q179, q180, q181, q182, q183, ⟨(fun h => by cases h), (fun h => by cases h), (fun h => by cases h), (fun h => by cases h), (fun h => by cases h), (fun h => by cases h), (fun h => by cases h), (fun h => by cases h), (fun h => by cases h), (fun h => by cases h), (fun h => by cases h), (fun h => by cases h), (fun h => by cases h), (fun h => by cases h), (fun h => by cases h), (fun h => by cases h), (fun h => by cases h), (fun h => by cases h), (fun h => by cases h), (fun h => by cases h), (fun h => by cases h), (fun h => by cases h), (fun h => by cases h), (fun h => by cases h), (fun h => by cases h), (fun h => by cases h), (fun h => by cases h), (fun h => by cases h), (fun _ => (Below.refl _ _).drew), (fun h => fun _ => by cases h), (fun h => by cases h)⟩, rfl⟩
  · intro L act wx k hI hk hl hd
    obtain ⟨tt, z159, z160, z161, z162, z163, z164, z165, z166, z167, z168, z169, z170, z171, z172, z173, z174, z175, z176, z177, z178, z179, z180, z181, z182, z183, hV, rfl⟩ := hI
    have hk : k = 0 ∨ k = 1 ∨ k = 2 ∨ k = 3 ∨ k = 4 ∨ k = 5 ∨ k = 6 ∨ k = 7 ∨ k = 8 ∨ k = 9 ∨ k = 10 ∨ k = 11 ∨ k = 12 ∨ k = 13 ∨ k = 14 ∨ k = 15 ∨ k = 16 ∨ k = 17 ∨ k = 18 ∨ k = 19 ∨ k = 20 ∨ k = 21 ∨ k = 22 ∨ k = 23 ∨ k = 24 ∨ k = 25 := by
      have : k < 26 := hk
      omega
    rcases hk with rfl | rfl | rfl | rfl | rfl | rfl | rfl | rfl | rfl | rfl | rfl | rfl | rfl | rfl | rfl | rfl | rfl | rfl | rfl | rfl | rfl | rfl | rfl | rfl | rfl | rfl
    · have nl := kf hV.ord hl
      refine op_at _ rfl rfl (fun K' hK => ?_)
      conv => arg 2; whnf
      go_wp2_with fail
      exact ⟨tt, .pointer (some ⟨T5, 1, none⟩), z160, z161, z162, z163, z164, z165, z166, z167, z168, z169, z170, z171, z172, z173, z174, z175, z176, z177, z178, z179, z180, z181, z182, z183, ⟨(kl nl), (kq hV.p15_11), (kq hV.p24_23), (fun _ => rfl), (kc hV.c1), (kc hV.c2), (kc hV.c3), (kc hV.c4), (kc hV.c5), (kc hV.c6), (kc hV.c7), (kc hV.c8), (kc hV.c9), (kc hV.c10), (kc hV.c11), (kc hV.c12), (kc hV.c13), (kc hV.c14), (kc hV.c15), (kc hV.c16), (kc hV.c17), (kc hV.c18), (kc hV.c19), (kc hV.c20), (kc hV.c21), (kc hV.c22), (kc hV.c23), (kc hV.c24), (fun h0 => hV.fr (kb h0)), (fun h0 => fun h1 => hV.bt (kb h0) (kb h1)), (kl nl)⟩, rfl⟩
    · have nl := kf hV.ord hl
      have d0 : L 0 = true := hd _ rfl ⟨0, .data⟩ (by simp) rfl
      obtain rfl := (hV.c0 d0).symm
      have ho := (HI.out.old (hV.fr nl)).x
      have x0 := ho.at 1 _ rfl
      have hxl := ho.lt
      refine op_at _ rfl rfl (fun K' hK => ?_)
      conv => arg 2; whnf
      go_wp2_with fail
      exact ⟨tt, .pointer (some ⟨T5, 1, none⟩), .slice (some ⟨g, 0, none⟩) ls.length cap, z161, z162, z163, z164, z165, z166, z167, z168, z169, z170, z171, z172, z173, z174, z175, z176, z177, z178, z179, z180, z181, z182, z183, ⟨(kl nl), (kq hV.p15_11), (kq hV.p24_23), (kc hV.c0), (fun _ => rfl), (kc hV.c2), (kc hV.c3), (kc hV.c4), (kc hV.c5), (kc hV.c6), (kc hV.c7), (kc hV.c8), (kc hV.c9), (kc hV.c10), (kc hV.c11), (kc hV.c12), (kc hV.c13), (kc hV.c14), (kc hV.c15), (kc hV.c16), (kc hV.c17), (kc hV.c18), (kc hV.c19), (kc hV.c20), (kc hV.c21), (kc hV.c22), (kc hV.c23), (kc hV.c24), (fun h0 => hV.fr (kb h0)), (fun h0 => fun h1 => hV.bt (kb h0) (kb h1)), (kl nl)⟩, rfl⟩
    · have nl := kf hV.ord hl
      refine op_at _ rfl rfl (fun K' hK => ?_)
      conv => arg 2; whnf
      go_wp2_with fail
      exact ⟨tt, z159, z160, .int .i64 i, z162, z163, z164, z165, z166, z167, z168, z169, z170, z171, z172, z173, z174, z175, z176, z177, z178, z179, z180, z181, z182, z183, ⟨(kl nl), (kq hV.p15_11), (kq hV.p24_23), (kc hV.c0), (kc hV.c1), (fun _ => rfl), (kc hV.c3), (kc hV.c4), (kc hV.c5), (kc hV.c6), (kc hV.c7), (kc hV.c8), (kc hV.c9), (kc hV.c10), (kc hV.c11), (kc hV.c12), (kc hV.c13), (kc hV.c14), (kc hV.c15), (kc hV.c16), (kc hV.c17), (kc hV.c18), (kc hV.c19), (kc hV.c20), (kc hV.c21), (kc hV.c22), (kc hV.c23), (kc hV.c24), (fun h0 => hV.fr (kb h0)), (fun h0 => fun h1 => hV.bt (kb h0) (kb h1)), (kl nl)⟩, rfl⟩
    · have nl := kf hV.ord hl
      refine op_at _ rfl rfl (fun K' hK => ?_)
      conv => arg 2; whnf
      go_wp2_with fail
      exact ⟨tt, z159, z160, z161, .pointer (some ⟨T8, 0, none⟩), z163, z164, z165, z166, z167, z168, z169, z170, z171, z172, z173, z174, z175, z176, z177, z178, z179, z180, z181, z182, z183, ⟨(kl nl), (kq hV.p15_11), (kq hV.p24_23), (kc hV.c0), (kc hV.c1), (kc hV.c2), (fun _ => rfl), (kc hV.c4), (kc hV.c5), (kc hV.c6), (kc hV.c7), (kc hV.c8), (kc hV.c9), (kc hV.c10), (kc hV.c11), (kc hV.c12), (kc hV.c13), (kc hV.c14), (kc hV.c15), (kc hV.c16), (kc hV.c17), (kc hV.c18), (kc hV.c19), (kc hV.c20), (kc hV.c21), (kc hV.c22), (kc hV.c23), (kc hV.c24), (fun h0 => hV.fr (kb h0)), (fun h0 => fun h1 => hV.bt (kb h0) (kb h1)), (kl nl)⟩, rfl⟩
    · have nl := kf hV.ord hl
      have d3 : L 3 = true := hd _ rfl ⟨3, .data⟩ (by simp) rfl
      obtain rfl := (hV.c3 d3).symm
      have ho := H8.out.old (hV.fr nl)
      have x0 := ho.at 0 _ rfl
      have hxl := ho.lt
      refine op_at _ rfl rfl (fun K' hK => ?_)
      conv => arg 2; whnf
      go_wp2_with fail
      exact ⟨tt, z159, z160, z161, .pointer (some ⟨T8, 0, none⟩), .int .i64 19, z164, z165, z166, z167, z168, z169, z170, z171, z172, z173, z174, z175, z176, z177, z178, z179, z180, z181, z182, z183, ⟨(kl nl), (kq hV.p15_11), (kq hV.p24_23), (kc hV.c0), (kc hV.c1), (kc hV.c2), (kc hV.c3), (fun _ => rfl), (kc hV.c5), (kc hV.c6), (kc hV.c7), (kc hV.c8), (kc hV.c9), (kc hV.c10), (kc hV.c11), (kc hV.c12), (kc hV.c13), (kc hV.c14), (kc hV.c15), (kc hV.c16), (kc hV.c17), (kc hV.c18), (kc hV.c19), (kc hV.c20), (kc hV.c21), (kc hV.c22), (kc hV.c23), (kc hV.c24), (fun h0 => hV.fr (kb h0)), (fun h0 => fun h1 => hV.bt (kb h0) (kb h1)), (kl nl)⟩, rfl⟩
    · have nl := kf hV.ord hl
      refine op_at _ rfl rfl (fun K' hK => ?_)
      conv => arg 2; whnf
      go_wp2_with fail
      exact ⟨tt, z159, z160, z161, z162, z163, .slice (some ⟨F8, 0, none⟩) 8 8, z165, z166, z167, z168, z169, z170, z171, z172, z173, z174, z175, z176, z177, z178, z179, z180, z181, z182, z183, ⟨(kl nl), (kq hV.p15_11), (kq hV.p24_23), (kc hV.c0), (kc hV.c1), (kc hV.c2), (kc hV.c3), (kc hV.c4), (fun _ => rfl), (kc hV.c6), (kc hV.c7), (kc hV.c8), (kc hV.c9), (kc hV.c10), (kc hV.c11), (kc hV.c12), (kc hV.c13), (kc hV.c14), (kc hV.c15), (kc hV.c16), (kc hV.c17), (kc hV.c18), (kc hV.c19), (kc hV.c20), (kc hV.c21), (kc hV.c22), (kc hV.c23), (kc hV.c24), (fun h0 => hV.fr (kb h0)), (fun h0 => fun h1 => hV.bt (kb h0) (kb h1)), (kl nl)⟩, rfl⟩
    · have nl := kf hV.ord hl
      refine op_at _ rfl rfl (fun K' hK => ?_)
      conv => arg 2; whnf
      go_wp2_with fail
      exact ⟨tt, z159, z160, z161, z162, z163, z164, .pointer (some ⟨T8, 1, none⟩), z166, z167, z168, z169, z170, z171, z172, z173, z174, z175, z176, z177, z178, z179, z180, z181, z182, z183, ⟨(kl nl), (kq hV.p15_11), (kq hV.p24_23), (kc hV.c0), (kc hV.c1), (kc hV.c2), (kc hV.c3), (kc hV.c4), (kc hV.c5), (fun _ => rfl), (kc hV.c7), (kc hV.c8), (kc hV.c9), (kc hV.c10), (kc hV.c11), (kc hV.c12), (kc hV.c13), (kc hV.c14), (kc hV.c15), (kc hV.c16), (kc hV.c17), (kc hV.c18), (kc hV.c19), (kc hV.c20), (kc hV.c21), (kc hV.c22), (kc hV.c23), (kc hV.c24), (fun h0 => hV.fr (kb h0)), (fun h0 => fun h1 => hV.bt (kb h0) (kb h1)), (kl nl)⟩, rfl⟩
    · have nl := kf hV.ord hl
      have d6 : L 6 = true := hd _ rfl ⟨6, .data⟩ (by simp) rfl
      obtain rfl := (hV.c6 d6).symm
      have ho := H8.out.old (hV.fr nl)
      have x0 := ho.at 1 _ rfl
      have hxl := ho.lt
      refine op_at _ rfl rfl (fun K' hK => ?_)
      conv => arg 2; whnf
      go_wp2_with fail
      exact ⟨tt, z159, z160, z161, z162, z163, z164, .pointer (some ⟨T8, 1, none⟩), .int .i64 dn, z167, z168, z169, z170, z171, z172, z173, z174, z175, z176, z177, z178, z179, z180, z181, z182, z183, ⟨(kl nl), (kq hV.p15_11), (kq hV.p24_23), (kc hV.c0), (kc hV.c1), (kc hV.c2), (kc hV.c3), (kc hV.c4), (kc hV.c5), (kc hV.c6), (fun _ => rfl), (kc hV.c8), (kc hV.c9), (kc hV.c10), (kc hV.c11), (kc hV.c12), (kc hV.c13), (kc hV.c14), (kc hV.c15), (kc hV.c16), (kc hV.c17), (kc hV.c18), (kc hV.c19), (kc hV.c20), (kc hV.c21), (kc hV.c22), (kc hV.c23), (kc hV.c24), (fun h0 => hV.fr (kb h0)), (fun h0 => fun h1 => hV.bt (kb h0) (kb h1)), (kl nl)⟩, rfl⟩
    · have nl := kf hV.ord hl
      have d7 : L 7 = true := hd _ rfl ⟨7, .data⟩ (by simp) rfl
      obtain rfl := (hV.c7 d7).symm
      refine op_at _ rfl rfl (fun K' hK => ?_)
      conv => arg 2; whnf
      go_wp2_with fail
      rw [hqx]
      exact ⟨tt, z159, z160, z161, z162, z163, z164, z165, .int .i64 dn, .int .i64 (qx : Int), z168, z169, z170, z171, z172, z173, z174, z175, z176, z177, z178, z179, z180, z181, z182, z183, ⟨(kl nl), (kq hV.p15_11), (kq hV.p24_23), (kc hV.c0), (kc hV.c1), (kc hV.c2), (kc hV.c3), (kc hV.c4), (kc hV.c5), (kc hV.c6), (kc hV.c7), (fun _ => rfl), (kc hV.c9), (kc hV.c10), (kc hV.c11), (kc hV.c12), (kc hV.c13), (kc hV.c14), (kc hV.c15), (kc hV.c16), (kc hV.c17), (kc hV.c18), (kc hV.c19), (kc hV.c20), (kc hV.c21), (kc hV.c22), (kc hV.c23), (kc hV.c24), (fun h0 => hV.fr (kb h0)), (fun h0 => fun h1 => hV.bt (kb h0) (kb h1)), (kl nl)⟩, rfl⟩
    · have nl := kf hV.ord hl
      have d5 : L 5 = true := hd _ rfl ⟨5, .data⟩ (by simp) rfl
      obtain rfl := (hV.c5 d5).symm
      have d8 : L 8 = true := hd _ rfl ⟨8, .data⟩ (by simp) rfl
      obtain rfl := (hV.c8 d8).symm
      refine op_at _ rfl rfl (fun K' hK => ?_)
      conv => arg 2; whnf
      go_wp2_with fail
      exact ⟨tt, z159, z160, z161, z162, z163, .slice (some ⟨F8, 0, none⟩) 8 8, z165, z166, .int .i64 (qx : Int), .pointer (some ⟨F8, qx, none⟩), z169, z170, z171, z172, z173, z174, z175, z176, z177, z178, z179, z180, z181, z182, z183, ⟨(kl nl), (kq hV.p15_11), (kq hV.p24_23), (kc hV.c0), (kc hV.c1), (kc hV.c2), (kc hV.c3), (kc hV.c4), (kc hV.c5), (kc hV.c6), (kc hV.c7), (kc hV.c8), (fun _ => rfl), (kc hV.c10), (kc hV.c11), (kc hV.c12), (kc hV.c13), (kc hV.c14), (kc hV.c15), (kc hV.c16), (kc hV.c17), (kc hV.c18), (kc hV.c19), (kc hV.c20), (kc hV.c21), (kc hV.c22), (kc hV.c23), (kc hV.c24), (fun h0 => hV.fr (kb h0)), (fun h0 => fun h1 => hV.bt (kb h0) (kb h1)), (kl nl)⟩, rfl⟩
    · have nl := kf hV.ord hl
      have d9 : L 9 = true := hd _ rfl ⟨9, .data⟩ (by simp) rfl
      obtain rfl := (hV.c9 d9).symm
      have ho := (HI.out.old (hV.fr nl)).few
      have x0 := ho.at qx _ (few_at qx (by omega))
      have hxl := ho.lt
      refine op_at _ rfl rfl (fun K' hK => ?_)
      conv => arg 2; whnf
      go_wp2_with fail
      exact ⟨tt, z159, z160, z161, z162, z163, z164, z165, z166, z167, .pointer (some ⟨F8, qx, none⟩), .int .i64 (fewN qx), z170, z171, z172, z173, z174, z175, z176, z177, z178, z179, z180, z181, z182, z183, ⟨(kl nl), (kq hV.p15_11), (kq hV.p24_23), (kc hV.c0), (kc hV.c1), (kc hV.c2), (kc hV.c3), (kc hV.c4), (kc hV.c5), (kc hV.c6), (kc hV.c7), (kc hV.c8), (kc hV.c9), (fun _ => rfl), (kc hV.c11), (kc hV.c12), (kc hV.c13), (kc hV.c14), (kc hV.c15), (kc hV.c16), (kc hV.c17), (kc hV.c18), (kc hV.c19), (kc hV.c20), (kc hV.c21), (kc hV.c22), (kc hV.c23), (kc hV.c24), (fun h0 => hV.fr (kb h0)), (fun h0 => fun h1 => hV.bt (kb h0) (kb h1)), (kl nl)⟩, rfl⟩
    · have nl := kf hV.ord hl
      have hal : Below wx.heap.size wx (wx.alloc (.cells #[.int .i64 2, .int .i64 5] 3)) := (Below.refl _ _).alloc (Nat.le_refl _) _
      have hfs := (hV.fr nl).size
      refine op_at _ rfl rfl (fun K' hK => ?_)
      conv => arg 2; whnf
      go_wp2_with fail
      exact ⟨wx.heap.size, z159, z160, z161, z162, z163, z164, z165, z166, z167, z168, z169, .slice (some ⟨(wx.heap.size), 0, none⟩) 2 2, z171, z172, z173, z174, z175, z176, z177, z178, z179, z180, z181, z182, z183, ⟨(kl nl), (fun _ => upd_same L 11), (kq hV.p24_23), (kc hV.c0), (kc hV.c1), (kc hV.c2), (kc hV.c3), (kc hV.c4), (kc hV.c5), (kc hV.c6), (kc hV.c7), (kc hV.c8), (kc hV.c9), (kc hV.c10), (fun _ => rfl), (kc hV.c12), (kc hV.c13), (kc hV.c14), (kn hV.p15_11 hl), (kc hV.c16), (kc hV.c17), (kc hV.c18), (kc hV.c19), (kc hV.c20), (kc hV.c21), (kc hV.c22), (kc hV.c23), (kc hV.c24), (fun h0 => Below.trans (hV.fr (kb h0)) (Below.mono hal (Below.size (hV.fr (kb h0))))), (fun _ _ => ⟨OwnAt.new wx [.int .i64 2, .int .i64 5] 3, hfs⟩), (kl nl)⟩, rfl⟩
    · have nl := kf hV.ord hl
      refine op_at _ rfl rfl (fun K' hK => ?_)
      conv => arg 2; whnf
      go_wp2_with fail
      exact ⟨tt, z159, z160, z161, z162, z163, z164, z165, z166, z167, z168, z169, z170, .pointer (some ⟨T8, 2, none⟩), z172, z173, z174, z175, z176, z177, z178, z179, z180, z181, z182, z183, ⟨(kl nl), (kq hV.p15_11), (kq hV.p24_23), (kc hV.c0), (kc hV.c1), (kc hV.c2), (kc hV.c3), (kc hV.c4), (kc hV.c5), (kc hV.c6), (kc hV.c7), (kc hV.c8), (kc hV.c9), (kc hV.c10), (kc hV.c11), (fun _ => rfl), (kc hV.c13), (kc hV.c14), (kc hV.c15), (kc hV.c16), (kc hV.c17), (kc hV.c18), (kc hV.c19), (kc hV.c20), (kc hV.c21), (kc hV.c22), (kc hV.c23), (kc hV.c24), (fun h0 => hV.fr (kb h0)), (fun h0 => fun h1 => hV.bt (kb h0) (kb h1)), (kl nl)⟩, rfl⟩
    · have nl := kf hV.ord hl
      have d12 : L 12 = true := hd _ rfl ⟨12, .data⟩ (by simp) rfl
      obtain rfl := (hV.c12 d12).symm
      have ho := H8.out.old (hV.fr nl)
      have x0 := ho.at 2 _ rfl
      have hxl := ho.lt
      refine op_at _ rfl rfl (fun K' hK => ?_)
      conv => arg 2; whnf
      go_wp2_with fail
      exact ⟨tt, z159, z160, z161, z162, z163, z164, z165, z166, z167, z168, z169, z170, .pointer (some ⟨T8, 2, none⟩), .int .i64 an, z173, z174, z175, z176, z177, z178, z179, z180, z181, z182, z183, ⟨(kl nl), (kq hV.p15_11), (kq hV.p24_23), (kc hV.c0), (kc hV.c1), (kc hV.c2), (kc hV.c3), (kc hV.c4), (kc hV.c5), (kc hV.c6), (kc hV.c7), (kc hV.c8), (kc hV.c9), (kc hV.c10), (kc hV.c11), (kc hV.c12), (fun _ => rfl), (kc hV.c14), (kc hV.c15), (kc hV.c16), (kc hV.c17), (kc hV.c18), (kc hV.c19), (kc hV.c20), (kc hV.c21), (kc hV.c22), (kc hV.c23), (kc hV.c24), (fun h0 => hV.fr (kb h0)), (fun h0 => fun h1 => hV.bt (kb h0) (kb h1)), (kl nl)⟩, rfl⟩
    · have nl := kf hV.ord hl
      have d13 : L 13 = true := hd _ rfl ⟨13, .data⟩ (by simp) rfl
      obtain rfl := (hV.c13 d13).symm
      refine op_at _ rfl rfl (fun K' hK => ?_)
      conv => arg 2; whnf
      go_wp2_with fail
      rw [hqt]
      exact ⟨tt, z159, z160, z161, z162, z163, z164, z165, z166, z167, z168, z169, z170, z171, .int .i64 an, .int .i64 (qt : Int), z174, z175, z176, z177, z178, z179, z180, z181, z182, z183, ⟨(kl nl), (kq hV.p15_11), (kq hV.p24_23), (kc hV.c0), (kc hV.c1), (kc hV.c2), (kc hV.c3), (kc hV.c4), (kc hV.c5), (kc hV.c6), (kc hV.c7), (kc hV.c8), (kc hV.c9), (kc hV.c10), (kc hV.c11), (kc hV.c12), (kc hV.c13), (fun _ => rfl), (kc hV.c15), (kc hV.c16), (kc hV.c17), (kc hV.c18), (kc hV.c19), (kc hV.c20), (kc hV.c21), (kc hV.c22), (kc hV.c23), (kc hV.c24), (fun h0 => hV.fr (kb h0)), (fun h0 => fun h1 => hV.bt (kb h0) (kb h1)), (kl nl)⟩, rfl⟩
    · have nl := kf hV.ord hl
      have d11 : L 11 = true := hd _ rfl ⟨11, .data⟩ (by simp) rfl
      obtain rfl := (hV.c11 d11).symm
      have d14 : L 14 = true := hd _ rfl ⟨14, .data⟩ (by simp) rfl
      obtain rfl := (hV.c14 d14).symm
      refine op_at _ rfl rfl (fun K' hK => ?_)
      conv => arg 2; whnf
      go_wp2_with fail
      exact ⟨tt, z159, z160, z161, z162, z163, z164, z165, z166, z167, z168, z169, .slice (some ⟨tt, 0, none⟩) 2 2, z171, z172, .int .i64 (qt : Int), .pointer (some ⟨tt, qt, none⟩), z175, z176, z177, z178, z179, z180, z181, z182, z183, ⟨(kl nl), (kd (d11)), (kq hV.p24_23), (kc hV.c0), (kc hV.c1), (kc hV.c2), (kc hV.c3), (kc hV.c4), (kc hV.c5), (kc hV.c6), (kc hV.c7), (kc hV.c8), (kc hV.c9), (kc hV.c10), (kc hV.c11), (kc hV.c12), (kc hV.c13), (kc hV.c14), (fun _ => rfl), (kc hV.c16), (kc hV.c17), (kc hV.c18), (kc hV.c19), (kc hV.c20), (kc hV.c21), (kc hV.c22), (kc hV.c23), (kc hV.c24), (fun h0 => hV.fr (kb h0)), (fun h0 => fun h1 => hV.bt (kb h0) (kb h1)), (kl nl)⟩, rfl⟩
    · have nl := kf hV.ord hl
      have d15 : L 15 = true := hd _ rfl ⟨15, .data⟩ (by simp) rfl
      obtain rfl := (hV.c15 d15).symm
      have ho := (hV.bt (hV.p15_11 d15) nl).1
      have x0 := ho.at qt (.int .i64 (twoN qt)) (by rcases (show qt = 0 ∨ qt = 1 by omega) with rfl | rfl <;> rfl)
      have hxl := ho.lt
      refine op_at _ rfl rfl (fun K' hK => ?_)
      conv => arg 2; whnf
      go_wp2_with fail
      exact ⟨tt, z159, z160, z161, z162, z163, z164, z165, z166, z167, z168, z169, z170, z171, z172, z173, .pointer (some ⟨tt, qt, none⟩), .int .i64 (twoN qt), z176, z177, z178, z179, z180, z181, z182, z183, ⟨(kl nl), (kq hV.p15_11), (kq hV.p24_23), (kc hV.c0), (kc hV.c1), (kc hV.c2), (kc hV.c3), (kc hV.c4), (kc hV.c5), (kc hV.c6), (kc hV.c7), (kc hV.c8), (kc hV.c9), (kc hV.c10), (kc hV.c11), (kc hV.c12), (kc hV.c13), (kc hV.c14), (kc hV.c15), (fun _ => rfl), (kc hV.c17), (kc hV.c18), (kc hV.c19), (kc hV.c20), (kc hV.c21), (kc hV.c22), (kc hV.c23), (kc hV.c24), (fun h0 => hV.fr (kb h0)), (fun h0 => fun h1 => hV.bt (kb h0) (kb h1)), (kl nl)⟩, rfl⟩
    · have nl := kf hV.ord hl
      refine op_at _ rfl rfl (fun K' hK => ?_)
      conv => arg 2; whnf
      go_wp2_with fail
      exact ⟨tt, z159, z160, z161, z162, z163, z164, z165, z166, z167, z168, z169, z170, z171, z172, z173, z174, z175, .pointer (some ⟨T8, 4, none⟩), z177, z178, z179, z180, z181, z182, z183, ⟨(kl nl), (kq hV.p15_11), (kq hV.p24_23), (kc hV.c0), (kc hV.c1), (kc hV.c2), (kc hV.c3), (kc hV.c4), (kc hV.c5), (kc hV.c6), (kc hV.c7), (kc hV.c8), (kc hV.c9), (kc hV.c10), (kc hV.c11), (kc hV.c12), (kc hV.c13), (kc hV.c14), (kc hV.c15), (kc hV.c16), (fun _ => rfl), (kc hV.c18), (kc hV.c19), (kc hV.c20), (kc hV.c21), (kc hV.c22), (kc hV.c23), (kc hV.c24), (fun h0 => hV.fr (kb h0)), (fun h0 => fun h1 => hV.bt (kb h0) (kb h1)), (kl nl)⟩, rfl⟩
    · have nl := kf hV.ord hl
      have d17 : L 17 = true := hd _ rfl ⟨17, .data⟩ (by simp) rfl
      obtain rfl := (hV.c17 d17).symm
      have ho := H8.out.old (hV.fr nl)
      have x0 := ho.at 4 _ rfl
      have hxl := ho.lt
      refine op_at _ rfl rfl (fun K' hK => ?_)
      conv => arg 2; whnf
      go_wp2_with fail
      exact ⟨tt, z159, z160, z161, z162, z163, z164, z165, z166, z167, z168, z169, z170, z171, z172, z173, z174, z175, .pointer (some ⟨T8, 4, none⟩), .int .i64 n, z178, z179, z180, z181, z182, z183, ⟨(kl nl), (kq hV.p15_11), (kq hV.p24_23), (kc hV.c0), (kc hV.c1), (kc hV.c2), (kc hV.c3), (kc hV.c4), (kc hV.c5), (kc hV.c6), (kc hV.c7), (kc hV.c8), (kc hV.c9), (kc hV.c10), (kc hV.c11), (kc hV.c12), (kc hV.c13), (kc hV.c14), (kc hV.c15), (kc hV.c16), (kc hV.c17), (fun _ => rfl), (kc hV.c19), (kc hV.c20), (kc hV.c21), (kc hV.c22), (kc hV.c23), (kc hV.c24), (fun h0 => hV.fr (kb h0)), (fun h0 => fun h1 => hV.bt (kb h0) (kb h1)), (kl nl)⟩, rfl⟩
    · have nl := kf hV.ord hl
      have d18 : L 18 = true := hd _ rfl ⟨18, .data⟩ (by simp) rfl
      obtain rfl := (hV.c18 d18).symm
      refine op_at _ rfl rfl (fun K' hK => ?_)
      conv => arg 2; whnf
      go_wp2_with fail
      exact ⟨tt, z159, z160, z161, z162, z163, z164, z165, z166, z167, z168, z169, z170, z171, z172, z173, z174, z175, z176, .int .i64 n, .int .i64 (n.tdiv 8), z179, z180, z181, z182, z183, ⟨(kl nl), (kq hV.p15_11), (kq hV.p24_23), (kc hV.c0), (kc hV.c1), (kc hV.c2), (kc hV.c3), (kc hV.c4), (kc hV.c5), (kc hV.c6), (kc hV.c7), (kc hV.c8), (kc hV.c9), (kc hV.c10), (kc hV.c11), (kc hV.c12), (kc hV.c13), (kc hV.c14), (kc hV.c15), (kc hV.c16), (kc hV.c17), (kc hV.c18), (fun _ => rfl), (kc hV.c20), (kc hV.c21), (kc hV.c22), (kc hV.c23), (kc hV.c24), (fun h0 => hV.fr (kb h0)), (fun h0 => fun h1 => hV.bt (kb h0) (kb h1)), (kl nl)⟩, rfl⟩
    · have nl := kf hV.ord hl
      have d19 : L 19 = true := hd _ rfl ⟨19, .data⟩ (by simp) rfl
      obtain rfl := (hV.c19 d19).symm
      refine op_at _ rfl rfl (fun K' hK => ?_)
      conv => arg 2; whnf
      go_wp2_with fail
      exact ⟨tt, z159, z160, z161, z162, z163, z164, z165, z166, z167, z168, z169, z170, z171, z172, z173, z174, z175, z176, z177, .int .i64 (n.tdiv 8), .int .i64 ((n.tdiv 8).tmod 5), z180, z181, z182, z183, ⟨(kl nl), (kq hV.p15_11), (kq hV.p24_23), (kc hV.c0), (kc hV.c1), (kc hV.c2), (kc hV.c3), (kc hV.c4), (kc hV.c5), (kc hV.c6), (kc hV.c7), (kc hV.c8), (kc hV.c9), (kc hV.c10), (kc hV.c11), (kc hV.c12), (kc hV.c13), (kc hV.c14), (kc hV.c15), (kc hV.c16), (kc hV.c17), (kc hV.c18), (kc hV.c19), (fun _ => rfl), (kc hV.c21), (kc hV.c22), (kc hV.c23), (kc hV.c24), (fun h0 => hV.fr (kb h0)), (fun h0 => fun h1 => hV.bt (kb h0) (kb h1)), (kl nl)⟩, rfl⟩
    · have nl := kf hV.ord hl
      have d20 : L 20 = true := hd _ rfl ⟨20, .data⟩ (by simp) rfl
      obtain rfl := (hV.c20 d20).symm
      refine op_at _ rfl rfl (fun K' hK => ?_)
      conv => arg 2; whnf
      go_wp2_with fail
      exact ⟨tt, z159, z160, z161, z162, z163, z164, z165, z166, z167, z168, z169, z170, z171, z172, z173, z174, z175, z176, z177, z178, .int .i64 ((n.tdiv 8).tmod 5), .int .i64 ((n.tdiv 8).tmod 5 * 8), z181, z182, z183, ⟨(kl nl), (kq hV.p15_11), (kq hV.p24_23), (kc hV.c0), (kc hV.c1), (kc hV.c2), (kc hV.c3), (kc hV.c4), (kc hV.c5), (kc hV.c6), (kc hV.c7), (kc hV.c8), (kc hV.c9), (kc hV.c10), (kc hV.c11), (kc hV.c12), (kc hV.c13), (kc hV.c14), (kc hV.c15), (kc hV.c16), (kc hV.c17), (kc hV.c18), (kc hV.c19), (kc hV.c20), (fun _ => rfl), (kc hV.c22), (kc hV.c23), (kc hV.c24), (fun h0 => hV.fr (kb h0)), (fun h0 => fun h1 => hV.bt (kb h0) (kb h1)), (kl nl)⟩, rfl⟩
    · have nl := kf hV.ord hl
      have d4 : L 4 = true := hd _ rfl ⟨4, .data⟩ (by simp) rfl
      obtain rfl := (hV.c4 d4).symm
      have d10 : L 10 = true := hd _ rfl ⟨10, .data⟩ (by simp) rfl
      obtain rfl := (hV.c10 d10).symm
      have d16 : L 16 = true := hd _ rfl ⟨16, .data⟩ (by simp) rfl
      obtain rfl := (hV.c16 d16).symm
      have d21 : L 21 = true := hd _ rfl ⟨21, .data⟩ (by simp) rfl
      obtain rfl := (hV.c21 d21).symm
      refine op_at _ rfl rfl (fun K' hK => ?_)
      conv => arg 2; whnf
      go_wp2_with fail
      exact ⟨tt, z159, z160, z161, z162, .int .i64 19, z164, z165, z166, z167, z168, .int .i64 (fewN qx), z170, z171, z172, z173, z174, .int .i64 (twoN qt), z176, z177, z178, z179, .int .i64 ((n.tdiv 8).tmod 5 * 8), .agg #[.int .i64 19, .int .i64 (fewN qx), .int .i64 (twoN qt), .int .i64 0, .int .i64 ((n.tdiv 8).tmod 5 * 8), .string ⟨#[]⟩], z182, z183, ⟨(kl nl), (kq hV.p15_11), (kq hV.p24_23), (kc hV.c0), (kc hV.c1), (kc hV.c2), (kc hV.c3), (kc hV.c4), (kc hV.c5), (kc hV.c6), (kc hV.c7), (kc hV.c8), (kc hV.c9), (kc hV.c10), (kc hV.c11), (kc hV.c12), (kc hV.c13), (kc hV.c14), (kc hV.c15), (kc hV.c16), (kc hV.c17), (kc hV.c18), (kc hV.c19), (kc hV.c20), (kc hV.c21), (fun _ => rfl), (kc hV.c23), (kc hV.c24), (fun h0 => hV.fr (kb h0)), (fun h0 => fun h1 => hV.bt (kb h0) (kb h1)), (kl nl)⟩, rfl⟩
    · have nl := kf hV.ord hl
      have d1 : L 1 = true := hd _ rfl ⟨1, .data⟩ (by simp) rfl
      obtain rfl := (hV.c1 d1).symm
      have d2 : L 2 = true := hd _ rfl ⟨2, .data⟩ (by simp) rfl
      obtain rfl := (hV.c2 d2).symm
      refine op_at _ rfl rfl (fun K' hK => ?_)
      conv => arg 2; whnf
      go_wp2_with fail
      exact ⟨tt, z159, .slice (some ⟨g, 0, none⟩) ls.length cap, .int .i64 i, z162, z163, z164, z165, z166, z167, z168, z169, z170, z171, z172, z173, z174, z175, z176, z177, z178, z179, z180, z181, .pointer (some ⟨g, i * 7, none⟩), z183, ⟨(kl nl), (kq hV.p15_11), (fun _ => upd_same L 23), (kc hV.c0), (kc hV.c1), (kc hV.c2), (kc hV.c3), (kc hV.c4), (kc hV.c5), (kc hV.c6), (kc hV.c7), (kc hV.c8), (kc hV.c9), (kc hV.c10), (kc hV.c11), (kc hV.c12), (kc hV.c13), (kc hV.c14), (kc hV.c15), (kc hV.c16), (kc hV.c17), (kc hV.c18), (kc hV.c19), (kc hV.c20), (kc hV.c21), (kc hV.c22), (fun _ => rfl), (kc hV.c24), (fun h0 => hV.fr (kb h0)), (fun h0 => fun h1 => hV.bt (kb h0) (kb h1)), (kl nl)⟩, rfl⟩
    · have nl := kf hV.ord hl
      have d23 : L 23 = true := hd _ rfl ⟨23, .data⟩ (by simp) rfl
      obtain rfl := (hV.c23 d23).symm
      refine op_at _ rfl rfl (fun K' hK => ?_)
      conv => arg 2; whnf
      go_wp2_with fail
      exact ⟨tt, z159, z160, z161, z162, z163, z164, z165, z166, z167, z168, z169, z170, z171, z172, z173, z174, z175, z176, z177, z178, z179, z180, z181, .pointer (some ⟨g, i * 7, none⟩), .pointer (some ⟨g, i * 7 + 1, none⟩), ⟨(kl nl), (kq hV.p15_11), (kd (d23)), (kc hV.c0), (kc hV.c1), (kc hV.c2), (kc hV.c3), (kc hV.c4), (kc hV.c5), (kc hV.c6), (kc hV.c7), (kc hV.c8), (kc hV.c9), (kc hV.c10), (kc hV.c11), (kc hV.c12), (kc hV.c13), (kc hV.c14), (kc hV.c15), (kc hV.c16), (kc hV.c17), (kc hV.c18), (kc hV.c19), (kc hV.c20), (kc hV.c21), (kc hV.c22), (kc hV.c23), (fun _ => rfl), (fun h0 => hV.fr (kb h0)), (fun h0 => fun h1 => hV.bt (kb h0) (kb h1)), (kl nl)⟩, rfl⟩
    · have before : ∀ j, j < 25 → L j = true := fun j hj => by
        have hj : j = 0 ∨ j = 1 ∨ j = 2 ∨ j = 3 ∨ j = 4 ∨ j = 5 ∨ j = 6 ∨ j = 7 ∨ j = 8 ∨ j = 9 ∨ j = 10 ∨ j = 11 ∨ j = 12 ∨ j = 13 ∨ j = 14 ∨ j = 15 ∨ j = 16 ∨ j = 17 ∨ j = 18 ∨ j = 19 ∨ j = 20 ∨ j = 21 ∨ j = 22 ∨ j = 23 ∨ j = 24 := by omega
        rcases hj with rfl | rfl | rfl | rfl | rfl | rfl | rfl | rfl | rfl | rfl | rfl | rfl | rfl | rfl | rfl | rfl | rfl | rfl | rfl | rfl | rfl | rfl | rfl | rfl | rfl
        · exact hd _ rfl ⟨0, .phase⟩ (by simp) rfl
        · exact hd _ rfl ⟨1, .phase⟩ (by simp) rfl
        · exact hd _ rfl ⟨2, .phase⟩ (by simp) rfl
        · exact hd _ rfl ⟨3, .phase⟩ (by simp) rfl
        · exact hd _ rfl ⟨4, .phase⟩ (by simp) rfl
        · exact hd _ rfl ⟨5, .phase⟩ (by simp) rfl
        · exact hd _ rfl ⟨6, .phase⟩ (by simp) rfl
        · exact hd _ rfl ⟨7, .phase⟩ (by simp) rfl
        · exact hd _ rfl ⟨8, .phase⟩ (by simp) rfl
        · exact hd _ rfl ⟨9, .phase⟩ (by simp) rfl
        · exact hd _ rfl ⟨10, .phase⟩ (by simp) rfl
        · exact hd _ rfl ⟨11, .phase⟩ (by simp) rfl
        · exact hd _ rfl ⟨12, .phase⟩ (by simp) rfl
        · exact hd _ rfl ⟨13, .phase⟩ (by simp) rfl
        · exact hd _ rfl ⟨14, .phase⟩ (by simp) rfl
        · exact hd _ rfl ⟨15, .phase⟩ (by simp) rfl
        · exact hd _ rfl ⟨16, .phase⟩ (by simp) rfl
        · exact hd _ rfl ⟨17, .phase⟩ (by simp) rfl
        · exact hd _ rfl ⟨18, .phase⟩ (by simp) rfl
        · exact hd _ rfl ⟨19, .phase⟩ (by simp) rfl
        · exact hd _ rfl ⟨20, .phase⟩ (by simp) rfl
        · exact hd _ rfl ⟨21, .phase⟩ (by simp) rfl
        · exact hd _ rfl ⟨22, .data⟩ (by simp) rfl
        · exact hV.p24_23 (hd _ rfl ⟨24, .data⟩ (by simp) rfl)
        · exact hd _ rfl ⟨24, .data⟩ (by simp) rfl
      have d22 : L 22 = true := hd _ rfl ⟨22, .data⟩ (by simp) rfl
      obtain rfl := (hV.c22 d22).symm
      have d24 : L 24 = true := hd _ rfl ⟨24, .data⟩ (by simp) rfl
      obtain rfl := (hV.c24 d24).symm
      obtain ⟨g', e', hgb, hgl, hic, hfz⟩ := lns_at (HI.out.old (hV.fr hl)).ln hi
      cases e'
      obtain ⟨c1, c2, c3, c4, c5, c6⟩ := hic.all
      have fz1 := hfz (i * 7 + 1)
      have fz2 := hfz (i * 7 + 2)
      have fz3 := hfz (i * 7 + 3)
      have fz4 := hfz (i * 7 + 4)
      have fz5 := hfz (i * 7 + 5)
      have fz6 := hfz (i * 7 + 6)
      clear hic hfz
      refine op_at _ rfl rfl (fun K' hK => ?_)
      conv => arg 2; whnf
      go_wp2_with fail
      exact ⟨tt, z159, z160, z161, z162, z163, z164, z165, z166, z167, z168, z169, z170, z171, z172, z173, z174, z175, z176, z177, z178, z179, z180, .agg #[.int .i64 19, .int .i64 (fewN qx), .int .i64 (twoN qt), .int .i64 0, .int .i64 ((n.tdiv 8).tmod 5 * 8), .string ⟨#[]⟩], z182, .pointer (some ⟨g, i * 7 + 1, none⟩), ⟨(fun _ j hj => by rw [upd_ne L (show j ≠ 25 by omega)]; exact before j hj), (kq hV.p15_11), (kq hV.p24_23), (kc hV.c0), (kc hV.c1), (kc hV.c2), (kc hV.c3), (kc hV.c4), (kc hV.c5), (kc hV.c6), (kc hV.c7), (kc hV.c8), (kc hV.c9), (kc hV.c10), (kc hV.c11), (kc hV.c12), (kc hV.c13), (kc hV.c14), (kc hV.c15), (kc hV.c16), (kc hV.c17), (kc hV.c18), (kc hV.c19), (kc hV.c20), (kc hV.c21), (kc hV.c22), (kc hV.c23), (kc hV.c24), (ks), (fun _ => ks), (fun _ => by rw [HL2.out]; exact (HI.out.old (hV.fr hl)).put hi ⟨19, fewN qx, twoN qt, 0, (n.tdiv 8).tmod 5 * 8, []⟩)⟩, rfl⟩
  · intro L act wx hI hall
    obtain ⟨tt, z159, z160, z161, z162, z163, z164, z165, z166, z167, z168, z169, z170, z171, z172, z173, z174, z175, z176, z177, z178, z179, z180, z181, z182, z183, hV, rfl⟩ := hI
    obtain rfl := (hV.c0 (hall 0 (by decide))).symm
    obtain rfl := (hV.c1 (hall 1 (by decide))).symm
    obtain rfl := (hV.c2 (hall 2 (by decide))).symm
    obtain rfl := (hV.c3 (hall 3 (by decide))).symm
    obtain rfl := (hV.c4 (hall 4 (by decide))).symm
    obtain rfl := (hV.c5 (hall 5 (by decide))).symm
    obtain rfl := (hV.c6 (hall 6 (by decide))).symm
    obtain rfl := (hV.c7 (hall 7 (by decide))).symm
    obtain rfl := (hV.c8 (hall 8 (by decide))).symm
    obtain rfl := (hV.c9 (hall 9 (by decide))).symm
    obtain rfl := (hV.c10 (hall 10 (by decide))).symm
    obtain rfl := (hV.c11 (hall 11 (by decide))).symm
    obtain rfl := (hV.c12 (hall 12 (by decide))).symm
    obtain rfl := (hV.c13 (hall 13 (by decide))).symm
    obtain rfl := (hV.c14 (hall 14 (by decide))).symm
    obtain rfl := (hV.c15 (hall 15 (by decide))).symm
    obtain rfl := (hV.c16 (hall 16 (by decide))).symm
    obtain rfl := (hV.c17 (hall 17 (by decide))).symm
    obtain rfl := (hV.c18 (hall 18 (by decide))).symm
    obtain rfl := (hV.c19 (hall 19 (by decide))).symm
    obtain rfl := (hV.c20 (hall 20 (by decide))).symm
    obtain rfl := (hV.c21 (hall 21 (by decide))).symm
    obtain rfl := (hV.c22 (hall 22 (by decide))).symm
    obtain rfl := (hV.c23 (hall 23 (by decide))).symm
    obtain rfl := (hV.c24 (hall 24 (by decide))).symm
    exact hM _ _ (Met.intro (hJ _ _ ⟨tt, hV.up (hall 25 (by decide)), rfl⟩))
end Go.Proofs.YtpgjfpphigeliaaGreatDoor
