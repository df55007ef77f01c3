/-
  A region that draws its order, whose operations have values known ahead. No condition.
  TreeSame: the calls of Same, in whatever order. Conditions: the programs lie in memory.
  Small laws on what is done of a region that draws its order. No condition.
  TreeSame: a statement behind the others, where it is left open how it is built. Conditions: what is read lies in memory.
  TreeSame: what is there behind the statement. No condition.
  TreeSame: the law is true. Conditions: the raw numbers and the library's table lie in memory.
-/
import Derived.Test.YtgmaeflfiooigaaGreatDoorTreeX
import Derived.Test.YtgmaeflfiooigaaGreatDoorTreeZ
import Derived.Test.YtgmaeflfiooigaaGreatDoorTreePO
import Derived.Laws.OwnMore
import Derived.Test.YtgmaeflfiooigaaGreatDoorTreeF
set_option linter.unusedVariables false
set_option linter.unusedSimpArgs false
namespace Go.Proofs.YtgmaeflfiooigaaGreatDoor
open Go.RowKit
set_option maxHeartbeats 4000000
set_option maxRecDepth 100000

theorem upd_vals {L : Nat → Bool} {zs Vs : List Value} {i : Nat} {v : Value} (h : ∀ j, L j = true → zs[j]? = Vs[j]?) (hi : i < zs.length) (hv : Vs[i]? = some v) : ∀ j, upd L i j = true → (zs.set i v)[j]? = Vs[j]? := by
  intro j hj
  by_cases e : j = i
  · subst e; rw [List.getElem?_set_self hi, hv]
  · rw [upd_ne L e] at hj; rw [List.getElem?_set_ne (fun h => e h.symm), h j hj]
theorem upd_vals2 {L : Nat → Bool} {zs Vs Vs' : List Value} {i : Nat} {v : Value} (h : ∀ j, L j = true → zs[j]? = Vs[j]?) (hi : i < zs.length) (hv : Vs' = Vs.set i v ∧ i < Vs.length) : ∀ j, upd L i j = true → (zs.set i v)[j]? = Vs'[j]? := by
  intro j hj
  rw [hv.1]
  by_cases e : j = i
  · subst e; rw [List.getElem?_set_self hi, List.getElem?_set_self hv.2]
  · rw [upd_ne L e] at hj; rw [List.getElem?_set_ne (fun h => e h.symm), List.getElem?_set_ne (fun h => e h.symm), h j hj]
theorem val_at {L : Nat → Bool} {zs Vs : List Value} {i : Nat} {z V : Value} (h : ∀ j, L j = true → zs[j]? = Vs[j]?) (hd : L i = true) (e1 : zs[i]? = some z) (e2 : Vs[i]? = some V) : z = V := by
  have := h i hd
  rw [e1, e2] at this
  exact Option.some.inj this
/-- An operation whose guard says no. -/
theorem op_skip {P : Program} {ops : Array Oper} {Q : Exit → Act → World → Prop} {i : Nat} {K : Act → World → Prop} {a : Act} {w : World} (o : Oper) (ho : ops[i]? = some o) (hw : Region.wanted o (yielded ops a.tmps) = false) (h : K (a.put o.dst undef) w) : wpOp P ops Q i K a w := by
  unfold wpOp
  rw [ho]
  dsimp only
  rw [hw, if_neg (by decide)]
  exact h
/-- An operation whose guard says yes. -/
theorem op_take {P : Program} {ops : Array Oper} {Q : Exit → Act → World → Prop} {i : Nat} {K : Act → World → Prop} {a : Act} {w : World} (o : Oper) (ho : ops[i]? = some o) (hw : Region.wanted o (yielded ops a.tmps) = true) (h : ∀ K' : Act → World → Prop, (∀ a w, K a w → K' a w) → o.wp P a w K' Q) : wpOp P ops Q i K a w := by
  unfold wpOp
  rw [ho]
  dsimp only
  rw [hw, if_pos rfl]
  exact .inl (h K (fun _ _ q => q))
end Go.Proofs.YtgmaeflfiooigaaGreatDoor

namespace Go.Proofs.YtgmaeflfiooigaaGreatDoor
open Go.RowKit
set_option maxHeartbeats 8000000
set_option maxRecDepth 100000

noncomputable def tsReg (n : Nat) : Code := ((Tryz.f7.body.bind (regOf n)).getD .skip)
def SameCalls (W : World) (x y : Value) (b : Bool) : Prop := ∀ wx, Below W.heap.size W wx → Calls Tryz.prog 20 #[x, y] wx fun e w' => e = .returned (.bool b) ∧ Below wx.heap.size wx w'
def vs10A  (b8 : Nat) (a8 f8 : Value) (b9 : Nat) (a9 f9 : Value) (b10 : Nat) (a10 f10 : Value) : List Value := [.agg #[a8, f8], .agg #[a9, f9], .bool false, .agg #[a9, f9], .agg #[a8, f8], .bool false, .bool false, .bool false, .agg #[a8, f8], .agg #[a9, f9], .bool false, .bool false, undef, undef, undef, .bool false, .bool false, undef, undef, undef, undef, .bool false, .bool false]
def I10A (b8 : Nat) (a8 f8 : Value) (b9 : Nat) (a9 f9 : Value) (b10 : Nat) (a10 f10 : Value) (W : World) (q0 q1 q2 q3 q4 q5 q6 q7 q11 q12 q13 q14 q15 q16 q17 q18 q19 q20 q21 q22 q23 q24 q25 q26 q27 q28 q29 q30 q31 q32 q33 q34 q35 q36 q37 q38 q39 q40 q41 q42 q43 q44 q45 q46 q70 q71 q72 q73 q74 q75 q76 q77 q78 q79 q80 q81 q82 q83 q84 q85 q86 q87 q88 q89 q90 q91 q92 q93 : Value) (L : Nat → Bool) (a' : Act) (w' : World) : Prop :=
  ∃ z47 z48 z49 z50 z51 z52 z53 z54 z55 z56 z57 z58 z59 z60 z61 z62 z63 z64 z65 z66 z67 z68 z69 : Value, Below W.heap.size W w' ∧ (∀ j, L j = true → [z47, z48, z49, z50, z51, z52, z53, z54, z55, z56, z57, z58, z59, z60, z61, z62, z63, z64, z65, z66, z67, z68, z69][j]? = (vs10A b8 a8 f8 b9 a9 f9 b10 a10 f10)[j]?) ∧ a' = ⟨[q0, q1, q2, q3, q4, q5, q6, q7, .pointer (some ⟨b8, 0, none⟩), .pointer (some ⟨b9, 0, none⟩), .pointer (some ⟨b10, 0, none⟩), q11, q12, q13, q14, q15, q16, q17, q18, q19, q20, q21, q22, q23, q24, q25, q26, q27, q28, q29, q30, q31, q32, q33, q34, q35, q36, q37, q38, q39, q40, q41, q42, q43, q44, q45, q46, z47, z48, z49, z50, z51, z52, z53, z54, z55, z56, z57, z58, z59, z60, z61, z62, z63, z64, z65, z66, z67, z68, z69, q70, q71, q72, q73, q74, q75, q76, q77, q78, q79, q80, q81, q82, q83, q84, q85, q86, q87, q88, q89, q90, q91, q92, q93].toArray, []⟩
def R10A (b8 : Nat) (a8 f8 : Value) (b9 : Nat) (a9 f9 : Value) (b10 : Nat) (a10 f10 : Value) (W : World) (q0 q1 q2 q3 q4 q5 q6 q7 q11 q12 q13 q14 q15 q16 q17 q18 q19 q20 q21 q22 q23 q24 q25 q26 q27 q28 q29 q30 q31 q32 q33 q34 q35 q36 q37 q38 q39 q40 q41 q42 q43 q44 q45 q46 q70 q71 q72 q73 q74 q75 q76 q77 q78 q79 q80 q81 q82 q83 q84 q85 q86 q87 q88 q89 q90 q91 q92 q93 : Value) (a' : Act) (w' : World) : Prop := Below W.heap.size W w' ∧ a' = ⟨[q0, q1, q2, q3, q4, q5, q6, q7, .pointer (some ⟨b8, 0, none⟩), .pointer (some ⟨b9, 0, none⟩), .pointer (some ⟨b10, 0, none⟩), q11, q12, q13, q14, q15, q16, q17, q18, q19, q20, q21, q22, q23, q24, q25, q26, q27, q28, q29, q30, q31, q32, q33, q34, q35, q36, q37, q38, q39, q40, q41, q42, q43, q44, q45, q46, .agg #[a8, f8], .agg #[a9, f9], .bool false, .agg #[a9, f9], .agg #[a8, f8], .bool false, .bool false, .bool false, .agg #[a8, f8], .agg #[a9, f9], .bool false, .bool false, undef, undef, undef, .bool false, .bool false, undef, undef, undef, undef, .bool false, .bool false, q70, q71, q72, q73, q74, q75, q76, q77, q78, q79, q80, q81, q82, q83, q84, q85, q86, q87, q88, q89, q90, q91, q92, q93].toArray, []⟩
theorem ts_reg10A (b8 : Nat) (a8 f8 : Value) (b9 : Nat) (a9 f9 : Value) (b10 : Nat) (a10 f10 : Value) (W : World) (hb8 : OwnAt W b8 [a8, f8] 27) (hb9 : OwnAt W b9 [a9, f9] 27) (hb10 : OwnAt W b10 [a10, f10] 27) (c8_9 : SameCalls W (.agg #[a8, f8]) (.agg #[a9, f9]) false) (c9_8 : SameCalls W (.agg #[a9, f9]) (.agg #[a8, f8]) false)  (q0 q1 q2 q3 q4 q5 q6 q7 q11 q12 q13 q14 q15 q16 q17 q18 q19 q20 q21 q22 q23 q24 q25 q26 q27 q28 q29 q30 q31 q32 q33 q34 q35 q36 q37 q38 q39 q40 q41 q42 q43 q44 q45 q46 q47 q48 q49 q50 q51 q52 q53 q54 q55 q56 q57 q58 q59 q60 q61 q62 q63 q64 q65 q66 q67 q68 q69 q70 q71 q72 q73 q74 q75 q76 q77 q78 q79 q80 q81 q82 q83 q84 q85 q86 q87 q88 q89 q90 q91 q92 q93 : Value) (J K' : Act → World → Prop) (hJ : ∀ a' w', R10A b8 a8 f8 b9 a9 f9 b10 a10 f10 W q0 q1 q2 q3 q4 q5 q6 q7 q11 q12 q13 q14 q15 q16 q17 q18 q19 q20 q21 q22 q23 q24 q25 q26 q27 q28 q29 q30 q31 q32 q33 q34 q35 q36 q37 q38 q39 q40 q41 q42 q43 q44 q45 q46 q70 q71 q72 q73 q74 q75 q76 q77 q78 q79 q80 q81 q82 q83 q84 q85 q86 q87 q88 q89 q90 q91 q92 q93 a' w' → J a' w') (hM : ∀ a' w', Met J a' w' → K' a' w') :
    Code.wp Tryz.prog (tsReg 10) (Exit.then K' (fun _ _ _ => False)) ⟨[q0, q1, q2, q3, q4, q5, q6, q7, .pointer (some ⟨b8, 0, none⟩), .pointer (some ⟨b9, 0, none⟩), .pointer (some ⟨b10, 0, none⟩), q11, q12, q13, q14, q15, q16, q17, q18, q19, q20, q21, q22, q23, q24, q25, q26, q27, q28, q29, q30, q31, q32, q33, q34, q35, q36, q37, q38, q39, q40, q41, q42, q43, q44, q45, q46, q47, q48, q49, q50, q51, q52, q53, q54, q55, q56, q57, q58, q59, q60, q61, q62, q63, q64, q65, q66, q67, q68, q69, q70, q71, q72, q73, q74, q75, q76, q77, q78, q79, q80, q81, q82, q83, q84, q85, q86, q87, q88, q89, q90, q91, q92, q93].toArray, []⟩ W := by
  conv => arg 2; whnf
  dsimp only
  refine region_by (by kernel_rfl) (by kernel_rfl) (I10A b8 a8 f8 b9 a9 f9 b10 a10 f10 W q0 q1 q2 q3 q4 q5 q6 q7 q11 q12 q13 q14 q15 q16 q17 q18 q19 q20 q21 q22 q23 q24 q25 q26 q27 q28 q29 q30 q31 q32 q33 q34 q35 q36 q37 q38 q39 q40 q41 q42 q43 q44 q45 q46 q70 q71 q72 q73 q74 q75 q76 q77 q78 q79 q80 q81 q82 q83 q84 q85 q86 q87 q88 q89 q90 q91 q92 q93) ?_ ?_ ?_
  · exact ⟨q47, q48, q49, q50, q51, q52, q53, q54, q55, q56, q57, q58, q59, q60, q61, q62, q63, q64, q65, q66, q67, q68, q69, (Below.refl _ _).drew, fun j h => (by cases h), rfl⟩
  · intro L act wx k hI hk hl hd
    obtain ⟨z47, z48, z49, z50, z51, z52, z53, z54, z55, z56, z57, z58, z59, z60, z61, z62, z63, z64, z65, z66, z67, z68, z69, hB, hV, rfl⟩ := hI
    have hk : k = 0 ∨ k = 1 ∨ k = 2 ∨ k = 3 ∨ k = 4 ∨ k = 5 ∨ k = 6 ∨ k = 7 ∨ k = 8 ∨ k = 9 ∨ k = 10 ∨ k = 11 ∨ k = 12 ∨ k = 13 ∨ k = 14 ∨ k = 15 ∨ k = 16 ∨ k = 17 ∨ k = 18 ∨ k = 19 ∨ k = 20 ∨ k = 21 ∨ k = 22 := by
      have : k < 23 := hk
      omega
    rcases hk with rfl | rfl | rfl | rfl | rfl | rfl | rfl | rfl | rfl | rfl | rfl | rfl | rfl | rfl | rfl | rfl | rfl | rfl | rfl | rfl | rfl | rfl | rfl
    · have ho := hb8.old hB
      have x0 := ho.at 0 _ rfl
      have x1 := ho.at 1 _ rfl
      have hlt := ho.lt
      refine op_at _ rfl rfl (fun K' hK => ?_)
      conv => arg 2; whnf
      go_wp2_with fail
      exact ⟨.agg #[a8, f8], z48, z49, z50, z51, z52, z53, z54, z55, z56, z57, z58, z59, z60, z61, z62, z63, z64, z65, z66, z67, z68, z69, hB, upd_vals (i := 0) (v := .agg #[a8, f8]) hV (by simp) rfl, rfl⟩
    · have ho := hb9.old hB
      have x0 := ho.at 0 _ rfl
      have x1 := ho.at 1 _ rfl
      have hlt := ho.lt
      refine op_at _ rfl rfl (fun K' hK => ?_)
      conv => arg 2; whnf
      go_wp2_with fail
      exact ⟨z47, .agg #[a9, f9], z49, z50, z51, z52, z53, z54, z55, z56, z57, z58, z59, z60, z61, z62, z63, z64, z65, z66, z67, z68, z69, hB, upd_vals (i := 1) (v := .agg #[a9, f9]) hV (by simp) rfl, rfl⟩
    · have d0 : L 0 = true := hd _ rfl ⟨0, .data⟩ (by simp) rfl
      obtain rfl : z47 = .agg #[a8, f8] := val_at hV d0 rfl rfl
      have d1 : L 1 = true := hd _ rfl ⟨1, .data⟩ (by simp) rfl
      obtain rfl : z48 = .agg #[a9, f9] := val_at hV d1 rfl rfl
      refine op_at _ rfl rfl (fun K' hK => ?_)
      conv => arg 2; whnf
      go_wp2_with fail
      refine (c8_9 wx hB).mono ?_
      rintro r w2 ⟨rfl, hb2⟩
      go_wp2_with fail
      exact ⟨.agg #[a8, f8], .agg #[a9, f9], .bool false, z50, z51, z52, z53, z54, z55, z56, z57, z58, z59, z60, z61, z62, z63, z64, z65, z66, z67, z68, z69, (hB.trans (hb2.mono hB.size)), upd_vals (i := 2) (v := .bool false) hV (by simp) rfl, rfl⟩
    · have ho := hb9.old hB
      have x0 := ho.at 0 _ rfl
      have x1 := ho.at 1 _ rfl
      have hlt := ho.lt
      refine op_at _ rfl rfl (fun K' hK => ?_)
      conv => arg 2; whnf
      go_wp2_with fail
      exact ⟨z47, z48, z49, .agg #[a9, f9], z51, z52, z53, z54, z55, z56, z57, z58, z59, z60, z61, z62, z63, z64, z65, z66, z67, z68, z69, hB, upd_vals (i := 3) (v := .agg #[a9, f9]) hV (by simp) rfl, rfl⟩
    · have ho := hb8.old hB
      have x0 := ho.at 0 _ rfl
      have x1 := ho.at 1 _ rfl
      have hlt := ho.lt
      refine op_at _ rfl rfl (fun K' hK => ?_)
      conv => arg 2; whnf
      go_wp2_with fail
      exact ⟨z47, z48, z49, z50, .agg #[a8, f8], z52, z53, z54, z55, z56, z57, z58, z59, z60, z61, z62, z63, z64, z65, z66, z67, z68, z69, hB, upd_vals (i := 4) (v := .agg #[a8, f8]) hV (by simp) rfl, rfl⟩
    · have d3 : L 3 = true := hd _ rfl ⟨3, .data⟩ (by simp) rfl
      obtain rfl : z50 = .agg #[a9, f9] := val_at hV d3 rfl rfl
      have d4 : L 4 = true := hd _ rfl ⟨4, .data⟩ (by simp) rfl
      obtain rfl : z51 = .agg #[a8, f8] := val_at hV d4 rfl rfl
      refine op_at _ rfl rfl (fun K' hK => ?_)
      conv => arg 2; whnf
      go_wp2_with fail
      refine (c9_8 wx hB).mono ?_
      rintro r w2 ⟨rfl, hb2⟩
      go_wp2_with fail
      exact ⟨z47, z48, z49, .agg #[a9, f9], .agg #[a8, f8], .bool false, z53, z54, z55, z56, z57, z58, z59, z60, z61, z62, z63, z64, z65, z66, z67, z68, z69, (hB.trans (hb2.mono hB.size)), upd_vals (i := 5) (v := .bool false) hV (by simp) rfl, rfl⟩
    · have d2 : L 2 = true := hd _ rfl ⟨2, .data⟩ (by simp) rfl
      obtain rfl : z49 = .bool false := val_at hV d2 rfl rfl
      have d5 : L 5 = true := hd _ rfl ⟨5, .data⟩ (by simp) rfl
      obtain rfl : z52 = .bool false := val_at hV d5 rfl rfl
      refine op_at _ rfl rfl (fun K' hK => ?_)
      conv => arg 2; whnf
      go_wp2_with fail
      exact ⟨z47, z48, .bool false, z50, z51, .bool false, .bool false, z54, z55, z56, z57, z58, z59, z60, z61, z62, z63, z64, z65, z66, z67, z68, z69, hB, upd_vals (i := 6) (v := .bool false) hV (by simp) rfl, rfl⟩
    · have d6 : L 6 = true := hd _ rfl ⟨6, .data⟩ (by simp) rfl
      obtain rfl : z53 = .bool false := val_at hV d6 rfl rfl
      refine op_at _ rfl rfl (fun K' hK => ?_)
      conv => arg 2; whnf
      go_wp2_with fail
      exact ⟨z47, z48, z49, z50, z51, z52, .bool false, .bool false, z55, z56, z57, z58, z59, z60, z61, z62, z63, z64, z65, z66, z67, z68, z69, hB, upd_vals (i := 7) (v := .bool false) hV (by simp) rfl, rfl⟩
    · have d7 : L 7 = true := hd _ rfl ⟨7, .guard⟩ (by simp) rfl
      obtain rfl : z54 = .bool false := val_at hV d7 rfl rfl
      have ho := hb8.old hB
      have x0 := ho.at 0 _ rfl
      have x1 := ho.at 1 _ rfl
      have hlt := ho.lt
      refine op_take _ rfl rfl (fun K' hK => ?_)
      conv => arg 2; whnf
      go_wp2_with fail
      exact ⟨z47, z48, z49, z50, z51, z52, z53, .bool false, .agg #[a8, f8], z56, z57, z58, z59, z60, z61, z62, z63, z64, z65, z66, z67, z68, z69, hB, upd_vals (i := 8) (v := .agg #[a8, f8]) hV (by simp) rfl, rfl⟩
    · have d7 : L 7 = true := hd _ rfl ⟨7, .guard⟩ (by simp) rfl
      obtain rfl : z54 = .bool false := val_at hV d7 rfl rfl
      have ho := hb9.old hB
      have x0 := ho.at 0 _ rfl
      have x1 := ho.at 1 _ rfl
      have hlt := ho.lt
      refine op_take _ rfl rfl (fun K' hK => ?_)
      conv => arg 2; whnf
      go_wp2_with fail
      exact ⟨z47, z48, z49, z50, z51, z52, z53, .bool false, z55, .agg #[a9, f9], z57, z58, z59, z60, z61, z62, z63, z64, z65, z66, z67, z68, z69, hB, upd_vals (i := 9) (v := .agg #[a9, f9]) hV (by simp) rfl, rfl⟩
    · have d8 : L 8 = true := hd _ rfl ⟨8, .data⟩ (by simp) rfl
      obtain rfl : z55 = .agg #[a8, f8] := val_at hV d8 rfl rfl
      have d9 : L 9 = true := hd _ rfl ⟨9, .data⟩ (by simp) rfl
      obtain rfl : z56 = .agg #[a9, f9] := val_at hV d9 rfl rfl
      have d7 : L 7 = true := hd _ rfl ⟨7, .guard⟩ (by simp) rfl
      obtain rfl : z54 = .bool false := val_at hV d7 rfl rfl
      refine op_take _ rfl rfl (fun K' hK => ?_)
      conv => arg 2; whnf
      go_wp2_with fail
      refine (c8_9 wx hB).mono ?_
      rintro r w2 ⟨rfl, hb2⟩
      go_wp2_with fail
      exact ⟨z47, z48, z49, z50, z51, z52, z53, .bool false, .agg #[a8, f8], .agg #[a9, f9], .bool false, z58, z59, z60, z61, z62, z63, z64, z65, z66, z67, z68, z69, (hB.trans (hb2.mono hB.size)), upd_vals (i := 10) (v := .bool false) hV (by simp) rfl, rfl⟩
    · have d10 : L 10 = true := hd _ rfl ⟨10, .data⟩ (by simp) rfl
      obtain rfl : z57 = .bool false := val_at hV d10 rfl rfl
      have d7 : L 7 = true := hd _ rfl ⟨7, .guard⟩ (by simp) rfl
      obtain rfl : z54 = .bool false := val_at hV d7 rfl rfl
      refine op_take _ rfl rfl (fun K' hK => ?_)
      conv => arg 2; whnf
      go_wp2_with fail
      exact ⟨z47, z48, z49, z50, z51, z52, z53, .bool false, z55, z56, .bool false, .bool false, z59, z60, z61, z62, z63, z64, z65, z66, z67, z68, z69, hB, upd_vals (i := 11) (v := .bool false) hV (by simp) rfl, rfl⟩
    · have d11 : L 11 = true := hd _ rfl ⟨11, .guard⟩ (by simp) rfl
      obtain rfl : z58 = .bool false := val_at hV d11 rfl rfl
      refine op_skip _ rfl rfl ?_
      exact ⟨z47, z48, z49, z50, z51, z52, z53, z54, z55, z56, z57, .bool false, undef, z60, z61, z62, z63, z64, z65, z66, z67, z68, z69, hB, upd_vals (i := 12) (v := undef) hV (by simp) rfl, rfl⟩
    · have d11 : L 11 = true := hd _ rfl ⟨11, .guard⟩ (by simp) rfl
      obtain rfl : z58 = .bool false := val_at hV d11 rfl rfl
      refine op_skip _ rfl rfl ?_
      exact ⟨z47, z48, z49, z50, z51, z52, z53, z54, z55, z56, z57, .bool false, z59, undef, z61, z62, z63, z64, z65, z66, z67, z68, z69, hB, upd_vals (i := 13) (v := undef) hV (by simp) rfl, rfl⟩
    · have d11 : L 11 = true := hd _ rfl ⟨11, .guard⟩ (by simp) rfl
      obtain rfl : z58 = .bool false := val_at hV d11 rfl rfl
      refine op_skip _ rfl rfl ?_
      exact ⟨z47, z48, z49, z50, z51, z52, z53, z54, z55, z56, z57, .bool false, z59, z60, undef, z62, z63, z64, z65, z66, z67, z68, z69, hB, upd_vals (i := 14) (v := undef) hV (by simp) rfl, rfl⟩
    · have d11 : L 11 = true := hd _ rfl ⟨11, .data⟩ (by simp) rfl
      obtain rfl : z58 = .bool false := val_at hV d11 rfl rfl
      have d14 : L 14 = true := hd _ rfl ⟨14, .data⟩ (by simp) rfl
      obtain rfl : z61 = undef := val_at hV d14 rfl rfl
      have d7 : L 7 = true := hd _ rfl ⟨7, .guard⟩ (by simp) rfl
      obtain rfl : z54 = .bool false := val_at hV d7 rfl rfl
      refine op_take _ rfl rfl (fun K' hK => ?_)
      conv => arg 2; whnf
      go_wp2_with fail
      exact ⟨z47, z48, z49, z50, z51, z52, z53, .bool false, z55, z56, z57, .bool false, z59, z60, undef, .bool false, z63, z64, z65, z66, z67, z68, z69, hB, upd_vals (i := 15) (v := .bool false) hV (by simp) rfl, rfl⟩
    · have d15 : L 15 = true := hd _ rfl ⟨15, .data⟩ (by simp) rfl
      obtain rfl : z62 = .bool false := val_at hV d15 rfl rfl
      have d7 : L 7 = true := hd _ rfl ⟨7, .guard⟩ (by simp) rfl
      obtain rfl : z54 = .bool false := val_at hV d7 rfl rfl
      refine op_take _ rfl rfl (fun K' hK => ?_)
      conv => arg 2; whnf
      go_wp2_with fail
      exact ⟨z47, z48, z49, z50, z51, z52, z53, .bool false, z55, z56, z57, z58, z59, z60, z61, .bool false, .bool false, z64, z65, z66, z67, z68, z69, hB, upd_vals (i := 16) (v := .bool false) hV (by simp) rfl, rfl⟩
    · have d16 : L 16 = true := hd _ rfl ⟨16, .guard⟩ (by simp) rfl
      obtain rfl : z63 = .bool false := val_at hV d16 rfl rfl
      refine op_skip _ rfl rfl ?_
      exact ⟨z47, z48, z49, z50, z51, z52, z53, z54, z55, z56, z57, z58, z59, z60, z61, z62, .bool false, undef, z65, z66, z67, z68, z69, hB, upd_vals (i := 17) (v := undef) hV (by simp) rfl, rfl⟩
    · have d16 : L 16 = true := hd _ rfl ⟨16, .guard⟩ (by simp) rfl
      obtain rfl : z63 = .bool false := val_at hV d16 rfl rfl
      refine op_skip _ rfl rfl ?_
      exact ⟨z47, z48, z49, z50, z51, z52, z53, z54, z55, z56, z57, z58, z59, z60, z61, z62, .bool false, z64, undef, z66, z67, z68, z69, hB, upd_vals (i := 18) (v := undef) hV (by simp) rfl, rfl⟩
    · have d16 : L 16 = true := hd _ rfl ⟨16, .guard⟩ (by simp) rfl
      obtain rfl : z63 = .bool false := val_at hV d16 rfl rfl
      refine op_skip _ rfl rfl ?_
      exact ⟨z47, z48, z49, z50, z51, z52, z53, z54, z55, z56, z57, z58, z59, z60, z61, z62, .bool false, z64, z65, undef, z67, z68, z69, hB, upd_vals (i := 19) (v := undef) hV (by simp) rfl, rfl⟩
    · have d16 : L 16 = true := hd _ rfl ⟨16, .guard⟩ (by simp) rfl
      obtain rfl : z63 = .bool false := val_at hV d16 rfl rfl
      refine op_skip _ rfl rfl ?_
      exact ⟨z47, z48, z49, z50, z51, z52, z53, z54, z55, z56, z57, z58, z59, z60, z61, z62, .bool false, z64, z65, z66, undef, z68, z69, hB, upd_vals (i := 20) (v := undef) hV (by simp) rfl, rfl⟩
    · have d16 : L 16 = true := hd _ rfl ⟨16, .data⟩ (by simp) rfl
      obtain rfl : z63 = .bool false := val_at hV d16 rfl rfl
      have d20 : L 20 = true := hd _ rfl ⟨20, .data⟩ (by simp) rfl
      obtain rfl : z67 = undef := val_at hV d20 rfl rfl
      have d7 : L 7 = true := hd _ rfl ⟨7, .guard⟩ (by simp) rfl
      obtain rfl : z54 = .bool false := val_at hV d7 rfl rfl
      refine op_take _ rfl rfl (fun K' hK => ?_)
      conv => arg 2; whnf
      go_wp2_with fail
      exact ⟨z47, z48, z49, z50, z51, z52, z53, .bool false, z55, z56, z57, z58, z59, z60, z61, z62, .bool false, z64, z65, z66, undef, .bool false, z69, hB, upd_vals (i := 21) (v := .bool false) hV (by simp) rfl, rfl⟩
    · have d7 : L 7 = true := hd _ rfl ⟨7, .data⟩ (by simp) rfl
      obtain rfl : z54 = .bool false := val_at hV d7 rfl rfl
      have d21 : L 21 = true := hd _ rfl ⟨21, .data⟩ (by simp) rfl
      obtain rfl : z68 = .bool false := val_at hV d21 rfl rfl
      refine op_at _ rfl rfl (fun K' hK => ?_)
      conv => arg 2; whnf
      go_wp2_with fail
      exact ⟨z47, z48, z49, z50, z51, z52, z53, .bool false, z55, z56, z57, z58, z59, z60, z61, z62, z63, z64, z65, z66, z67, .bool false, .bool false, hB, upd_vals (i := 22) (v := .bool false) hV (by simp) rfl, rfl⟩
  · intro L act wx hI hall
    obtain ⟨z47, z48, z49, z50, z51, z52, z53, z54, z55, z56, z57, z58, z59, z60, z61, z62, z63, z64, z65, z66, z67, z68, z69, hB, hV, rfl⟩ := hI
    obtain rfl : z47 = .agg #[a8, f8] := val_at hV (hall 0 (by decide)) rfl rfl
    obtain rfl : z48 = .agg #[a9, f9] := val_at hV (hall 1 (by decide)) rfl rfl
    obtain rfl : z49 = .bool false := val_at hV (hall 2 (by decide)) rfl rfl
    obtain rfl : z50 = .agg #[a9, f9] := val_at hV (hall 3 (by decide)) rfl rfl
    obtain rfl : z51 = .agg #[a8, f8] := val_at hV (hall 4 (by decide)) rfl rfl
    obtain rfl : z52 = .bool false := val_at hV (hall 5 (by decide)) rfl rfl
    obtain rfl : z53 = .bool false := val_at hV (hall 6 (by decide)) rfl rfl
    obtain rfl : z54 = .bool false := val_at hV (hall 7 (by decide)) rfl rfl
    obtain rfl : z55 = .agg #[a8, f8] := val_at hV (hall 8 (by decide)) rfl rfl
    obtain rfl : z56 = .agg #[a9, f9] := val_at hV (hall 9 (by decide)) rfl rfl
    obtain rfl : z57 = .bool false := val_at hV (hall 10 (by decide)) rfl rfl
    obtain rfl : z58 = .bool false := val_at hV (hall 11 (by decide)) rfl rfl
    obtain rfl : z59 = undef := val_at hV (hall 12 (by decide)) rfl rfl
    obtain rfl : z60 = undef := val_at hV (hall 13 (by decide)) rfl rfl
    obtain rfl : z61 = undef := val_at hV (hall 14 (by decide)) rfl rfl
    obtain rfl : z62 = .bool false := val_at hV (hall 15 (by decide)) rfl rfl
    obtain rfl : z63 = .bool false := val_at hV (hall 16 (by decide)) rfl rfl
    obtain rfl : z64 = undef := val_at hV (hall 17 (by decide)) rfl rfl
    obtain rfl : z65 = undef := val_at hV (hall 18 (by decide)) rfl rfl
    obtain rfl : z66 = undef := val_at hV (hall 19 (by decide)) rfl rfl
    obtain rfl : z67 = undef := val_at hV (hall 20 (by decide)) rfl rfl
    obtain rfl : z68 = .bool false := val_at hV (hall 21 (by decide)) rfl rfl
    obtain rfl : z69 = .bool false := val_at hV (hall 22 (by decide)) rfl rfl
    exact hM _ _ (Met.intro (hJ _ _ ⟨hB, rfl⟩))
def vs10B  (b8 : Nat) (a8 f8 : Value) (b9 : Nat) (a9 f9 : Value) (b10 : Nat) (a10 f10 : Value) : List Value := [.agg #[a8, f8], .agg #[a9, f9], .bool true, .agg #[a9, f9], .agg #[a8, f8], .bool true, .bool false, .bool false, .agg #[a8, f8], .agg #[a9, f9], .bool true, .bool true, .agg #[a9, f9], .agg #[a10, f10], .bool false, .bool false, .bool false, undef, undef, undef, undef, .bool false, .bool false]
def I10B (b8 : Nat) (a8 f8 : Value) (b9 : Nat) (a9 f9 : Value) (b10 : Nat) (a10 f10 : Value) (W : World) (q0 q1 q2 q3 q4 q5 q6 q7 q11 q12 q13 q14 q15 q16 q17 q18 q19 q20 q21 q22 q23 q24 q25 q26 q27 q28 q29 q30 q31 q32 q33 q34 q35 q36 q37 q38 q39 q40 q41 q42 q43 q44 q45 q46 q70 q71 q72 q73 q74 q75 q76 q77 q78 q79 q80 q81 q82 q83 q84 q85 q86 q87 q88 q89 q90 q91 q92 q93 : Value) (L : Nat → Bool) (a' : Act) (w' : World) : Prop :=
  ∃ z47 z48 z49 z50 z51 z52 z53 z54 z55 z56 z57 z58 z59 z60 z61 z62 z63 z64 z65 z66 z67 z68 z69 : Value, Below W.heap.size W w' ∧ (∀ j, L j = true → [z47, z48, z49, z50, z51, z52, z53, z54, z55, z56, z57, z58, z59, z60, z61, z62, z63, z64, z65, z66, z67, z68, z69][j]? = (vs10B b8 a8 f8 b9 a9 f9 b10 a10 f10)[j]?) ∧ a' = ⟨[q0, q1, q2, q3, q4, q5, q6, q7, .pointer (some ⟨b8, 0, none⟩), .pointer (some ⟨b9, 0, none⟩), .pointer (some ⟨b10, 0, none⟩), q11, q12, q13, q14, q15, q16, q17, q18, q19, q20, q21, q22, q23, q24, q25, q26, q27, q28, q29, q30, q31, q32, q33, q34, q35, q36, q37, q38, q39, q40, q41, q42, q43, q44, q45, q46, z47, z48, z49, z50, z51, z52, z53, z54, z55, z56, z57, z58, z59, z60, z61, z62, z63, z64, z65, z66, z67, z68, z69, q70, q71, q72, q73, q74, q75, q76, q77, q78, q79, q80, q81, q82, q83, q84, q85, q86, q87, q88, q89, q90, q91, q92, q93].toArray, []⟩
def R10B (b8 : Nat) (a8 f8 : Value) (b9 : Nat) (a9 f9 : Value) (b10 : Nat) (a10 f10 : Value) (W : World) (q0 q1 q2 q3 q4 q5 q6 q7 q11 q12 q13 q14 q15 q16 q17 q18 q19 q20 q21 q22 q23 q24 q25 q26 q27 q28 q29 q30 q31 q32 q33 q34 q35 q36 q37 q38 q39 q40 q41 q42 q43 q44 q45 q46 q70 q71 q72 q73 q74 q75 q76 q77 q78 q79 q80 q81 q82 q83 q84 q85 q86 q87 q88 q89 q90 q91 q92 q93 : Value) (a' : Act) (w' : World) : Prop := Below W.heap.size W w' ∧ a' = ⟨[q0, q1, q2, q3, q4, q5, q6, q7, .pointer (some ⟨b8, 0, none⟩), .pointer (some ⟨b9, 0, none⟩), .pointer (some ⟨b10, 0, none⟩), q11, q12, q13, q14, q15, q16, q17, q18, q19, q20, q21, q22, q23, q24, q25, q26, q27, q28, q29, q30, q31, q32, q33, q34, q35, q36, q37, q38, q39, q40, q41, q42, q43, q44, q45, q46, .agg #[a8, f8], .agg #[a9, f9], .bool true, .agg #[a9, f9], .agg #[a8, f8], .bool true, .bool false, .bool false, .agg #[a8, f8], .agg #[a9, f9], .bool true, .bool true, .agg #[a9, f9], .agg #[a10, f10], .bool false, .bool false, .bool false, undef, undef, undef, undef, .bool false, .bool false, q70, q71, q72, q73, q74, q75, q76, q77, q78, q79, q80, q81, q82, q83, q84, q85, q86, q87, q88, q89, q90, q91, q92, q93].toArray, []⟩
theorem ts_reg10B (b8 : Nat) (a8 f8 : Value) (b9 : Nat) (a9 f9 : Value) (b10 : Nat) (a10 f10 : Value) (W : World) (hb8 : OwnAt W b8 [a8, f8] 27) (hb9 : OwnAt W b9 [a9, f9] 27) (hb10 : OwnAt W b10 [a10, f10] 27) (c8_9 : SameCalls W (.agg #[a8, f8]) (.agg #[a9, f9]) true) (c9_8 : SameCalls W (.agg #[a9, f9]) (.agg #[a8, f8]) true) (c9_10 : SameCalls W (.agg #[a9, f9]) (.agg #[a10, f10]) false)  (q0 q1 q2 q3 q4 q5 q6 q7 q11 q12 q13 q14 q15 q16 q17 q18 q19 q20 q21 q22 q23 q24 q25 q26 q27 q28 q29 q30 q31 q32 q33 q34 q35 q36 q37 q38 q39 q40 q41 q42 q43 q44 q45 q46 q47 q48 q49 q50 q51 q52 q53 q54 q55 q56 q57 q58 q59 q60 q61 q62 q63 q64 q65 q66 q67 q68 q69 q70 q71 q72 q73 q74 q75 q76 q77 q78 q79 q80 q81 q82 q83 q84 q85 q86 q87 q88 q89 q90 q91 q92 q93 : Value) (J K' : Act → World → Prop) (hJ : ∀ a' w', R10B b8 a8 f8 b9 a9 f9 b10 a10 f10 W q0 q1 q2 q3 q4 q5 q6 q7 q11 q12 q13 q14 q15 q16 q17 q18 q19 q20 q21 q22 q23 q24 q25 q26 q27 q28 q29 q30 q31 q32 q33 q34 q35 q36 q37 q38 q39 q40 q41 q42 q43 q44 q45 q46 q70 q71 q72 q73 q74 q75 q76 q77 q78 q79 q80 q81 q82 q83 q84 q85 q86 q87 q88 q89 q90 q91 q92 q93 a' w' → J a' w') (hM : ∀ a' w', Met J a' w' → K' a' w') :
    Code.wp Tryz.prog (tsReg 10) (Exit.then K' (fun _ _ _ => False)) ⟨[q0, q1, q2, q3, q4, q5, q6, q7, .pointer (some ⟨b8, 0, none⟩), .pointer (some ⟨b9, 0, none⟩), .pointer (some ⟨b10, 0, none⟩), q11, q12, q13, q14, q15, q16, q17, q18, q19, q20, q21, q22, q23, q24, q25, q26, q27, q28, q29, q30, q31, q32, q33, q34, q35, q36, q37, q38, q39, q40, q41, q42, q43, q44, q45, q46, q47, q48, q49, q50, q51, q52, q53, q54, q55, q56, q57, q58, q59, q60, q61, q62, q63, q64, q65, q66, q67, q68, q69, q70, q71, q72, q73, q74, q75, q76, q77, q78, q79, q80, q81, q82, q83, q84, q85, q86, q87, q88, q89, q90, q91, q92, q93].toArray, []⟩ W := by
  conv => arg 2; whnf
  dsimp only
  refine region_by (by kernel_rfl) (by kernel_rfl) (I10B b8 a8 f8 b9 a9 f9 b10 a10 f10 W q0 q1 q2 q3 q4 q5 q6 q7 q11 q12 q13 q14 q15 q16 q17 q18 q19 q20 q21 q22 q23 q24 q25 q26 q27 q28 q29 q30 q31 q32 q33 q34 q35 q36 q37 q38 q39 q40 q41 q42 q43 q44 q45 q46 q70 q71 q72 q73 q74 q75 q76 q77 q78 q79 q80 q81 q82 q83 q84 q85 q86 q87 q88 q89 q90 q91 q92 q93) ?_ ?_ ?_
  · exact ⟨q47, q48, q49, q50, q51, q52, q53, q54, q55, q56, q57, q58, q59, q60, q61, q62, q63, q64, q65, q66, q67, q68, q69, (Below.refl _ _).drew, fun j h => (by cases h), rfl⟩
  · intro L act wx k hI hk hl hd
    obtain ⟨z47, z48, z49, z50, z51, z52, z53, z54, z55, z56, z57, z58, z59, z60, z61, z62, z63, z64, z65, z66, z67, z68, z69, hB, hV, rfl⟩ := hI
    have hk : k = 0 ∨ k = 1 ∨ k = 2 ∨ k = 3 ∨ k = 4 ∨ k = 5 ∨ k = 6 ∨ k = 7 ∨ k = 8 ∨ k = 9 ∨ k = 10 ∨ k = 11 ∨ k = 12 ∨ k = 13 ∨ k = 14 ∨ k = 15 ∨ k = 16 ∨ k = 17 ∨ k = 18 ∨ k = 19 ∨ k = 20 ∨ k = 21 ∨ k = 22 := by
      have : k < 23 := hk
      omega
    rcases hk with rfl | rfl | rfl | rfl | rfl | rfl | rfl | rfl | rfl | rfl | rfl | rfl | rfl | rfl | rfl | rfl | rfl | rfl | rfl | rfl | rfl | rfl | rfl
    · have ho := hb8.old hB
      have x0 := ho.at 0 _ rfl
      have x1 := ho.at 1 _ rfl
      have hlt := ho.lt
      refine op_at _ rfl rfl (fun K' hK => ?_)
      conv => arg 2; whnf
      go_wp2_with fail
      exact ⟨.agg #[a8, f8], z48, z49, z50, z51, z52, z53, z54, z55, z56, z57, z58, z59, z60, z61, z62, z63, z64, z65, z66, z67, z68, z69, hB, upd_vals (i := 0) (v := .agg #[a8, f8]) hV (by simp) rfl, rfl⟩
    · have ho := hb9.old hB
      have x0 := ho.at 0 _ rfl
      have x1 := ho.at 1 _ rfl
      have hlt := ho.lt
      refine op_at _ rfl rfl (fun K' hK => ?_)
      conv => arg 2; whnf
      go_wp2_with fail
      exact ⟨z47, .agg #[a9, f9], z49, z50, z51, z52, z53, z54, z55, z56, z57, z58, z59, z60, z61, z62, z63, z64, z65, z66, z67, z68, z69, hB, upd_vals (i := 1) (v := .agg #[a9, f9]) hV (by simp) rfl, rfl⟩
    · have d0 : L 0 = true := hd _ rfl ⟨0, .data⟩ (by simp) rfl
      obtain rfl : z47 = .agg #[a8, f8] := val_at hV d0 rfl rfl
      have d1 : L 1 = true := hd _ rfl ⟨1, .data⟩ (by simp) rfl
      obtain rfl : z48 = .agg #[a9, f9] := val_at hV d1 rfl rfl
      refine op_at _ rfl rfl (fun K' hK => ?_)
      conv => arg 2; whnf
      go_wp2_with fail
      refine (c8_9 wx hB).mono ?_
      rintro r w2 ⟨rfl, hb2⟩
      go_wp2_with fail
      exact ⟨.agg #[a8, f8], .agg #[a9, f9], .bool true, z50, z51, z52, z53, z54, z55, z56, z57, z58, z59, z60, z61, z62, z63, z64, z65, z66, z67, z68, z69, (hB.trans (hb2.mono hB.size)), upd_vals (i := 2) (v := .bool true) hV (by simp) rfl, rfl⟩
    · have ho := hb9.old hB
      have x0 := ho.at 0 _ rfl
      have x1 := ho.at 1 _ rfl
      have hlt := ho.lt
      refine op_at _ rfl rfl (fun K' hK => ?_)
      conv => arg 2; whnf
      go_wp2_with fail
      exact ⟨z47, z48, z49, .agg #[a9, f9], z51, z52, z53, z54, z55, z56, z57, z58, z59, z60, z61, z62, z63, z64, z65, z66, z67, z68, z69, hB, upd_vals (i := 3) (v := .agg #[a9, f9]) hV (by simp) rfl, rfl⟩
    · have ho := hb8.old hB
      have x0 := ho.at 0 _ rfl
      have x1 := ho.at 1 _ rfl
      have hlt := ho.lt
      refine op_at _ rfl rfl (fun K' hK => ?_)
      conv => arg 2; whnf
      go_wp2_with fail
      exact ⟨z47, z48, z49, z50, .agg #[a8, f8], z52, z53, z54, z55, z56, z57, z58, z59, z60, z61, z62, z63, z64, z65, z66, z67, z68, z69, hB, upd_vals (i := 4) (v := .agg #[a8, f8]) hV (by simp) rfl, rfl⟩
    · have d3 : L 3 = true := hd _ rfl ⟨3, .data⟩ (by simp) rfl
      obtain rfl : z50 = .agg #[a9, f9] := val_at hV d3 rfl rfl
      have d4 : L 4 = true := hd _ rfl ⟨4, .data⟩ (by simp) rfl
      obtain rfl : z51 = .agg #[a8, f8] := val_at hV d4 rfl rfl
      refine op_at _ rfl rfl (fun K' hK => ?_)
      conv => arg 2; whnf
      go_wp2_with fail
      refine (c9_8 wx hB).mono ?_
      rintro r w2 ⟨rfl, hb2⟩
      go_wp2_with fail
      exact ⟨z47, z48, z49, .agg #[a9, f9], .agg #[a8, f8], .bool true, z53, z54, z55, z56, z57, z58, z59, z60, z61, z62, z63, z64, z65, z66, z67, z68, z69, (hB.trans (hb2.mono hB.size)), upd_vals (i := 5) (v := .bool true) hV (by simp) rfl, rfl⟩
    · have d2 : L 2 = true := hd _ rfl ⟨2, .data⟩ (by simp) rfl
      obtain rfl : z49 = .bool true := val_at hV d2 rfl rfl
      have d5 : L 5 = true := hd _ rfl ⟨5, .data⟩ (by simp) rfl
      obtain rfl : z52 = .bool true := val_at hV d5 rfl rfl
      refine op_at _ rfl rfl (fun K' hK => ?_)
      conv => arg 2; whnf
      go_wp2_with fail
      exact ⟨z47, z48, .bool true, z50, z51, .bool true, .bool false, z54, z55, z56, z57, z58, z59, z60, z61, z62, z63, z64, z65, z66, z67, z68, z69, hB, upd_vals (i := 6) (v := .bool false) hV (by simp) rfl, rfl⟩
    · have d6 : L 6 = true := hd _ rfl ⟨6, .data⟩ (by simp) rfl
      obtain rfl : z53 = .bool false := val_at hV d6 rfl rfl
      refine op_at _ rfl rfl (fun K' hK => ?_)
      conv => arg 2; whnf
      go_wp2_with fail
      exact ⟨z47, z48, z49, z50, z51, z52, .bool false, .bool false, z55, z56, z57, z58, z59, z60, z61, z62, z63, z64, z65, z66, z67, z68, z69, hB, upd_vals (i := 7) (v := .bool false) hV (by simp) rfl, rfl⟩
    · have d7 : L 7 = true := hd _ rfl ⟨7, .guard⟩ (by simp) rfl
      obtain rfl : z54 = .bool false := val_at hV d7 rfl rfl
      have ho := hb8.old hB
      have x0 := ho.at 0 _ rfl
      have x1 := ho.at 1 _ rfl
      have hlt := ho.lt
      refine op_take _ rfl rfl (fun K' hK => ?_)
      conv => arg 2; whnf
      go_wp2_with fail
      exact ⟨z47, z48, z49, z50, z51, z52, z53, .bool false, .agg #[a8, f8], z56, z57, z58, z59, z60, z61, z62, z63, z64, z65, z66, z67, z68, z69, hB, upd_vals (i := 8) (v := .agg #[a8, f8]) hV (by simp) rfl, rfl⟩
    · have d7 : L 7 = true := hd _ rfl ⟨7, .guard⟩ (by simp) rfl
      obtain rfl : z54 = .bool false := val_at hV d7 rfl rfl
      have ho := hb9.old hB
      have x0 := ho.at 0 _ rfl
      have x1 := ho.at 1 _ rfl
      have hlt := ho.lt
      refine op_take _ rfl rfl (fun K' hK => ?_)
      conv => arg 2; whnf
      go_wp2_with fail
      exact ⟨z47, z48, z49, z50, z51, z52, z53, .bool false, z55, .agg #[a9, f9], z57, z58, z59, z60, z61, z62, z63, z64, z65, z66, z67, z68, z69, hB, upd_vals (i := 9) (v := .agg #[a9, f9]) hV (by simp) rfl, rfl⟩
    · have d8 : L 8 = true := hd _ rfl ⟨8, .data⟩ (by simp) rfl
      obtain rfl : z55 = .agg #[a8, f8] := val_at hV d8 rfl rfl
      have d9 : L 9 = true := hd _ rfl ⟨9, .data⟩ (by simp) rfl
      obtain rfl : z56 = .agg #[a9, f9] := val_at hV d9 rfl rfl
      have d7 : L 7 = true := hd _ rfl ⟨7, .guard⟩ (by simp) rfl
      obtain rfl : z54 = .bool false := val_at hV d7 rfl rfl
      refine op_take _ rfl rfl (fun K' hK => ?_)
      conv => arg 2; whnf
      go_wp2_with fail
      refine (c8_9 wx hB).mono ?_
      rintro r w2 ⟨rfl, hb2⟩
      go_wp2_with fail
      exact ⟨z47, z48, z49, z50, z51, z52, z53, .bool false, .agg #[a8, f8], .agg #[a9, f9], .bool true, z58, z59, z60, z61, z62, z63, z64, z65, z66, z67, z68, z69, (hB.trans (hb2.mono hB.size)), upd_vals (i := 10) (v := .bool true) hV (by simp) rfl, rfl⟩
    · have d10 : L 10 = true := hd _ rfl ⟨10, .data⟩ (by simp) rfl
      obtain rfl : z57 = .bool true := val_at hV d10 rfl rfl
      have d7 : L 7 = true := hd _ rfl ⟨7, .guard⟩ (by simp) rfl
      obtain rfl : z54 = .bool false := val_at hV d7 rfl rfl
      refine op_take _ rfl rfl (fun K' hK => ?_)
      conv => arg 2; whnf
      go_wp2_with fail
      exact ⟨z47, z48, z49, z50, z51, z52, z53, .bool false, z55, z56, .bool true, .bool true, z59, z60, z61, z62, z63, z64, z65, z66, z67, z68, z69, hB, upd_vals (i := 11) (v := .bool true) hV (by simp) rfl, rfl⟩
    · have d11 : L 11 = true := hd _ rfl ⟨11, .guard⟩ (by simp) rfl
      obtain rfl : z58 = .bool true := val_at hV d11 rfl rfl
      have ho := hb9.old hB
      have x0 := ho.at 0 _ rfl
      have x1 := ho.at 1 _ rfl
      have hlt := ho.lt
      refine op_take _ rfl rfl (fun K' hK => ?_)
      conv => arg 2; whnf
      go_wp2_with fail
      exact ⟨z47, z48, z49, z50, z51, z52, z53, z54, z55, z56, z57, .bool true, .agg #[a9, f9], z60, z61, z62, z63, z64, z65, z66, z67, z68, z69, hB, upd_vals (i := 12) (v := .agg #[a9, f9]) hV (by simp) rfl, rfl⟩
    · have d11 : L 11 = true := hd _ rfl ⟨11, .guard⟩ (by simp) rfl
      obtain rfl : z58 = .bool true := val_at hV d11 rfl rfl
      have ho := hb10.old hB
      have x0 := ho.at 0 _ rfl
      have x1 := ho.at 1 _ rfl
      have hlt := ho.lt
      refine op_take _ rfl rfl (fun K' hK => ?_)
      conv => arg 2; whnf
      go_wp2_with fail
      exact ⟨z47, z48, z49, z50, z51, z52, z53, z54, z55, z56, z57, .bool true, z59, .agg #[a10, f10], z61, z62, z63, z64, z65, z66, z67, z68, z69, hB, upd_vals (i := 13) (v := .agg #[a10, f10]) hV (by simp) rfl, rfl⟩
    · have d12 : L 12 = true := hd _ rfl ⟨12, .data⟩ (by simp) rfl
      obtain rfl : z59 = .agg #[a9, f9] := val_at hV d12 rfl rfl
      have d13 : L 13 = true := hd _ rfl ⟨13, .data⟩ (by simp) rfl
      obtain rfl : z60 = .agg #[a10, f10] := val_at hV d13 rfl rfl
      have d11 : L 11 = true := hd _ rfl ⟨11, .guard⟩ (by simp) rfl
      obtain rfl : z58 = .bool true := val_at hV d11 rfl rfl
      refine op_take _ rfl rfl (fun K' hK => ?_)
      conv => arg 2; whnf
      go_wp2_with fail
      refine (c9_10 wx hB).mono ?_
      rintro r w2 ⟨rfl, hb2⟩
      go_wp2_with fail
      exact ⟨z47, z48, z49, z50, z51, z52, z53, z54, z55, z56, z57, .bool true, .agg #[a9, f9], .agg #[a10, f10], .bool false, z62, z63, z64, z65, z66, z67, z68, z69, (hB.trans (hb2.mono hB.size)), upd_vals (i := 14) (v := .bool false) hV (by simp) rfl, rfl⟩
    · have d11 : L 11 = true := hd _ rfl ⟨11, .data⟩ (by simp) rfl
      obtain rfl : z58 = .bool true := val_at hV d11 rfl rfl
      have d14 : L 14 = true := hd _ rfl ⟨14, .data⟩ (by simp) rfl
      obtain rfl : z61 = .bool false := val_at hV d14 rfl rfl
      have d7 : L 7 = true := hd _ rfl ⟨7, .guard⟩ (by simp) rfl
      obtain rfl : z54 = .bool false := val_at hV d7 rfl rfl
      refine op_take _ rfl rfl (fun K' hK => ?_)
      conv => arg 2; whnf
      go_wp2_with fail
      exact ⟨z47, z48, z49, z50, z51, z52, z53, .bool false, z55, z56, z57, .bool true, z59, z60, .bool false, .bool false, z63, z64, z65, z66, z67, z68, z69, hB, upd_vals (i := 15) (v := .bool false) hV (by simp) rfl, rfl⟩
    · have d15 : L 15 = true := hd _ rfl ⟨15, .data⟩ (by simp) rfl
      obtain rfl : z62 = .bool false := val_at hV d15 rfl rfl
      have d7 : L 7 = true := hd _ rfl ⟨7, .guard⟩ (by simp) rfl
      obtain rfl : z54 = .bool false := val_at hV d7 rfl rfl
      refine op_take _ rfl rfl (fun K' hK => ?_)
      conv => arg 2; whnf
      go_wp2_with fail
      exact ⟨z47, z48, z49, z50, z51, z52, z53, .bool false, z55, z56, z57, z58, z59, z60, z61, .bool false, .bool false, z64, z65, z66, z67, z68, z69, hB, upd_vals (i := 16) (v := .bool false) hV (by simp) rfl, rfl⟩
    · have d16 : L 16 = true := hd _ rfl ⟨16, .guard⟩ (by simp) rfl
      obtain rfl : z63 = .bool false := val_at hV d16 rfl rfl
      refine op_skip _ rfl rfl ?_
      exact ⟨z47, z48, z49, z50, z51, z52, z53, z54, z55, z56, z57, z58, z59, z60, z61, z62, .bool false, undef, z65, z66, z67, z68, z69, hB, upd_vals (i := 17) (v := undef) hV (by simp) rfl, rfl⟩
    · have d16 : L 16 = true := hd _ rfl ⟨16, .guard⟩ (by simp) rfl
      obtain rfl : z63 = .bool false := val_at hV d16 rfl rfl
      refine op_skip _ rfl rfl ?_
      exact ⟨z47, z48, z49, z50, z51, z52, z53, z54, z55, z56, z57, z58, z59, z60, z61, z62, .bool false, z64, undef, z66, z67, z68, z69, hB, upd_vals (i := 18) (v := undef) hV (by simp) rfl, rfl⟩
    · have d16 : L 16 = true := hd _ rfl ⟨16, .guard⟩ (by simp) rfl
      obtain rfl : z63 = .bool false := val_at hV d16 rfl rfl
      refine op_skip _ rfl rfl ?_
      exact ⟨z47, z48, z49, z50, z51, z52, z53, z54, z55, z56, z57, z58, z59, z60, z61, z62, .bool false, z64, z65, undef, z67, z68, z69, hB, upd_vals (i := 19) (v := undef) hV (by simp) rfl, rfl⟩
    · have d16 : L 16 = true := hd _ rfl ⟨16, .guard⟩ (by simp) rfl
      obtain rfl : z63 = .bool false := val_at hV d16 rfl rfl
      refine op_skip _ rfl rfl ?_
      exact ⟨z47, z48, z49, z50, z51, z52, z53, z54, z55, z56, z57, z58, z59, z60, z61, z62, .bool false, z64, z65, z66, undef, z68, z69, hB, upd_vals (i := 20) (v := undef) hV (by simp) rfl, rfl⟩
    · have d16 : L 16 = true := hd _ rfl ⟨16, .data⟩ (by simp) rfl
      obtain rfl : z63 = .bool false := val_at hV d16 rfl rfl
      have d20 : L 20 = true := hd _ rfl ⟨20, .data⟩ (by simp) rfl
      obtain rfl : z67 = undef := val_at hV d20 rfl rfl
      have d7 : L 7 = true := hd _ rfl ⟨7, .guard⟩ (by simp) rfl
      obtain rfl : z54 = .bool false := val_at hV d7 rfl rfl
      refine op_take _ rfl rfl (fun K' hK => ?_)
      conv => arg 2; whnf
      go_wp2_with fail
      exact ⟨z47, z48, z49, z50, z51, z52, z53, .bool false, z55, z56, z57, z58, z59, z60, z61, z62, .bool false, z64, z65, z66, undef, .bool false, z69, hB, upd_vals (i := 21) (v := .bool false) hV (by simp) rfl, rfl⟩
    · have d7 : L 7 = true := hd _ rfl ⟨7, .data⟩ (by simp) rfl
      obtain rfl : z54 = .bool false := val_at hV d7 rfl rfl
      have d21 : L 21 = true := hd _ rfl ⟨21, .data⟩ (by simp) rfl
      obtain rfl : z68 = .bool false := val_at hV d21 rfl rfl
      refine op_at _ rfl rfl (fun K' hK => ?_)
      conv => arg 2; whnf
      go_wp2_with fail
      exact ⟨z47, z48, z49, z50, z51, z52, z53, .bool false, z55, z56, z57, z58, z59, z60, z61, z62, z63, z64, z65, z66, z67, .bool false, .bool false, hB, upd_vals (i := 22) (v := .bool false) hV (by simp) rfl, rfl⟩
  · intro L act wx hI hall
    obtain ⟨z47, z48, z49, z50, z51, z52, z53, z54, z55, z56, z57, z58, z59, z60, z61, z62, z63, z64, z65, z66, z67, z68, z69, hB, hV, rfl⟩ := hI
    obtain rfl : z47 = .agg #[a8, f8] := val_at hV (hall 0 (by decide)) rfl rfl
    obtain rfl : z48 = .agg #[a9, f9] := val_at hV (hall 1 (by decide)) rfl rfl
    obtain rfl : z49 = .bool true := val_at hV (hall 2 (by decide)) rfl rfl
    obtain rfl : z50 = .agg #[a9, f9] := val_at hV (hall 3 (by decide)) rfl rfl
    obtain rfl : z51 = .agg #[a8, f8] := val_at hV (hall 4 (by decide)) rfl rfl
    obtain rfl : z52 = .bool true := val_at hV (hall 5 (by decide)) rfl rfl
    obtain rfl : z53 = .bool false := val_at hV (hall 6 (by decide)) rfl rfl
    obtain rfl : z54 = .bool false := val_at hV (hall 7 (by decide)) rfl rfl
    obtain rfl : z55 = .agg #[a8, f8] := val_at hV (hall 8 (by decide)) rfl rfl
    obtain rfl : z56 = .agg #[a9, f9] := val_at hV (hall 9 (by decide)) rfl rfl
    obtain rfl : z57 = .bool true := val_at hV (hall 10 (by decide)) rfl rfl
    obtain rfl : z58 = .bool true := val_at hV (hall 11 (by decide)) rfl rfl
    obtain rfl : z59 = .agg #[a9, f9] := val_at hV (hall 12 (by decide)) rfl rfl
    obtain rfl : z60 = .agg #[a10, f10] := val_at hV (hall 13 (by decide)) rfl rfl
    obtain rfl : z61 = .bool false := val_at hV (hall 14 (by decide)) rfl rfl
    obtain rfl : z62 = .bool false := val_at hV (hall 15 (by decide)) rfl rfl
    obtain rfl : z63 = .bool false := val_at hV (hall 16 (by decide)) rfl rfl
    obtain rfl : z64 = undef := val_at hV (hall 17 (by decide)) rfl rfl
    obtain rfl : z65 = undef := val_at hV (hall 18 (by decide)) rfl rfl
    obtain rfl : z66 = undef := val_at hV (hall 19 (by decide)) rfl rfl
    obtain rfl : z67 = undef := val_at hV (hall 20 (by decide)) rfl rfl
    obtain rfl : z68 = .bool false := val_at hV (hall 21 (by decide)) rfl rfl
    obtain rfl : z69 = .bool false := val_at hV (hall 22 (by decide)) rfl rfl
    exact hM _ _ (Met.intro (hJ _ _ ⟨hB, rfl⟩))
def vs10C  (b8 : Nat) (a8 f8 : Value) (b9 : Nat) (a9 f9 : Value) (b10 : Nat) (a10 f10 : Value) : List Value := [.agg #[a8, f8], .agg #[a9, f9], .bool true, .agg #[a9, f9], .agg #[a8, f8], .bool true, .bool false, .bool false, .agg #[a8, f8], .agg #[a9, f9], .bool true, .bool true, .agg #[a9, f9], .agg #[a10, f10], .bool true, .bool true, .bool true, .agg #[a8, f8], .agg #[a10, f10], .bool true, .bool false, .bool false, .bool false]
def I10C (b8 : Nat) (a8 f8 : Value) (b9 : Nat) (a9 f9 : Value) (b10 : Nat) (a10 f10 : Value) (W : World) (q0 q1 q2 q3 q4 q5 q6 q7 q11 q12 q13 q14 q15 q16 q17 q18 q19 q20 q21 q22 q23 q24 q25 q26 q27 q28 q29 q30 q31 q32 q33 q34 q35 q36 q37 q38 q39 q40 q41 q42 q43 q44 q45 q46 q70 q71 q72 q73 q74 q75 q76 q77 q78 q79 q80 q81 q82 q83 q84 q85 q86 q87 q88 q89 q90 q91 q92 q93 : Value) (L : Nat → Bool) (a' : Act) (w' : World) : Prop :=
  ∃ z47 z48 z49 z50 z51 z52 z53 z54 z55 z56 z57 z58 z59 z60 z61 z62 z63 z64 z65 z66 z67 z68 z69 : Value, Below W.heap.size W w' ∧ (∀ j, L j = true → [z47, z48, z49, z50, z51, z52, z53, z54, z55, z56, z57, z58, z59, z60, z61, z62, z63, z64, z65, z66, z67, z68, z69][j]? = (vs10C b8 a8 f8 b9 a9 f9 b10 a10 f10)[j]?) ∧ a' = ⟨[q0, q1, q2, q3, q4, q5, q6, q7, .pointer (some ⟨b8, 0, none⟩), .pointer (some ⟨b9, 0, none⟩), .pointer (some ⟨b10, 0, none⟩), q11, q12, q13, q14, q15, q16, q17, q18, q19, q20, q21, q22, q23, q24, q25, q26, q27, q28, q29, q30, q31, q32, q33, q34, q35, q36, q37, q38, q39, q40, q41, q42, q43, q44, q45, q46, z47, z48, z49, z50, z51, z52, z53, z54, z55, z56, z57, z58, z59, z60, z61, z62, z63, z64, z65, z66, z67, z68, z69, q70, q71, q72, q73, q74, q75, q76, q77, q78, q79, q80, q81, q82, q83, q84, q85, q86, q87, q88, q89, q90, q91, q92, q93].toArray, []⟩
def R10C (b8 : Nat) (a8 f8 : Value) (b9 : Nat) (a9 f9 : Value) (b10 : Nat) (a10 f10 : Value) (W : World) (q0 q1 q2 q3 q4 q5 q6 q7 q11 q12 q13 q14 q15 q16 q17 q18 q19 q20 q21 q22 q23 q24 q25 q26 q27 q28 q29 q30 q31 q32 q33 q34 q35 q36 q37 q38 q39 q40 q41 q42 q43 q44 q45 q46 q70 q71 q72 q73 q74 q75 q76 q77 q78 q79 q80 q81 q82 q83 q84 q85 q86 q87 q88 q89 q90 q91 q92 q93 : Value) (a' : Act) (w' : World) : Prop := Below W.heap.size W w' ∧ a' = ⟨[q0, q1, q2, q3, q4, q5, q6, q7, .pointer (some ⟨b8, 0, none⟩), .pointer (some ⟨b9, 0, none⟩), .pointer (some ⟨b10, 0, none⟩), q11, q12, q13, q14, q15, q16, q17, q18, q19, q20, q21, q22, q23, q24, q25, q26, q27, q28, q29, q30, q31, q32, q33, q34, q35, q36, q37, q38, q39, q40, q41, q42, q43, q44, q45, q46, .agg #[a8, f8], .agg #[a9, f9], .bool true, .agg #[a9, f9], .agg #[a8, f8], .bool true, .bool false, .bool false, .agg #[a8, f8], .agg #[a9, f9], .bool true, .bool true, .agg #[a9, f9], .agg #[a10, f10], .bool true, .bool true, .bool true, .agg #[a8, f8], .agg #[a10, f10], .bool true, .bool false, .bool false, .bool false, q70, q71, q72, q73, q74, q75, q76, q77, q78, q79, q80, q81, q82, q83, q84, q85, q86, q87, q88, q89, q90, q91, q92, q93].toArray, []⟩
theorem ts_reg10C (b8 : Nat) (a8 f8 : Value) (b9 : Nat) (a9 f9 : Value) (b10 : Nat) (a10 f10 : Value) (W : World) (hb8 : OwnAt W b8 [a8, f8] 27) (hb9 : OwnAt W b9 [a9, f9] 27) (hb10 : OwnAt W b10 [a10, f10] 27) (c8_9 : SameCalls W (.agg #[a8, f8]) (.agg #[a9, f9]) true) (c9_8 : SameCalls W (.agg #[a9, f9]) (.agg #[a8, f8]) true) (c9_10 : SameCalls W (.agg #[a9, f9]) (.agg #[a10, f10]) true) (c8_10 : SameCalls W (.agg #[a8, f8]) (.agg #[a10, f10]) true)  (q0 q1 q2 q3 q4 q5 q6 q7 q11 q12 q13 q14 q15 q16 q17 q18 q19 q20 q21 q22 q23 q24 q25 q26 q27 q28 q29 q30 q31 q32 q33 q34 q35 q36 q37 q38 q39 q40 q41 q42 q43 q44 q45 q46 q47 q48 q49 q50 q51 q52 q53 q54 q55 q56 q57 q58 q59 q60 q61 q62 q63 q64 q65 q66 q67 q68 q69 q70 q71 q72 q73 q74 q75 q76 q77 q78 q79 q80 q81 q82 q83 q84 q85 q86 q87 q88 q89 q90 q91 q92 q93 : Value) (J K' : Act → World → Prop) (hJ : ∀ a' w', R10C b8 a8 f8 b9 a9 f9 b10 a10 f10 W q0 q1 q2 q3 q4 q5 q6 q7 q11 q12 q13 q14 q15 q16 q17 q18 q19 q20 q21 q22 q23 q24 q25 q26 q27 q28 q29 q30 q31 q32 q33 q34 q35 q36 q37 q38 q39 q40 q41 q42 q43 q44 q45 q46 q70 q71 q72 q73 q74 q75 q76 q77 q78 q79 q80 q81 q82 q83 q84 q85 q86 q87 q88 q89 q90 q91 q92 q93 a' w' → J a' w') (hM : ∀ a' w', Met J a' w' → K' a' w') :
    Code.wp Tryz.prog (tsReg 10) (Exit.then K' (fun _ _ _ => False)) ⟨[q0, q1, q2, q3, q4, q5, q6, q7, .pointer (some ⟨b8, 0, none⟩), .pointer (some ⟨b9, 0, none⟩), .pointer (some ⟨b10, 0, none⟩), q11, q12, q13, q14, q15, q16, q17, q18, q19, q20, q21, q22, q23, q24, q25, q26, q27, q28, q29, q30, q31, q32, q33, q34, q35, q36, q37, q38, q39, q40, q41, q42, q43, q44, q45, q46, q47, q48, q49, q50, q51, q52, q53, q54, q55, q56, q57, q58, q59, q60, q61, q62, q63, q64, q65, q66, q67, q68, q69, q70, q71, q72, q73, q74, q75, q76, q77, q78, q79, q80, q81, q82, q83, q84, q85, q86, q87, q88, q89, q90, q91, q92, q93].toArray, []⟩ W := by
  conv => arg 2; whnf
  dsimp only
  refine region_by (by kernel_rfl) (by kernel_rfl) (I10C b8 a8 f8 b9 a9 f9 b10 a10 f10 W q0 q1 q2 q3 q4 q5 q6 q7 q11 q12 q13 q14 q15 q16 q17 q18 q19 q20 q21 q22 q23 q24 q25 q26 q27 q28 q29 q30 q31 q32 q33 q34 q35 q36 q37 q38 q39 q40 q41 q42 q43 q44 q45 q46 q70 q71 q72 q73 q74 q75 q76 q77 q78 q79 q80 q81 q82 q83 q84 q85 q86 q87 q88 q89 q90 q91 q92 q93) ?_ ?_ ?_
  · exact ⟨q47, q48, q49, q50, q51, q52, q53, q54, q55, q56, q57, q58, q59, q60, q61, q62, q63, q64, q65, q66, q67, q68, q69, (Below.refl _ _).drew, fun j h => (by cases h), rfl⟩
  · intro L act wx k hI hk hl hd
    obtain ⟨z47, z48, z49, z50, z51, z52, z53, z54, z55, z56, z57, z58, z59, z60, z61, z62, z63, z64, z65, z66, z67, z68, z69, hB, hV, rfl⟩ := hI
    have hk : k = 0 ∨ k = 1 ∨ k = 2 ∨ k = 3 ∨ k = 4 ∨ k = 5 ∨ k = 6 ∨ k = 7 ∨ k = 8 ∨ k = 9 ∨ k = 10 ∨ k = 11 ∨ k = 12 ∨ k = 13 ∨ k = 14 ∨ k = 15 ∨ k = 16 ∨ k = 17 ∨ k = 18 ∨ k = 19 ∨ k = 20 ∨ k = 21 ∨ k = 22 := by
      have : k < 23 := hk
      omega
    rcases hk with rfl | rfl | rfl | rfl | rfl | rfl | rfl | rfl | rfl | rfl | rfl | rfl | rfl | rfl | rfl | rfl | rfl | rfl | rfl | rfl | rfl | rfl | rfl
    · have ho := hb8.old hB
      have x0 := ho.at 0 _ rfl
      have x1 := ho.at 1 _ rfl
      have hlt := ho.lt
      refine op_at _ rfl rfl (fun K' hK => ?_)
      conv => arg 2; whnf
      go_wp2_with fail
      exact ⟨.agg #[a8, f8], z48, z49, z50, z51, z52, z53, z54, z55, z56, z57, z58, z59, z60, z61, z62, z63, z64, z65, z66, z67, z68, z69, hB, upd_vals (i := 0) (v := .agg #[a8, f8]) hV (by simp) rfl, rfl⟩
    · have ho := hb9.old hB
      have x0 := ho.at 0 _ rfl
      have x1 := ho.at 1 _ rfl
      have hlt := ho.lt
      refine op_at _ rfl rfl (fun K' hK => ?_)
      conv => arg 2; whnf
      go_wp2_with fail
      exact ⟨z47, .agg #[a9, f9], z49, z50, z51, z52, z53, z54, z55, z56, z57, z58, z59, z60, z61, z62, z63, z64, z65, z66, z67, z68, z69, hB, upd_vals (i := 1) (v := .agg #[a9, f9]) hV (by simp) rfl, rfl⟩
    · have d0 : L 0 = true := hd _ rfl ⟨0, .data⟩ (by simp) rfl
      obtain rfl : z47 = .agg #[a8, f8] := val_at hV d0 rfl rfl
      have d1 : L 1 = true := hd _ rfl ⟨1, .data⟩ (by simp) rfl
      obtain rfl : z48 = .agg #[a9, f9] := val_at hV d1 rfl rfl
      refine op_at _ rfl rfl (fun K' hK => ?_)
      conv => arg 2; whnf
      go_wp2_with fail
      refine (c8_9 wx hB).mono ?_
      rintro r w2 ⟨rfl, hb2⟩
      go_wp2_with fail
      exact ⟨.agg #[a8, f8], .agg #[a9, f9], .bool true, z50, z51, z52, z53, z54, z55, z56, z57, z58, z59, z60, z61, z62, z63, z64, z65, z66, z67, z68, z69, (hB.trans (hb2.mono hB.size)), upd_vals (i := 2) (v := .bool true) hV (by simp) rfl, rfl⟩
    · have ho := hb9.old hB
      have x0 := ho.at 0 _ rfl
      have x1 := ho.at 1 _ rfl
      have hlt := ho.lt
      refine op_at _ rfl rfl (fun K' hK => ?_)
      conv => arg 2; whnf
      go_wp2_with fail
      exact ⟨z47, z48, z49, .agg #[a9, f9], z51, z52, z53, z54, z55, z56, z57, z58, z59, z60, z61, z62, z63, z64, z65, z66, z67, z68, z69, hB, upd_vals (i := 3) (v := .agg #[a9, f9]) hV (by simp) rfl, rfl⟩
    · have ho := hb8.old hB
      have x0 := ho.at 0 _ rfl
      have x1 := ho.at 1 _ rfl
      have hlt := ho.lt
      refine op_at _ rfl rfl (fun K' hK => ?_)
      conv => arg 2; whnf
      go_wp2_with fail
      exact ⟨z47, z48, z49, z50, .agg #[a8, f8], z52, z53, z54, z55, z56, z57, z58, z59, z60, z61, z62, z63, z64, z65, z66, z67, z68, z69, hB, upd_vals (i := 4) (v := .agg #[a8, f8]) hV (by simp) rfl, rfl⟩
    · have d3 : L 3 = true := hd _ rfl ⟨3, .data⟩ (by simp) rfl
      obtain rfl : z50 = .agg #[a9, f9] := val_at hV d3 rfl rfl
      have d4 : L 4 = true := hd _ rfl ⟨4, .data⟩ (by simp) rfl
      obtain rfl : z51 = .agg #[a8, f8] := val_at hV d4 rfl rfl
      refine op_at _ rfl rfl (fun K' hK => ?_)
      conv => arg 2; whnf
      go_wp2_with fail
      refine (c9_8 wx hB).mono ?_
      rintro r w2 ⟨rfl, hb2⟩
      go_wp2_with fail
      exact ⟨z47, z48, z49, .agg #[a9, f9], .agg #[a8, f8], .bool true, z53, z54, z55, z56, z57, z58, z59, z60, z61, z62, z63, z64, z65, z66, z67, z68, z69, (hB.trans (hb2.mono hB.size)), upd_vals (i := 5) (v := .bool true) hV (by simp) rfl, rfl⟩
    · have d2 : L 2 = true := hd _ rfl ⟨2, .data⟩ (by simp) rfl
      obtain rfl : z49 = .bool true := val_at hV d2 rfl rfl
      have d5 : L 5 = true := hd _ rfl ⟨5, .data⟩ (by simp) rfl
      obtain rfl : z52 = .bool true := val_at hV d5 rfl rfl
      refine op_at _ rfl rfl (fun K' hK => ?_)
      conv => arg 2; whnf
      go_wp2_with fail
      exact ⟨z47, z48, .bool true, z50, z51, .bool true, .bool false, z54, z55, z56, z57, z58, z59, z60, z61, z62, z63, z64, z65, z66, z67, z68, z69, hB, upd_vals (i := 6) (v := .bool false) hV (by simp) rfl, rfl⟩
    · have d6 : L 6 = true := hd _ rfl ⟨6, .data⟩ (by simp) rfl
      obtain rfl : z53 = .bool false := val_at hV d6 rfl rfl
      refine op_at _ rfl rfl (fun K' hK => ?_)
      conv => arg 2; whnf
      go_wp2_with fail
      exact ⟨z47, z48, z49, z50, z51, z52, .bool false, .bool false, z55, z56, z57, z58, z59, z60, z61, z62, z63, z64, z65, z66, z67, z68, z69, hB, upd_vals (i := 7) (v := .bool false) hV (by simp) rfl, rfl⟩
    · have d7 : L 7 = true := hd _ rfl ⟨7, .guard⟩ (by simp) rfl
      obtain rfl : z54 = .bool false := val_at hV d7 rfl rfl
      have ho := hb8.old hB
      have x0 := ho.at 0 _ rfl
      have x1 := ho.at 1 _ rfl
      have hlt := ho.lt
      refine op_take _ rfl rfl (fun K' hK => ?_)
      conv => arg 2; whnf
      go_wp2_with fail
      exact ⟨z47, z48, z49, z50, z51, z52, z53, .bool false, .agg #[a8, f8], z56, z57, z58, z59, z60, z61, z62, z63, z64, z65, z66, z67, z68, z69, hB, upd_vals (i := 8) (v := .agg #[a8, f8]) hV (by simp) rfl, rfl⟩
    · have d7 : L 7 = true := hd _ rfl ⟨7, .guard⟩ (by simp) rfl
      obtain rfl : z54 = .bool false := val_at hV d7 rfl rfl
      have ho := hb9.old hB
      have x0 := ho.at 0 _ rfl
      have x1 := ho.at 1 _ rfl
      have hlt := ho.lt
      refine op_take _ rfl rfl (fun K' hK => ?_)
      conv => arg 2; whnf
      go_wp2_with fail
      exact ⟨z47, z48, z49, z50, z51, z52, z53, .bool false, z55, .agg #[a9, f9], z57, z58, z59, z60, z61, z62, z63, z64, z65, z66, z67, z68, z69, hB, upd_vals (i := 9) (v := .agg #[a9, f9]) hV (by simp) rfl, rfl⟩
    · have d8 : L 8 = true := hd _ rfl ⟨8, .data⟩ (by simp) rfl
      obtain rfl : z55 = .agg #[a8, f8] := val_at hV d8 rfl rfl
      have d9 : L 9 = true := hd _ rfl ⟨9, .data⟩ (by simp) rfl
      obtain rfl : z56 = .agg #[a9, f9] := val_at hV d9 rfl rfl
      have d7 : L 7 = true := hd _ rfl ⟨7, .guard⟩ (by simp) rfl
      obtain rfl : z54 = .bool false := val_at hV d7 rfl rfl
      refine op_take _ rfl rfl (fun K' hK => ?_)
      conv => arg 2; whnf
      go_wp2_with fail
      refine (c8_9 wx hB).mono ?_
      rintro r w2 ⟨rfl, hb2⟩
      go_wp2_with fail
      exact ⟨z47, z48, z49, z50, z51, z52, z53, .bool false, .agg #[a8, f8], .agg #[a9, f9], .bool true, z58, z59, z60, z61, z62, z63, z64, z65, z66, z67, z68, z69, (hB.trans (hb2.mono hB.size)), upd_vals (i := 10) (v := .bool true) hV (by simp) rfl, rfl⟩
    · have d10 : L 10 = true := hd _ rfl ⟨10, .data⟩ (by simp) rfl
      obtain rfl : z57 = .bool true := val_at hV d10 rfl rfl
      have d7 : L 7 = true := hd _ rfl ⟨7, .guard⟩ (by simp) rfl
      obtain rfl : z54 = .bool false := val_at hV d7 rfl rfl
      refine op_take _ rfl rfl (fun K' hK => ?_)
      conv => arg 2; whnf
      go_wp2_with fail
      exact ⟨z47, z48, z49, z50, z51, z52, z53, .bool false, z55, z56, .bool true, .bool true, z59, z60, z61, z62, z63, z64, z65, z66, z67, z68, z69, hB, upd_vals (i := 11) (v := .bool true) hV (by simp) rfl, rfl⟩
    · have d11 : L 11 = true := hd _ rfl ⟨11, .guard⟩ (by simp) rfl
      obtain rfl : z58 = .bool true := val_at hV d11 rfl rfl
      have ho := hb9.old hB
      have x0 := ho.at 0 _ rfl
      have x1 := ho.at 1 _ rfl
      have hlt := ho.lt
      refine op_take _ rfl rfl (fun K' hK => ?_)
      conv => arg 2; whnf
      go_wp2_with fail
      exact ⟨z47, z48, z49, z50, z51, z52, z53, z54, z55, z56, z57, .bool true, .agg #[a9, f9], z60, z61, z62, z63, z64, z65, z66, z67, z68, z69, hB, upd_vals (i := 12) (v := .agg #[a9, f9]) hV (by simp) rfl, rfl⟩
    · have d11 : L 11 = true := hd _ rfl ⟨11, .guard⟩ (by simp) rfl
      obtain rfl : z58 = .bool true := val_at hV d11 rfl rfl
      have ho := hb10.old hB
      have x0 := ho.at 0 _ rfl
      have x1 := ho.at 1 _ rfl
      have hlt := ho.lt
      refine op_take _ rfl rfl (fun K' hK => ?_)
      conv => arg 2; whnf
      go_wp2_with fail
      exact ⟨z47, z48, z49, z50, z51, z52, z53, z54, z55, z56, z57, .bool true, z59, .agg #[a10, f10], z61, z62, z63, z64, z65, z66, z67, z68, z69, hB, upd_vals (i := 13) (v := .agg #[a10, f10]) hV (by simp) rfl, rfl⟩
    · have d12 : L 12 = true := hd _ rfl ⟨12, .data⟩ (by simp) rfl
      obtain rfl : z59 = .agg #[a9, f9] := val_at hV d12 rfl rfl
      have d13 : L 13 = true := hd _ rfl ⟨13, .data⟩ (by simp) rfl
      obtain rfl : z60 = .agg #[a10, f10] := val_at hV d13 rfl rfl
      have d11 : L 11 = true := hd _ rfl ⟨11, .guard⟩ (by simp) rfl
      obtain rfl : z58 = .bool true := val_at hV d11 rfl rfl
      refine op_take _ rfl rfl (fun K' hK => ?_)
      conv => arg 2; whnf
      go_wp2_with fail
      refine (c9_10 wx hB).mono ?_
      rintro r w2 ⟨rfl, hb2⟩
      go_wp2_with fail
      exact ⟨z47, z48, z49, z50, z51, z52, z53, z54, z55, z56, z57, .bool true, .agg #[a9, f9], .agg #[a10, f10], .bool true, z62, z63, z64, z65, z66, z67, z68, z69, (hB.trans (hb2.mono hB.size)), upd_vals (i := 14) (v := .bool true) hV (by simp) rfl, rfl⟩
    · have d11 : L 11 = true := hd _ rfl ⟨11, .data⟩ (by simp) rfl
      obtain rfl : z58 = .bool true := val_at hV d11 rfl rfl
      have d14 : L 14 = true := hd _ rfl ⟨14, .data⟩ (by simp) rfl
      obtain rfl : z61 = .bool true := val_at hV d14 rfl rfl
      have d7 : L 7 = true := hd _ rfl ⟨7, .guard⟩ (by simp) rfl
      obtain rfl : z54 = .bool false := val_at hV d7 rfl rfl
      refine op_take _ rfl rfl (fun K' hK => ?_)
      conv => arg 2; whnf
      go_wp2_with fail
      exact ⟨z47, z48, z49, z50, z51, z52, z53, .bool false, z55, z56, z57, .bool true, z59, z60, .bool true, .bool true, z63, z64, z65, z66, z67, z68, z69, hB, upd_vals (i := 15) (v := .bool true) hV (by simp) rfl, rfl⟩
    · have d15 : L 15 = true := hd _ rfl ⟨15, .data⟩ (by simp) rfl
      obtain rfl : z62 = .bool true := val_at hV d15 rfl rfl
      have d7 : L 7 = true := hd _ rfl ⟨7, .guard⟩ (by simp) rfl
      obtain rfl : z54 = .bool false := val_at hV d7 rfl rfl
      refine op_take _ rfl rfl (fun K' hK => ?_)
      conv => arg 2; whnf
      go_wp2_with fail
      exact ⟨z47, z48, z49, z50, z51, z52, z53, .bool false, z55, z56, z57, z58, z59, z60, z61, .bool true, .bool true, z64, z65, z66, z67, z68, z69, hB, upd_vals (i := 16) (v := .bool true) hV (by simp) rfl, rfl⟩
    · have d16 : L 16 = true := hd _ rfl ⟨16, .guard⟩ (by simp) rfl
      obtain rfl : z63 = .bool true := val_at hV d16 rfl rfl
      have ho := hb8.old hB
      have x0 := ho.at 0 _ rfl
      have x1 := ho.at 1 _ rfl
      have hlt := ho.lt
      refine op_take _ rfl rfl (fun K' hK => ?_)
      conv => arg 2; whnf
      go_wp2_with fail
      exact ⟨z47, z48, z49, z50, z51, z52, z53, z54, z55, z56, z57, z58, z59, z60, z61, z62, .bool true, .agg #[a8, f8], z65, z66, z67, z68, z69, hB, upd_vals (i := 17) (v := .agg #[a8, f8]) hV (by simp) rfl, rfl⟩
    · have d16 : L 16 = true := hd _ rfl ⟨16, .guard⟩ (by simp) rfl
      obtain rfl : z63 = .bool true := val_at hV d16 rfl rfl
      have ho := hb10.old hB
      have x0 := ho.at 0 _ rfl
      have x1 := ho.at 1 _ rfl
      have hlt := ho.lt
      refine op_take _ rfl rfl (fun K' hK => ?_)
      conv => arg 2; whnf
      go_wp2_with fail
      exact ⟨z47, z48, z49, z50, z51, z52, z53, z54, z55, z56, z57, z58, z59, z60, z61, z62, .bool true, z64, .agg #[a10, f10], z66, z67, z68, z69, hB, upd_vals (i := 18) (v := .agg #[a10, f10]) hV (by simp) rfl, rfl⟩
    · have d17 : L 17 = true := hd _ rfl ⟨17, .data⟩ (by simp) rfl
      obtain rfl : z64 = .agg #[a8, f8] := val_at hV d17 rfl rfl
      have d18 : L 18 = true := hd _ rfl ⟨18, .data⟩ (by simp) rfl
      obtain rfl : z65 = .agg #[a10, f10] := val_at hV d18 rfl rfl
      have d16 : L 16 = true := hd _ rfl ⟨16, .guard⟩ (by simp) rfl
      obtain rfl : z63 = .bool true := val_at hV d16 rfl rfl
      refine op_take _ rfl rfl (fun K' hK => ?_)
      conv => arg 2; whnf
      go_wp2_with fail
      refine (c8_10 wx hB).mono ?_
      rintro r w2 ⟨rfl, hb2⟩
      go_wp2_with fail
      exact ⟨z47, z48, z49, z50, z51, z52, z53, z54, z55, z56, z57, z58, z59, z60, z61, z62, .bool true, .agg #[a8, f8], .agg #[a10, f10], .bool true, z67, z68, z69, (hB.trans (hb2.mono hB.size)), upd_vals (i := 19) (v := .bool true) hV (by simp) rfl, rfl⟩
    · have d19 : L 19 = true := hd _ rfl ⟨19, .data⟩ (by simp) rfl
      obtain rfl : z66 = .bool true := val_at hV d19 rfl rfl
      have d16 : L 16 = true := hd _ rfl ⟨16, .guard⟩ (by simp) rfl
      obtain rfl : z63 = .bool true := val_at hV d16 rfl rfl
      refine op_take _ rfl rfl (fun K' hK => ?_)
      conv => arg 2; whnf
      go_wp2_with fail
      exact ⟨z47, z48, z49, z50, z51, z52, z53, z54, z55, z56, z57, z58, z59, z60, z61, z62, .bool true, z64, z65, .bool true, .bool false, z68, z69, hB, upd_vals (i := 20) (v := .bool false) hV (by simp) rfl, rfl⟩
    · have d16 : L 16 = true := hd _ rfl ⟨16, .data⟩ (by simp) rfl
      obtain rfl : z63 = .bool true := val_at hV d16 rfl rfl
      have d20 : L 20 = true := hd _ rfl ⟨20, .data⟩ (by simp) rfl
      obtain rfl : z67 = .bool false := val_at hV d20 rfl rfl
      have d7 : L 7 = true := hd _ rfl ⟨7, .guard⟩ (by simp) rfl
      obtain rfl : z54 = .bool false := val_at hV d7 rfl rfl
      refine op_take _ rfl rfl (fun K' hK => ?_)
      conv => arg 2; whnf
      go_wp2_with fail
      exact ⟨z47, z48, z49, z50, z51, z52, z53, .bool false, z55, z56, z57, z58, z59, z60, z61, z62, .bool true, z64, z65, z66, .bool false, .bool false, z69, hB, upd_vals (i := 21) (v := .bool false) hV (by simp) rfl, rfl⟩
    · have d7 : L 7 = true := hd _ rfl ⟨7, .data⟩ (by simp) rfl
      obtain rfl : z54 = .bool false := val_at hV d7 rfl rfl
      have d21 : L 21 = true := hd _ rfl ⟨21, .data⟩ (by simp) rfl
      obtain rfl : z68 = .bool false := val_at hV d21 rfl rfl
      refine op_at _ rfl rfl (fun K' hK => ?_)
      conv => arg 2; whnf
      go_wp2_with fail
      exact ⟨z47, z48, z49, z50, z51, z52, z53, .bool false, z55, z56, z57, z58, z59, z60, z61, z62, z63, z64, z65, z66, z67, .bool false, .bool false, hB, upd_vals (i := 22) (v := .bool false) hV (by simp) rfl, rfl⟩
  · intro L act wx hI hall
    obtain ⟨z47, z48, z49, z50, z51, z52, z53, z54, z55, z56, z57, z58, z59, z60, z61, z62, z63, z64, z65, z66, z67, z68, z69, hB, hV, rfl⟩ := hI
    obtain rfl : z47 = .agg #[a8, f8] := val_at hV (hall 0 (by decide)) rfl rfl
    obtain rfl : z48 = .agg #[a9, f9] := val_at hV (hall 1 (by decide)) rfl rfl
    obtain rfl : z49 = .bool true := val_at hV (hall 2 (by decide)) rfl rfl
    obtain rfl : z50 = .agg #[a9, f9] := val_at hV (hall 3 (by decide)) rfl rfl
    obtain rfl : z51 = .agg #[a8, f8] := val_at hV (hall 4 (by decide)) rfl rfl
    obtain rfl : z52 = .bool true := val_at hV (hall 5 (by decide)) rfl rfl
    obtain rfl : z53 = .bool false := val_at hV (hall 6 (by decide)) rfl rfl
    obtain rfl : z54 = .bool false := val_at hV (hall 7 (by decide)) rfl rfl
    obtain rfl : z55 = .agg #[a8, f8] := val_at hV (hall 8 (by decide)) rfl rfl
    obtain rfl : z56 = .agg #[a9, f9] := val_at hV (hall 9 (by decide)) rfl rfl
    obtain rfl : z57 = .bool true := val_at hV (hall 10 (by decide)) rfl rfl
    obtain rfl : z58 = .bool true := val_at hV (hall 11 (by decide)) rfl rfl
    obtain rfl : z59 = .agg #[a9, f9] := val_at hV (hall 12 (by decide)) rfl rfl
    obtain rfl : z60 = .agg #[a10, f10] := val_at hV (hall 13 (by decide)) rfl rfl
    obtain rfl : z61 = .bool true := val_at hV (hall 14 (by decide)) rfl rfl
    obtain rfl : z62 = .bool true := val_at hV (hall 15 (by decide)) rfl rfl
    obtain rfl : z63 = .bool true := val_at hV (hall 16 (by decide)) rfl rfl
    obtain rfl : z64 = .agg #[a8, f8] := val_at hV (hall 17 (by decide)) rfl rfl
    obtain rfl : z65 = .agg #[a10, f10] := val_at hV (hall 18 (by decide)) rfl rfl
    obtain rfl : z66 = .bool true := val_at hV (hall 19 (by decide)) rfl rfl
    obtain rfl : z67 = .bool false := val_at hV (hall 20 (by decide)) rfl rfl
    obtain rfl : z68 = .bool false := val_at hV (hall 21 (by decide)) rfl rfl
    obtain rfl : z69 = .bool false := val_at hV (hall 22 (by decide)) rfl rfl
    exact hM _ _ (Met.intro (hJ _ _ ⟨hB, rfl⟩))
def vs12  (b8 : Nat) (a8 f8 : Value) (b11 : Nat) (a11 f11 : Value) (v0 : Value) (X : Value) : List Value := [.bool true, .bool true, .agg #[a8, f8], .agg #[a11, f11], .bool false, .bool true, .bool true, .bool true, .agg #[a11, f11], .agg #[a8, f8], .bool false, .bool true, .bool true, .bool true, .agg #[a11, f11], .agg #[a11, f11], .bool true, .bool true, .bool true, .agg #[a8, f8], v0, X, .bool true, .bool true, .bool true]
def I12 (b8 : Nat) (a8 f8 : Value) (b11 : Nat) (a11 f11 : Value) (v0 : Value) (G : World → Value → Prop) (W : World) (q1 q2 q3 q4 q5 q9 q10 q12 q13 q14 q15 q16 q17 q18 q19 q20 q21 q22 q23 q24 q25 q26 q27 q28 q29 q30 q31 q32 q33 q34 q35 q36 q37 q38 q39 q40 q41 q42 q43 q44 q45 q46 q47 q48 q49 q50 q51 q52 q53 q54 q55 q56 q57 q58 q59 q60 q61 q62 q63 q64 q65 q66 q67 q68 q69 : Value) (L : Nat → Bool) (a' : Act) (w' : World) : Prop :=
  ∃ z70 z71 z72 z73 z74 z75 z76 z77 z78 z79 z80 z81 z82 z83 z84 z85 z86 z87 z88 z89 z90 z91 z92 z93 z6 X : Value, Below W.heap.size W w' ∧ (∀ j, L j = true → [z70, z71, z72, z73, z74, z75, z76, z77, z78, z79, z80, z81, z82, z83, z84, z85, z86, z87, z88, z89, z90, z91, z92, z93, z6][j]? = (vs12 b8 a8 f8 b11 a11 f11 v0 X)[j]?) ∧ (L 21 = true → G w' X) ∧ a' = ⟨[v0, q1, q2, q3, q4, q5, z6, .bool true, .pointer (some ⟨b8, 0, none⟩), q9, q10, .pointer (some ⟨b11, 0, none⟩), q12, q13, q14, q15, q16, q17, q18, q19, q20, q21, q22, q23, q24, q25, q26, q27, q28, q29, q30, q31, q32, q33, q34, q35, q36, q37, q38, q39, q40, q41, q42, q43, q44, q45, q46, q47, q48, q49, q50, q51, q52, q53, q54, q55, q56, q57, q58, q59, q60, q61, q62, q63, q64, q65, q66, q67, q68, q69, z70, z71, z72, z73, z74, z75, z76, z77, z78, z79, z80, z81, z82, z83, z84, z85, z86, z87, z88, z89, z90, z91, z92, z93].toArray, []⟩
def R12 (b8 : Nat) (a8 f8 : Value) (b11 : Nat) (a11 f11 : Value) (v0 : Value) (W : World) (q1 q2 q3 q4 q5 q9 q10 q12 q13 q14 q15 q16 q17 q18 q19 q20 q21 q22 q23 q24 q25 q26 q27 q28 q29 q30 q31 q32 q33 q34 q35 q36 q37 q38 q39 q40 q41 q42 q43 q44 q45 q46 q47 q48 q49 q50 q51 q52 q53 q54 q55 q56 q57 q58 q59 q60 q61 q62 q63 q64 q65 q66 q67 q68 q69 : Value) (a' : Act) (w' : World) : Prop := ∃ X : Value, Below W.heap.size W w' ∧ a' = ⟨[v0, q1, q2, q3, q4, q5, .bool true, .bool true, .pointer (some ⟨b8, 0, none⟩), q9, q10, .pointer (some ⟨b11, 0, none⟩), q12, q13, q14, q15, q16, q17, q18, q19, q20, q21, q22, q23, q24, q25, q26, q27, q28, q29, q30, q31, q32, q33, q34, q35, q36, q37, q38, q39, q40, q41, q42, q43, q44, q45, q46, q47, q48, q49, q50, q51, q52, q53, q54, q55, q56, q57, q58, q59, q60, q61, q62, q63, q64, q65, q66, q67, q68, q69, .bool true, .bool true, .agg #[a8, f8], .agg #[a11, f11], .bool false, .bool true, .bool true, .bool true, .agg #[a11, f11], .agg #[a8, f8], .bool false, .bool true, .bool true, .bool true, .agg #[a11, f11], .agg #[a11, f11], .bool true, .bool true, .bool true, .agg #[a8, f8], v0, X, .bool true, .bool true].toArray, []⟩
theorem ts_reg12 (b8 : Nat) (a8 f8 : Value) (b11 : Nat) (a11 f11 : Value) (v0 : Value) (G : World → Value → Prop) (W : World) (hb8 : OwnAt W b8 [a8, f8] 27) (hb11 : OwnAt W b11 [a11, f11] 27) (c8_11 : SameCalls W (.agg #[a8, f8]) (.agg #[a11, f11]) false) (c11_8 : SameCalls W (.agg #[a11, f11]) (.agg #[a8, f8]) false) (c11_11 : SameCalls W (.agg #[a11, f11]) (.agg #[a11, f11]) true) (hG : ∀ w1 w2 X, G w1 X → Below w1.heap.size w1 w2 → G w2 X) (cProg : ∀ wx, Below W.heap.size W wx → Calls Tryz.prog 13 #[v0, .bool false] wx fun e w' => ∃ X, e = .returned X ∧ Below wx.heap.size wx w' ∧ G w' X) (cNew : ∀ wx X, Below W.heap.size W wx → G wx X → Calls Tryz.prog 20 #[.agg #[a8, f8], X] wx fun e w' => e = .returned (.bool true) ∧ Below wx.heap.size wx w') (q1 q2 q3 q4 q5 q6 q9 q10 q12 q13 q14 q15 q16 q17 q18 q19 q20 q21 q22 q23 q24 q25 q26 q27 q28 q29 q30 q31 q32 q33 q34 q35 q36 q37 q38 q39 q40 q41 q42 q43 q44 q45 q46 q47 q48 q49 q50 q51 q52 q53 q54 q55 q56 q57 q58 q59 q60 q61 q62 q63 q64 q65 q66 q67 q68 q69 q70 q71 q72 q73 q74 q75 q76 q77 q78 q79 q80 q81 q82 q83 q84 q85 q86 q87 q88 q89 q90 q91 q92 q93 : Value) (J K' : Act → World → Prop) (hJ : ∀ a' w', R12 b8 a8 f8 b11 a11 f11 v0 W q1 q2 q3 q4 q5 q9 q10 q12 q13 q14 q15 q16 q17 q18 q19 q20 q21 q22 q23 q24 q25 q26 q27 q28 q29 q30 q31 q32 q33 q34 q35 q36 q37 q38 q39 q40 q41 q42 q43 q44 q45 q46 q47 q48 q49 q50 q51 q52 q53 q54 q55 q56 q57 q58 q59 q60 q61 q62 q63 q64 q65 q66 q67 q68 q69 a' w' → J a' w') (hM : ∀ a' w', Met J a' w' → K' a' w') :
    Code.wp Tryz.prog (tsReg 12) (Exit.then K' (fun _ _ _ => False)) ⟨[v0, q1, q2, q3, q4, q5, q6, .bool true, .pointer (some ⟨b8, 0, none⟩), q9, q10, .pointer (some ⟨b11, 0, none⟩), q12, q13, q14, q15, q16, q17, q18, q19, q20, q21, q22, q23, q24, q25, q26, q27, q28, q29, q30, q31, q32, q33, q34, q35, q36, q37, q38, q39, q40, q41, q42, q43, q44, q45, q46, q47, q48, q49, q50, q51, q52, q53, q54, q55, q56, q57, q58, q59, q60, q61, q62, q63, q64, q65, q66, q67, q68, q69, q70, q71, q72, q73, q74, q75, q76, q77, q78, q79, q80, q81, q82, q83, q84, q85, q86, q87, q88, q89, q90, q91, q92, q93].toArray, []⟩ W := by
  conv => arg 2; whnf
  dsimp only
  refine region_by (by kernel_rfl) (by kernel_rfl) (I12 b8 a8 f8 b11 a11 f11 v0 G W q1 q2 q3 q4 q5 q9 q10 q12 q13 q14 q15 q16 q17 q18 q19 q20 q21 q22 q23 q24 q25 q26 q27 q28 q29 q30 q31 q32 q33 q34 q35 q36 q37 q38 q39 q40 q41 q42 q43 q44 q45 q46 q47 q48 q49 q50 q51 q52 q53 q54 q55 q56 q57 q58 q59 q60 q61 q62 q63 q64 q65 q66 q67 q68 q69) ?_ ?_ ?_
  · exact ⟨q70, q71, q72, q73, q74, q75, q76, q77, q78, q79, q80, q81, q82, q83, q84, q85, q86, q87, q88, q89, q90, q91, q92, q93, q6, undef, (Below.refl _ _).drew, fun j h => (by cases h), fun h => (by cases h), rfl⟩
  · intro L act wx k hI hk hl hd
    obtain ⟨z70, z71, z72, z73, z74, z75, z76, z77, z78, z79, z80, z81, z82, z83, z84, z85, z86, z87, z88, z89, z90, z91, z92, z93, z6, X, hB, hV, hX, rfl⟩ := hI
    have hk : k = 0 ∨ k = 1 ∨ k = 2 ∨ k = 3 ∨ k = 4 ∨ k = 5 ∨ k = 6 ∨ k = 7 ∨ k = 8 ∨ k = 9 ∨ k = 10 ∨ k = 11 ∨ k = 12 ∨ k = 13 ∨ k = 14 ∨ k = 15 ∨ k = 16 ∨ k = 17 ∨ k = 18 ∨ k = 19 ∨ k = 20 ∨ k = 21 ∨ k = 22 ∨ k = 23 ∨ k = 24 := by
      have : k < 25 := hk
      omega
    rcases hk with rfl | rfl | rfl | rfl | rfl | rfl | rfl | rfl | rfl | rfl | rfl | rfl | rfl | rfl | rfl | rfl | rfl | rfl | rfl | rfl | rfl | rfl | rfl | rfl | rfl
    · refine op_at _ rfl rfl (fun K' hK => ?_)
      conv => arg 2; whnf
      go_wp2_with fail
      exact ⟨.bool true, z71, z72, z73, z74, z75, z76, z77, z78, z79, z80, z81, z82, z83, z84, z85, z86, z87, z88, z89, z90, z91, z92, z93, z6, X, hB, upd_vals (i := 0) (v := .bool true) hV (by simp) rfl, fun h => hX (by rwa [upd_ne L (show 21 ≠ 0 by decide)] at h), rfl⟩
    · have d0 : L 0 = true := hd _ rfl ⟨0, .data⟩ (by simp) rfl
      obtain rfl : z70 = .bool true := val_at hV d0 rfl rfl
      refine op_at _ rfl rfl (fun K' hK => ?_)
      conv => arg 2; whnf
      go_wp2_with fail
      exact ⟨.bool true, .bool true, z72, z73, z74, z75, z76, z77, z78, z79, z80, z81, z82, z83, z84, z85, z86, z87, z88, z89, z90, z91, z92, z93, z6, X, hB, upd_vals (i := 1) (v := .bool true) hV (by simp) rfl, fun h => hX (by rwa [upd_ne L (show 21 ≠ 1 by decide)] at h), rfl⟩
    · have d1 : L 1 = true := hd _ rfl ⟨1, .guard⟩ (by simp) rfl
      obtain rfl : z71 = .bool true := val_at hV d1 rfl rfl
      have ho := hb8.old hB
      have x0 := ho.at 0 _ rfl
      have x1 := ho.at 1 _ rfl
      have hlt := ho.lt
      refine op_take _ rfl rfl (fun K' hK => ?_)
      conv => arg 2; whnf
      go_wp2_with fail
      exact ⟨z70, .bool true, .agg #[a8, f8], z73, z74, z75, z76, z77, z78, z79, z80, z81, z82, z83, z84, z85, z86, z87, z88, z89, z90, z91, z92, z93, z6, X, hB, upd_vals (i := 2) (v := .agg #[a8, f8]) hV (by simp) rfl, fun h => hX (by rwa [upd_ne L (show 21 ≠ 2 by decide)] at h), rfl⟩
    · have d1 : L 1 = true := hd _ rfl ⟨1, .guard⟩ (by simp) rfl
      obtain rfl : z71 = .bool true := val_at hV d1 rfl rfl
      have ho := hb11.old hB
      have x0 := ho.at 0 _ rfl
      have x1 := ho.at 1 _ rfl
      have hlt := ho.lt
      refine op_take _ rfl rfl (fun K' hK => ?_)
      conv => arg 2; whnf
      go_wp2_with fail
      exact ⟨z70, .bool true, z72, .agg #[a11, f11], z74, z75, z76, z77, z78, z79, z80, z81, z82, z83, z84, z85, z86, z87, z88, z89, z90, z91, z92, z93, z6, X, hB, upd_vals (i := 3) (v := .agg #[a11, f11]) hV (by simp) rfl, fun h => hX (by rwa [upd_ne L (show 21 ≠ 3 by decide)] at h), rfl⟩
    · have d2 : L 2 = true := hd _ rfl ⟨2, .data⟩ (by simp) rfl
      obtain rfl : z72 = .agg #[a8, f8] := val_at hV d2 rfl rfl
      have d3 : L 3 = true := hd _ rfl ⟨3, .data⟩ (by simp) rfl
      obtain rfl : z73 = .agg #[a11, f11] := val_at hV d3 rfl rfl
      have d1 : L 1 = true := hd _ rfl ⟨1, .guard⟩ (by simp) rfl
      obtain rfl : z71 = .bool true := val_at hV d1 rfl rfl
      refine op_take _ rfl rfl (fun K' hK => ?_)
      conv => arg 2; whnf
      go_wp2_with fail
      refine (c8_11 wx hB).mono ?_
      rintro r w2 ⟨rfl, hb2⟩
      go_wp2_with fail
      exact ⟨z70, .bool true, .agg #[a8, f8], .agg #[a11, f11], .bool false, z75, z76, z77, z78, z79, z80, z81, z82, z83, z84, z85, z86, z87, z88, z89, z90, z91, z92, z93, z6, X, (hB.trans (hb2.mono hB.size)), upd_vals (i := 4) (v := .bool false) hV (by simp) rfl, fun h => hG _ _ _ (hX (by rwa [upd_ne L (show 21 ≠ 4 by decide)] at h)) hb2, rfl⟩
    · have d4 : L 4 = true := hd _ rfl ⟨4, .data⟩ (by simp) rfl
      obtain rfl : z74 = .bool false := val_at hV d4 rfl rfl
      have d1 : L 1 = true := hd _ rfl ⟨1, .guard⟩ (by simp) rfl
      obtain rfl : z71 = .bool true := val_at hV d1 rfl rfl
      refine op_take _ rfl rfl (fun K' hK => ?_)
      conv => arg 2; whnf
      go_wp2_with fail
      exact ⟨z70, .bool true, z72, z73, .bool false, .bool true, z76, z77, z78, z79, z80, z81, z82, z83, z84, z85, z86, z87, z88, z89, z90, z91, z92, z93, z6, X, hB, upd_vals (i := 5) (v := .bool true) hV (by simp) rfl, fun h => hX (by rwa [upd_ne L (show 21 ≠ 5 by decide)] at h), rfl⟩
    · have d1 : L 1 = true := hd _ rfl ⟨1, .data⟩ (by simp) rfl
      obtain rfl : z71 = .bool true := val_at hV d1 rfl rfl
      have d5 : L 5 = true := hd _ rfl ⟨5, .data⟩ (by simp) rfl
      obtain rfl : z75 = .bool true := val_at hV d5 rfl rfl
      refine op_at _ rfl rfl (fun K' hK => ?_)
      conv => arg 2; whnf
      go_wp2_with fail
      exact ⟨z70, .bool true, z72, z73, z74, .bool true, .bool true, z77, z78, z79, z80, z81, z82, z83, z84, z85, z86, z87, z88, z89, z90, z91, z92, z93, z6, X, hB, upd_vals (i := 6) (v := .bool true) hV (by simp) rfl, fun h => hX (by rwa [upd_ne L (show 21 ≠ 6 by decide)] at h), rfl⟩
    · have d6 : L 6 = true := hd _ rfl ⟨6, .data⟩ (by simp) rfl
      obtain rfl : z76 = .bool true := val_at hV d6 rfl rfl
      refine op_at _ rfl rfl (fun K' hK => ?_)
      conv => arg 2; whnf
      go_wp2_with fail
      exact ⟨z70, z71, z72, z73, z74, z75, .bool true, .bool true, z78, z79, z80, z81, z82, z83, z84, z85, z86, z87, z88, z89, z90, z91, z92, z93, z6, X, hB, upd_vals (i := 7) (v := .bool true) hV (by simp) rfl, fun h => hX (by rwa [upd_ne L (show 21 ≠ 7 by decide)] at h), rfl⟩
    · have d7 : L 7 = true := hd _ rfl ⟨7, .guard⟩ (by simp) rfl
      obtain rfl : z77 = .bool true := val_at hV d7 rfl rfl
      have ho := hb11.old hB
      have x0 := ho.at 0 _ rfl
      have x1 := ho.at 1 _ rfl
      have hlt := ho.lt
      refine op_take _ rfl rfl (fun K' hK => ?_)
      conv => arg 2; whnf
      go_wp2_with fail
      exact ⟨z70, z71, z72, z73, z74, z75, z76, .bool true, .agg #[a11, f11], z79, z80, z81, z82, z83, z84, z85, z86, z87, z88, z89, z90, z91, z92, z93, z6, X, hB, upd_vals (i := 8) (v := .agg #[a11, f11]) hV (by simp) rfl, fun h => hX (by rwa [upd_ne L (show 21 ≠ 8 by decide)] at h), rfl⟩
    · have d7 : L 7 = true := hd _ rfl ⟨7, .guard⟩ (by simp) rfl
      obtain rfl : z77 = .bool true := val_at hV d7 rfl rfl
      have ho := hb8.old hB
      have x0 := ho.at 0 _ rfl
      have x1 := ho.at 1 _ rfl
      have hlt := ho.lt
      refine op_take _ rfl rfl (fun K' hK => ?_)
      conv => arg 2; whnf
      go_wp2_with fail
      exact ⟨z70, z71, z72, z73, z74, z75, z76, .bool true, z78, .agg #[a8, f8], z80, z81, z82, z83, z84, z85, z86, z87, z88, z89, z90, z91, z92, z93, z6, X, hB, upd_vals (i := 9) (v := .agg #[a8, f8]) hV (by simp) rfl, fun h => hX (by rwa [upd_ne L (show 21 ≠ 9 by decide)] at h), rfl⟩
    · have d8 : L 8 = true := hd _ rfl ⟨8, .data⟩ (by simp) rfl
      obtain rfl : z78 = .agg #[a11, f11] := val_at hV d8 rfl rfl
      have d9 : L 9 = true := hd _ rfl ⟨9, .data⟩ (by simp) rfl
      obtain rfl : z79 = .agg #[a8, f8] := val_at hV d9 rfl rfl
      have d7 : L 7 = true := hd _ rfl ⟨7, .guard⟩ (by simp) rfl
      obtain rfl : z77 = .bool true := val_at hV d7 rfl rfl
      refine op_take _ rfl rfl (fun K' hK => ?_)
      conv => arg 2; whnf
      go_wp2_with fail
      refine (c11_8 wx hB).mono ?_
      rintro r w2 ⟨rfl, hb2⟩
      go_wp2_with fail
      exact ⟨z70, z71, z72, z73, z74, z75, z76, .bool true, .agg #[a11, f11], .agg #[a8, f8], .bool false, z81, z82, z83, z84, z85, z86, z87, z88, z89, z90, z91, z92, z93, z6, X, (hB.trans (hb2.mono hB.size)), upd_vals (i := 10) (v := .bool false) hV (by simp) rfl, fun h => hG _ _ _ (hX (by rwa [upd_ne L (show 21 ≠ 10 by decide)] at h)) hb2, rfl⟩
    · have d10 : L 10 = true := hd _ rfl ⟨10, .data⟩ (by simp) rfl
      obtain rfl : z80 = .bool false := val_at hV d10 rfl rfl
      have d7 : L 7 = true := hd _ rfl ⟨7, .guard⟩ (by simp) rfl
      obtain rfl : z77 = .bool true := val_at hV d7 rfl rfl
      refine op_take _ rfl rfl (fun K' hK => ?_)
      conv => arg 2; whnf
      go_wp2_with fail
      exact ⟨z70, z71, z72, z73, z74, z75, z76, .bool true, z78, z79, .bool false, .bool true, z82, z83, z84, z85, z86, z87, z88, z89, z90, z91, z92, z93, z6, X, hB, upd_vals (i := 11) (v := .bool true) hV (by simp) rfl, fun h => hX (by rwa [upd_ne L (show 21 ≠ 11 by decide)] at h), rfl⟩
    · have d7 : L 7 = true := hd _ rfl ⟨7, .data⟩ (by simp) rfl
      obtain rfl : z77 = .bool true := val_at hV d7 rfl rfl
      have d11 : L 11 = true := hd _ rfl ⟨11, .data⟩ (by simp) rfl
      obtain rfl : z81 = .bool true := val_at hV d11 rfl rfl
      refine op_at _ rfl rfl (fun K' hK => ?_)
      conv => arg 2; whnf
      go_wp2_with fail
      exact ⟨z70, z71, z72, z73, z74, z75, z76, .bool true, z78, z79, z80, .bool true, .bool true, z83, z84, z85, z86, z87, z88, z89, z90, z91, z92, z93, z6, X, hB, upd_vals (i := 12) (v := .bool true) hV (by simp) rfl, fun h => hX (by rwa [upd_ne L (show 21 ≠ 12 by decide)] at h), rfl⟩
    · have d12 : L 12 = true := hd _ rfl ⟨12, .data⟩ (by simp) rfl
      obtain rfl : z82 = .bool true := val_at hV d12 rfl rfl
      refine op_at _ rfl rfl (fun K' hK => ?_)
      conv => arg 2; whnf
      go_wp2_with fail
      exact ⟨z70, z71, z72, z73, z74, z75, z76, z77, z78, z79, z80, z81, .bool true, .bool true, z84, z85, z86, z87, z88, z89, z90, z91, z92, z93, z6, X, hB, upd_vals (i := 13) (v := .bool true) hV (by simp) rfl, fun h => hX (by rwa [upd_ne L (show 21 ≠ 13 by decide)] at h), rfl⟩
    · have d13 : L 13 = true := hd _ rfl ⟨13, .guard⟩ (by simp) rfl
      obtain rfl : z83 = .bool true := val_at hV d13 rfl rfl
      have ho := hb11.old hB
      have x0 := ho.at 0 _ rfl
      have x1 := ho.at 1 _ rfl
      have hlt := ho.lt
      refine op_take _ rfl rfl (fun K' hK => ?_)
      conv => arg 2; whnf
      go_wp2_with fail
      exact ⟨z70, z71, z72, z73, z74, z75, z76, z77, z78, z79, z80, z81, z82, .bool true, .agg #[a11, f11], z85, z86, z87, z88, z89, z90, z91, z92, z93, z6, X, hB, upd_vals (i := 14) (v := .agg #[a11, f11]) hV (by simp) rfl, fun h => hX (by rwa [upd_ne L (show 21 ≠ 14 by decide)] at h), rfl⟩
    · have d13 : L 13 = true := hd _ rfl ⟨13, .guard⟩ (by simp) rfl
      obtain rfl : z83 = .bool true := val_at hV d13 rfl rfl
      have ho := hb11.old hB
      have x0 := ho.at 0 _ rfl
      have x1 := ho.at 1 _ rfl
      have hlt := ho.lt
      refine op_take _ rfl rfl (fun K' hK => ?_)
      conv => arg 2; whnf
      go_wp2_with fail
      exact ⟨z70, z71, z72, z73, z74, z75, z76, z77, z78, z79, z80, z81, z82, .bool true, z84, .agg #[a11, f11], z86, z87, z88, z89, z90, z91, z92, z93, z6, X, hB, upd_vals (i := 15) (v := .agg #[a11, f11]) hV (by simp) rfl, fun h => hX (by rwa [upd_ne L (show 21 ≠ 15 by decide)] at h), rfl⟩
    · have d14 : L 14 = true := hd _ rfl ⟨14, .data⟩ (by simp) rfl
      obtain rfl : z84 = .agg #[a11, f11] := val_at hV d14 rfl rfl
      have d15 : L 15 = true := hd _ rfl ⟨15, .data⟩ (by simp) rfl
      obtain rfl : z85 = .agg #[a11, f11] := val_at hV d15 rfl rfl
      have d13 : L 13 = true := hd _ rfl ⟨13, .guard⟩ (by simp) rfl
      obtain rfl : z83 = .bool true := val_at hV d13 rfl rfl
      refine op_take _ rfl rfl (fun K' hK => ?_)
      conv => arg 2; whnf
      go_wp2_with fail
      refine (c11_11 wx hB).mono ?_
      rintro r w2 ⟨rfl, hb2⟩
      go_wp2_with fail
      exact ⟨z70, z71, z72, z73, z74, z75, z76, z77, z78, z79, z80, z81, z82, .bool true, .agg #[a11, f11], .agg #[a11, f11], .bool true, z87, z88, z89, z90, z91, z92, z93, z6, X, (hB.trans (hb2.mono hB.size)), upd_vals (i := 16) (v := .bool true) hV (by simp) rfl, fun h => hG _ _ _ (hX (by rwa [upd_ne L (show 21 ≠ 16 by decide)] at h)) hb2, rfl⟩
    · have d13 : L 13 = true := hd _ rfl ⟨13, .data⟩ (by simp) rfl
      obtain rfl : z83 = .bool true := val_at hV d13 rfl rfl
      have d16 : L 16 = true := hd _ rfl ⟨16, .data⟩ (by simp) rfl
      obtain rfl : z86 = .bool true := val_at hV d16 rfl rfl
      refine op_at _ rfl rfl (fun K' hK => ?_)
      conv => arg 2; whnf
      go_wp2_with fail
      exact ⟨z70, z71, z72, z73, z74, z75, z76, z77, z78, z79, z80, z81, z82, .bool true, z84, z85, .bool true, .bool true, z88, z89, z90, z91, z92, z93, z6, X, hB, upd_vals (i := 17) (v := .bool true) hV (by simp) rfl, fun h => hX (by rwa [upd_ne L (show 21 ≠ 17 by decide)] at h), rfl⟩
    · have d17 : L 17 = true := hd _ rfl ⟨17, .data⟩ (by simp) rfl
      obtain rfl : z87 = .bool true := val_at hV d17 rfl rfl
      refine op_at _ rfl rfl (fun K' hK => ?_)
      conv => arg 2; whnf
      go_wp2_with fail
      exact ⟨z70, z71, z72, z73, z74, z75, z76, z77, z78, z79, z80, z81, z82, z83, z84, z85, z86, .bool true, .bool true, z89, z90, z91, z92, z93, z6, X, hB, upd_vals (i := 18) (v := .bool true) hV (by simp) rfl, fun h => hX (by rwa [upd_ne L (show 21 ≠ 18 by decide)] at h), rfl⟩
    · have d18 : L 18 = true := hd _ rfl ⟨18, .guard⟩ (by simp) rfl
      obtain rfl : z88 = .bool true := val_at hV d18 rfl rfl
      have ho := hb8.old hB
      have x0 := ho.at 0 _ rfl
      have x1 := ho.at 1 _ rfl
      have hlt := ho.lt
      refine op_take _ rfl rfl (fun K' hK => ?_)
      conv => arg 2; whnf
      go_wp2_with fail
      exact ⟨z70, z71, z72, z73, z74, z75, z76, z77, z78, z79, z80, z81, z82, z83, z84, z85, z86, z87, .bool true, .agg #[a8, f8], z90, z91, z92, z93, z6, X, hB, upd_vals (i := 19) (v := .agg #[a8, f8]) hV (by simp) rfl, fun h => hX (by rwa [upd_ne L (show 21 ≠ 19 by decide)] at h), rfl⟩
    · have d18 : L 18 = true := hd _ rfl ⟨18, .guard⟩ (by simp) rfl
      obtain rfl : z88 = .bool true := val_at hV d18 rfl rfl
      refine op_take _ rfl rfl (fun K' hK => ?_)
      conv => arg 2; whnf
      go_wp2_with fail
      exact ⟨z70, z71, z72, z73, z74, z75, z76, z77, z78, z79, z80, z81, z82, z83, z84, z85, z86, z87, .bool true, z89, v0, z91, z92, z93, z6, X, hB, upd_vals (i := 20) (v := v0) hV (by simp) rfl, fun h => hX (by rwa [upd_ne L (show 21 ≠ 20 by decide)] at h), rfl⟩
    · have d20 : L 20 = true := hd _ rfl ⟨20, .data⟩ (by simp) rfl
      obtain rfl : v0 = z90 := (val_at hV d20 rfl rfl).symm
      have d18 : L 18 = true := hd _ rfl ⟨18, .guard⟩ (by simp) rfl
      obtain rfl : z88 = .bool true := val_at hV d18 rfl rfl
      refine op_take _ rfl rfl (fun K' hK => ?_)
      conv => arg 2; whnf
      go_wp2_with fail
      refine (cProg wx hB).mono ?_
      rintro r w2 ⟨X2, rfl, hb2, hg⟩
      go_wp2_with fail
      exact ⟨z70, z71, z72, z73, z74, z75, z76, z77, z78, z79, z80, z81, z82, z83, z84, z85, z86, z87, .bool true, z89, v0, X2, z92, z93, z6, X2, (hB.trans (hb2.mono hB.size)), upd_vals2 (i := 21) (v := X2) hV (by simp) (by simp [vs12]), fun _ => hg, rfl⟩
    · have d19 : L 19 = true := hd _ rfl ⟨19, .data⟩ (by simp) rfl
      obtain rfl : z89 = .agg #[a8, f8] := val_at hV d19 rfl rfl
      have d21 : L 21 = true := hd _ rfl ⟨21, .data⟩ (by simp) rfl
      obtain rfl : X = z91 := (val_at hV d21 rfl rfl).symm
      have d18 : L 18 = true := hd _ rfl ⟨18, .guard⟩ (by simp) rfl
      obtain rfl : z88 = .bool true := val_at hV d18 rfl rfl
      refine op_take _ rfl rfl (fun K' hK => ?_)
      conv => arg 2; whnf
      go_wp2_with fail
      refine (cNew wx X hB (hX d21)).mono ?_
      rintro r w2 ⟨rfl, hb2⟩
      go_wp2_with fail
      exact ⟨z70, z71, z72, z73, z74, z75, z76, z77, z78, z79, z80, z81, z82, z83, z84, z85, z86, z87, .bool true, .agg #[a8, f8], z90, X, .bool true, z93, z6, X, (hB.trans (hb2.mono hB.size)), upd_vals (i := 22) (v := .bool true) hV (by simp) rfl, fun h => hG _ _ _ (hX (by rwa [upd_ne L (show 21 ≠ 22 by decide)] at h)) hb2, rfl⟩
    · have d18 : L 18 = true := hd _ rfl ⟨18, .data⟩ (by simp) rfl
      obtain rfl : z88 = .bool true := val_at hV d18 rfl rfl
      have d22 : L 22 = true := hd _ rfl ⟨22, .data⟩ (by simp) rfl
      obtain rfl : z92 = .bool true := val_at hV d22 rfl rfl
      refine op_at _ rfl rfl (fun K' hK => ?_)
      conv => arg 2; whnf
      go_wp2_with fail
      exact ⟨z70, z71, z72, z73, z74, z75, z76, z77, z78, z79, z80, z81, z82, z83, z84, z85, z86, z87, .bool true, z89, z90, z91, .bool true, .bool true, z6, X, hB, upd_vals (i := 23) (v := .bool true) hV (by simp) rfl, fun h => hX (by rwa [upd_ne L (show 21 ≠ 23 by decide)] at h), rfl⟩
    · have d23 : L 23 = true := hd _ rfl ⟨23, .data⟩ (by simp) rfl
      obtain rfl : z93 = .bool true := val_at hV d23 rfl rfl
      refine op_at _ rfl rfl (fun K' hK => ?_)
      conv => arg 2; whnf
      go_wp2_with fail
      exact ⟨z70, z71, z72, z73, z74, z75, z76, z77, z78, z79, z80, z81, z82, z83, z84, z85, z86, z87, z88, z89, z90, z91, z92, .bool true, .bool true, X, hB, upd_vals (i := 24) (v := .bool true) hV (by simp) rfl, fun h => hX (by rwa [upd_ne L (show 21 ≠ 24 by decide)] at h), rfl⟩
  · intro L act wx hI hall
    obtain ⟨z70, z71, z72, z73, z74, z75, z76, z77, z78, z79, z80, z81, z82, z83, z84, z85, z86, z87, z88, z89, z90, z91, z92, z93, z6, X, hB, hV, hX, rfl⟩ := hI
    obtain rfl : z70 = .bool true := val_at hV (hall 0 (by decide)) rfl rfl
    obtain rfl : z71 = .bool true := val_at hV (hall 1 (by decide)) rfl rfl
    obtain rfl : z72 = .agg #[a8, f8] := val_at hV (hall 2 (by decide)) rfl rfl
    obtain rfl : z73 = .agg #[a11, f11] := val_at hV (hall 3 (by decide)) rfl rfl
    obtain rfl : z74 = .bool false := val_at hV (hall 4 (by decide)) rfl rfl
    obtain rfl : z75 = .bool true := val_at hV (hall 5 (by decide)) rfl rfl
    obtain rfl : z76 = .bool true := val_at hV (hall 6 (by decide)) rfl rfl
    obtain rfl : z77 = .bool true := val_at hV (hall 7 (by decide)) rfl rfl
    obtain rfl : z78 = .agg #[a11, f11] := val_at hV (hall 8 (by decide)) rfl rfl
    obtain rfl : z79 = .agg #[a8, f8] := val_at hV (hall 9 (by decide)) rfl rfl
    obtain rfl : z80 = .bool false := val_at hV (hall 10 (by decide)) rfl rfl
    obtain rfl : z81 = .bool true := val_at hV (hall 11 (by decide)) rfl rfl
    obtain rfl : z82 = .bool true := val_at hV (hall 12 (by decide)) rfl rfl
    obtain rfl : z83 = .bool true := val_at hV (hall 13 (by decide)) rfl rfl
    obtain rfl : z84 = .agg #[a11, f11] := val_at hV (hall 14 (by decide)) rfl rfl
    obtain rfl : z85 = .agg #[a11, f11] := val_at hV (hall 15 (by decide)) rfl rfl
    obtain rfl : z86 = .bool true := val_at hV (hall 16 (by decide)) rfl rfl
    obtain rfl : z87 = .bool true := val_at hV (hall 17 (by decide)) rfl rfl
    obtain rfl : z88 = .bool true := val_at hV (hall 18 (by decide)) rfl rfl
    obtain rfl : z89 = .agg #[a8, f8] := val_at hV (hall 19 (by decide)) rfl rfl
    obtain rfl : v0 = z90 := (val_at hV (hall 20 (by decide)) rfl rfl).symm
    obtain rfl : X = z91 := (val_at hV (hall 21 (by decide)) rfl rfl).symm
    obtain rfl : z92 = .bool true := val_at hV (hall 22 (by decide)) rfl rfl
    obtain rfl : z93 = .bool true := val_at hV (hall 23 (by decide)) rfl rfl
    obtain rfl : z6 = .bool true := val_at hV (hall 24 (by decide)) rfl rfl
    exact hM _ _ (Met.intro (hJ _ _ ⟨X, hB, rfl⟩))
end Go.Proofs.YtgmaeflfiooigaaGreatDoor

namespace Go.Proofs.YtgmaeflfiooigaaGreatDoor
theorem kb {L : Nat → Bool} {j k : Nat} {b : Bool} (h : upd L k j = b) (hn : j ≠ k := by decide) : L j = b := by rwa [upd_ne L hn] at h
theorem kc {L : Nat → Bool} {j k : Nat} {P : Prop} (h : L j = true → P) (hn : j ≠ k := by decide) : upd L k j = true → P := fun e => h (kb e hn)
theorem kq {L : Nat → Bool} {j i k : Nat} (h : L j = true → L i = true) (hn : j ≠ k := by decide) (hm : i ≠ k := by decide) : upd L k j = true → upd L k i = true := fun e => by rw [upd_ne L hm]; exact h (kb e hn)
theorem kn {L : Nat → Bool} {j k : Nat} {P : Prop} (h : L j = true → L k = true) (hl : L k = false) (hn : j ≠ k := by decide) : upd L k j = true → P := fun e => by
  have := h (kb e hn)
  rw [hl] at this; cases this
theorem kl {L : Nat → Bool} {j k : Nat} {P : Prop} (h : L j = false) (hn : j ≠ k := by decide) : upd L k j = true → P := fun e => by
  have := kb e hn
  rw [h] at this; cases this
theorem kf {L : Nat → Bool} {n k : Nat} (h : L n = true → ∀ j, j < n → L j = true) (hl : L k = false) (hk : k < n := by decide) : L n = false := by
  cases e : L n with
  | false => rfl
  | true => have := h e k hk; rw [hl] at this; cases this
theorem ks {L : Nat → Bool} {k : Nat} {P : Prop} : upd L k k = false → P := fun e => by rw [upd_same] at e; cases e
theorem kd {L : Nat → Bool} {j i k : Nat} (h : L i = true) (hm : i ≠ k := by decide) : upd L k j = true → upd L k i = true := fun _ => by rw [upd_ne L hm]; exact h
end Go.Proofs.YtgmaeflfiooigaaGreatDoor

namespace Go.Proofs.YtgmaeflfiooigaaGreatDoor
open Go.RowKit
set_option maxHeartbeats 8000000
set_option maxRecDepth 100000

theorem RowAt.grown' {w w' : World} {b : Nat} {cs : List Value} {row : Option Nat} (h : RowAt w b 0 cs) (hg : w.grownBy w' row) (hr : ∀ k, row = some k → k ≠ b) : RowAt w' b 0 cs := fun i hi => hg.cell (h i hi) (fun e => hr _ e.symm rfl)
theorem below_grown {a w : World} (h : Below a.heap.size a w) (row : Option Nat) : a.grownBy w row := ⟨h.os, h.tape, h.output, h.size, fun k hk _ => h.block k hk⟩
theorem OwnAt.grown {w w' : World} {b : Nat} {cs : List Value} {T : TypeId} (h : OwnAt w b cs T) {row : Option Nat} (hg : w.grownBy w' row) (hr : row ≠ some b) : OwnAt w' b cs T := h.low (hg.block b h.lt (fun e => hr e.symm))
structure VT9 (b11 gf nf cf : Nat) (va bv : Value) (ls : List StV) (W : World) (L : Nat → Bool) (nb : Nat) (gn : Nat) (cn : Nat) (z35 z36 z37 z38 z39 z40 z41 z42 z43 z44 z45 z46 : Value) (wx : World) : Prop where
  ord : L 12 = true → ∀ j, j < 12 → L j = true
  p9_8 : L 9 = true → L 8 = true
  p11_10 : L 11 = true → L 10 = true
  p12_9 : L 12 = true → L 9 = true
  c0 : L 0 = true → z35 = .pointer (some ⟨b11, 1, none⟩)
  c1 : L 1 = true → z36 = .slice (some ⟨gf, 0, none⟩) nf cf
  c2 : L 2 = true → z37 = .pointer (some ⟨b11, 1, none⟩)
  c3 : L 3 = true → z38 = .slice (some ⟨gf, 0, none⟩) nf cf
  c4 : L 4 = true → z39 = .pointer (some ⟨gf, 0, none⟩)
  c5 : L 5 = true → z40 = .pointer (some ⟨gf, 3, none⟩)
  c6 : L 6 = true → z41 = bv
  c7 : L 7 = true → z42 = .agg #[.int .i64 5, .string ⟨#[]⟩, .slice none 0 0, .slice none 0 0, .slice none 0 0]
  c8 : L 8 = true → z43 = .slice (some ⟨nb, 0, none⟩) 1 1
  c9 : L 9 = true → z44 = .slice (some ⟨gn, 0, none⟩) (ls.length + 1) cn
  c10 : L 10 = true → z45 = .pointer (some ⟨gf, 0, none⟩)
  c11 : L 11 = true → z46 = .pointer (some ⟨gf, 3, none⟩)
  gb : L 12 = false → W.grownBy wx bv.ownBlock
  be : L 9 = false → Below W.heap.size W wx
  r8 : L 8 = true → L 9 = false → RowAt wx nb 0 [.int .i64 5, .string ⟨#[]⟩, .slice none 0 0, .slice none 0 0, .slice none 0 0]
  r9 : L 9 = true → wx.ownsRow 0 49 5 (.slice (some ⟨gn, 0, none⟩) (ls.length + 1) cn) (ls.length + 1) (stFlat ls ++ [.int .i64 5, .string ⟨#[]⟩, .slice none 0 0, .slice none 0 0, .slice none 0 0]) ∧ (bv.ownBlock = some gn ∨ W.heap.size ≤ gn)
  fin : L 12 = true → ∃ w1, W.grownBy w1 bv.ownBlock ∧ wx = w1.setCell ⟨gf, 3, none⟩ (.slice (some ⟨gn, 0, none⟩) (ls.length + 1) cn)
def IT9 (b11 gf nf cf : Nat) (va bv : Value) (ls : List StV) (W : World) (q0 q1 q2 q3 q4 q5 q6 q7 q8 q9 q10 q12 q13 q14 q15 q16 q17 q18 q19 q20 q21 q22 q23 q24 q25 q26 q27 q28 q29 q30 q31 q32 q33 q34 q47 q48 q49 q50 q51 q52 q53 q54 q55 q56 q57 q58 q59 q60 q61 q62 q63 q64 q65 q66 q67 q68 q69 q70 q71 q72 q73 q74 q75 q76 q77 q78 q79 q80 q81 q82 q83 q84 q85 q86 q87 q88 q89 q90 q91 q92 q93 : Value) (L : Nat → Bool) (a' : Act) (w' : World) : Prop :=
  ∃ nb : Nat, ∃ gn : Nat, ∃ cn : Nat, ∃ z35 z36 z37 z38 z39 z40 z41 z42 z43 z44 z45 z46 : Value, VT9 b11 gf nf cf va bv ls W L nb gn cn z35 z36 z37 z38 z39 z40 z41 z42 z43 z44 z45 z46 w' ∧ a' = ⟨[q0, q1, q2, q3, q4, q5, q6, q7, q8, q9, q10, .pointer (some ⟨b11, 0, none⟩), q12, q13, q14, q15, q16, q17, q18, q19, q20, q21, q22, q23, q24, q25, q26, q27, q28, q29, q30, q31, q32, q33, q34, z35, z36, z37, z38, z39, z40, z41, z42, z43, z44, z45, z46, q47, q48, q49, q50, q51, q52, q53, q54, q55, q56, q57, q58, q59, q60, q61, q62, q63, q64, q65, q66, q67, q68, q69, q70, q71, q72, q73, q74, q75, q76, q77, q78, q79, q80, q81, q82, q83, q84, q85, q86, q87, q88, q89, q90, q91, q92, q93].toArray, []⟩
def RT9 (b11 gf nf cf : Nat) (va bv : Value) (ls : List StV) (W : World) (q0 q1 q2 q3 q4 q5 q6 q7 q8 q9 q10 q12 q13 q14 q15 q16 q17 q18 q19 q20 q21 q22 q23 q24 q25 q26 q27 q28 q29 q30 q31 q32 q33 q34 q47 q48 q49 q50 q51 q52 q53 q54 q55 q56 q57 q58 q59 q60 q61 q62 q63 q64 q65 q66 q67 q68 q69 q70 q71 q72 q73 q74 q75 q76 q77 q78 q79 q80 q81 q82 q83 q84 q85 q86 q87 q88 q89 q90 q91 q92 q93 : Value) (a' : Act) (w' : World) : Prop :=
  ∃ nb : Nat, ∃ gn : Nat, ∃ cn : Nat, ((∃ w1, W.grownBy w1 bv.ownBlock ∧ w' = w1.setCell ⟨gf, 3, none⟩ (.slice (some ⟨gn, 0, none⟩) (ls.length + 1) cn)) ∧ (w'.ownsRow 0 49 5 (.slice (some ⟨gn, 0, none⟩) (ls.length + 1) cn) (ls.length + 1) (stFlat ls ++ [.int .i64 5, .string ⟨#[]⟩, .slice none 0 0, .slice none 0 0, .slice none 0 0]) ∧ (bv.ownBlock = some gn ∨ W.heap.size ≤ gn))) ∧ a' = ⟨[q0, q1, q2, q3, q4, q5, q6, q7, q8, q9, q10, .pointer (some ⟨b11, 0, none⟩), q12, q13, q14, q15, q16, q17, q18, q19, q20, q21, q22, q23, q24, q25, q26, q27, q28, q29, q30, q31, q32, q33, q34, .pointer (some ⟨b11, 1, none⟩), .slice (some ⟨gf, 0, none⟩) nf cf, .pointer (some ⟨b11, 1, none⟩), .slice (some ⟨gf, 0, none⟩) nf cf, .pointer (some ⟨gf, 0, none⟩), .pointer (some ⟨gf, 3, none⟩), bv, .agg #[.int .i64 5, .string ⟨#[]⟩, .slice none 0 0, .slice none 0 0, .slice none 0 0], .slice (some ⟨nb, 0, none⟩) 1 1, .slice (some ⟨gn, 0, none⟩) (ls.length + 1) cn, .pointer (some ⟨gf, 0, none⟩), .pointer (some ⟨gf, 3, none⟩), q47, q48, q49, q50, q51, q52, q53, q54, q55, q56, q57, q58, q59, q60, q61, q62, q63, q64, q65, q66, q67, q68, q69, q70, q71, q72, q73, q74, q75, q76, q77, q78, q79, q80, q81, q82, q83, q84, q85, q86, q87, q88, q89, q90, q91, q92, q93].toArray, []⟩
theorem reg_T9 (b11 gf nf cf : Nat) (va bv : Value) (ls : List StV) (W : World) (h11 : OwnAt W b11 [va, .slice (some ⟨gf, 0, none⟩) nf cf] 27) (hnf : 0 < nf ∧ nf ≤ 3) (hcell : W.cell? ⟨gf, 3, none⟩ = some bv) (hfz : W.frozen? ⟨gf, 3, none⟩ = false) (D : Nat → Prop) (hls : StsOwnD W D ls bv) (hl4 : ls.length ≤ 4) (hbo : bv.ownBlock ≠ some b11) (hgo : bv.ownBlock ≠ some gf) (q0 q1 q2 q3 q4 q5 q6 q7 q8 q9 q10 q12 q13 q14 q15 q16 q17 q18 q19 q20 q21 q22 q23 q24 q25 q26 q27 q28 q29 q30 q31 q32 q33 q34 q35 q36 q37 q38 q39 q40 q41 q42 q43 q44 q45 q46 q47 q48 q49 q50 q51 q52 q53 q54 q55 q56 q57 q58 q59 q60 q61 q62 q63 q64 q65 q66 q67 q68 q69 q70 q71 q72 q73 q74 q75 q76 q77 q78 q79 q80 q81 q82 q83 q84 q85 q86 q87 q88 q89 q90 q91 q92 q93 : Value) (J K' : Act → World → Prop) (hJ : ∀ a' w', RT9 b11 gf nf cf va bv ls W q0 q1 q2 q3 q4 q5 q6 q7 q8 q9 q10 q12 q13 q14 q15 q16 q17 q18 q19 q20 q21 q22 q23 q24 q25 q26 q27 q28 q29 q30 q31 q32 q33 q34 q47 q48 q49 q50 q51 q52 q53 q54 q55 q56 q57 q58 q59 q60 q61 q62 q63 q64 q65 q66 q67 q68 q69 q70 q71 q72 q73 q74 q75 q76 q77 q78 q79 q80 q81 q82 q83 q84 q85 q86 q87 q88 q89 q90 q91 q92 q93 a' w' → J a' w') (hM : ∀ a' w', Met J a' w' → K' a' w') :
    Code.wp Tryz.prog (tsReg 9) (Exit.then K' (fun _ _ _ => False)) ⟨[q0, q1, q2, q3, q4, q5, q6, q7, q8, q9, q10, .pointer (some ⟨b11, 0, none⟩), q12, q13, q14, q15, q16, q17, q18, q19, q20, q21, q22, q23, q24, q25, q26, q27, q28, q29, q30, q31, q32, q33, q34, q35, q36, q37, q38, q39, q40, q41, q42, q43, q44, q45, q46, q47, q48, q49, q50, q51, q52, q53, q54, q55, q56, q57, q58, q59, q60, q61, q62, q63, q64, q65, q66, q67, q68, q69, q70, q71, q72, q73, q74, q75, q76, q77, q78, q79, q80, q81, q82, q83, q84, q85, q86, q87, q88, q89, q90, q91, q92, q93].toArray, []⟩ W := by
  obtain ⟨i0, hi0, hz0, hz1, hz2⟩ := info_parts infoSt
  have HI0 := Lib.hid hi0; have HZ0 := Lib.hid hz0; have HZ1 := Lib.hid hz1; have HZ2 := Lib.hid hz2
  have HLS := Lib.hid hls
  have hgf : gf < W.heap.size := World.block_lt_of_cell? _ _ hcell
  have HC := Lib.hid hcell; have HFZ := Lib.hid hfz; have HBO := Lib.hid hbo; have HGO := Lib.hid hgo
  have hn0 : (0 : Int) < (nf : Int) := by omega
  have hn1 : 0 < nf := hnf.1
  clear hi0 hz0 hz1 hz2 hls hcell hfz hbo hgo
  conv => arg 2; whnf
  dsimp only
  refine region_by (by kernel_rfl) (by kernel_rfl) (IT9 b11 gf nf cf va bv ls W q0 q1 q2 q3 q4 q5 q6 q7 q8 q9 q10 q12 q13 q14 q15 q16 q17 q18 q19 q20 q21 q22 q23 q24 q25 q26 q27 q28 q29 q30 q31 q32 q33 q34 q47 q48 q49 q50 q51 q52 q53 q54 q55 q56 q57 q58 q59 q60 q61 q62 q63 q64 q65 q66 q67 q68 q69 q70 q71 q72 q73 q74 q75 q76 q77 q78 q79 q80 q81 q82 q83 q84 q85 q86 q87 q88 q89 q90 q91 q92 q93) ?_ ?_ ?_
  · exact ⟨0, 0, 0, q35, q36, q37, q38, q39, q40, q41, q42, q43, q44, q45, q46, ⟨(fun h => by cases h), (fun h => by cases h), (fun h => by cases h), (fun h => by cases h), (fun h => by cases h), (fun h => by cases h), (fun h => by cases h), (fun h => by cases h), (fun h => by cases h), (fun h => by cases h), (fun h => by cases h), (fun h => by cases h), (fun h => by cases h), (fun h => by cases h), (fun h => by cases h), (fun h => by cases h), (fun _ => below_grown ((Below.refl _ _).drew) _), (fun _ => (Below.refl _ _).drew), (fun h => fun _ => by cases h), (fun h => by cases h), (fun h => by cases h)⟩, rfl⟩
  · intro L act wx k hI hk hl hd
    obtain ⟨nb, gn, cn, z35, z36, z37, z38, z39, z40, z41, z42, z43, z44, z45, z46, hV, rfl⟩ := hI
    have hk : k = 0 ∨ k = 1 ∨ k = 2 ∨ k = 3 ∨ k = 4 ∨ k = 5 ∨ k = 6 ∨ k = 7 ∨ k = 8 ∨ k = 9 ∨ k = 10 ∨ k = 11 ∨ k = 12 := by
      have : k < 13 := hk
      omega
    rcases hk with rfl | rfl | rfl | rfl | rfl | rfl | rfl | rfl | rfl | rfl | rfl | rfl | rfl
    · have nl := kf hV.ord hl
      refine op_at _ rfl rfl (fun K' hK => ?_)
      conv => arg 2; whnf
      go_wp2_with fail
      exact ⟨nb, gn, cn, .pointer (some ⟨b11, 1, none⟩), z36, z37, z38, z39, z40, z41, z42, z43, z44, z45, z46, ⟨(kl nl), (kq hV.p9_8), (kq hV.p11_10), (kq hV.p12_9), (fun _ => rfl), (kc hV.c1), (kc hV.c2), (kc hV.c3), (kc hV.c4), (kc hV.c5), (kc hV.c6), (kc hV.c7), (kc hV.c8), (kc hV.c9), (kc hV.c10), (kc hV.c11), (fun h0 => hV.gb (kb h0)), (fun h0 => hV.be (kb h0)), (fun h0 => fun h1 => hV.r8 (kb h0) (kb h1)), (kc hV.r9), (kl nl)⟩, rfl⟩
    · have nl := kf hV.ord hl
      have d0 : L 0 = true := hd _ rfl ⟨0, .data⟩ (by simp) rfl
      obtain rfl := (hV.c0 d0).symm
      have ho := h11.grown (hV.gb nl) HBO.out
      have x0 := ho.at 0 _ rfl
      have x1 := ho.at 1 _ rfl
      refine op_at _ rfl rfl (fun K' hK => ?_)
      conv => arg 2; whnf
      go_wp2_with fail
      exact ⟨nb, gn, cn, .pointer (some ⟨b11, 1, none⟩), .slice (some ⟨gf, 0, none⟩) nf cf, z37, z38, z39, z40, z41, z42, z43, z44, z45, z46, ⟨(kl nl), (kq hV.p9_8), (kq hV.p11_10), (kq hV.p12_9), (kc hV.c0), (fun _ => rfl), (kc hV.c2), (kc hV.c3), (kc hV.c4), (kc hV.c5), (kc hV.c6), (kc hV.c7), (kc hV.c8), (kc hV.c9), (kc hV.c10), (kc hV.c11), (fun h0 => hV.gb (kb h0)), (fun h0 => hV.be (kb h0)), (fun h0 => fun h1 => hV.r8 (kb h0) (kb h1)), (kc hV.r9), (kl nl)⟩, rfl⟩
    · have nl := kf hV.ord hl
      refine op_at _ rfl rfl (fun K' hK => ?_)
      conv => arg 2; whnf
      go_wp2_with fail
      exact ⟨nb, gn, cn, z35, z36, .pointer (some ⟨b11, 1, none⟩), z38, z39, z40, z41, z42, z43, z44, z45, z46, ⟨(kl nl), (kq hV.p9_8), (kq hV.p11_10), (kq hV.p12_9), (kc hV.c0), (kc hV.c1), (fun _ => rfl), (kc hV.c3), (kc hV.c4), (kc hV.c5), (kc hV.c6), (kc hV.c7), (kc hV.c8), (kc hV.c9), (kc hV.c10), (kc hV.c11), (fun h0 => hV.gb (kb h0)), (fun h0 => hV.be (kb h0)), (fun h0 => fun h1 => hV.r8 (kb h0) (kb h1)), (kc hV.r9), (kl nl)⟩, rfl⟩
    · have nl := kf hV.ord hl
      have d2 : L 2 = true := hd _ rfl ⟨2, .data⟩ (by simp) rfl
      obtain rfl := (hV.c2 d2).symm
      have ho := h11.grown (hV.gb nl) HBO.out
      have x0 := ho.at 0 _ rfl
      have x1 := ho.at 1 _ rfl
      refine op_at _ rfl rfl (fun K' hK => ?_)
      conv => arg 2; whnf
      go_wp2_with fail
      exact ⟨nb, gn, cn, z35, z36, .pointer (some ⟨b11, 1, none⟩), .slice (some ⟨gf, 0, none⟩) nf cf, z39, z40, z41, z42, z43, z44, z45, z46, ⟨(kl nl), (kq hV.p9_8), (kq hV.p11_10), (kq hV.p12_9), (kc hV.c0), (kc hV.c1), (kc hV.c2), (fun _ => rfl), (kc hV.c4), (kc hV.c5), (kc hV.c6), (kc hV.c7), (kc hV.c8), (kc hV.c9), (kc hV.c10), (kc hV.c11), (fun h0 => hV.gb (kb h0)), (fun h0 => hV.be (kb h0)), (fun h0 => fun h1 => hV.r8 (kb h0) (kb h1)), (kc hV.r9), (kl nl)⟩, rfl⟩
    · have nl := kf hV.ord hl
      have d3 : L 3 = true := hd _ rfl ⟨3, .data⟩ (by simp) rfl
      obtain rfl := (hV.c3 d3).symm
      refine op_at _ rfl rfl (fun K' hK => ?_)
      conv => arg 2; whnf
      go_wp2_with fail
      exact ⟨nb, gn, cn, z35, z36, z37, .slice (some ⟨gf, 0, none⟩) nf cf, .pointer (some ⟨gf, 0, none⟩), z40, z41, z42, z43, z44, z45, z46, ⟨(kl nl), (kq hV.p9_8), (kq hV.p11_10), (kq hV.p12_9), (kc hV.c0), (kc hV.c1), (kc hV.c2), (kc hV.c3), (fun _ => rfl), (kc hV.c5), (kc hV.c6), (kc hV.c7), (kc hV.c8), (kc hV.c9), (kc hV.c10), (kc hV.c11), (fun h0 => hV.gb (kb h0)), (fun h0 => hV.be (kb h0)), (fun h0 => fun h1 => hV.r8 (kb h0) (kb h1)), (kc hV.r9), (kl nl)⟩, rfl⟩
    · have nl := kf hV.ord hl
      have d4 : L 4 = true := hd _ rfl ⟨4, .data⟩ (by simp) rfl
      obtain rfl := (hV.c4 d4).symm
      refine op_at _ rfl rfl (fun K' hK => ?_)
      conv => arg 2; whnf
      go_wp2_with fail
      exact ⟨nb, gn, cn, z35, z36, z37, z38, .pointer (some ⟨gf, 0, none⟩), .pointer (some ⟨gf, 3, none⟩), z41, z42, z43, z44, z45, z46, ⟨(kl nl), (kq hV.p9_8), (kq hV.p11_10), (kq hV.p12_9), (kc hV.c0), (kc hV.c1), (kc hV.c2), (kc hV.c3), (kc hV.c4), (fun _ => rfl), (kc hV.c6), (kc hV.c7), (kc hV.c8), (kc hV.c9), (kc hV.c10), (kc hV.c11), (fun h0 => hV.gb (kb h0)), (fun h0 => hV.be (kb h0)), (fun h0 => fun h1 => hV.r8 (kb h0) (kb h1)), (kc hV.r9), (kl nl)⟩, rfl⟩
    · have nl := kf hV.ord hl
      have d5 : L 5 = true := hd _ rfl ⟨5, .data⟩ (by simp) rfl
      obtain rfl := (hV.c5 d5).symm
      have hcx := (hV.gb nl).cell HC.out (fun e => HGO.out e.symm)
      refine op_at _ rfl rfl (fun K' hK => ?_)
      conv => arg 2; whnf
      go_wp2_with fail
      exact ⟨nb, gn, cn, z35, z36, z37, z38, z39, .pointer (some ⟨gf, 3, none⟩), bv, z42, z43, z44, z45, z46, ⟨(kl nl), (kq hV.p9_8), (kq hV.p11_10), (kq hV.p12_9), (kc hV.c0), (kc hV.c1), (kc hV.c2), (kc hV.c3), (kc hV.c4), (kc hV.c5), (fun _ => rfl), (kc hV.c7), (kc hV.c8), (kc hV.c9), (kc hV.c10), (kc hV.c11), (fun h0 => hV.gb (kb h0)), (fun h0 => hV.be (kb h0)), (fun h0 => fun h1 => hV.r8 (kb h0) (kb h1)), (kc hV.r9), (kl nl)⟩, rfl⟩
    · have nl := kf hV.ord hl
      refine op_at _ rfl rfl (fun K' hK => ?_)
      conv => arg 2; whnf
      go_wp2_with fail
      exact ⟨nb, gn, cn, z35, z36, z37, z38, z39, z40, z41, .agg #[.int .i64 5, .string ⟨#[]⟩, .slice none 0 0, .slice none 0 0, .slice none 0 0], z43, z44, z45, z46, ⟨(kl nl), (kq hV.p9_8), (kq hV.p11_10), (kq hV.p12_9), (kc hV.c0), (kc hV.c1), (kc hV.c2), (kc hV.c3), (kc hV.c4), (kc hV.c5), (kc hV.c6), (fun _ => rfl), (kc hV.c8), (kc hV.c9), (kc hV.c10), (kc hV.c11), (fun h0 => hV.gb (kb h0)), (fun h0 => hV.be (kb h0)), (fun h0 => fun h1 => hV.r8 (kb h0) (kb h1)), (kc hV.r9), (kl nl)⟩, rfl⟩
    · have nl := kf hV.ord hl
      have d7 : L 7 = true := hd _ rfl ⟨7, .data⟩ (by simp) rfl
      obtain rfl := (hV.c7 d7).symm
      have hal : Below wx.heap.size wx (wx.alloc (.cells #[.int .i64 5, .string ⟨#[]⟩, .slice none 0 0, .slice none 0 0, .slice none 0 0] 49)) := (Below.refl _ _).alloc (Nat.le_refl _) _
      refine op_at _ rfl rfl (fun K' hK => ?_)
      conv => arg 2; whnf
      go_wp2_with fail
      exact ⟨wx.heap.size, gn, cn, z35, z36, z37, z38, z39, z40, z41, .agg #[.int .i64 5, .string ⟨#[]⟩, .slice none 0 0, .slice none 0 0, .slice none 0 0], .slice (some ⟨(wx.heap.size), 0, none⟩) 1 1, z44, z45, z46, ⟨(kl nl), (fun _ => upd_same L 8), (kq hV.p11_10), (kq hV.p12_9), (kc hV.c0), (kc hV.c1), (kc hV.c2), (kc hV.c3), (kc hV.c4), (kc hV.c5), (kc hV.c6), (kc hV.c7), (fun _ => rfl), (kc hV.c9), (kc hV.c10), (kc hV.c11), (fun h0 => World.grownBy.trans (hV.gb (kb h0)) (below_grown hal _)), (fun h0 => Below.trans (hV.be (kb h0)) (hal.mono (Below.size (hV.be (kb h0))))), (fun _ _ => RowAt.new wx [.int .i64 5, .string ⟨#[]⟩, .slice none 0 0, .slice none 0 0, .slice none 0 0] 49), (kn hV.p9_8 hl), (kl nl)⟩, rfl⟩
    · have nl := kf hV.ord hl
      have d6 : L 6 = true := hd _ rfl ⟨6, .data⟩ (by simp) rfl
      obtain rfl := (hV.c6 d6).symm
      have d8 : L 8 = true := hd _ rfl ⟨8, .data⟩ (by simp) rfl
      obtain rfl := (hV.c8 d8).symm
      have hr8 := hV.r8 d8 hl
      have hbe := hV.be hl
      have hrow := row_keep HLS.out.1 (D := (· < W.heap.size)) (fun k e => (HLS.out.2.1 k e).2) (BKeeps.below hbe)
      refine op_at _ rfl rfl (fun K' hK => ?_)
      conv => arg 2; whnf
      refine wp_append_lies (P := Tryz.prog) wx _ _ 47 rfl 0 49 i0 _ 5 96 Tryz.underlying47 HI0.out HZ0.out HZ1.out HZ2.out rfl (by decide) bv ls.length (stFlat ls) rfl hrow ⟨nb, 0, none⟩ 1 _ [.int .i64 5, .string ⟨#[]⟩, .slice none 0 0, .slice none 0 0, .slice none 0 0] rfl rfl (news_at hr8) (st_one (.mk 5 [] [] [] []) none none none 0 0 0 0 0 0) (by decide) (by unfold maxLen; omega) (by omega) (Nat.zero_le _) _ rfl ?_
      intro g2 cap2 w2 hr2 hg2 ha2 hl2
      have hzz := hbe.size
      go_wp2_with fail
      exact ⟨nb, g2, cap2, z35, z36, z37, z38, z39, z40, bv, z42, .slice (some ⟨nb, 0, none⟩) 1 1, .slice (some ⟨(g2), 0, none⟩) (ls.length + 1) (cap2), z45, z46, ⟨(kl nl), (kd (d8)), (kq hV.p11_10), (fun _ => upd_same L 9), (kc hV.c0), (kc hV.c1), (kc hV.c2), (kc hV.c3), (kc hV.c4), (kc hV.c5), (kc hV.c6), (kc hV.c7), (kc hV.c8), (fun _ => rfl), (kc hV.c10), (kc hV.c11), (fun _ => World.grownBy.trans (below_grown hbe _) hg2), ks, (fun _ => ks), (fun _ => ⟨hr2, by rcases ha2 with h | h; exact .inl h; exact .inr (by rw [h]; exact hzz)⟩), (kl nl)⟩, rfl⟩
    · have nl := kf hV.ord hl
      have d1 : L 1 = true := hd _ rfl ⟨1, .data⟩ (by simp) rfl
      obtain rfl := (hV.c1 d1).symm
      refine op_at _ rfl rfl (fun K' hK => ?_)
      conv => arg 2; whnf
      go_wp2_with fail
      exact ⟨nb, gn, cn, z35, .slice (some ⟨gf, 0, none⟩) nf cf, z37, z38, z39, z40, z41, z42, z43, z44, .pointer (some ⟨gf, 0, none⟩), z46, ⟨(kl nl), (kq hV.p9_8), (fun _ => upd_same L 10), (kq hV.p12_9), (kc hV.c0), (kc hV.c1), (kc hV.c2), (kc hV.c3), (kc hV.c4), (kc hV.c5), (kc hV.c6), (kc hV.c7), (kc hV.c8), (kc hV.c9), (fun _ => rfl), (kc hV.c11), (fun h0 => hV.gb (kb h0)), (fun h0 => hV.be (kb h0)), (fun h0 => fun h1 => hV.r8 (kb h0) (kb h1)), (kc hV.r9), (kl nl)⟩, rfl⟩
    · have nl := kf hV.ord hl
      have d10 : L 10 = true := hd _ rfl ⟨10, .data⟩ (by simp) rfl
      obtain rfl := (hV.c10 d10).symm
      refine op_at _ rfl rfl (fun K' hK => ?_)
      conv => arg 2; whnf
      go_wp2_with fail
      exact ⟨nb, gn, cn, z35, z36, z37, z38, z39, z40, z41, z42, z43, z44, .pointer (some ⟨gf, 0, none⟩), .pointer (some ⟨gf, 3, none⟩), ⟨(kl nl), (kq hV.p9_8), (kd (d10)), (kq hV.p12_9), (kc hV.c0), (kc hV.c1), (kc hV.c2), (kc hV.c3), (kc hV.c4), (kc hV.c5), (kc hV.c6), (kc hV.c7), (kc hV.c8), (kc hV.c9), (kc hV.c10), (fun _ => rfl), (fun h0 => hV.gb (kb h0)), (fun h0 => hV.be (kb h0)), (fun h0 => fun h1 => hV.r8 (kb h0) (kb h1)), (kc hV.r9), (kl nl)⟩, rfl⟩
    · have before : ∀ j, j < 12 → L j = true := fun j hj => by
        have hj : j = 0 ∨ j = 1 ∨ j = 2 ∨ j = 3 ∨ j = 4 ∨ j = 5 ∨ j = 6 ∨ j = 7 ∨ j = 8 ∨ j = 9 ∨ j = 10 ∨ j = 11 := by omega
        rcases hj with rfl | rfl | rfl | rfl | rfl | rfl | rfl | rfl | rfl | rfl | rfl | rfl
        · exact hd _ rfl ⟨0, .phase⟩ (by simp) rfl
        · exact hd _ rfl ⟨1, .phase⟩ (by simp) rfl
        · exact hd _ rfl ⟨2, .phase⟩ (by simp) rfl
        · exact hd _ rfl ⟨3, .phase⟩ (by simp) rfl
        · exact hd _ rfl ⟨4, .phase⟩ (by simp) rfl
        · exact hd _ rfl ⟨5, .phase⟩ (by simp) rfl
        · exact hd _ rfl ⟨6, .phase⟩ (by simp) rfl
        · exact hd _ rfl ⟨7, .phase⟩ (by simp) rfl
        · exact hd _ rfl ⟨8, .phase⟩ (by simp) rfl
        · exact hd _ rfl ⟨9, .data⟩ (by simp) rfl
        · exact hV.p11_10 (hd _ rfl ⟨11, .data⟩ (by simp) rfl)
        · exact hd _ rfl ⟨11, .data⟩ (by simp) rfl
      have d9 : L 9 = true := hd _ rfl ⟨9, .data⟩ (by simp) rfl
      obtain rfl := (hV.c9 d9).symm
      have d11 : L 11 = true := hd _ rfl ⟨11, .data⟩ (by simp) rfl
      obtain rfl := (hV.c11 d11).symm
      have hgb := hV.gb hl
      have hcx := hgb.cell HC.out (fun e => HGO.out e.symm)
      have hfx : wx.frozen? ⟨gf, 3, none⟩ = false := by rw [World.frozen?_of_block (w := W) (hgb.block gf hgf (fun e => HGO.out e.symm))]; exact HFZ.out
      have hgx : gf < wx.heap.size := Nat.lt_of_lt_of_le hgf hgb.size
      have hr9 := hV.r9 (before 9 (by decide))
      refine op_at _ rfl rfl (fun K' hK => ?_)
      conv => arg 2; whnf
      go_wp2_with fail
      exact ⟨nb, gn, cn, z35, z36, z37, z38, z39, z40, z41, z42, z43, .slice (some ⟨gn, 0, none⟩) (ls.length + 1) cn, z45, .pointer (some ⟨gf, 3, none⟩), ⟨(fun _ j hj => by rw [upd_ne L (show j ≠ 12 by omega)]; exact before j hj), (kq hV.p9_8), (kq hV.p11_10), (kd (before 9 (by decide))), (kc hV.c0), (kc hV.c1), (kc hV.c2), (kc hV.c3), (kc hV.c4), (kc hV.c5), (kc hV.c6), (kc hV.c7), (kc hV.c8), (kc hV.c9), (kc hV.c10), (kc hV.c11), (ks), (fun h => by rw [upd_ne L (show 9 ≠ 12 by decide), before 9 (by decide)] at h; cases h), (fun _ h => by rw [upd_ne L (show 9 ≠ 12 by decide), before 9 (by decide)] at h; cases h), (fun _ => ⟨row_keep hr9.1 (D := (· ≠ gf)) (fun k e => by rintro rfl; rcases hr9.2 with h | h; exact HGO.out (h.trans e); have e : some gn = some k := e; cases e; omega) (BKeeps.set wx (fun h => h rfl) 3 _), hr9.2⟩), (fun _ => ⟨wx, hgb, rfl⟩)⟩, rfl⟩
  · intro L act wx hI hall
    obtain ⟨nb, gn, cn, z35, z36, z37, z38, z39, z40, z41, z42, z43, z44, z45, z46, hV, rfl⟩ := hI
    obtain rfl := (hV.c0 (hall 0 (by decide))).symm
    obtain rfl := (hV.c1 (hall 1 (by decide))).symm
    obtain rfl := (hV.c2 (hall 2 (by decide))).symm
    obtain rfl := (hV.c3 (hall 3 (by decide))).symm
    obtain rfl := (hV.c4 (hall 4 (by decide))).symm
    obtain rfl := (hV.c5 (hall 5 (by decide))).symm
    obtain rfl := (hV.c6 (hall 6 (by decide))).symm
    obtain rfl := (hV.c7 (hall 7 (by decide))).symm
    obtain rfl := (hV.c8 (hall 8 (by decide))).symm
    obtain rfl := (hV.c9 (hall 9 (by decide))).symm
    obtain rfl := (hV.c10 (hall 10 (by decide))).symm
    obtain rfl := (hV.c11 (hall 11 (by decide))).symm
    exact hM _ _ (Met.intro (hJ _ _ ⟨nb, gn, cn, ⟨hV.fin (hall 12 (by decide)), hV.r9 (hall 9 (by decide))⟩, rfl⟩))
end Go.Proofs.YtgmaeflfiooigaaGreatDoor

namespace Go.Proofs.YtgmaeflfiooigaaGreatDoor
open Go.RowKit
set_option maxHeartbeats 8000000
set_option maxRecDepth 100000

/-- Functions read out of a row whose parts are known. -/
theorem fus_row' {D : Nat → Prop} {w : World} {base : Nat} {ps : List FuV} {v : Value} (h : w.ownsRow base 52 4 v ps.length (ps.flatMap fvCells)) (hD : ∀ k, v.ownBlock = some k → D k) (hp : ∀ p, p ∈ ps → StrsAt D w p.x.params p.p ∧ StrsAt D w p.x.locals p.l ∧ StsAt D w p.x.body p.b) (hf : Fits ps.length) : FusAt D w (ps.map (·.x)) v := by
  have hl : (ps.map (·.x)).length = ps.length := List.length_map _
  rcases h.2 with ⟨rfl, hz⟩ | ⟨g, cap, cur, rfl, hb, hg, hc, hm, hs, ht⟩
  · have : ps = [] := List.length_eq_zero_iff.1 hz
    subst this; exact FusAt.zero
  · let z : FuV := ⟨Fu.nil, undef, undef, undef⟩
    refine ⟨some ⟨g, 0, none⟩, cap, g, 0, (fun i => (ps.getD i z).p), (fun i => (ps.getD i z).l), (fun i => (ps.getD i z).b), by rw [hl], by rw [hl]; exact hc, by rw [hl]; exact hf, .inr ⟨rfl, hD g rfl⟩, fun i hi => ?_⟩
    rw [hl] at hi
    obtain ⟨p, hp1, hx, hm⟩ : ∃ p, ps[i]? = some p ∧ fuAt (ps.map (·.x)) i = p.x ∧ p ∈ ps := ⟨ps[i], List.getElem?_eq_getElem hi, by simp [fuAt, List.getElem?_eq_getElem hi], List.getElem_mem hi⟩
    have sv : ps.getD i z = p := by rw [List.getD_eq_getElem?_getD, hp1]; rfl
    rw [hx]
    dsimp only
    rw [sv]
    have cell : ∀ q u, q < 4 → (fvCells p)[q]? = some u → w.cell? ⟨g, 0 + i * 4 + q, none⟩ = some u := by
      intro q u hq hu
      have h1 := row_cells h (i * 4 + q) u (by rw [flat_at fvCells 4 (fun _ => rfl) ps i q p hp1 hq]; exact hu)
      rwa [show 0 + (i * 4 + q) = 0 + i * 4 + q by omega] at h1
    exact ⟨⟨cell 0 _ (by decide) rfl, cell 1 _ (by decide) rfl, cell 2 _ (by decide) rfl, cell 3 _ (by decide) rfl⟩, hp p hm⟩
def brk : St := .mk 5 [] [] [] []
def withBrk (d : FuV) (v : Value) : FuV := ⟨⟨d.x.name, d.x.params, d.x.locals, d.x.body ++ [brk]⟩, d.p, d.l, v⟩
/-- What holds of a program's memory: more. -/
structure MoreAt (W : World) (m0 : Nat) (p : Pr) (va : Value) (gf cf : Nat) (d : FuV) (dl : List FuV) : Prop where
  fo : FusOwn W m0 (d :: dl) (.slice (some ⟨gf, 0, none⟩) (d :: dl).length cf)
  se : FusSep W m0 (d :: dl) (.slice (some ⟨gf, 0, none⟩) (d :: dl).length cf)
  ars : ArsAt (fun b => (Value.slice (some ⟨gf, 0, none⟩) (d :: dl).length cf).ownBlock ≠ some b ∧ ∀ d' l, d :: dl = d' :: l → d'.b.ownBlock ≠ some b) W p.arrays va
  eq : (d :: dl).map (·.x) = p.funcs
  len : (d :: dl).length ≤ 3
theorem MoreAt.old {W w : World} {m0 : Nat} {p : Pr} {va : Value} {gf cf : Nat} {d : FuV} {dl : List FuV} (h : MoreAt W m0 p va gf cf d dl) (hb : Below W.heap.size W w) : MoreAt w m0 p va gf cf d dl :=
  ⟨h.fo.keep (BKeeps.below hb) hb.size, h.se.keep (BKeeps.below hb) hb.size, h.ars.old hb, h.eq, h.len⟩
theorem fv_first (d : FuV) (dl : List FuV) (v : Value) : ((d :: dl).flatMap fvCells).set 3 v = (withBrk d v :: dl).flatMap fvCells := by
  simp [List.flatMap_cons, fvCells, withBrk]
theorem more_of {W wx : World} {m0 : Nat} {p : Pr} {va : Value} {gf cf : Nat} {d : FuV} {dl : List FuV} (h : MoreAt W m0 p va gf cf d dl) {ls : List StV} (hls : ls.map (·.x) = d.x.body) (hl4 : ls.length ≤ 4) (hown : StsOwnD W (fun b => m0 ≤ b ∧ (Value.slice (some ⟨gf, 0, none⟩) (d :: dl).length cf).ownBlock ≠ some b) ls d.b) {gn cn : Nat}
    (f1 : ∀ k, k < W.heap.size → k ≠ gf → d.b.ownBlock ≠ some k → wx.heap[k]? = W.heap[k]?) (fz : W.heap.size ≤ wx.heap.size) (f2 : wx.ownsRow 0 49 5 (.slice (some ⟨gn, 0, none⟩) (ls.length + 1) cn) (ls.length + 1) (stFlat ls ++ stCells brk (.slice none 0 0) (.slice none 0 0) (.slice none 0 0)))
    (f3 : wx.ownsRow 0 52 4 (.slice (some ⟨gf, 0, none⟩) (d :: dl).length cf) (d :: dl).length ((withBrk d (.slice (some ⟨gn, 0, none⟩) (ls.length + 1) cn) :: dl).flatMap fvCells)) (f4 : d.b.ownBlock = some gn ∨ W.heap.size ≤ gn) :
    ArsAt (fun _ => True) wx p.arrays va ∧ FusAt (fun _ => True) wx (⟨d.x.name, d.x.params, d.x.locals, d.x.body ++ [brk]⟩ :: dl.map (·.x)) (.slice (some ⟨gf, 0, none⟩) (d :: dl).length cf) := by
  have kp : BKeeps (fun b => (Value.slice (some ⟨gf, 0, none⟩) (d :: dl).length cf).ownBlock ≠ some b ∧ d.b.ownBlock ≠ some b) W wx := fun k hk hl => f1 k hl (fun e => hk.1 (by rw [e]; rfl)) hk.2
  have kpa : Keeps (fun b => (Value.slice (some ⟨gf, 0, none⟩) (d :: dl).length cf).ownBlock ≠ some b ∧ ∀ d' l, d :: dl = d' :: l → d'.b.ownBlock ≠ some b) W wx := (kp.mono (fun b hb => ⟨hb.1, hb.2 d dl rfl⟩)).keeps
  refine ⟨(h.ars.keep kpa).mono (fun _ _ => trivial), ?_⟩
  have e1 : (ls ++ [(⟨brk, .slice none 0 0, .slice none 0 0, .slice none 0 0⟩ : StV)]).length = ls.length + 1 := by simp
  have e2 : stFlat (ls ++ [(⟨brk, .slice none 0 0, .slice none 0 0, .slice none 0 0⟩ : StV)]) = stFlat ls ++ stCells brk (.slice none 0 0) (.slice none 0 0) (.slice none 0 0) := by simp [stFlat]
  have hs : StsOwnD wx (fun _ => True) (ls ++ [⟨brk, .slice none 0 0, .slice none 0 0, .slice none 0 0⟩]) (.slice (some ⟨gn, 0, none⟩) (ls.length + 1) cn) := by
    refine ⟨?_, fun k e => ⟨trivial, (World.ownsRow.lt f2 k e).2⟩, fun q hq => ?_⟩
    · rw [e1, e2]; exact f2
    · rcases List.mem_append.1 hq with hq | hq
      · have o := (hown.2.2 q hq).strong
        have kk : Keeps (fun b => ((m0 ≤ b ∧ (Value.slice (some ⟨gf, 0, none⟩) (d :: dl).length cf).ownBlock ≠ some b) ∧ d.b.ownBlock ≠ some b) ∧ b < W.heap.size) W wx := (kp.mono (fun b (hb : ((m0 ≤ b ∧ (Value.slice (some ⟨gf, 0, none⟩) (d :: dl).length cf).ownBlock ≠ some b) ∧ d.b.ownBlock ≠ some b) ∧ b < W.heap.size) => ⟨hb.1.1.2, hb.1.2⟩)).keeps
        exact (o.keep kk).mono (fun b hb => ⟨trivial, fun e => by
          have e : some gn = some b := e
          cases e
          rcases f4 with f4 | f4
          · exact hb.1.2 f4
          · have := hb.2; omega⟩)
      · rw [List.mem_singleton.1 hq]
        exact ⟨ExsAt.zero, StsAt.zero, StsAt.zero⟩
  have hst := hs.sts (show (ls ++ [(⟨brk, .slice none 0 0, .slice none 0 0, .slice none 0 0⟩ : StV)]).length ≤ 140737488355328 by rw [e1]; omega)
  rw [List.map_append, hls] at hst
  have hfi := h.se.fst d dl rfl
  have parts : ∀ q, q ∈ withBrk d (.slice (some ⟨gn, 0, none⟩) (ls.length + 1) cn) :: dl → StrsAt (fun _ => True) wx q.x.params q.p ∧ StrsAt (fun _ => True) wx q.x.locals q.l ∧ StsAt (fun _ => True) wx q.x.body q.b := by
    intro q hq
    rcases List.mem_cons.1 hq with rfl | hq
    · exact ⟨(hfi.1.keep (kp.mono (fun b hb => hb.2)).keeps).mono (fun _ _ => trivial), (hfi.2.keep (kp.mono (fun b hb => hb.2)).keeps).mono (fun _ _ => trivial), hst⟩
    · obtain ⟨k1, k2, ls', k3, k4, k5⟩ := (h.se.rest d dl rfl q hq).keep (kp.mono (fun b hb => hb.2)) fz
      have k6 := k5.sts (show ls'.length ≤ 140737488355328 by omega)
      rw [k3] at k6
      exact ⟨k1.mono (fun _ _ => trivial), k2.mono (fun _ _ => trivial), k6.mono (fun _ _ => trivial)⟩
  exact fus_row' (D := fun _ => True) (base := 0) (ps := withBrk d (.slice (some ⟨gn, 0, none⟩) (ls.length + 1) cn) :: dl) f3 (fun _ _ => trivial) parts (show (withBrk d (.slice (some ⟨gn, 0, none⟩) (ls.length + 1) cn) :: dl).length ≤ 140737488355328 by have := h.len; simp at this ⊢; omega)
/-- The way over an empty statement that is filled behind. -/
theorem fill_row {w : World} {ls : List StV} {gn cn : Nat} (h : w.ownsRow 0 49 5 (.slice (some ⟨gn, 0, none⟩) (ls.length + 1) cn) (ls.length + 1) (stFlat ls ++ [.int .i64 0, .string ⟨#[]⟩, .slice none 0 0, .slice none 0 0, .slice none 0 0])) :
    (((((w.setCell ⟨gn, ls.length * 5, none⟩ (.int .i64 5)).setCell ⟨gn, ls.length * 5 + 1, none⟩ (.string ⟨#[]⟩)).setCell ⟨gn, ls.length * 5 + 2, none⟩ (.slice none 0 0)).setCell ⟨gn, ls.length * 5 + 3, none⟩ (.slice none 0 0)).setCell ⟨gn, ls.length * 5 + 4, none⟩ (.slice none 0 0)).ownsRow 0 49 5 (.slice (some ⟨gn, 0, none⟩) (ls.length + 1) cn) (ls.length + 1) (stFlat ls ++ stCells brk (.slice none 0 0) (.slice none 0 0) (.slice none 0 0)) := by
  have q := (World.ownsRow.stored (World.ownsRow.stored (World.ownsRow.stored (World.ownsRow.stored (World.ownsRow.stored h (ls.length * 5) (.int .i64 5)).1 (ls.length * 5 + 1) (.string ⟨#[]⟩)).1 (ls.length * 5 + 2) (.slice none 0 0)).1 (ls.length * 5 + 3) (.slice none 0 0)).1 (ls.length * 5 + 4) (.slice none 0 0)).1
  have hl := stFlat_len ls
  rw [List.set_append_right _ _ (by omega), List.set_append_right _ _ (by omega), List.set_append_right _ _ (by omega), List.set_append_right _ _ (by omega), List.set_append_right _ _ (by omega), hl, Nat.sub_self, Nat.add_sub_cancel_left, Nat.add_sub_cancel_left, Nat.add_sub_cancel_left, Nat.add_sub_cancel_left] at q
  exact q
def MoreAfter (m0 b11 : Nat) (W : World) (va vf : Value) (al : List Ar) (fs : List Fu) (wx : World) : Prop := Below m0 W wx ∧ OwnAt wx b11 [va, vf] 27 ∧ ArsAt (fun _ => True) wx al va ∧ FusAt (fun _ => True) wx fs vf
theorem after_of {W w7 wx : World} {m0 b11 : Nat} {p : Pr} {va : Value} {gf cf : Nat} {d : FuV} {dl : List FuV} (h : MoreAt W m0 p va gf cf d dl) (ho : OwnAt W b11 [va, .slice (some ⟨gf, 0, none⟩) (d :: dl).length cf] 27) {ls : List StV} (hls : ls.map (·.x) = d.x.body) (hl4 : ls.length ≤ 4) (hown : StsOwnD W (fun b => m0 ≤ b ∧ (Value.slice (some ⟨gf, 0, none⟩) (d :: dl).length cf).ownBlock ≠ some b) ls d.b) {gn cn : Nat}
    (gb : W.grownBy w7 d.b.ownBlock) (f4 : d.b.ownBlock = some gn ∨ W.heap.size ≤ gn) (hbo : d.b.ownBlock ≠ some b11) (hz : m0 ≤ gf ∧ gf < W.heap.size ∧ b11 < W.heap.size ∧ b11 ≠ gf) (u : ∀ k, k ≠ gf → k ≠ gn → wx.heap[k]? = w7.heap[k]?) (us : wx.os = w7.os ∧ wx.tape = w7.tape ∧ wx.output = w7.output ∧ wx.heap.size = w7.heap.size)
    (f2 : wx.ownsRow 0 49 5 (.slice (some ⟨gn, 0, none⟩) (ls.length + 1) cn) (ls.length + 1) (stFlat ls ++ stCells brk (.slice none 0 0) (.slice none 0 0) (.slice none 0 0)))
    (f3 : wx.ownsRow 0 52 4 (.slice (some ⟨gf, 0, none⟩) (d :: dl).length cf) (d :: dl).length ((withBrk d (.slice (some ⟨gn, 0, none⟩) (ls.length + 1) cn) :: dl).flatMap fvCells)) :
    MoreAfter m0 b11 W va (.slice (some ⟨gf, 0, none⟩) (d :: dl).length cf) p.arrays (⟨d.x.name, d.x.params, d.x.locals, d.x.body ++ [brk]⟩ :: dl.map (·.x)) wx := by
  have hgn : m0 ≤ gn := by
    rcases f4 with f4 | f4
    · exact (hown.2.1 gn f4).1.1
    · omega
  have f1 : ∀ k, k < W.heap.size → k ≠ gf → d.b.ownBlock ≠ some k → wx.heap[k]? = W.heap[k]? := fun k hk h1 h2 =>
    (u k h1 (by
      rintro rfl
      rcases f4 with f4 | f4
      · exact h2 f4
      · omega)).trans (gb.block k hk (fun e => h2 e.symm))
  have hb11 : b11 ≠ gn := by
    rintro rfl
    rcases f4 with f4 | f4
    · exact hbo f4
    · omega
  refine ⟨⟨us.1.trans gb.os, us.2.1.trans gb.tape, us.2.2.1.trans gb.output, by rw [us.2.2.2]; exact gb.size, fun k hk => ?_⟩, ?_, ?_⟩
  · exact f1 k (by omega) (by omega) (fun e => by have := (hown.2.1 k e).1.1; omega)
  · exact OwnAt.low ho (f1 b11 hz.2.2.1 hz.2.2.2 hbo)
  · exact more_of h hls hl4 hown f1 (by rw [us.2.2.2]; exact gb.size) f2 f3 f4
theorem funcs_row {W w7 : World} {m0 : Nat} {p : Pr} {va : Value} {gf cf : Nat} {d : FuV} {dl : List FuV} (h : MoreAt W m0 p va gf cf d dl) (gb : W.grownBy w7 d.b.ownBlock) (hgo : d.b.ownBlock ≠ some gf) (v : Value) :
    (w7.setCell ⟨gf, 3, none⟩ v).ownsRow 0 52 4 (.slice (some ⟨gf, 0, none⟩) (d :: dl).length cf) (d :: dl).length ((withBrk d v :: dl).flatMap fvCells) := by
  have q := row_keep h.fo.1 (D := (d.b.ownBlock ≠ some ·)) (fun k e => by have e : some gf = some k := e; cases e; exact hgo) (fun k hk hl => gb.block k hl (fun e => hk e.symm))
  have q2 := (World.ownsRow.stored q 3 v).1
  rw [fv_first] at q2
  exact row_base q2 (fun _ _ => Nat.zero_le _)
theorem after_a {W w7 : World} {m0 b11 : Nat} {p : Pr} {va : Value} {gf cf : Nat} {d : FuV} {dl : List FuV} (h : MoreAt W m0 p va gf cf d dl) (ho : OwnAt W b11 [va, .slice (some ⟨gf, 0, none⟩) (d :: dl).length cf] 27) {ls : List StV} (hls : ls.map (·.x) = d.x.body) (hl4 : ls.length ≤ 4) (hown : StsOwnD W (fun b => m0 ≤ b ∧ (Value.slice (some ⟨gf, 0, none⟩) (d :: dl).length cf).ownBlock ≠ some b) ls d.b) {gn cn : Nat}
    (gb : W.grownBy w7 d.b.ownBlock) (f4 : d.b.ownBlock = some gn ∨ W.heap.size ≤ gn) (hbo : d.b.ownBlock ≠ some b11) (hgo : d.b.ownBlock ≠ some gf) (hz : m0 ≤ gf ∧ gf < W.heap.size ∧ b11 < W.heap.size ∧ b11 ≠ gf) (hr : w7.ownsRow 0 49 5 (.slice (some ⟨gn, 0, none⟩) (ls.length + 1) cn) (ls.length + 1) (stFlat ls ++ [.int .i64 0, .string ⟨#[]⟩, .slice none 0 0, .slice none 0 0, .slice none 0 0])) :
    MoreAfter m0 b11 W va (.slice (some ⟨gf, 0, none⟩) (d :: dl).length cf) p.arrays (⟨d.x.name, d.x.params, d.x.locals, d.x.body ++ [brk]⟩ :: dl.map (·.x)) ((((((w7.setCell ⟨gf, 3, none⟩ (.slice (some ⟨gn, 0, none⟩) (ls.length + 1) cn)).setCell ⟨gn, ls.length * 5, none⟩ (.int .i64 5)).setCell ⟨gn, ls.length * 5 + 1, none⟩ (.string ⟨#[]⟩)).setCell ⟨gn, ls.length * 5 + 2, none⟩ (.slice none 0 0)).setCell ⟨gn, ls.length * 5 + 3, none⟩ (.slice none 0 0)).setCell ⟨gn, ls.length * 5 + 4, none⟩ (.slice none 0 0)) := by
  have hgg : gn ≠ gf := by
    rintro rfl
    rcases f4 with f4 | f4
    · exact hgo f4
    · omega
  have hs : ∀ (v : World) (i : Nat) (x : Value) (k : Nat), k ≠ gn → (v.setCell ⟨gn, i, none⟩ x).heap[k]? = v.heap[k]? := fun v i x k hk => Below.heap_setCell _ _ _ _ hk
  have u8 : ∀ k, k ≠ gf → (w7.setCell ⟨gf, 3, none⟩ (.slice (some ⟨gn, 0, none⟩) (ls.length + 1) cn)).heap[k]? = w7.heap[k]? := fun k hk => Below.heap_setCell _ _ _ _ hk
  have s8 : (w7.setCell ⟨gf, 3, none⟩ (.slice (some ⟨gn, 0, none⟩) (ls.length + 1) cn)).os = w7.os ∧ (w7.setCell ⟨gf, 3, none⟩ (.slice (some ⟨gn, 0, none⟩) (ls.length + 1) cn)).tape = w7.tape ∧ (w7.setCell ⟨gf, 3, none⟩ (.slice (some ⟨gn, 0, none⟩) (ls.length + 1) cn)).output = w7.output ∧ (w7.setCell ⟨gf, 3, none⟩ (.slice (some ⟨gn, 0, none⟩) (ls.length + 1) cn)).heap.size = w7.heap.size := ⟨rfl, rfl, rfl, by simp [World.setCell]⟩
  have r8 := row_keep hr (w' := w7.setCell ⟨gf, 3, none⟩ (.slice (some ⟨gn, 0, none⟩) (ls.length + 1) cn)) (D := (· ≠ gf)) (fun k e => by have e : some gn = some k := e; cases e; exact hgg) (BKeeps.set w7 (fun h => h rfl) 3 _)
  have g8 := funcs_row h gb hgo (.slice (some ⟨gn, 0, none⟩) (ls.length + 1) cn)
  generalize w7.setCell ⟨gf, 3, none⟩ (.slice (some ⟨gn, 0, none⟩) (ls.length + 1) cn) = w8 at *
  have r9 := fill_row r8
  have u9 : ∀ k, k ≠ gn → (((((w8.setCell ⟨gn, ls.length * 5, none⟩ (.int .i64 5)).setCell ⟨gn, ls.length * 5 + 1, none⟩ (.string ⟨#[]⟩)).setCell ⟨gn, ls.length * 5 + 2, none⟩ (.slice none 0 0)).setCell ⟨gn, ls.length * 5 + 3, none⟩ (.slice none 0 0)).setCell ⟨gn, ls.length * 5 + 4, none⟩ (.slice none 0 0)).heap[k]? = w8.heap[k]? := fun k hk => by
    rw [hs _ _ _ k hk, hs _ _ _ k hk, hs _ _ _ k hk, hs _ _ _ k hk, hs _ _ _ k hk]
  have s9 : (((((w8.setCell ⟨gn, ls.length * 5, none⟩ (.int .i64 5)).setCell ⟨gn, ls.length * 5 + 1, none⟩ (.string ⟨#[]⟩)).setCell ⟨gn, ls.length * 5 + 2, none⟩ (.slice none 0 0)).setCell ⟨gn, ls.length * 5 + 3, none⟩ (.slice none 0 0)).setCell ⟨gn, ls.length * 5 + 4, none⟩ (.slice none 0 0)).heap.size = w8.heap.size := by simp [World.setCell]
  have o9 : (((((w8.setCell ⟨gn, ls.length * 5, none⟩ (.int .i64 5)).setCell ⟨gn, ls.length * 5 + 1, none⟩ (.string ⟨#[]⟩)).setCell ⟨gn, ls.length * 5 + 2, none⟩ (.slice none 0 0)).setCell ⟨gn, ls.length * 5 + 3, none⟩ (.slice none 0 0)).setCell ⟨gn, ls.length * 5 + 4, none⟩ (.slice none 0 0)).os = w8.os := rfl
  have t9 : (((((w8.setCell ⟨gn, ls.length * 5, none⟩ (.int .i64 5)).setCell ⟨gn, ls.length * 5 + 1, none⟩ (.string ⟨#[]⟩)).setCell ⟨gn, ls.length * 5 + 2, none⟩ (.slice none 0 0)).setCell ⟨gn, ls.length * 5 + 3, none⟩ (.slice none 0 0)).setCell ⟨gn, ls.length * 5 + 4, none⟩ (.slice none 0 0)).tape = w8.tape := rfl
  have p9 : (((((w8.setCell ⟨gn, ls.length * 5, none⟩ (.int .i64 5)).setCell ⟨gn, ls.length * 5 + 1, none⟩ (.string ⟨#[]⟩)).setCell ⟨gn, ls.length * 5 + 2, none⟩ (.slice none 0 0)).setCell ⟨gn, ls.length * 5 + 3, none⟩ (.slice none 0 0)).setCell ⟨gn, ls.length * 5 + 4, none⟩ (.slice none 0 0)).output = w8.output := rfl
  generalize ((((w8.setCell ⟨gn, ls.length * 5, none⟩ (.int .i64 5)).setCell ⟨gn, ls.length * 5 + 1, none⟩ (.string ⟨#[]⟩)).setCell ⟨gn, ls.length * 5 + 2, none⟩ (.slice none 0 0)).setCell ⟨gn, ls.length * 5 + 3, none⟩ (.slice none 0 0)).setCell ⟨gn, ls.length * 5 + 4, none⟩ (.slice none 0 0) = w9 at *
  exact after_of h ho hls hl4 hown gb f4 hbo hz (fun k h1 h2 => (u9 k h2).trans (u8 k h1)) ⟨o9.trans s8.1, t9.trans s8.2.1, p9.trans s8.2.2.1, s9.trans s8.2.2.2⟩ r9 (row_keep g8 (D := (· ≠ gn)) (fun k e => by have e : some gf = some k := e; cases e; exact hgg.symm) (fun k hk _ => u9 k hk))
theorem after_b {W w7 : World} {m0 b11 : Nat} {p : Pr} {va : Value} {gf cf : Nat} {d : FuV} {dl : List FuV} (h : MoreAt W m0 p va gf cf d dl) (ho : OwnAt W b11 [va, .slice (some ⟨gf, 0, none⟩) (d :: dl).length cf] 27) {ls : List StV} (hls : ls.map (·.x) = d.x.body) (hl4 : ls.length ≤ 4) (hown : StsOwnD W (fun b => m0 ≤ b ∧ (Value.slice (some ⟨gf, 0, none⟩) (d :: dl).length cf).ownBlock ≠ some b) ls d.b) {gn cn : Nat}
    (gb : W.grownBy w7 d.b.ownBlock) (f4 : d.b.ownBlock = some gn ∨ W.heap.size ≤ gn) (hbo : d.b.ownBlock ≠ some b11) (hgo : d.b.ownBlock ≠ some gf) (hz : m0 ≤ gf ∧ gf < W.heap.size ∧ b11 < W.heap.size ∧ b11 ≠ gf) (hr : (w7.setCell ⟨gf, 3, none⟩ (.slice (some ⟨gn, 0, none⟩) (ls.length + 1) cn)).ownsRow 0 49 5 (.slice (some ⟨gn, 0, none⟩) (ls.length + 1) cn) (ls.length + 1) (stFlat ls ++ [.int .i64 5, .string ⟨#[]⟩, .slice none 0 0, .slice none 0 0, .slice none 0 0])) :
    MoreAfter m0 b11 W va (.slice (some ⟨gf, 0, none⟩) (d :: dl).length cf) p.arrays (⟨d.x.name, d.x.params, d.x.locals, d.x.body ++ [brk]⟩ :: dl.map (·.x)) (w7.setCell ⟨gf, 3, none⟩ (.slice (some ⟨gn, 0, none⟩) (ls.length + 1) cn)) :=
  after_of h ho hls hl4 hown gb f4 hbo hz (fun k h1 _ => Below.heap_setCell _ _ _ _ h1) ⟨rfl, rfl, rfl, by simp [World.setCell]⟩ hr (funcs_row h gb hgo _)
theorem fill_cell {w : World} {ls : List StV} {gn cn : Nat} (h : w.ownsRow 0 49 5 (.slice (some ⟨gn, 0, none⟩) (ls.length + 1) cn) (ls.length + 1) (stFlat ls ++ [.int .i64 0, .string ⟨#[]⟩, .slice none 0 0, .slice none 0 0, .slice none 0 0])) (q : Nat) (u : Value) (hu : [.int .i64 0, .string ⟨#[]⟩, .slice none 0 0, .slice none 0 0, .slice none 0 0][q]? = some u) : w.cell? ⟨gn, ls.length * 5 + q, none⟩ = some u ∧ w.frozen? ⟨gn, ls.length * 5 + q, none⟩ = false := by
  have h1 := row_cells h (ls.length * 5 + q) u (by rw [List.getElem?_append_right (by rw [stFlat_len]; omega), stFlat_len, Nat.add_sub_cancel_left]; exact hu)
  rw [Nat.zero_add] at h1
  exact ⟨h1, World.ownsRow.frozenAt h _⟩
end Go.Proofs.YtgmaeflfiooigaaGreatDoor

namespace Go.Proofs.YtgmaeflfiooigaaGreatDoor
open Go.RowKit
set_option maxHeartbeats 8000000
set_option maxRecDepth 100000

theorem keeps_low {B : Nat} {w w' : World} (h : Below B w w') {D : Nat → Prop} (hD : ∀ b, D b → b < B) : Keeps D w w' := fun b off x hd hx => by
  rw [h.cell (p := ⟨b, off, none⟩) (hD b hd)]; exact hx
theorem row_type' {w : World} {base size n b : Nat} {e T : TypeId} {v : Value} {xs cs : List Value} (h : w.ownsRow base e size v n xs) (ho : OwnAt w b cs T) (hT : e ≠ T) : v.ownBlock ≠ some b := by
  rcases h.2 with ⟨rfl, _⟩ | ⟨g, cap, cur, rfl, _, hg, _⟩
  · intro e; cases e
  · intro e
    cases e
    have := hg.symm.trans ho
    simp at this
    exact hT this.2
theorem same_more {p : Pr} {x : Fu} {l : List Fu} (h : x :: l = p.funcs) : samePr p ⟨p.arrays, ⟨x.name, x.params, x.locals, x.body ++ [brk]⟩ :: l⟩ = false ∧ samePr ⟨p.arrays, ⟨x.name, x.params, x.locals, x.body ++ [brk]⟩ :: l⟩ p = false := by
  have no : p ≠ ⟨p.arrays, ⟨x.name, x.params, x.locals, x.body ++ [brk]⟩ :: l⟩ := by
    intro e
    have e2 := congrArg Pr.funcs e
    rw [← h] at e2
    have e3 := congrArg Fu.body (List.cons.inj e2).1
    have e4 := congrArg List.length e3
    simp at e4
  constructor
  · cases q : samePr p ⟨p.arrays, ⟨x.name, x.params, x.locals, x.body ++ [brk]⟩ :: l⟩
    · rfl
    · exact absurd ((samePr_iff _ _).1 q) no
  · cases q : samePr ⟨p.arrays, ⟨x.name, x.params, x.locals, x.body ++ [brk]⟩ :: l⟩ p
    · rfl
    · exact absurd ((samePr_iff _ _).1 q).symm no
theorem gProg_some' (raw : List Int) (free : Bool) : 0 < (gProg raw free).funcs.length := by
  show 0 < (gBodies _ _ _ _).1.length
  rw [gBodies_len]
  exact Nat.succ_pos _
theorem gProg_few (raw : List Int) (free : Bool) : (gProg raw free).funcs.length ≤ 3 := by
  have h2 := gNext_range (raw.take 400) (gProgA (raw.take 400) free).2 3 (by decide)
  show (gBodies _ _ _ _).1.length ≤ 3
  rw [gBodies_len]
  show (fMain :: (gProgF _ _).1).length ≤ 3
  rw [List.length_cons]
  show (gFuns _ _ _).1.length + 1 ≤ 3
  rw [gFuns_len]; omega
/-- A new program of which one knows what it is. -/
def NewAt (p : Pr) (w : World) (X : Value) : Prop := ∃ va vf, X = .agg #[va, vf] ∧ ArsAt (fun _ => True) w p.arrays va ∧ FusAt (fun _ => True) w p.funcs vf
theorem NewAt.old {p : Pr} {w1 w2 : World} {X : Value} (h : NewAt p w1 X) (hb : Below w1.heap.size w1 w2) : NewAt p w2 X := by
  obtain ⟨va, vf, e, h1, h2⟩ := h
  exact ⟨va, vf, e, h1.old hb, FusAt.old hb h2⟩
theorem tsame_any (one two three : List Int) (v0 v1 v2 : Value) (w : World) (h0 : RawAt (· < w.heap.size) w one v0) (h1 : RawAt (· < w.heap.size) w two v1) (h2 : RawAt (· < w.heap.size) w three v2) (hg : 3 < w.heap.size) (ht : TabOk w) :
    Calls Tryz.prog 7 #[v0, v1, v2] w fun e w' => e = .returned (.bool true) ∧ Below w.heap.size w w' := by
  obtain ⟨s0, s1, rfl⟩ := h0.shape
  obtain ⟨t0, t1, rfl⟩ := h1.shape
  obtain ⟨u0, u1, rfl⟩ := h2.shape
  have pc := gProg_some' one false
  have HP := Lib.hid (fun w1 h => prog_any one false (.slice s0 one.length s1) w1 h); have HQ := Lib.hid (fun w1 h => prog_any two false (.slice t0 two.length t1) w1 h); have HR := Lib.hid (fun w1 h => prog_any three false (.slice u0 three.length u1) w1 h)
  have HM := Lib.hid (fun w1 h => prog_sep one false (.slice s0 one.length s1) w1 h); have HN := Lib.hid (fun w1 h => prog_any one false (.slice s0 one.length s1) w1 h)
  generalize gProg one false = p at *
  generalize gProg two false = q at *
  generalize gProg three false = r at *
  have HG := Lib.hid hg; have HT := Lib.hid ht; have H0 := Lib.hid h0; have H1 := Lib.hid h1; have H2 := Lib.hid h2; have PCN := Lib.hid pc
  clear hg ht h0 h1 h2 pc
  go_enter Tryz.func7, Tryz.ntmps7
  go_wp2_with fail
  refine (awake_any w HG.out HT.out).mono ?_
  rintro e w1 ⟨rfl, hb1⟩
  have HB1 := Lib.hid hb1
  clear hb1 HG HT
  go_wp2_with fail
  refine (HP.out _ (H0.out.old HB1.out)).mono ?_
  rintro r w2 ⟨va8, vf8, ds8, rfl, hb, ha, hds, hd3, hf⟩
  obtain ⟨a8, i8, rfl⟩ := ha.shape
  obtain ⟨f8, j8, rfl⟩ := hf.shape
  have hO := PrOld.of ha hds hd3 hf
  have hbA : Below w2.heap.size w2 (w2.alloc (.cells #[.slice a8 p.arrays.length i8, .slice f8 ds8.length j8] 27)) := (Below.refl _ _).alloc (Nat.le_refl _) _
  have HA8 := Lib.hid (hO.ars.old hbA); have HF8 := Lib.hid (hO.fus.old hbA)
  have HO8 := Lib.hid (OwnAt.new w2 [.slice a8 p.arrays.length i8, .slice f8 ds8.length j8] 27)
  have hb0 := HB1.out.trans (hb.mono HB1.out.size)
  have HB2 := Lib.hid (hb0.trans (hbA.mono hb0.size))
  have Z8 : Hid ((w2.alloc (.cells #[.slice a8 p.arrays.length i8, .slice f8 ds8.length j8] 27)).heap.size = w2.heap.size + 1) := by show _ = _; simp
  have Y8 := Lib.hid hb.size
  clear hb ha hds hd3 hf hO hbA hb0 HP
  go_wp2_with fail
  refine (HQ.out _ (H1.out.old HB2.out)).mono ?_
  rintro r w3 ⟨va9, vf9, ds9, rfl, hb, ha, hds, hd3, hf⟩
  obtain ⟨a9, i9, rfl⟩ := ha.shape
  obtain ⟨f9, j9, rfl⟩ := hf.shape
  have hO := PrOld.of ha hds hd3 hf
  have hbA : Below w3.heap.size w3 (w3.alloc (.cells #[.slice a9 q.arrays.length i9, .slice f9 ds9.length j9] 27)) := (Below.refl _ _).alloc (Nat.le_refl _) _
  have HA9 := Lib.hid (hO.ars.old hbA); have HF9 := Lib.hid (hO.fus.old hbA)
  have HO9 := Lib.hid (OwnAt.new w3 [.slice a9 q.arrays.length i9, .slice f9 ds9.length j9] 27)
  have nHA8 := (HA8.out.old hb).old hbA
  clear HA8
  have HA8 := Lib.hid nHA8
  clear nHA8
  have nHF8 := (HF8.out.old hb).old hbA
  clear HF8
  have HF8 := Lib.hid nHF8
  clear nHF8
  have nHO8 := (HO8.out.old hb).old hbA
  clear HO8
  have HO8 := Lib.hid nHO8
  clear nHO8
  have hb0 := HB2.out.trans (hb.mono HB2.out.size)
  have HB3 := Lib.hid (hb0.trans (hbA.mono hb0.size))
  have Z9 : Hid ((w3.alloc (.cells #[.slice a9 q.arrays.length i9, .slice f9 ds9.length j9] 27)).heap.size = w3.heap.size + 1) := by show _ = _; simp
  have Y9 := Lib.hid hb.size
  clear hb ha hds hd3 hf hO hbA hb0 HQ
  go_wp2_with fail
  refine (HR.out _ (H2.out.old HB3.out)).mono ?_
  rintro r w4 ⟨va10, vf10, ds10, rfl, hb, ha, hds, hd3, hf⟩
  obtain ⟨a10, i10, rfl⟩ := ha.shape
  obtain ⟨f10, j10, rfl⟩ := hf.shape
  have hO := PrOld.of ha hds hd3 hf
  have hbA : Below w4.heap.size w4 (w4.alloc (.cells #[.slice a10 r.arrays.length i10, .slice f10 ds10.length j10] 27)) := (Below.refl _ _).alloc (Nat.le_refl _) _
  have HA10 := Lib.hid (hO.ars.old hbA); have HF10 := Lib.hid (hO.fus.old hbA)
  have HO10 := Lib.hid (OwnAt.new w4 [.slice a10 r.arrays.length i10, .slice f10 ds10.length j10] 27)
  have nHA8 := (HA8.out.old hb).old hbA
  clear HA8
  have HA8 := Lib.hid nHA8
  clear nHA8
  have nHF8 := (HF8.out.old hb).old hbA
  clear HF8
  have HF8 := Lib.hid nHF8
  clear nHF8
  have nHO8 := (HO8.out.old hb).old hbA
  clear HO8
  have HO8 := Lib.hid nHO8
  clear nHO8
  have nHA9 := (HA9.out.old hb).old hbA
  clear HA9
  have HA9 := Lib.hid nHA9
  clear nHA9
  have nHF9 := (HF9.out.old hb).old hbA
  clear HF9
  have HF9 := Lib.hid nHF9
  clear nHF9
  have nHO9 := (HO9.out.old hb).old hbA
  clear HO9
  have HO9 := Lib.hid nHO9
  clear nHO9
  have hb0 := HB3.out.trans (hb.mono HB3.out.size)
  have HB4 := Lib.hid (hb0.trans (hbA.mono hb0.size))
  have Z10 : Hid ((w4.alloc (.cells #[.slice a10 r.arrays.length i10, .slice f10 ds10.length j10] 27)).heap.size = w4.heap.size + 1) := by show _ = _; simp
  have Y10 := Lib.hid hb.size
  clear hb ha hds hd3 hf hO hbA hb0 HR
  go_wp2_with fail
  generalize hW4 : w4.alloc (.cells #[.slice a10 r.arrays.length i10, .slice f10 ds10.length j10] 27) = V4 at *
  clear hW4
  refine (HM.out _ (H0.out.old HB4.out)).mono ?_
  rintro e w5 ⟨va11, vf11, dm, rfl, hb, ha, hds, hd3, hf, hsep, har⟩
  obtain ⟨a11, i11, rfl⟩ := ha.shape
  have hdl : 0 < dm.length := by have := congrArg List.length hds; rw [List.length_map] at this; have := PCN.out; omega
  obtain ⟨gf, cf, rfl, hgf1, hgf2⟩ := World.ownsRow.form hf.1 hdl
  obtain ⟨d, dl, rfl⟩ : ∃ d dl, dm = d :: dl := by
    cases dm with
    | nil => cases hdl
    | cons d dl => exact ⟨d, dl, rfl⟩
  have hM5 : MoreAt w5 V4.heap.size p (.slice a11 p.arrays.length i11) gf cf d dl := ⟨hf, hsep, har, hds, hd3⟩
  have hbA : Below w5.heap.size w5 (w5.alloc (.cells #[.slice a11 p.arrays.length i11, .slice (some ⟨gf, 0, none⟩) (d :: dl).length cf] 27)) := (Below.refl _ _).alloc (Nat.le_refl _) _
  have HMO := Lib.hid (hM5.old hbA)
  have HO11 := Lib.hid (OwnAt.new w5 [.slice a11 p.arrays.length i11, .slice (some ⟨gf, 0, none⟩) (d :: dl).length cf] 27)
  have nHA8 := (HA8.out.old hb).old hbA
  clear HA8
  have HA8 := Lib.hid nHA8
  clear nHA8
  have nHF8 := (HF8.out.old hb).old hbA
  clear HF8
  have HF8 := Lib.hid nHF8
  clear nHF8
  have nHO8 := (HO8.out.old hb).old hbA
  clear HO8
  have HO8 := Lib.hid nHO8
  clear nHO8
  have nHA9 := (HA9.out.old hb).old hbA
  clear HA9
  have HA9 := Lib.hid nHA9
  clear nHA9
  have nHF9 := (HF9.out.old hb).old hbA
  clear HF9
  have HF9 := Lib.hid nHF9
  clear nHF9
  have nHO9 := (HO9.out.old hb).old hbA
  clear HO9
  have HO9 := Lib.hid nHO9
  clear nHO9
  have nHA10 := (HA10.out.old hb).old hbA
  clear HA10
  have HA10 := Lib.hid nHA10
  clear nHA10
  have nHF10 := (HF10.out.old hb).old hbA
  clear HF10
  have HF10 := Lib.hid nHF10
  clear nHF10
  have nHO10 := (HO10.out.old hb).old hbA
  clear HO10
  have HO10 := Lib.hid nHO10
  clear nHO10
  have hb0 := HB4.out.trans (hb.mono HB4.out.size)
  have HB5 := Lib.hid (hb0.trans (hbA.mono hb0.size))
  have Y11 := Lib.hid hb.size
  clear hb ha hds hf hsep har hbA hb0 HM hM5 hdl
  go_upto_region 6 with (fail)
  generalize hW5 : w5.alloc (.cells #[.slice a11 p.arrays.length i11, .slice (some ⟨gf, 0, none⟩) (d :: dl).length cf] 27) = W at *
  have HZW : Hid (W.heap.size = w5.heap.size + 1) := by show _ = _; rw [← hW5]; simp
  clear hW5
  go_cut [22] (fun z wx => (z = .bool true ∨ z = .bool false) ∧ Below W.heap.size W wx)
  case first =>
    go_region
    all_goals
      rename_i hjx hmx
      refine hmx _ _ (Met.intro (hjx _ _ ?_))
      repeat apply Exists.intro
      exact ⟨⟨by first | exact .inl rfl | exact .inr rfl, ((Below.refl _ _).alloc (Nat.le_refl _) _).drew⟩, rfl⟩
  case rest =>
  obtain ⟨hq, hb6⟩ := hcut
  have hm6 := HMO.out.old hb6
  have ho11 := HO11.out.old hb6
  have nHA8 := (HA8.out.old hb6)
  clear HA8
  have HA8 := Lib.hid nHA8
  clear nHA8
  have nHF8 := (HF8.out.old hb6)
  clear HF8
  have HF8 := Lib.hid nHF8
  clear nHF8
  have nHO8 := (HO8.out.old hb6)
  clear HO8
  have HO8 := Lib.hid nHO8
  clear nHO8
  have nHA9 := (HA9.out.old hb6)
  clear HA9
  have HA9 := Lib.hid nHA9
  clear nHA9
  have nHF9 := (HF9.out.old hb6)
  clear HF9
  have HF9 := Lib.hid nHF9
  clear nHF9
  have nHO9 := (HO9.out.old hb6)
  clear HO9
  have HO9 := Lib.hid nHO9
  clear nHO9
  have nHA10 := (HA10.out.old hb6)
  clear HA10
  have HA10 := Lib.hid nHA10
  clear nHA10
  have nHF10 := (HF10.out.old hb6)
  clear HF10
  have HF10 := Lib.hid nHF10
  clear nHF10
  have nHO10 := (HO10.out.old hb6)
  clear HO10
  have HO10 := Lib.hid nHO10
  clear nHO10
  have HB6 := Lib.hid (HB5.out.trans (hb6.mono HB5.out.size))
  have hwz : w5.heap.size < wc.heap.size := by have := HZW.out; have := hb6.size; omega
  obtain ⟨k1, k2, ls, hls, hl4, hown⟩ := hm6.fo.2 d List.mem_cons_self
  obtain ⟨ba, bc, hbv⟩ := hown.shape
  have hcell := row_cells hm6.fo.1 3 d.b rfl
  rw [Nat.zero_add] at hcell
  have hfz := World.ownsRow.frozenAt hm6.fo.1 3
  have hbo : d.b.ownBlock ≠ some w5.heap.size := row_type' hown.1 ho11 (by decide)
  have hgo : d.b.ownBlock ≠ some gf := fun e => (hown.2.1 gf e).1.2 rfl
  have hg11 : w5.heap.size ≠ gf := by omega
  have hgw : gf < wc.heap.size := World.block_lt_of_cell? _ _ hcell
  have HM6 := Lib.hid hm6; have HO11' := Lib.hid ho11; have HOWN := Lib.hid hown; have HLS := Lib.hid hls; have HBV := Lib.hid hbv
  have HBO := Lib.hid hbo; have HGO := Lib.hid hgo; have HCE := Lib.hid hcell; have HFZ := Lib.hid hfz
  have hv4 : V4.heap.size ≤ w5.heap.size := Y11.out
  clear hb6 hm6 ho11 hown hls hbv hcell hfz hbo hgo k1 k2 HMO HO11 HB5
  obtain ⟨i0, hi0, hz0, hz1, hz2⟩ := info_parts infoSt
  have HI0 := Lib.hid hi0; have HZ0 := Lib.hid hz0; have HZ1 := Lib.hid hz1; have HZ2 := Lib.hid hz2
  clear hi0 hz0 hz1 hz2
  go_upto_if 22 with (fail)
  go_cut [] (fun wx => MoreAfter V4.heap.size w5.heap.size wc (.slice a11 p.arrays.length i11) (.slice (some ⟨gf, 0, none⟩) (d :: dl).length cf) p.arrays (⟨d.x.name, d.x.params, d.x.locals, d.x.body ++ [brk]⟩ :: dl.map (·.x)) wx)
  case first =>
    rcases hq with rfl | rfl
    · -- an empty statement that is filled
      have x0 := HO11'.out.at 0 _ rfl
      have x1 := HO11'.out.at 1 _ rfl
      have xl := HO11'.out.lt
      have y3 := HCE.out
      rw [HBV.out] at y3
      have f3 := HFZ.out
      have hal : Below wc.heap.size wc (wc.alloc (.cells #[.int .i64 0, .string ⟨#[]⟩, .slice none 0 0, .slice none 0 0, .slice none 0 0] 49)) := (Below.refl _ _).alloc (Nat.le_refl _) _
      have HNZ := Lib.hid (RowAt.new wc [.int .i64 0, .string ⟨#[]⟩, .slice none 0 0, .slice none 0 0, .slice none 0 0] 49)
      have HRW : Hid ((wc.alloc (.cells #[.int .i64 0, .string ⟨#[]⟩, .slice none 0 0, .slice none 0 0, .slice none 0 0] 49)).ownsRow 0 49 5 (.slice ba ls.length bc) ls.length (stFlat ls)) := by
        have := row_keep HOWN.out.1 (D := fun _ => True) (fun _ _ => trivial) (BKeeps.below hal)
        rwa [HBV.out] at this
      have HAL := Lib.hid hal
      have HGO2 : Hid ((Value.slice ba ls.length bc).ownBlock ≠ some gf) := by have := HGO.out; rwa [HBV.out] at this
      have lI : (0 : Int) ≤ (ls.length : Int) := by omega
      have lJ : (ls.length : Int) ≤ 4 := by omega
      have hz0 : (0 : Int) < ((d :: dl).length : Int) := by rw [List.length_cons]; omega
      clear hal
      go_wp2_with (at_builtin; (refine wpList_append_lies (P := Tryz.prog) _ rfl _ _ 47 rfl 0 49 i0 _ 5 96 Tryz.underlying47 HI0.out HZ0.out HZ1.out HZ2.out rfl (by decide) (.slice ba ls.length bc) ls.length (stFlat ls) rfl HRW.out ⟨wc.heap.size, 0, none⟩ 1 1 [.int .i64 0, .string ⟨#[]⟩, .slice none 0 0, .slice none 0 0, .slice none 0 0] rfl rfl (news_at HNZ.out) (st_one (.mk 0 [] [] [] []) none none none 0 0 0 0 0 0) (by decide) (by unfold maxLen; omega) (by omega) (Nat.zero_le _) _ rfl ?_; intro g cap w7 hown7 hgrow7 hat7 hlt7; have gb := World.grownBy.trans (below_grown HAL.out _) hgrow7; have hat8 : (Value.slice ba ls.length bc).ownBlock = some g ∨ wc.heap.size ≤ g := (by rcases hat7 with h | h; exact .inl h; exact .inr (by rw [h]; simp)); have hgg : g ≠ gf := (by rintro rfl; rcases hat8 with h | h; exact HGO2.out h; omega); have hgg2 : gf ≠ g := (fun e => hgg e.symm); have e3 := gb.cell y3 (fun e => HGO2.out e.symm); have ef3 : w7.frozen? ⟨gf, 3, none⟩ = false := (by rw [World.frozen?_of_block (w := wc) (gb.block gf hgw (fun e => HGO2.out e.symm))]; exact f3); have el3 : gf < w7.heap.size := Nat.lt_of_lt_of_le hgw gb.size; have z0 := fill_cell hown7 0 _ rfl; have z1 := fill_cell hown7 1 _ rfl; have z2 := fill_cell hown7 2 _ rfl; have z3 := fill_cell hown7 3 _ rfl; have z4 := fill_cell hown7 4 _ rfl; rw [Nat.add_zero] at z0; have HGB := Lib.hid gb; have HAT := Lib.hid hat8; have HR7 := Lib.hid hown7; obtain ⟨z0a, z0b⟩ := z0; obtain ⟨z1a, z1b⟩ := z1; obtain ⟨z2a, z2b⟩ := z2; obtain ⟨z3a, z3b⟩ := z3; obtain ⟨z4a, z4b⟩ := z4; have lK : (ls.length : Int) < ((ls.length + 1 : Nat) : Int) := (by omega); have lL : ls.length < ls.length + 1 := (by omega); clear gb hat8 hown7 hgrow7 hat7))
      go_meet
      exact after_a HM6.out HO11'.out HLS.out hl4 HOWN.out (by rw [HBV.out]; exact HGB.out) (by rw [HBV.out]; exact HAT.out) HBO.out HGO.out ⟨hgf1, hgw, hwz, hg11⟩ HR7.out
    · have hfew : 0 < (d :: dl).length ∧ (d :: dl).length ≤ 3 := ⟨by simp, hd3⟩
      have HCB : Hid (wc.cell? ⟨gf, 3, none⟩ = some d.b) := HCE.out
      go_upto_region 9 with (fail)
      refine wp_cut (fun a' w' => RT9 w5.heap.size gf (d :: dl).length cf (.slice a11 p.arrays.length i11) d.b ls wc _ _ _ _ _ _ _ _ _ _ _ _ _ _ _ _ _ _ _ _ _ _ _ _ _ _ _ _ _ _ _ _ _ _ _ _ _ _ _ _ _ _ _ _ _ _ _ _ _ _ _ _ _ _ _ _ _ _ _ _ _ _ _ _ _ _ _ _ _ _ _ _ _ _ _ _ _ _ _ _ _ a' w') ?rest9 (fun J K' hJ hM => then_any (reg_T9 w5.heap.size gf (d :: dl).length cf (.slice a11 p.arrays.length i11) d.b ls wc HO11'.out hfew HCB.out HFZ.out _ HOWN.out hl4 HBO.out HGO.out _ _ _ _ _ _ _ _ _ _ _ _ _ _ _ _ _ _ _ _ _ _ _ _ _ _ _ _ _ _ _ _ _ _ _ _ _ _ _ _ _ _ _ _ _ _ _ _ _ _ _ _ _ _ _ _ _ _ _ _ _ _ _ _ _ _ _ _ _ _ _ _ _ _ _ _ _ _ _ _ _ _ _ _ _ _ _ _ _ _ _ _ _ J K' hJ hM))
      case rest9 =>
      intro a' w9 hT
      obtain ⟨nb, gn, cn, ⟨⟨w8, hgb, hw8⟩, hr9, hat⟩, ha'⟩ := hT
      subst ha'
      go_wp2_with fail
      go_meet
      rw [hw8] at hr9
      exact after_b HM6.out HO11'.out HLS.out hl4 HOWN.out hgb hat HBO.out HGO.out ⟨hgf1, hgw, hwz, hg11⟩ hr9
  case rest =>
  obtain ⟨hbm, ho11, har, hfu⟩ := hcut
  have z8 := Z8.out; have z9 := Z9.out; have z10 := Z10.out; have y9 := Y9.out; have y10 := Y10.out
  have l8 : w2.heap.size < V4.heap.size := by omega
  have l9 : w3.heap.size < V4.heap.size := by omega
  have l10 : w4.heap.size < V4.heap.size := by omega
  have HBC := Lib.hid (HB6.out.trans (hbm.mono (by have := HB4.out.size; omega)))
  have hA8 := (HA8.out.keep (keeps_low hbm (fun b hb => Nat.lt_trans hb l8))).mono (D' := fun _ => True) (fun _ _ => trivial)
  have hA9 := (HA9.out.keep (keeps_low hbm (fun b hb => Nat.lt_trans hb l9))).mono (D' := fun _ => True) (fun _ _ => trivial)
  have hA10 := (HA10.out.keep (keeps_low hbm (fun b hb => Nat.lt_trans hb l10))).mono (D' := fun _ => True) (fun _ _ => trivial)
  have hF8 := (HF8.out.keep (keeps_low hbm (fun b hb => Nat.lt_trans hb l8))).mono (D' := fun _ => True) (fun _ _ => trivial)
  have hF9 := (HF9.out.keep (keeps_low hbm (fun b hb => Nat.lt_trans hb l9))).mono (D' := fun _ => True) (fun _ _ => trivial)
  have hF10 := (HF10.out.keep (keeps_low hbm (fun b hb => Nat.lt_trans hb l10))).mono (D' := fun _ => True) (fun _ _ => trivial)
  have O8 := Lib.hid (HO8.out.low (hbm.block _ l8)); have O9 := Lib.hid (HO9.out.low (hbm.block _ l9)); have O10 := Lib.hid (HO10.out.low (hbm.block _ l10)); have O11 := Lib.hid ho11
  have hmf := same_more HM6.out.eq
  have hpq : samePr q p = samePr p q := by
    cases b1 : samePr p q
    · cases b2 : samePr q p
      · rfl
      · rw [← (samePr_iff _ _).1 b2, (samePr_iff _ _).2 rfl] at b1; cases b1
    · rw [(samePr_iff _ _).1 b1]; exact (samePr_iff _ _).2 rfl
  have C89 : Hid (SameCalls wc (.agg #[.slice a8 p.arrays.length i8, .slice f8 ds8.length j8]) (.agg #[.slice a9 q.arrays.length i9, .slice f9 ds9.length j9]) (samePr p q)) := fun wx hb => same_any p q (fun _ => True) _ _ _ _ wx (hA8.old hb) (FusAt.old hb hF8) (hA9.old hb) (FusAt.old hb hF9)
  have C98 : Hid (SameCalls wc (.agg #[.slice a9 q.arrays.length i9, .slice f9 ds9.length j9]) (.agg #[.slice a8 p.arrays.length i8, .slice f8 ds8.length j8]) (samePr p q)) := fun wx hb => by rw [← hpq]; exact same_any q p (fun _ => True) _ _ _ _ wx (hA9.old hb) (FusAt.old hb hF9) (hA8.old hb) (FusAt.old hb hF8)
  have C9A : Hid (SameCalls wc (.agg #[.slice a9 q.arrays.length i9, .slice f9 ds9.length j9]) (.agg #[.slice a10 r.arrays.length i10, .slice f10 ds10.length j10]) (samePr q r)) := fun wx hb => same_any q r (fun _ => True) _ _ _ _ wx (hA9.old hb) (FusAt.old hb hF9) (hA10.old hb) (FusAt.old hb hF10)
  have C8A : Hid (SameCalls wc (.agg #[.slice a8 p.arrays.length i8, .slice f8 ds8.length j8]) (.agg #[.slice a10 r.arrays.length i10, .slice f10 ds10.length j10]) (samePr p r)) := fun wx hb => same_any p r (fun _ => True) _ _ _ _ wx (hA8.old hb) (FusAt.old hb hF8) (hA10.old hb) (FusAt.old hb hF10)
  have C8M : Hid (SameCalls wc (.agg #[.slice a8 p.arrays.length i8, .slice f8 ds8.length j8]) (.agg #[.slice a11 p.arrays.length i11, .slice (some ⟨gf, 0, none⟩) (d :: dl).length cf]) false) := fun wx hb => by
    have := same_any p ⟨p.arrays, ⟨d.x.name, d.x.params, d.x.locals, d.x.body ++ [brk]⟩ :: dl.map (·.x)⟩ (fun _ => True) _ _ _ _ wx (hA8.old hb) (FusAt.old hb hF8) (har.old hb) (FusAt.old hb hfu)
    rwa [hmf.1] at this
  have CM8 : Hid (SameCalls wc (.agg #[.slice a11 p.arrays.length i11, .slice (some ⟨gf, 0, none⟩) (d :: dl).length cf]) (.agg #[.slice a8 p.arrays.length i8, .slice f8 ds8.length j8]) false) := fun wx hb => by
    have := same_any ⟨p.arrays, ⟨d.x.name, d.x.params, d.x.locals, d.x.body ++ [brk]⟩ :: dl.map (·.x)⟩ p (fun _ => True) _ _ _ _ wx (har.old hb) (FusAt.old hb hfu) (hA8.old hb) (FusAt.old hb hF8)
    rwa [hmf.2] at this
  have CMM : Hid (SameCalls wc (.agg #[.slice a11 p.arrays.length i11, .slice (some ⟨gf, 0, none⟩) (d :: dl).length cf]) (.agg #[.slice a11 p.arrays.length i11, .slice (some ⟨gf, 0, none⟩) (d :: dl).length cf]) true) := fun wx hb => by
    have := same_any ⟨p.arrays, ⟨d.x.name, d.x.params, d.x.locals, d.x.body ++ [brk]⟩ :: dl.map (·.x)⟩ ⟨p.arrays, ⟨d.x.name, d.x.params, d.x.locals, d.x.body ++ [brk]⟩ :: dl.map (·.x)⟩ (fun _ => True) _ _ _ _ wx (har.old hb) (FusAt.old hb hfu) (har.old hb) (FusAt.old hb hfu)
    rwa [(samePr_iff _ _).2 rfl] at this
  have CN8 : Hid (∀ wx (va vf : Value), Below wc.heap.size wc wx → ArsAt (fun _ => True) wx p.arrays va → FusAt (fun _ => True) wx p.funcs vf → Calls Tryz.prog 20 #[.agg #[.slice a8 p.arrays.length i8, .slice f8 ds8.length j8], .agg #[va, vf]] wx fun e w' => e = .returned (.bool true) ∧ Below wx.heap.size wx w') := fun wx va vf hb ha hf => by
    have := same_any p p (fun _ => True) _ _ _ _ wx (hA8.old hb) (FusAt.old hb hF8) ha hf
    rwa [(samePr_iff _ _).2 rfl] at this
  clear hbm har hfu ho11 hA8 hA9 hA10 hF8 hF9 hF10 hmf hpq HM6 HO11' HOWN HLS HBV HBO HGO HCE HFZ HA8 HA9 HA10 HF8 HF9 HF10 HO8 HO9 HO10 hl4
  go_upto_region 10 with (fail)
  go_cut [69] (fun z wx => z = .bool false ∧ Below wc.heap.size wc wx)
  case first =>
    cases b1 : samePr p q
    · rw [b1] at C89 C98
      refine wp_cut (fun a' w' => R10A w2.heap.size (.slice a8 p.arrays.length i8) (.slice f8 ds8.length j8) w3.heap.size (.slice a9 q.arrays.length i9) (.slice f9 ds9.length j9) w4.heap.size (.slice a10 r.arrays.length i10) (.slice f10 ds10.length j10) wc _ _ _ _ _ _ _ _ _ _ _ _ _ _ _ _ _ _ _ _ _ _ _ _ _ _ _ _ _ _ _ _ _ _ _ _ _ _ _ _ _ _ _ _ _ _ _ _ _ _ _ _ _ _ _ _ _ _ _ _ _ _ _ _ _ _ _ _ a' w') ?rA (fun J K' hJ hM => then_any (ts_reg10A w2.heap.size (.slice a8 p.arrays.length i8) (.slice f8 ds8.length j8) w3.heap.size (.slice a9 q.arrays.length i9) (.slice f9 ds9.length j9) w4.heap.size (.slice a10 r.arrays.length i10) (.slice f10 ds10.length j10) wc O8.out O9.out O10.out C89.out C98.out _ _ _ _ _ _ _ _ _ _ _ _ _ _ _ _ _ _ _ _ _ _ _ _ _ _ _ _ _ _ _ _ _ _ _ _ _ _ _ _ _ _ _ _ _ _ _ _ _ _ _ _ _ _ _ _ _ _ _ _ _ _ _ _ _ _ _ _ _ _ _ _ _ _ _ _ _ _ _ _ _ _ _ _ _ _ _ _ _ _ _ J K' hJ hM))
      case rA =>
      intro a' w9 hT
      obtain ⟨hb9, ha'⟩ := hT
      subst ha'
      go_wp2_with fail
      go_meet
      exact ⟨rfl, hb9⟩
    · rw [b1] at C89 C98
      cases b2 : samePr q r
      · rw [b2] at C9A
        refine wp_cut (fun a' w' => R10B w2.heap.size (.slice a8 p.arrays.length i8) (.slice f8 ds8.length j8) w3.heap.size (.slice a9 q.arrays.length i9) (.slice f9 ds9.length j9) w4.heap.size (.slice a10 r.arrays.length i10) (.slice f10 ds10.length j10) wc _ _ _ _ _ _ _ _ _ _ _ _ _ _ _ _ _ _ _ _ _ _ _ _ _ _ _ _ _ _ _ _ _ _ _ _ _ _ _ _ _ _ _ _ _ _ _ _ _ _ _ _ _ _ _ _ _ _ _ _ _ _ _ _ _ _ _ _ a' w') ?rB (fun J K' hJ hM => then_any (ts_reg10B w2.heap.size (.slice a8 p.arrays.length i8) (.slice f8 ds8.length j8) w3.heap.size (.slice a9 q.arrays.length i9) (.slice f9 ds9.length j9) w4.heap.size (.slice a10 r.arrays.length i10) (.slice f10 ds10.length j10) wc O8.out O9.out O10.out C89.out C98.out C9A.out _ _ _ _ _ _ _ _ _ _ _ _ _ _ _ _ _ _ _ _ _ _ _ _ _ _ _ _ _ _ _ _ _ _ _ _ _ _ _ _ _ _ _ _ _ _ _ _ _ _ _ _ _ _ _ _ _ _ _ _ _ _ _ _ _ _ _ _ _ _ _ _ _ _ _ _ _ _ _ _ _ _ _ _ _ _ _ _ _ _ _ J K' hJ hM))
        case rB =>
        intro a' w9 hT
        obtain ⟨hb9, ha'⟩ := hT
        subst ha'
        go_wp2_with fail
        go_meet
        exact ⟨rfl, hb9⟩
      · have b3 : samePr p r = true := by rw [(samePr_iff _ _).1 b1]; exact b2
        rw [b2] at C9A
        rw [b3] at C8A
        refine wp_cut (fun a' w' => R10C w2.heap.size (.slice a8 p.arrays.length i8) (.slice f8 ds8.length j8) w3.heap.size (.slice a9 q.arrays.length i9) (.slice f9 ds9.length j9) w4.heap.size (.slice a10 r.arrays.length i10) (.slice f10 ds10.length j10) wc _ _ _ _ _ _ _ _ _ _ _ _ _ _ _ _ _ _ _ _ _ _ _ _ _ _ _ _ _ _ _ _ _ _ _ _ _ _ _ _ _ _ _ _ _ _ _ _ _ _ _ _ _ _ _ _ _ _ _ _ _ _ _ _ _ _ _ _ a' w') ?rC (fun J K' hJ hM => then_any (ts_reg10C w2.heap.size (.slice a8 p.arrays.length i8) (.slice f8 ds8.length j8) w3.heap.size (.slice a9 q.arrays.length i9) (.slice f9 ds9.length j9) w4.heap.size (.slice a10 r.arrays.length i10) (.slice f10 ds10.length j10) wc O8.out O9.out O10.out C89.out C98.out C9A.out C8A.out _ _ _ _ _ _ _ _ _ _ _ _ _ _ _ _ _ _ _ _ _ _ _ _ _ _ _ _ _ _ _ _ _ _ _ _ _ _ _ _ _ _ _ _ _ _ _ _ _ _ _ _ _ _ _ _ _ _ _ _ _ _ _ _ _ _ _ _ _ _ _ _ _ _ _ _ _ _ _ _ _ _ _ _ _ _ _ _ _ _ _ J K' hJ hM))
        case rC =>
        intro a' w9 hT
        obtain ⟨hb9, ha'⟩ := hT
        subst ha'
        go_wp2_with fail
        go_meet
        exact ⟨rfl, hb9⟩
  case rest =>
  obtain ⟨rfl, hb10⟩ := hcut
  have O8' := Lib.hid (O8.out.old hb10); have O11' := Lib.hid (O11.out.old hb10)
  have hup : ∀ wx, Below wc.heap.size wc wx → Below _ _ wx := fun wx h => hb10.trans (h.mono hb10.size)
  have D8M : Hid (SameCalls wc (.agg #[.slice a8 p.arrays.length i8, .slice f8 ds8.length j8]) (.agg #[.slice a11 p.arrays.length i11, .slice (some ⟨gf, 0, none⟩) (d :: dl).length cf]) false) := fun wx hb => C8M.out wx (hup wx hb)
  have DM8 : Hid (SameCalls wc (.agg #[.slice a11 p.arrays.length i11, .slice (some ⟨gf, 0, none⟩) (d :: dl).length cf]) (.agg #[.slice a8 p.arrays.length i8, .slice f8 ds8.length j8]) false) := fun wx hb => CM8.out wx (hup wx hb)
  have DMM : Hid (SameCalls wc (.agg #[.slice a11 p.arrays.length i11, .slice (some ⟨gf, 0, none⟩) (d :: dl).length cf]) (.agg #[.slice a11 p.arrays.length i11, .slice (some ⟨gf, 0, none⟩) (d :: dl).length cf]) true) := fun wx hb => CMM.out wx (hup wx hb)
  have HBY := Lib.hid (HBC.out.trans (hb10.mono HBC.out.size))
  have DPG : Hid (∀ wx, Below wc.heap.size wc wx → Calls Tryz.prog 13 #[.slice s0 one.length s1, .bool false] wx fun e w' => ∃ X, e = .returned X ∧ Below wx.heap.size wx w' ∧ NewAt p w' X) := fun wx hb =>
    (HN.out wx (H0.out.old (HBY.out.trans (hb.mono HBY.out.size)))).mono fun e w' ⟨va, vf, ds, h1, h2, h3, h4, h5, h6⟩ => ⟨_, h1, h2, va, vf, rfl, h3.mono (fun _ _ => trivial), by
      have q := (h6.fus (show ds.length ≤ 140737488355328 by omega)).mono (D' := fun _ => True) (fun _ _ => trivial)
      rwa [h4] at q⟩
  have DNW : Hid (∀ wx X, Below wc.heap.size wc wx → NewAt p wx X → Calls Tryz.prog 20 #[.agg #[.slice a8 p.arrays.length i8, .slice f8 ds8.length j8], X] wx fun e w' => e = .returned (.bool true) ∧ Below wx.heap.size wx w') := fun wx X hb ⟨va, vf, e, h1, h2⟩ => by
    subst e; exact CN8.out wx va vf (hup wx hb) h1 h2
  clear hup hb10 O8 O9 O10 O11 C89 C98 C9A C8A C8M CM8 CMM CN8
  go_upto_region 12 with (fail)
  refine wp_cut (fun a' w' => R12 w2.heap.size (.slice a8 p.arrays.length i8) (.slice f8 ds8.length j8) w5.heap.size (.slice a11 p.arrays.length i11) (.slice (some ⟨gf, 0, none⟩) (d :: dl).length cf) (.slice s0 one.length s1) wc _ _ _ _ _ _ _ _ _ _ _ _ _ _ _ _ _ _ _ _ _ _ _ _ _ _ _ _ _ _ _ _ _ _ _ _ _ _ _ _ _ _ _ _ _ _ _ _ _ _ _ _ _ _ _ _ _ _ _ _ _ _ _ _ _ a' w') ?r12 (fun J K' hJ hM => then_any (ts_reg12 w2.heap.size (.slice a8 p.arrays.length i8) (.slice f8 ds8.length j8) w5.heap.size (.slice a11 p.arrays.length i11) (.slice (some ⟨gf, 0, none⟩) (d :: dl).length cf) (.slice s0 one.length s1) (NewAt p) wc O8'.out O11'.out D8M.out DM8.out DMM.out (fun w1 w2 X h hb => h.old hb) DPG.out DNW.out _ _ _ _ _ _ _ _ _ _ _ _ _ _ _ _ _ _ _ _ _ _ _ _ _ _ _ _ _ _ _ _ _ _ _ _ _ _ _ _ _ _ _ _ _ _ _ _ _ _ _ _ _ _ _ _ _ _ _ _ _ _ _ _ _ _ _ _ _ _ _ _ _ _ _ _ _ _ _ _ _ _ _ _ _ _ _ _ _ _ J K' hJ hM))
  case r12 =>
  intro a' w9 hT
  obtain ⟨X, hb9, ha'⟩ := hT
  subst ha'
  go_wp2_with fail
  go_ret
  exact ⟨rfl, HBY.out.trans (hb9.mono HBY.out.size)⟩
end Go.Proofs.YtgmaeflfiooigaaGreatDoor
