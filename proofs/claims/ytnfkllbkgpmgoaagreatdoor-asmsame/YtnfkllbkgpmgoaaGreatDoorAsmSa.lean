/-
  AsmSame: what it returns, in whatever order it is asked. Conditions: the codes lie in memory, what is asked of them is known.
  AsmSame, plain: code is the same on both sides, just where its texts are; with a line more, or a greater array, it is other code. Condition: the code is the law's own.
  AsmSame: its walk. Condition: what comes in lies in memory.
-/
import Derived.Test.YtnfkllbkgpmgoaaGreatDoorAsmJ
import Derived.Test.YtnfkllbkgpmgoaaGreatDoorAsmK
import Derived.Test.YtnfkllbkgpmgoaaGreatDoorAsmE
import Derived.Test.YtnfkllbkgpmgoaaGreatDoorAsmWr
set_option linter.unusedVariables false
set_option linter.unusedSimpArgs false
namespace Go.Proofs.YtnfkllbkgpmgoaaGreatDoor
open Go.RowKit
set_option maxHeartbeats 8000000
set_option maxRecDepth 100000

theorem op_atg {P : Program} {ops : Array Oper} {Q : Exit → Act → World → Prop} {i : Nat} {K : Act → World → Prop} {a : Act} {w : World} (o : Oper) (ho : ops[i]? = some o) (hg : Region.wanted o (yielded ops a.tmps) = true) (h : ∀ K' : Act → World → Prop, (∀ a w, K a w → K' a w) → o.wp P a w K' Q) : wpOp P ops Q i K a w := by
  unfold wpOp
  rw [ho]
  simp only [hg, if_true]
  exact .inl (h K (fun _ _ q => q))
structure VS10 (T6 T7 T8 T9 : Nat) (va6 vl6 va7 vl7 va8 vl8 va9 vl9 v0 : Value) (ca : Cd) (s t : Bs) (sab : Bool) (W : World) (L : Nat → Bool) (va : Value) (vl : Value) (z44 z45 z46 z47 z48 z49 z50 z51 z52 z53 z54 z55 z56 z57 z58 z59 z60 z61 z62 z63 z64 z65 z66 z67 z68 z69 z70 z71 z72 z73 z74 z75 z76 z77 z78 z79 z80 z81 z82 z83 z84 z85 z86 z4 : Value) (wx : World) : Prop where
  p7_4 : L 7 = true → L 4 = true
  p10_4 : L 10 = true → L 4 = true
  p10_7 : L 10 = true → L 7 = true
  p18_4 : L 18 = true → L 4 = true
  p18_7 : L 18 = true → L 7 = true
  p19_4 : L 19 = true → L 4 = true
  p19_7 : L 19 = true → L 7 = true
  p19_13 : L 19 = true → L 13 = true
  p21_4 : L 21 = true → L 4 = true
  p21_7 : L 21 = true → L 7 = true
  p22_4 : L 22 = true → L 4 = true
  p22_7 : L 22 = true → L 7 = true
  p22_13 : L 22 = true → L 13 = true
  c0 : L 0 = true → z44 = .bool true
  c1 : L 1 = true → z45 = .bool true
  c2 : L 2 = true → z46 = .agg #[va6, vl6]
  c3 : L 3 = true → z47 = .agg #[va7, vl7]
  c4 : L 4 = true → z48 = .bool sab
  c5 : L 5 = true → z49 = .agg #[va7, vl7]
  c6 : L 6 = true → z50 = .agg #[va6, vl6]
  c7 : L 7 = true → z51 = .bool sab
  c8 : L 8 = true → z52 = .bool true
  c9 : L 9 = true → z53 = .bool true
  c10 : L 10 = true → z54 = .bool true
  c11 : L 11 = true → z55 = .agg #[va6, vl6]
  c12 : L 12 = true → z56 = .agg #[va7, vl7]
  c13 : L 13 = true → z57 = .bool sab
  c14 : L 14 = true → z58 = .string (strOf s)
  c15 : L 15 = true → z59 = .string (strOf t)
  c16 : L 16 = true → z60 = .bool sab
  c17 : L 17 = true → z61 = .bool true
  c18 : L 18 = true → z62 = .bool true
  c19 : L 19 = true → z63 = .bool true
  c20 : L 20 = true → z64 = .agg #[va6, vl6]
  c21 : L 21 = true → z65 = v0
  c22 : L 22 = true → z66 = .agg #[va, vl]
  c23 : L 23 = true → z67 = .bool true
  c24 : L 24 = true → z68 = .bool true
  c25 : L 25 = true → z69 = .bool true
  c26 : L 26 = true → z70 = .agg #[va6, vl6]
  c27 : L 27 = true → z71 = .agg #[va8, vl8]
  c28 : L 28 = true → z72 = .bool false
  c29 : L 29 = true → z73 = .bool true
  c30 : L 30 = true → z74 = .bool true
  c31 : L 31 = true → z75 = .bool true
  c32 : L 32 = true → z76 = .agg #[va8, vl8]
  c33 : L 33 = true → z77 = .agg #[va6, vl6]
  c34 : L 34 = true → z78 = .bool false
  c35 : L 35 = true → z79 = .bool true
  c36 : L 36 = true → z80 = .bool true
  c37 : L 37 = true → z81 = .bool true
  c38 : L 38 = true → z82 = .agg #[va6, vl6]
  c39 : L 39 = true → z83 = .agg #[va9, vl9]
  c40 : L 40 = true → z84 = .bool false
  c41 : L 41 = true → z85 = .bool true
  c42 : L 42 = true → z86 = .bool true
  c43 : L 43 = true → z4 = .bool true
  fr : Below W.heap.size W wx
  r22 : L 22 = true → CodeAt wx ca va vl
def IS10 (T6 T7 T8 T9 : Nat) (va6 vl6 va7 vl7 va8 vl8 va9 vl9 v0 : Value) (ca : Cd) (s t : Bs) (sab : Bool) (W : World) (q1 q2 q3 q11 q13 q14 q15 q16 q17 q18 q19 q20 q21 q22 q23 q24 q25 q26 q27 q28 q29 q30 q31 q32 q33 q34 q35 q36 q37 q38 q39 q40 q41 q42 q43 : Value) (L : Nat → Bool) (a' : Act) (w' : World) : Prop :=
  ∃ va : Value, ∃ vl : Value, ∃ z44 z45 z46 z47 z48 z49 z50 z51 z52 z53 z54 z55 z56 z57 z58 z59 z60 z61 z62 z63 z64 z65 z66 z67 z68 z69 z70 z71 z72 z73 z74 z75 z76 z77 z78 z79 z80 z81 z82 z83 z84 z85 z86 z4 : Value, VS10 T6 T7 T8 T9 va6 vl6 va7 vl7 va8 vl8 va9 vl9 v0 ca s t sab W L va vl z44 z45 z46 z47 z48 z49 z50 z51 z52 z53 z54 z55 z56 z57 z58 z59 z60 z61 z62 z63 z64 z65 z66 z67 z68 z69 z70 z71 z72 z73 z74 z75 z76 z77 z78 z79 z80 z81 z82 z83 z84 z85 z86 z4 w' ∧ a' = ⟨[v0, q1, q2, q3, z4, .bool true, .pointer (some ⟨T6, 0, none⟩), .pointer (some ⟨T7, 0, none⟩), .pointer (some ⟨T8, 0, none⟩), .pointer (some ⟨T9, 0, none⟩), .string (strOf s), q11, .string (strOf t), q13, q14, q15, q16, q17, q18, q19, q20, q21, q22, q23, q24, q25, q26, q27, q28, q29, q30, q31, q32, q33, q34, q35, q36, q37, q38, q39, q40, q41, q42, q43, z44, z45, z46, z47, z48, z49, z50, z51, z52, z53, z54, z55, z56, z57, z58, z59, z60, z61, z62, z63, z64, z65, z66, z67, z68, z69, z70, z71, z72, z73, z74, z75, z76, z77, z78, z79, z80, z81, z82, z83, z84, z85, z86].toArray, []⟩
def RS10 (T6 T7 T8 T9 : Nat) (va6 vl6 va7 vl7 va8 vl8 va9 vl9 v0 : Value) (ca : Cd) (s t : Bs) (sab : Bool) (W : World) (q1 q2 q3 q11 q13 q14 q15 q16 q17 q18 q19 q20 q21 q22 q23 q24 q25 q26 q27 q28 q29 q30 q31 q32 q33 q34 q35 q36 q37 q38 q39 q40 q41 q42 q43 : Value) (a' : Act) (w' : World) : Prop :=
  ∃ va : Value, ∃ vl : Value, (Below W.heap.size W w') ∧ a' = ⟨[v0, q1, q2, q3, .bool true, .bool true, .pointer (some ⟨T6, 0, none⟩), .pointer (some ⟨T7, 0, none⟩), .pointer (some ⟨T8, 0, none⟩), .pointer (some ⟨T9, 0, none⟩), .string (strOf s), q11, .string (strOf t), q13, q14, q15, q16, q17, q18, q19, q20, q21, q22, q23, q24, q25, q26, q27, q28, q29, q30, q31, q32, q33, q34, q35, q36, q37, q38, q39, q40, q41, q42, q43, .bool true, .bool true, .agg #[va6, vl6], .agg #[va7, vl7], .bool sab, .agg #[va7, vl7], .agg #[va6, vl6], .bool sab, .bool true, .bool true, .bool true, .agg #[va6, vl6], .agg #[va7, vl7], .bool sab, .string (strOf s), .string (strOf t), .bool sab, .bool true, .bool true, .bool true, .agg #[va6, vl6], v0, .agg #[va, vl], .bool true, .bool true, .bool true, .agg #[va6, vl6], .agg #[va8, vl8], .bool false, .bool true, .bool true, .bool true, .agg #[va8, vl8], .agg #[va6, vl6], .bool false, .bool true, .bool true, .bool true, .agg #[va6, vl6], .agg #[va9, vl9], .bool false, .bool true, .bool true].toArray, []⟩
theorem reg_S10 (T6 T7 T8 T9 : Nat) (va6 vl6 va7 vl7 va8 vl8 va9 vl9 v0 : Value) (ca : Cd) (s t : Bs) (sab : Bool) (W : World) (HX6 : Hid (OwnAt W T6 [va6, vl6] 27)) (HX7 : Hid (OwnAt W T7 [va7, vl7] 27)) (HX8 : Hid (OwnAt W T8 [va8, vl8] 27)) (HX9 : Hid (OwnAt W T9 [va9, vl9] 27)) (hst : (s == t) = sab) (HAB : Hid (∀ w, Below W.heap.size W w → Calls Tryz.prog 14 #[.agg #[va6, vl6], .agg #[va7, vl7]] w fun e w' => e = .returned (.bool sab) ∧ Below w.heap.size w w')) (HBA : Hid (∀ w, Below W.heap.size W w → Calls Tryz.prog 14 #[.agg #[va7, vl7], .agg #[va6, vl6]] w fun e w' => e = .returned (.bool sab) ∧ Below w.heap.size w w')) (HAC : Hid (∀ w, Below W.heap.size W w → Calls Tryz.prog 14 #[.agg #[va6, vl6], .agg #[va8, vl8]] w fun e w' => e = .returned (.bool false) ∧ Below w.heap.size w w')) (HCA : Hid (∀ w, Below W.heap.size W w → Calls Tryz.prog 14 #[.agg #[va8, vl8], .agg #[va6, vl6]] w fun e w' => e = .returned (.bool false) ∧ Below w.heap.size w w')) (HAD : Hid (∀ w, Below W.heap.size W w → Calls Tryz.prog 14 #[.agg #[va6, vl6], .agg #[va9, vl9]] w fun e w' => e = .returned (.bool false) ∧ Below w.heap.size w w')) (HAA : Hid (∀ va vl w, Below W.heap.size W w → CodeAt w ca va vl → Calls Tryz.prog 14 #[.agg #[va6, vl6], .agg #[va, vl]] w fun e w' => e = .returned (.bool true) ∧ Below w.heap.size w w')) (HFT : Hid (∀ w, Below W.heap.size W w → Calls Tryz.prog 10 #[v0] w fun e w' => ∃ va vl, e = .returned (.agg #[va, vl]) ∧ CodeAt w' ca va vl ∧ Below w.heap.size w w')) (q1 q2 q3 q4 q11 q13 q14 q15 q16 q17 q18 q19 q20 q21 q22 q23 q24 q25 q26 q27 q28 q29 q30 q31 q32 q33 q34 q35 q36 q37 q38 q39 q40 q41 q42 q43 q44 q45 q46 q47 q48 q49 q50 q51 q52 q53 q54 q55 q56 q57 q58 q59 q60 q61 q62 q63 q64 q65 q66 q67 q68 q69 q70 q71 q72 q73 q74 q75 q76 q77 q78 q79 q80 q81 q82 q83 q84 q85 q86 : Value) (J K' : Act → World → Prop) (hJ : ∀ a' w', RS10 T6 T7 T8 T9 va6 vl6 va7 vl7 va8 vl8 va9 vl9 v0 ca s t sab W q1 q2 q3 q11 q13 q14 q15 q16 q17 q18 q19 q20 q21 q22 q23 q24 q25 q26 q27 q28 q29 q30 q31 q32 q33 q34 q35 q36 q37 q38 q39 q40 q41 q42 q43 a' w' → J a' w') (hM : ∀ a' w', Met J a' w' → K' a' w') :
    Code.wp Tryz.prog ((Tryz.f8.body.bind (regOf 10)).getD .skip) (Exit.then K' (fun _ _ _ => False)) ⟨[v0, q1, q2, q3, q4, .bool true, .pointer (some ⟨T6, 0, none⟩), .pointer (some ⟨T7, 0, none⟩), .pointer (some ⟨T8, 0, none⟩), .pointer (some ⟨T9, 0, none⟩), .string (strOf s), q11, .string (strOf t), q13, q14, q15, q16, q17, q18, q19, q20, q21, q22, q23, q24, q25, q26, q27, q28, q29, q30, q31, q32, q33, q34, q35, q36, q37, q38, q39, q40, q41, q42, q43, q44, q45, q46, q47, q48, q49, q50, q51, q52, q53, q54, q55, q56, q57, q58, q59, q60, q61, q62, q63, q64, q65, q66, q67, q68, q69, q70, q71, q72, q73, q74, q75, q76, q77, q78, q79, q80, q81, q82, q83, q84, q85, q86].toArray, []⟩ W := by
  conv => arg 2; whnf
  dsimp only
  refine region_by (by kernel_rfl) (by kernel_rfl) (IS10 T6 T7 T8 T9 va6 vl6 va7 vl7 va8 vl8 va9 vl9 v0 ca s t sab W q1 q2 q3 q11 q13 q14 q15 q16 q17 q18 q19 q20 q21 q22 q23 q24 q25 q26 q27 q28 q29 q30 q31 q32 q33 q34 q35 q36 q37 q38 q39 q40 q41 q42 q43) ?_ ?_ ?_
  · exact ⟨undef, undef, q44, q45, q46, q47, q48, q49, q50, q51, q52, q53, q54, q55, q56, q57, q58, q59, q60, q61, q62, q63, q64, q65, q66, q67, q68, q69, q70, q71, q72, q73, q74, q75, q76, q77, q78, q79, q80, q81, q82, q83, q84, q85, q86, q4, ⟨(fun h => by cases h), (fun h => by cases h), (fun h => by cases h), (fun h => by cases h), (fun h => by cases h), (fun h => by cases h), (fun h => by cases h), (fun h => by cases h), (fun h => by cases h), (fun h => by cases h), (fun h => by cases h), (fun h => by cases h), (fun h => by cases h), (fun h => by cases h), (fun h => by cases h), (fun h => by cases h), (fun h => by cases h), (fun h => by cases h), (fun h => by cases h), (fun h => by cases h), (fun h => by cases h), (fun h => by cases h), (fun h => by cases h), (fun h => by cases h), (fun h => by cases h), (fun h => by cases h), (fun h => by cases h), (fun h => by cases h), (fun h => by cases h), (fun h => by cases h), (fun h => by cases h), (fun h => by cases h), (fun h => by cases h), (fun h => by cases h), (fun h => by cases h), (fun h => by cases h), (fun h => by cases h), (fun h => by cases h), (fun h => by cases h), (fun h => by cases h), (fun h => by cases h), (fun h => by cases h), (fun h => by cases h), (fun h => by cases h), (fun h => by cases h), (fun h => by cases h), (fun h => by cases h), (fun h => by cases h), (fun h => by cases h), (fun h => by cases h), (fun h => by cases h), (fun h => by cases h), (fun h => by cases h), (fun h => by cases h), (fun h => by cases h), (fun h => by cases h), (fun h => by cases h), ((Below.refl _ _).drew), (fun h => by cases h)⟩, rfl⟩
  · intro L act wx k hI hk hl hd
    obtain ⟨va, vl, z44, z45, z46, z47, z48, z49, z50, z51, z52, z53, z54, z55, z56, z57, z58, z59, z60, z61, z62, z63, z64, z65, z66, z67, z68, z69, z70, z71, z72, z73, z74, z75, z76, z77, z78, z79, z80, z81, z82, z83, z84, z85, z86, z4, hV, rfl⟩ := hI
    have hk : k = 0 ∨ k = 1 ∨ k = 2 ∨ k = 3 ∨ k = 4 ∨ k = 5 ∨ k = 6 ∨ k = 7 ∨ k = 8 ∨ k = 9 ∨ k = 10 ∨ k = 11 ∨ k = 12 ∨ k = 13 ∨ k = 14 ∨ k = 15 ∨ k = 16 ∨ k = 17 ∨ k = 18 ∨ k = 19 ∨ k = 20 ∨ k = 21 ∨ k = 22 ∨ k = 23 ∨ k = 24 ∨ k = 25 ∨ k = 26 ∨ k = 27 ∨ k = 28 ∨ k = 29 ∨ k = 30 ∨ k = 31 ∨ k = 32 ∨ k = 33 ∨ k = 34 ∨ k = 35 ∨ k = 36 ∨ k = 37 ∨ k = 38 ∨ k = 39 ∨ k = 40 ∨ k = 41 ∨ k = 42 ∨ k = 43 := by
      have : k < 44 := hk
      omega
    rcases hk with rfl | rfl | rfl | rfl | rfl | rfl | rfl | rfl | rfl | rfl | rfl | rfl | rfl | rfl | rfl | rfl | rfl | rfl | rfl | rfl | rfl | rfl | rfl | rfl | rfl | rfl | rfl | rfl | rfl | rfl | rfl | rfl | rfl | rfl | rfl | rfl | rfl | rfl | rfl | rfl | rfl | rfl | rfl | rfl
    · refine op_at _ rfl rfl (fun K' hK => ?_)
      conv => arg 2; whnf
      go_wp2_with fail
      exact ⟨va, vl, .bool true, z45, z46, z47, z48, z49, z50, z51, z52, z53, z54, z55, z56, z57, z58, z59, z60, z61, z62, z63, z64, z65, z66, z67, z68, z69, z70, z71, z72, z73, z74, z75, z76, z77, z78, z79, z80, z81, z82, z83, z84, z85, z86, z4, ⟨(kq hV.p7_4), (kq hV.p10_4), (kq hV.p10_7), (kq hV.p18_4), (kq hV.p18_7), (kq hV.p19_4), (kq hV.p19_7), (kq hV.p19_13), (kq hV.p21_4), (kq hV.p21_7), (kq hV.p22_4), (kq hV.p22_7), (kq hV.p22_13), (fun _ => rfl), (kc hV.c1), (kc hV.c2), (kc hV.c3), (kc hV.c4), (kc hV.c5), (kc hV.c6), (kc hV.c7), (kc hV.c8), (kc hV.c9), (kc hV.c10), (kc hV.c11), (kc hV.c12), (kc hV.c13), (kc hV.c14), (kc hV.c15), (kc hV.c16), (kc hV.c17), (kc hV.c18), (kc hV.c19), (kc hV.c20), (kc hV.c21), (kc hV.c22), (kc hV.c23), (kc hV.c24), (kc hV.c25), (kc hV.c26), (kc hV.c27), (kc hV.c28), (kc hV.c29), (kc hV.c30), (kc hV.c31), (kc hV.c32), (kc hV.c33), (kc hV.c34), (kc hV.c35), (kc hV.c36), (kc hV.c37), (kc hV.c38), (kc hV.c39), (kc hV.c40), (kc hV.c41), (kc hV.c42), (kc hV.c43), hV.fr, (kc hV.r22)⟩, rfl⟩
    · have d0 : L 0 = true := hd _ rfl ⟨0, .data⟩ (by simp) rfl
      obtain rfl := (hV.c0 d0).symm
      refine op_at _ rfl rfl (fun K' hK => ?_)
      conv => arg 2; whnf
      go_wp2_with fail
      exact ⟨va, vl, .bool true, .bool true, z46, z47, z48, z49, z50, z51, z52, z53, z54, z55, z56, z57, z58, z59, z60, z61, z62, z63, z64, z65, z66, z67, z68, z69, z70, z71, z72, z73, z74, z75, z76, z77, z78, z79, z80, z81, z82, z83, z84, z85, z86, z4, ⟨(kq hV.p7_4), (kq hV.p10_4), (kq hV.p10_7), (kq hV.p18_4), (kq hV.p18_7), (kq hV.p19_4), (kq hV.p19_7), (kq hV.p19_13), (kq hV.p21_4), (kq hV.p21_7), (kq hV.p22_4), (kq hV.p22_7), (kq hV.p22_13), (kc hV.c0), (fun _ => rfl), (kc hV.c2), (kc hV.c3), (kc hV.c4), (kc hV.c5), (kc hV.c6), (kc hV.c7), (kc hV.c8), (kc hV.c9), (kc hV.c10), (kc hV.c11), (kc hV.c12), (kc hV.c13), (kc hV.c14), (kc hV.c15), (kc hV.c16), (kc hV.c17), (kc hV.c18), (kc hV.c19), (kc hV.c20), (kc hV.c21), (kc hV.c22), (kc hV.c23), (kc hV.c24), (kc hV.c25), (kc hV.c26), (kc hV.c27), (kc hV.c28), (kc hV.c29), (kc hV.c30), (kc hV.c31), (kc hV.c32), (kc hV.c33), (kc hV.c34), (kc hV.c35), (kc hV.c36), (kc hV.c37), (kc hV.c38), (kc hV.c39), (kc hV.c40), (kc hV.c41), (kc hV.c42), (kc hV.c43), hV.fr, (kc hV.r22)⟩, rfl⟩
    · have d1 : L 1 = true := hd _ rfl ⟨1, .guard⟩ (by simp) rfl
      obtain rfl := (hV.c1 d1).symm
      have ho := HX6.out.old hV.fr
      have x0 := ho.at 0 _ rfl
      have x1 := ho.at 1 _ rfl
      have hxl := ho.lt
      refine op_atg _ rfl rfl (fun K' hK => ?_)
      conv => arg 2; whnf
      go_wp2_with fail
      exact ⟨va, vl, z44, .bool true, .agg #[va6, vl6], z47, z48, z49, z50, z51, z52, z53, z54, z55, z56, z57, z58, z59, z60, z61, z62, z63, z64, z65, z66, z67, z68, z69, z70, z71, z72, z73, z74, z75, z76, z77, z78, z79, z80, z81, z82, z83, z84, z85, z86, z4, ⟨(kq hV.p7_4), (kq hV.p10_4), (kq hV.p10_7), (kq hV.p18_4), (kq hV.p18_7), (kq hV.p19_4), (kq hV.p19_7), (kq hV.p19_13), (kq hV.p21_4), (kq hV.p21_7), (kq hV.p22_4), (kq hV.p22_7), (kq hV.p22_13), (kc hV.c0), (kc hV.c1), (fun _ => rfl), (kc hV.c3), (kc hV.c4), (kc hV.c5), (kc hV.c6), (kc hV.c7), (kc hV.c8), (kc hV.c9), (kc hV.c10), (kc hV.c11), (kc hV.c12), (kc hV.c13), (kc hV.c14), (kc hV.c15), (kc hV.c16), (kc hV.c17), (kc hV.c18), (kc hV.c19), (kc hV.c20), (kc hV.c21), (kc hV.c22), (kc hV.c23), (kc hV.c24), (kc hV.c25), (kc hV.c26), (kc hV.c27), (kc hV.c28), (kc hV.c29), (kc hV.c30), (kc hV.c31), (kc hV.c32), (kc hV.c33), (kc hV.c34), (kc hV.c35), (kc hV.c36), (kc hV.c37), (kc hV.c38), (kc hV.c39), (kc hV.c40), (kc hV.c41), (kc hV.c42), (kc hV.c43), hV.fr, (kc hV.r22)⟩, rfl⟩
    · have d1 : L 1 = true := hd _ rfl ⟨1, .guard⟩ (by simp) rfl
      obtain rfl := (hV.c1 d1).symm
      have ho := HX7.out.old hV.fr
      have x0 := ho.at 0 _ rfl
      have x1 := ho.at 1 _ rfl
      have hxl := ho.lt
      refine op_atg _ rfl rfl (fun K' hK => ?_)
      conv => arg 2; whnf
      go_wp2_with fail
      exact ⟨va, vl, z44, .bool true, z46, .agg #[va7, vl7], z48, z49, z50, z51, z52, z53, z54, z55, z56, z57, z58, z59, z60, z61, z62, z63, z64, z65, z66, z67, z68, z69, z70, z71, z72, z73, z74, z75, z76, z77, z78, z79, z80, z81, z82, z83, z84, z85, z86, z4, ⟨(kq hV.p7_4), (kq hV.p10_4), (kq hV.p10_7), (kq hV.p18_4), (kq hV.p18_7), (kq hV.p19_4), (kq hV.p19_7), (kq hV.p19_13), (kq hV.p21_4), (kq hV.p21_7), (kq hV.p22_4), (kq hV.p22_7), (kq hV.p22_13), (kc hV.c0), (kc hV.c1), (kc hV.c2), (fun _ => rfl), (kc hV.c4), (kc hV.c5), (kc hV.c6), (kc hV.c7), (kc hV.c8), (kc hV.c9), (kc hV.c10), (kc hV.c11), (kc hV.c12), (kc hV.c13), (kc hV.c14), (kc hV.c15), (kc hV.c16), (kc hV.c17), (kc hV.c18), (kc hV.c19), (kc hV.c20), (kc hV.c21), (kc hV.c22), (kc hV.c23), (kc hV.c24), (kc hV.c25), (kc hV.c26), (kc hV.c27), (kc hV.c28), (kc hV.c29), (kc hV.c30), (kc hV.c31), (kc hV.c32), (kc hV.c33), (kc hV.c34), (kc hV.c35), (kc hV.c36), (kc hV.c37), (kc hV.c38), (kc hV.c39), (kc hV.c40), (kc hV.c41), (kc hV.c42), (kc hV.c43), hV.fr, (kc hV.r22)⟩, rfl⟩
    · have d1 : L 1 = true := hd _ rfl ⟨1, .guard⟩ (by simp) rfl
      obtain rfl := (hV.c1 d1).symm
      have d2 : L 2 = true := hd _ rfl ⟨2, .data⟩ (by simp) rfl
      obtain rfl := (hV.c2 d2).symm
      have d3 : L 3 = true := hd _ rfl ⟨3, .data⟩ (by simp) rfl
      obtain rfl := (hV.c3 d3).symm
      refine op_atg _ rfl rfl (fun K' hK => ?_)
      conv => arg 2; whnf
      go_wp2_with fail
      refine (HAB.out _ hV.fr).mono ?_
      rintro e w7 ⟨rfl, hb7⟩
      go_wp2_with fail
      exact ⟨va, vl, z44, .bool true, .agg #[va6, vl6], .agg #[va7, vl7], .bool sab, z49, z50, z51, z52, z53, z54, z55, z56, z57, z58, z59, z60, z61, z62, z63, z64, z65, z66, z67, z68, z69, z70, z71, z72, z73, z74, z75, z76, z77, z78, z79, z80, z81, z82, z83, z84, z85, z86, z4, ⟨(fun _ => upd_same L 4), (fun _ => upd_same L 4), (kq hV.p10_7), (fun _ => upd_same L 4), (kq hV.p18_7), (fun _ => upd_same L 4), (kq hV.p19_7), (kq hV.p19_13), (fun _ => upd_same L 4), (kq hV.p21_7), (fun _ => upd_same L 4), (kq hV.p22_7), (kq hV.p22_13), (kc hV.c0), (kc hV.c1), (kc hV.c2), (kc hV.c3), (fun _ => rfl), (kc hV.c5), (kc hV.c6), (kc hV.c7), (kc hV.c8), (kc hV.c9), (kc hV.c10), (kc hV.c11), (kc hV.c12), (kc hV.c13), (kc hV.c14), (kc hV.c15), (kc hV.c16), (kc hV.c17), (kc hV.c18), (kc hV.c19), (kc hV.c20), (kc hV.c21), (kc hV.c22), (kc hV.c23), (kc hV.c24), (kc hV.c25), (kc hV.c26), (kc hV.c27), (kc hV.c28), (kc hV.c29), (kc hV.c30), (kc hV.c31), (kc hV.c32), (kc hV.c33), (kc hV.c34), (kc hV.c35), (kc hV.c36), (kc hV.c37), (kc hV.c38), (kc hV.c39), (kc hV.c40), (kc hV.c41), (kc hV.c42), (kc hV.c43), (Below.trans (hV.fr) (Below.mono hb7 (Below.size (hV.fr)))), (kn hV.p22_4 hl)⟩, rfl⟩
    · have d1 : L 1 = true := hd _ rfl ⟨1, .guard⟩ (by simp) rfl
      obtain rfl := (hV.c1 d1).symm
      have ho := HX7.out.old hV.fr
      have x0 := ho.at 0 _ rfl
      have x1 := ho.at 1 _ rfl
      have hxl := ho.lt
      refine op_atg _ rfl rfl (fun K' hK => ?_)
      conv => arg 2; whnf
      go_wp2_with fail
      exact ⟨va, vl, z44, .bool true, z46, z47, z48, .agg #[va7, vl7], z50, z51, z52, z53, z54, z55, z56, z57, z58, z59, z60, z61, z62, z63, z64, z65, z66, z67, z68, z69, z70, z71, z72, z73, z74, z75, z76, z77, z78, z79, z80, z81, z82, z83, z84, z85, z86, z4, ⟨(kq hV.p7_4), (kq hV.p10_4), (kq hV.p10_7), (kq hV.p18_4), (kq hV.p18_7), (kq hV.p19_4), (kq hV.p19_7), (kq hV.p19_13), (kq hV.p21_4), (kq hV.p21_7), (kq hV.p22_4), (kq hV.p22_7), (kq hV.p22_13), (kc hV.c0), (kc hV.c1), (kc hV.c2), (kc hV.c3), (kc hV.c4), (fun _ => rfl), (kc hV.c6), (kc hV.c7), (kc hV.c8), (kc hV.c9), (kc hV.c10), (kc hV.c11), (kc hV.c12), (kc hV.c13), (kc hV.c14), (kc hV.c15), (kc hV.c16), (kc hV.c17), (kc hV.c18), (kc hV.c19), (kc hV.c20), (kc hV.c21), (kc hV.c22), (kc hV.c23), (kc hV.c24), (kc hV.c25), (kc hV.c26), (kc hV.c27), (kc hV.c28), (kc hV.c29), (kc hV.c30), (kc hV.c31), (kc hV.c32), (kc hV.c33), (kc hV.c34), (kc hV.c35), (kc hV.c36), (kc hV.c37), (kc hV.c38), (kc hV.c39), (kc hV.c40), (kc hV.c41), (kc hV.c42), (kc hV.c43), hV.fr, (kc hV.r22)⟩, rfl⟩
    · have d1 : L 1 = true := hd _ rfl ⟨1, .guard⟩ (by simp) rfl
      obtain rfl := (hV.c1 d1).symm
      have ho := HX6.out.old hV.fr
      have x0 := ho.at 0 _ rfl
      have x1 := ho.at 1 _ rfl
      have hxl := ho.lt
      refine op_atg _ rfl rfl (fun K' hK => ?_)
      conv => arg 2; whnf
      go_wp2_with fail
      exact ⟨va, vl, z44, .bool true, z46, z47, z48, z49, .agg #[va6, vl6], z51, z52, z53, z54, z55, z56, z57, z58, z59, z60, z61, z62, z63, z64, z65, z66, z67, z68, z69, z70, z71, z72, z73, z74, z75, z76, z77, z78, z79, z80, z81, z82, z83, z84, z85, z86, z4, ⟨(kq hV.p7_4), (kq hV.p10_4), (kq hV.p10_7), (kq hV.p18_4), (kq hV.p18_7), (kq hV.p19_4), (kq hV.p19_7), (kq hV.p19_13), (kq hV.p21_4), (kq hV.p21_7), (kq hV.p22_4), (kq hV.p22_7), (kq hV.p22_13), (kc hV.c0), (kc hV.c1), (kc hV.c2), (kc hV.c3), (kc hV.c4), (kc hV.c5), (fun _ => rfl), (kc hV.c7), (kc hV.c8), (kc hV.c9), (kc hV.c10), (kc hV.c11), (kc hV.c12), (kc hV.c13), (kc hV.c14), (kc hV.c15), (kc hV.c16), (kc hV.c17), (kc hV.c18), (kc hV.c19), (kc hV.c20), (kc hV.c21), (kc hV.c22), (kc hV.c23), (kc hV.c24), (kc hV.c25), (kc hV.c26), (kc hV.c27), (kc hV.c28), (kc hV.c29), (kc hV.c30), (kc hV.c31), (kc hV.c32), (kc hV.c33), (kc hV.c34), (kc hV.c35), (kc hV.c36), (kc hV.c37), (kc hV.c38), (kc hV.c39), (kc hV.c40), (kc hV.c41), (kc hV.c42), (kc hV.c43), hV.fr, (kc hV.r22)⟩, rfl⟩
    · have d1 : L 1 = true := hd _ rfl ⟨1, .guard⟩ (by simp) rfl
      obtain rfl := (hV.c1 d1).symm
      have d4 : L 4 = true := hd _ rfl ⟨4, .chain⟩ (by simp) rfl
      have d5 : L 5 = true := hd _ rfl ⟨5, .data⟩ (by simp) rfl
      obtain rfl := (hV.c5 d5).symm
      have d6 : L 6 = true := hd _ rfl ⟨6, .data⟩ (by simp) rfl
      obtain rfl := (hV.c6 d6).symm
      refine op_atg _ rfl rfl (fun K' hK => ?_)
      conv => arg 2; whnf
      go_wp2_with fail
      refine (HBA.out _ hV.fr).mono ?_
      rintro e w7 ⟨rfl, hb7⟩
      go_wp2_with fail
      exact ⟨va, vl, z44, .bool true, z46, z47, z48, .agg #[va7, vl7], .agg #[va6, vl6], .bool sab, z52, z53, z54, z55, z56, z57, z58, z59, z60, z61, z62, z63, z64, z65, z66, z67, z68, z69, z70, z71, z72, z73, z74, z75, z76, z77, z78, z79, z80, z81, z82, z83, z84, z85, z86, z4, ⟨(kd (d4)), (kq hV.p10_4), (fun _ => upd_same L 7), (kq hV.p18_4), (fun _ => upd_same L 7), (kq hV.p19_4), (fun _ => upd_same L 7), (kq hV.p19_13), (kq hV.p21_4), (fun _ => upd_same L 7), (kq hV.p22_4), (fun _ => upd_same L 7), (kq hV.p22_13), (kc hV.c0), (kc hV.c1), (kc hV.c2), (kc hV.c3), (kc hV.c4), (kc hV.c5), (kc hV.c6), (fun _ => rfl), (kc hV.c8), (kc hV.c9), (kc hV.c10), (kc hV.c11), (kc hV.c12), (kc hV.c13), (kc hV.c14), (kc hV.c15), (kc hV.c16), (kc hV.c17), (kc hV.c18), (kc hV.c19), (kc hV.c20), (kc hV.c21), (kc hV.c22), (kc hV.c23), (kc hV.c24), (kc hV.c25), (kc hV.c26), (kc hV.c27), (kc hV.c28), (kc hV.c29), (kc hV.c30), (kc hV.c31), (kc hV.c32), (kc hV.c33), (kc hV.c34), (kc hV.c35), (kc hV.c36), (kc hV.c37), (kc hV.c38), (kc hV.c39), (kc hV.c40), (kc hV.c41), (kc hV.c42), (kc hV.c43), (Below.trans (hV.fr) (Below.mono hb7 (Below.size (hV.fr)))), (kn hV.p22_7 hl)⟩, rfl⟩
    · have d1 : L 1 = true := hd _ rfl ⟨1, .guard⟩ (by simp) rfl
      obtain rfl := (hV.c1 d1).symm
      have d4 : L 4 = true := hd _ rfl ⟨4, .data⟩ (by simp) rfl
      obtain rfl := (hV.c4 d4).symm
      have d7 : L 7 = true := hd _ rfl ⟨7, .data⟩ (by simp) rfl
      obtain rfl := (hV.c7 d7).symm
      refine op_atg _ rfl rfl (fun K' hK => ?_)
      conv => arg 2; whnf
      go_wp2_with fail
      exact ⟨va, vl, z44, .bool true, z46, z47, .bool sab, z49, z50, .bool sab, .bool true, z53, z54, z55, z56, z57, z58, z59, z60, z61, z62, z63, z64, z65, z66, z67, z68, z69, z70, z71, z72, z73, z74, z75, z76, z77, z78, z79, z80, z81, z82, z83, z84, z85, z86, z4, ⟨(kq hV.p7_4), (kq hV.p10_4), (kq hV.p10_7), (kq hV.p18_4), (kq hV.p18_7), (kq hV.p19_4), (kq hV.p19_7), (kq hV.p19_13), (kq hV.p21_4), (kq hV.p21_7), (kq hV.p22_4), (kq hV.p22_7), (kq hV.p22_13), (kc hV.c0), (kc hV.c1), (kc hV.c2), (kc hV.c3), (kc hV.c4), (kc hV.c5), (kc hV.c6), (kc hV.c7), (fun _ => rfl), (kc hV.c9), (kc hV.c10), (kc hV.c11), (kc hV.c12), (kc hV.c13), (kc hV.c14), (kc hV.c15), (kc hV.c16), (kc hV.c17), (kc hV.c18), (kc hV.c19), (kc hV.c20), (kc hV.c21), (kc hV.c22), (kc hV.c23), (kc hV.c24), (kc hV.c25), (kc hV.c26), (kc hV.c27), (kc hV.c28), (kc hV.c29), (kc hV.c30), (kc hV.c31), (kc hV.c32), (kc hV.c33), (kc hV.c34), (kc hV.c35), (kc hV.c36), (kc hV.c37), (kc hV.c38), (kc hV.c39), (kc hV.c40), (kc hV.c41), (kc hV.c42), (kc hV.c43), hV.fr, (kc hV.r22)⟩, rfl⟩
    · have d1 : L 1 = true := hd _ rfl ⟨1, .data⟩ (by simp) rfl
      obtain rfl := (hV.c1 d1).symm
      have d8 : L 8 = true := hd _ rfl ⟨8, .data⟩ (by simp) rfl
      obtain rfl := (hV.c8 d8).symm
      refine op_at _ rfl rfl (fun K' hK => ?_)
      conv => arg 2; whnf
      go_wp2_with fail
      exact ⟨va, vl, z44, .bool true, z46, z47, z48, z49, z50, z51, .bool true, .bool true, z54, z55, z56, z57, z58, z59, z60, z61, z62, z63, z64, z65, z66, z67, z68, z69, z70, z71, z72, z73, z74, z75, z76, z77, z78, z79, z80, z81, z82, z83, z84, z85, z86, z4, ⟨(kq hV.p7_4), (kq hV.p10_4), (kq hV.p10_7), (kq hV.p18_4), (kq hV.p18_7), (kq hV.p19_4), (kq hV.p19_7), (kq hV.p19_13), (kq hV.p21_4), (kq hV.p21_7), (kq hV.p22_4), (kq hV.p22_7), (kq hV.p22_13), (kc hV.c0), (kc hV.c1), (kc hV.c2), (kc hV.c3), (kc hV.c4), (kc hV.c5), (kc hV.c6), (kc hV.c7), (kc hV.c8), (fun _ => rfl), (kc hV.c10), (kc hV.c11), (kc hV.c12), (kc hV.c13), (kc hV.c14), (kc hV.c15), (kc hV.c16), (kc hV.c17), (kc hV.c18), (kc hV.c19), (kc hV.c20), (kc hV.c21), (kc hV.c22), (kc hV.c23), (kc hV.c24), (kc hV.c25), (kc hV.c26), (kc hV.c27), (kc hV.c28), (kc hV.c29), (kc hV.c30), (kc hV.c31), (kc hV.c32), (kc hV.c33), (kc hV.c34), (kc hV.c35), (kc hV.c36), (kc hV.c37), (kc hV.c38), (kc hV.c39), (kc hV.c40), (kc hV.c41), (kc hV.c42), (kc hV.c43), hV.fr, (kc hV.r22)⟩, rfl⟩
    · have d7 : L 7 = true := hd _ rfl ⟨7, .chain⟩ (by simp) rfl
      have d9 : L 9 = true := hd _ rfl ⟨9, .data⟩ (by simp) rfl
      obtain rfl := (hV.c9 d9).symm
      refine op_at _ rfl rfl (fun K' hK => ?_)
      conv => arg 2; whnf
      go_wp2_with fail
      exact ⟨va, vl, z44, z45, z46, z47, z48, z49, z50, z51, z52, .bool true, .bool true, z55, z56, z57, z58, z59, z60, z61, z62, z63, z64, z65, z66, z67, z68, z69, z70, z71, z72, z73, z74, z75, z76, z77, z78, z79, z80, z81, z82, z83, z84, z85, z86, z4, ⟨(kq hV.p7_4), (kd (hV.p7_4 d7)), (kd (d7)), (kq hV.p18_4), (kq hV.p18_7), (kq hV.p19_4), (kq hV.p19_7), (kq hV.p19_13), (kq hV.p21_4), (kq hV.p21_7), (kq hV.p22_4), (kq hV.p22_7), (kq hV.p22_13), (kc hV.c0), (kc hV.c1), (kc hV.c2), (kc hV.c3), (kc hV.c4), (kc hV.c5), (kc hV.c6), (kc hV.c7), (kc hV.c8), (kc hV.c9), (fun _ => rfl), (kc hV.c11), (kc hV.c12), (kc hV.c13), (kc hV.c14), (kc hV.c15), (kc hV.c16), (kc hV.c17), (kc hV.c18), (kc hV.c19), (kc hV.c20), (kc hV.c21), (kc hV.c22), (kc hV.c23), (kc hV.c24), (kc hV.c25), (kc hV.c26), (kc hV.c27), (kc hV.c28), (kc hV.c29), (kc hV.c30), (kc hV.c31), (kc hV.c32), (kc hV.c33), (kc hV.c34), (kc hV.c35), (kc hV.c36), (kc hV.c37), (kc hV.c38), (kc hV.c39), (kc hV.c40), (kc hV.c41), (kc hV.c42), (kc hV.c43), hV.fr, (kc hV.r22)⟩, rfl⟩
    · have d10 : L 10 = true := hd _ rfl ⟨10, .guard⟩ (by simp) rfl
      obtain rfl := (hV.c10 d10).symm
      have ho := HX6.out.old hV.fr
      have x0 := ho.at 0 _ rfl
      have x1 := ho.at 1 _ rfl
      have hxl := ho.lt
      refine op_atg _ rfl rfl (fun K' hK => ?_)
      conv => arg 2; whnf
      go_wp2_with fail
      exact ⟨va, vl, z44, z45, z46, z47, z48, z49, z50, z51, z52, z53, .bool true, .agg #[va6, vl6], z56, z57, z58, z59, z60, z61, z62, z63, z64, z65, z66, z67, z68, z69, z70, z71, z72, z73, z74, z75, z76, z77, z78, z79, z80, z81, z82, z83, z84, z85, z86, z4, ⟨(kq hV.p7_4), (kq hV.p10_4), (kq hV.p10_7), (kq hV.p18_4), (kq hV.p18_7), (kq hV.p19_4), (kq hV.p19_7), (kq hV.p19_13), (kq hV.p21_4), (kq hV.p21_7), (kq hV.p22_4), (kq hV.p22_7), (kq hV.p22_13), (kc hV.c0), (kc hV.c1), (kc hV.c2), (kc hV.c3), (kc hV.c4), (kc hV.c5), (kc hV.c6), (kc hV.c7), (kc hV.c8), (kc hV.c9), (kc hV.c10), (fun _ => rfl), (kc hV.c12), (kc hV.c13), (kc hV.c14), (kc hV.c15), (kc hV.c16), (kc hV.c17), (kc hV.c18), (kc hV.c19), (kc hV.c20), (kc hV.c21), (kc hV.c22), (kc hV.c23), (kc hV.c24), (kc hV.c25), (kc hV.c26), (kc hV.c27), (kc hV.c28), (kc hV.c29), (kc hV.c30), (kc hV.c31), (kc hV.c32), (kc hV.c33), (kc hV.c34), (kc hV.c35), (kc hV.c36), (kc hV.c37), (kc hV.c38), (kc hV.c39), (kc hV.c40), (kc hV.c41), (kc hV.c42), (kc hV.c43), hV.fr, (kc hV.r22)⟩, rfl⟩
    · have d10 : L 10 = true := hd _ rfl ⟨10, .guard⟩ (by simp) rfl
      obtain rfl := (hV.c10 d10).symm
      have ho := HX7.out.old hV.fr
      have x0 := ho.at 0 _ rfl
      have x1 := ho.at 1 _ rfl
      have hxl := ho.lt
      refine op_atg _ rfl rfl (fun K' hK => ?_)
      conv => arg 2; whnf
      go_wp2_with fail
      exact ⟨va, vl, z44, z45, z46, z47, z48, z49, z50, z51, z52, z53, .bool true, z55, .agg #[va7, vl7], z57, z58, z59, z60, z61, z62, z63, z64, z65, z66, z67, z68, z69, z70, z71, z72, z73, z74, z75, z76, z77, z78, z79, z80, z81, z82, z83, z84, z85, z86, z4, ⟨(kq hV.p7_4), (kq hV.p10_4), (kq hV.p10_7), (kq hV.p18_4), (kq hV.p18_7), (kq hV.p19_4), (kq hV.p19_7), (kq hV.p19_13), (kq hV.p21_4), (kq hV.p21_7), (kq hV.p22_4), (kq hV.p22_7), (kq hV.p22_13), (kc hV.c0), (kc hV.c1), (kc hV.c2), (kc hV.c3), (kc hV.c4), (kc hV.c5), (kc hV.c6), (kc hV.c7), (kc hV.c8), (kc hV.c9), (kc hV.c10), (kc hV.c11), (fun _ => rfl), (kc hV.c13), (kc hV.c14), (kc hV.c15), (kc hV.c16), (kc hV.c17), (kc hV.c18), (kc hV.c19), (kc hV.c20), (kc hV.c21), (kc hV.c22), (kc hV.c23), (kc hV.c24), (kc hV.c25), (kc hV.c26), (kc hV.c27), (kc hV.c28), (kc hV.c29), (kc hV.c30), (kc hV.c31), (kc hV.c32), (kc hV.c33), (kc hV.c34), (kc hV.c35), (kc hV.c36), (kc hV.c37), (kc hV.c38), (kc hV.c39), (kc hV.c40), (kc hV.c41), (kc hV.c42), (kc hV.c43), hV.fr, (kc hV.r22)⟩, rfl⟩
    · have d10 : L 10 = true := hd _ rfl ⟨10, .guard⟩ (by simp) rfl
      obtain rfl := (hV.c10 d10).symm
      have d11 : L 11 = true := hd _ rfl ⟨11, .data⟩ (by simp) rfl
      obtain rfl := (hV.c11 d11).symm
      have d12 : L 12 = true := hd _ rfl ⟨12, .data⟩ (by simp) rfl
      obtain rfl := (hV.c12 d12).symm
      refine op_atg _ rfl rfl (fun K' hK => ?_)
      conv => arg 2; whnf
      go_wp2_with fail
      refine (HAB.out _ hV.fr).mono ?_
      rintro e w7 ⟨rfl, hb7⟩
      go_wp2_with fail
      exact ⟨va, vl, z44, z45, z46, z47, z48, z49, z50, z51, z52, z53, .bool true, .agg #[va6, vl6], .agg #[va7, vl7], .bool sab, z58, z59, z60, z61, z62, z63, z64, z65, z66, z67, z68, z69, z70, z71, z72, z73, z74, z75, z76, z77, z78, z79, z80, z81, z82, z83, z84, z85, z86, z4, ⟨(kq hV.p7_4), (kq hV.p10_4), (kq hV.p10_7), (kq hV.p18_4), (kq hV.p18_7), (kq hV.p19_4), (kq hV.p19_7), (fun _ => upd_same L 13), (kq hV.p21_4), (kq hV.p21_7), (kq hV.p22_4), (kq hV.p22_7), (fun _ => upd_same L 13), (kc hV.c0), (kc hV.c1), (kc hV.c2), (kc hV.c3), (kc hV.c4), (kc hV.c5), (kc hV.c6), (kc hV.c7), (kc hV.c8), (kc hV.c9), (kc hV.c10), (kc hV.c11), (kc hV.c12), (fun _ => rfl), (kc hV.c14), (kc hV.c15), (kc hV.c16), (kc hV.c17), (kc hV.c18), (kc hV.c19), (kc hV.c20), (kc hV.c21), (kc hV.c22), (kc hV.c23), (kc hV.c24), (kc hV.c25), (kc hV.c26), (kc hV.c27), (kc hV.c28), (kc hV.c29), (kc hV.c30), (kc hV.c31), (kc hV.c32), (kc hV.c33), (kc hV.c34), (kc hV.c35), (kc hV.c36), (kc hV.c37), (kc hV.c38), (kc hV.c39), (kc hV.c40), (kc hV.c41), (kc hV.c42), (kc hV.c43), (Below.trans (hV.fr) (Below.mono hb7 (Below.size (hV.fr)))), (kn hV.p22_13 hl)⟩, rfl⟩
    · have d10 : L 10 = true := hd _ rfl ⟨10, .guard⟩ (by simp) rfl
      obtain rfl := (hV.c10 d10).symm
      refine op_atg _ rfl rfl (fun K' hK => ?_)
      conv => arg 2; whnf
      go_wp2_with fail
      exact ⟨va, vl, z44, z45, z46, z47, z48, z49, z50, z51, z52, z53, .bool true, z55, z56, z57, .string (strOf s), z59, z60, z61, z62, z63, z64, z65, z66, z67, z68, z69, z70, z71, z72, z73, z74, z75, z76, z77, z78, z79, z80, z81, z82, z83, z84, z85, z86, z4, ⟨(kq hV.p7_4), (kq hV.p10_4), (kq hV.p10_7), (kq hV.p18_4), (kq hV.p18_7), (kq hV.p19_4), (kq hV.p19_7), (kq hV.p19_13), (kq hV.p21_4), (kq hV.p21_7), (kq hV.p22_4), (kq hV.p22_7), (kq hV.p22_13), (kc hV.c0), (kc hV.c1), (kc hV.c2), (kc hV.c3), (kc hV.c4), (kc hV.c5), (kc hV.c6), (kc hV.c7), (kc hV.c8), (kc hV.c9), (kc hV.c10), (kc hV.c11), (kc hV.c12), (kc hV.c13), (fun _ => rfl), (kc hV.c15), (kc hV.c16), (kc hV.c17), (kc hV.c18), (kc hV.c19), (kc hV.c20), (kc hV.c21), (kc hV.c22), (kc hV.c23), (kc hV.c24), (kc hV.c25), (kc hV.c26), (kc hV.c27), (kc hV.c28), (kc hV.c29), (kc hV.c30), (kc hV.c31), (kc hV.c32), (kc hV.c33), (kc hV.c34), (kc hV.c35), (kc hV.c36), (kc hV.c37), (kc hV.c38), (kc hV.c39), (kc hV.c40), (kc hV.c41), (kc hV.c42), (kc hV.c43), hV.fr, (kc hV.r22)⟩, rfl⟩
    · have d10 : L 10 = true := hd _ rfl ⟨10, .guard⟩ (by simp) rfl
      obtain rfl := (hV.c10 d10).symm
      refine op_atg _ rfl rfl (fun K' hK => ?_)
      conv => arg 2; whnf
      go_wp2_with fail
      exact ⟨va, vl, z44, z45, z46, z47, z48, z49, z50, z51, z52, z53, .bool true, z55, z56, z57, z58, .string (strOf t), z60, z61, z62, z63, z64, z65, z66, z67, z68, z69, z70, z71, z72, z73, z74, z75, z76, z77, z78, z79, z80, z81, z82, z83, z84, z85, z86, z4, ⟨(kq hV.p7_4), (kq hV.p10_4), (kq hV.p10_7), (kq hV.p18_4), (kq hV.p18_7), (kq hV.p19_4), (kq hV.p19_7), (kq hV.p19_13), (kq hV.p21_4), (kq hV.p21_7), (kq hV.p22_4), (kq hV.p22_7), (kq hV.p22_13), (kc hV.c0), (kc hV.c1), (kc hV.c2), (kc hV.c3), (kc hV.c4), (kc hV.c5), (kc hV.c6), (kc hV.c7), (kc hV.c8), (kc hV.c9), (kc hV.c10), (kc hV.c11), (kc hV.c12), (kc hV.c13), (kc hV.c14), (fun _ => rfl), (kc hV.c16), (kc hV.c17), (kc hV.c18), (kc hV.c19), (kc hV.c20), (kc hV.c21), (kc hV.c22), (kc hV.c23), (kc hV.c24), (kc hV.c25), (kc hV.c26), (kc hV.c27), (kc hV.c28), (kc hV.c29), (kc hV.c30), (kc hV.c31), (kc hV.c32), (kc hV.c33), (kc hV.c34), (kc hV.c35), (kc hV.c36), (kc hV.c37), (kc hV.c38), (kc hV.c39), (kc hV.c40), (kc hV.c41), (kc hV.c42), (kc hV.c43), hV.fr, (kc hV.r22)⟩, rfl⟩
    · have d10 : L 10 = true := hd _ rfl ⟨10, .guard⟩ (by simp) rfl
      obtain rfl := (hV.c10 d10).symm
      have d14 : L 14 = true := hd _ rfl ⟨14, .data⟩ (by simp) rfl
      obtain rfl := (hV.c14 d14).symm
      have d15 : L 15 = true := hd _ rfl ⟨15, .data⟩ (by simp) rfl
      obtain rfl := (hV.c15 d15).symm
      refine op_atg _ rfl rfl (fun K' hK => ?_)
      conv => arg 2; whnf
      go_wp2_with fail
      exact ⟨va, vl, z44, z45, z46, z47, z48, z49, z50, z51, z52, z53, .bool true, z55, z56, z57, .string (strOf s), .string (strOf t), .bool sab, z61, z62, z63, z64, z65, z66, z67, z68, z69, z70, z71, z72, z73, z74, z75, z76, z77, z78, z79, z80, z81, z82, z83, z84, z85, z86, z4, ⟨(kq hV.p7_4), (kq hV.p10_4), (kq hV.p10_7), (kq hV.p18_4), (kq hV.p18_7), (kq hV.p19_4), (kq hV.p19_7), (kq hV.p19_13), (kq hV.p21_4), (kq hV.p21_7), (kq hV.p22_4), (kq hV.p22_7), (kq hV.p22_13), (kc hV.c0), (kc hV.c1), (kc hV.c2), (kc hV.c3), (kc hV.c4), (kc hV.c5), (kc hV.c6), (kc hV.c7), (kc hV.c8), (kc hV.c9), (kc hV.c10), (kc hV.c11), (kc hV.c12), (kc hV.c13), (kc hV.c14), (kc hV.c15), (fun _ => rfl), (kc hV.c17), (kc hV.c18), (kc hV.c19), (kc hV.c20), (kc hV.c21), (kc hV.c22), (kc hV.c23), (kc hV.c24), (kc hV.c25), (kc hV.c26), (kc hV.c27), (kc hV.c28), (kc hV.c29), (kc hV.c30), (kc hV.c31), (kc hV.c32), (kc hV.c33), (kc hV.c34), (kc hV.c35), (kc hV.c36), (kc hV.c37), (kc hV.c38), (kc hV.c39), (kc hV.c40), (kc hV.c41), (kc hV.c42), (kc hV.c43), hV.fr, (kc hV.r22)⟩, rfl⟩
    · have d10 : L 10 = true := hd _ rfl ⟨10, .guard⟩ (by simp) rfl
      obtain rfl := (hV.c10 d10).symm
      have d13 : L 13 = true := hd _ rfl ⟨13, .data⟩ (by simp) rfl
      obtain rfl := (hV.c13 d13).symm
      have d16 : L 16 = true := hd _ rfl ⟨16, .data⟩ (by simp) rfl
      obtain rfl := (hV.c16 d16).symm
      refine op_atg _ rfl rfl (fun K' hK => ?_)
      conv => arg 2; whnf
      go_wp2_with fail
      exact ⟨va, vl, z44, z45, z46, z47, z48, z49, z50, z51, z52, z53, .bool true, z55, z56, .bool sab, z58, z59, .bool sab, .bool true, z62, z63, z64, z65, z66, z67, z68, z69, z70, z71, z72, z73, z74, z75, z76, z77, z78, z79, z80, z81, z82, z83, z84, z85, z86, z4, ⟨(kq hV.p7_4), (kq hV.p10_4), (kq hV.p10_7), (kq hV.p18_4), (kq hV.p18_7), (kq hV.p19_4), (kq hV.p19_7), (kq hV.p19_13), (kq hV.p21_4), (kq hV.p21_7), (kq hV.p22_4), (kq hV.p22_7), (kq hV.p22_13), (kc hV.c0), (kc hV.c1), (kc hV.c2), (kc hV.c3), (kc hV.c4), (kc hV.c5), (kc hV.c6), (kc hV.c7), (kc hV.c8), (kc hV.c9), (kc hV.c10), (kc hV.c11), (kc hV.c12), (kc hV.c13), (kc hV.c14), (kc hV.c15), (kc hV.c16), (fun _ => rfl), (kc hV.c18), (kc hV.c19), (kc hV.c20), (kc hV.c21), (kc hV.c22), (kc hV.c23), (kc hV.c24), (kc hV.c25), (kc hV.c26), (kc hV.c27), (kc hV.c28), (kc hV.c29), (kc hV.c30), (kc hV.c31), (kc hV.c32), (kc hV.c33), (kc hV.c34), (kc hV.c35), (kc hV.c36), (kc hV.c37), (kc hV.c38), (kc hV.c39), (kc hV.c40), (kc hV.c41), (kc hV.c42), (kc hV.c43), hV.fr, (kc hV.r22)⟩, rfl⟩
    · have d10 : L 10 = true := hd _ rfl ⟨10, .data⟩ (by simp) rfl
      obtain rfl := (hV.c10 d10).symm
      have d17 : L 17 = true := hd _ rfl ⟨17, .data⟩ (by simp) rfl
      obtain rfl := (hV.c17 d17).symm
      refine op_at _ rfl rfl (fun K' hK => ?_)
      conv => arg 2; whnf
      go_wp2_with fail
      exact ⟨va, vl, z44, z45, z46, z47, z48, z49, z50, z51, z52, z53, .bool true, z55, z56, z57, z58, z59, z60, .bool true, .bool true, z63, z64, z65, z66, z67, z68, z69, z70, z71, z72, z73, z74, z75, z76, z77, z78, z79, z80, z81, z82, z83, z84, z85, z86, z4, ⟨(kq hV.p7_4), (kq hV.p10_4), (kq hV.p10_7), (kd (hV.p10_4 d10)), (kd (hV.p10_7 d10)), (kq hV.p19_4), (kq hV.p19_7), (kq hV.p19_13), (kq hV.p21_4), (kq hV.p21_7), (kq hV.p22_4), (kq hV.p22_7), (kq hV.p22_13), (kc hV.c0), (kc hV.c1), (kc hV.c2), (kc hV.c3), (kc hV.c4), (kc hV.c5), (kc hV.c6), (kc hV.c7), (kc hV.c8), (kc hV.c9), (kc hV.c10), (kc hV.c11), (kc hV.c12), (kc hV.c13), (kc hV.c14), (kc hV.c15), (kc hV.c16), (kc hV.c17), (fun _ => rfl), (kc hV.c19), (kc hV.c20), (kc hV.c21), (kc hV.c22), (kc hV.c23), (kc hV.c24), (kc hV.c25), (kc hV.c26), (kc hV.c27), (kc hV.c28), (kc hV.c29), (kc hV.c30), (kc hV.c31), (kc hV.c32), (kc hV.c33), (kc hV.c34), (kc hV.c35), (kc hV.c36), (kc hV.c37), (kc hV.c38), (kc hV.c39), (kc hV.c40), (kc hV.c41), (kc hV.c42), (kc hV.c43), hV.fr, (kc hV.r22)⟩, rfl⟩
    · have d13 : L 13 = true := hd _ rfl ⟨13, .chain⟩ (by simp) rfl
      have d18 : L 18 = true := hd _ rfl ⟨18, .data⟩ (by simp) rfl
      obtain rfl := (hV.c18 d18).symm
      refine op_at _ rfl rfl (fun K' hK => ?_)
      conv => arg 2; whnf
      go_wp2_with fail
      exact ⟨va, vl, z44, z45, z46, z47, z48, z49, z50, z51, z52, z53, z54, z55, z56, z57, z58, z59, z60, z61, .bool true, .bool true, z64, z65, z66, z67, z68, z69, z70, z71, z72, z73, z74, z75, z76, z77, z78, z79, z80, z81, z82, z83, z84, z85, z86, z4, ⟨(kq hV.p7_4), (kq hV.p10_4), (kq hV.p10_7), (kq hV.p18_4), (kq hV.p18_7), (kd (hV.p18_4 d18)), (kd (hV.p18_7 d18)), (kd (d13)), (kq hV.p21_4), (kq hV.p21_7), (kq hV.p22_4), (kq hV.p22_7), (kq hV.p22_13), (kc hV.c0), (kc hV.c1), (kc hV.c2), (kc hV.c3), (kc hV.c4), (kc hV.c5), (kc hV.c6), (kc hV.c7), (kc hV.c8), (kc hV.c9), (kc hV.c10), (kc hV.c11), (kc hV.c12), (kc hV.c13), (kc hV.c14), (kc hV.c15), (kc hV.c16), (kc hV.c17), (kc hV.c18), (fun _ => rfl), (kc hV.c20), (kc hV.c21), (kc hV.c22), (kc hV.c23), (kc hV.c24), (kc hV.c25), (kc hV.c26), (kc hV.c27), (kc hV.c28), (kc hV.c29), (kc hV.c30), (kc hV.c31), (kc hV.c32), (kc hV.c33), (kc hV.c34), (kc hV.c35), (kc hV.c36), (kc hV.c37), (kc hV.c38), (kc hV.c39), (kc hV.c40), (kc hV.c41), (kc hV.c42), (kc hV.c43), hV.fr, (kc hV.r22)⟩, rfl⟩
    · have d19 : L 19 = true := hd _ rfl ⟨19, .guard⟩ (by simp) rfl
      obtain rfl := (hV.c19 d19).symm
      have ho := HX6.out.old hV.fr
      have x0 := ho.at 0 _ rfl
      have x1 := ho.at 1 _ rfl
      have hxl := ho.lt
      refine op_atg _ rfl rfl (fun K' hK => ?_)
      conv => arg 2; whnf
      go_wp2_with fail
      exact ⟨va, vl, z44, z45, z46, z47, z48, z49, z50, z51, z52, z53, z54, z55, z56, z57, z58, z59, z60, z61, z62, .bool true, .agg #[va6, vl6], z65, z66, z67, z68, z69, z70, z71, z72, z73, z74, z75, z76, z77, z78, z79, z80, z81, z82, z83, z84, z85, z86, z4, ⟨(kq hV.p7_4), (kq hV.p10_4), (kq hV.p10_7), (kq hV.p18_4), (kq hV.p18_7), (kq hV.p19_4), (kq hV.p19_7), (kq hV.p19_13), (kq hV.p21_4), (kq hV.p21_7), (kq hV.p22_4), (kq hV.p22_7), (kq hV.p22_13), (kc hV.c0), (kc hV.c1), (kc hV.c2), (kc hV.c3), (kc hV.c4), (kc hV.c5), (kc hV.c6), (kc hV.c7), (kc hV.c8), (kc hV.c9), (kc hV.c10), (kc hV.c11), (kc hV.c12), (kc hV.c13), (kc hV.c14), (kc hV.c15), (kc hV.c16), (kc hV.c17), (kc hV.c18), (kc hV.c19), (fun _ => rfl), (kc hV.c21), (kc hV.c22), (kc hV.c23), (kc hV.c24), (kc hV.c25), (kc hV.c26), (kc hV.c27), (kc hV.c28), (kc hV.c29), (kc hV.c30), (kc hV.c31), (kc hV.c32), (kc hV.c33), (kc hV.c34), (kc hV.c35), (kc hV.c36), (kc hV.c37), (kc hV.c38), (kc hV.c39), (kc hV.c40), (kc hV.c41), (kc hV.c42), (kc hV.c43), hV.fr, (kc hV.r22)⟩, rfl⟩
    · have d19 : L 19 = true := hd _ rfl ⟨19, .guard⟩ (by simp) rfl
      obtain rfl := (hV.c19 d19).symm
      refine op_atg _ rfl rfl (fun K' hK => ?_)
      conv => arg 2; whnf
      go_wp2_with fail
      exact ⟨va, vl, z44, z45, z46, z47, z48, z49, z50, z51, z52, z53, z54, z55, z56, z57, z58, z59, z60, z61, z62, .bool true, z64, v0, z66, z67, z68, z69, z70, z71, z72, z73, z74, z75, z76, z77, z78, z79, z80, z81, z82, z83, z84, z85, z86, z4, ⟨(kq hV.p7_4), (kq hV.p10_4), (kq hV.p10_7), (kq hV.p18_4), (kq hV.p18_7), (kq hV.p19_4), (kq hV.p19_7), (kq hV.p19_13), (kd (hV.p19_4 d19)), (kd (hV.p19_7 d19)), (kq hV.p22_4), (kq hV.p22_7), (kq hV.p22_13), (kc hV.c0), (kc hV.c1), (kc hV.c2), (kc hV.c3), (kc hV.c4), (kc hV.c5), (kc hV.c6), (kc hV.c7), (kc hV.c8), (kc hV.c9), (kc hV.c10), (kc hV.c11), (kc hV.c12), (kc hV.c13), (kc hV.c14), (kc hV.c15), (kc hV.c16), (kc hV.c17), (kc hV.c18), (kc hV.c19), (kc hV.c20), (fun _ => rfl), (kc hV.c22), (kc hV.c23), (kc hV.c24), (kc hV.c25), (kc hV.c26), (kc hV.c27), (kc hV.c28), (kc hV.c29), (kc hV.c30), (kc hV.c31), (kc hV.c32), (kc hV.c33), (kc hV.c34), (kc hV.c35), (kc hV.c36), (kc hV.c37), (kc hV.c38), (kc hV.c39), (kc hV.c40), (kc hV.c41), (kc hV.c42), (kc hV.c43), hV.fr, (kc hV.r22)⟩, rfl⟩
    · have d19 : L 19 = true := hd _ rfl ⟨19, .guard⟩ (by simp) rfl
      obtain rfl := (hV.c19 d19).symm
      have d21 : L 21 = true := hd _ rfl ⟨21, .data⟩ (by simp) rfl
      obtain rfl := (hV.c21 d21).symm
      refine op_atg _ rfl rfl (fun K' hK => ?_)
      conv => arg 2; whnf
      go_wp2_with fail
      refine (HFT.out _ hV.fr).mono ?_
      rintro e w7 ⟨ua, ul, rfl, hc7, hb7⟩
      go_wp2_with fail
      exact ⟨ua, ul, z44, z45, z46, z47, z48, z49, z50, z51, z52, z53, z54, z55, z56, z57, z58, z59, z60, z61, z62, .bool true, z64, v0, .agg #[(ua), (ul)], z67, z68, z69, z70, z71, z72, z73, z74, z75, z76, z77, z78, z79, z80, z81, z82, z83, z84, z85, z86, z4, ⟨(kq hV.p7_4), (kq hV.p10_4), (kq hV.p10_7), (kq hV.p18_4), (kq hV.p18_7), (kq hV.p19_4), (kq hV.p19_7), (kq hV.p19_13), (kq hV.p21_4), (kq hV.p21_7), (kd (hV.p21_4 d21)), (kd (hV.p21_7 d21)), (kd (hV.p19_13 d19)), (kc hV.c0), (kc hV.c1), (kc hV.c2), (kc hV.c3), (kc hV.c4), (kc hV.c5), (kc hV.c6), (kc hV.c7), (kc hV.c8), (kc hV.c9), (kc hV.c10), (kc hV.c11), (kc hV.c12), (kc hV.c13), (kc hV.c14), (kc hV.c15), (kc hV.c16), (kc hV.c17), (kc hV.c18), (kc hV.c19), (kc hV.c20), (kc hV.c21), (fun _ => rfl), (kc hV.c23), (kc hV.c24), (kc hV.c25), (kc hV.c26), (kc hV.c27), (kc hV.c28), (kc hV.c29), (kc hV.c30), (kc hV.c31), (kc hV.c32), (kc hV.c33), (kc hV.c34), (kc hV.c35), (kc hV.c36), (kc hV.c37), (kc hV.c38), (kc hV.c39), (kc hV.c40), (kc hV.c41), (kc hV.c42), (kc hV.c43), (Below.trans (hV.fr) (Below.mono hb7 (Below.size (hV.fr)))), (fun _ => hc7)⟩, rfl⟩
    · have d19 : L 19 = true := hd _ rfl ⟨19, .guard⟩ (by simp) rfl
      obtain rfl := (hV.c19 d19).symm
      have d20 : L 20 = true := hd _ rfl ⟨20, .data⟩ (by simp) rfl
      obtain rfl := (hV.c20 d20).symm
      have d22 : L 22 = true := hd _ rfl ⟨22, .data⟩ (by simp) rfl
      obtain rfl := (hV.c22 d22).symm
      refine op_atg _ rfl rfl (fun K' hK => ?_)
      conv => arg 2; whnf
      go_wp2_with fail
      refine (HAA.out _ _ _ hV.fr (hV.r22 d22)).mono ?_
      rintro e w7 ⟨rfl, hb7⟩
      go_wp2_with fail
      exact ⟨va, vl, z44, z45, z46, z47, z48, z49, z50, z51, z52, z53, z54, z55, z56, z57, z58, z59, z60, z61, z62, .bool true, .agg #[va6, vl6], z65, .agg #[va, vl], .bool true, z68, z69, z70, z71, z72, z73, z74, z75, z76, z77, z78, z79, z80, z81, z82, z83, z84, z85, z86, z4, ⟨(kq hV.p7_4), (kq hV.p10_4), (kq hV.p10_7), (kq hV.p18_4), (kq hV.p18_7), (kq hV.p19_4), (kq hV.p19_7), (kq hV.p19_13), (kq hV.p21_4), (kq hV.p21_7), (kq hV.p22_4), (kq hV.p22_7), (kq hV.p22_13), (kc hV.c0), (kc hV.c1), (kc hV.c2), (kc hV.c3), (kc hV.c4), (kc hV.c5), (kc hV.c6), (kc hV.c7), (kc hV.c8), (kc hV.c9), (kc hV.c10), (kc hV.c11), (kc hV.c12), (kc hV.c13), (kc hV.c14), (kc hV.c15), (kc hV.c16), (kc hV.c17), (kc hV.c18), (kc hV.c19), (kc hV.c20), (kc hV.c21), (kc hV.c22), (fun _ => rfl), (kc hV.c24), (kc hV.c25), (kc hV.c26), (kc hV.c27), (kc hV.c28), (kc hV.c29), (kc hV.c30), (kc hV.c31), (kc hV.c32), (kc hV.c33), (kc hV.c34), (kc hV.c35), (kc hV.c36), (kc hV.c37), (kc hV.c38), (kc hV.c39), (kc hV.c40), (kc hV.c41), (kc hV.c42), (kc hV.c43), (Below.trans (hV.fr) (Below.mono hb7 (Below.size (hV.fr)))), (fun h0 => CodeAt.old (hV.r22 (kb h0)) hb7)⟩, rfl⟩
    · have d19 : L 19 = true := hd _ rfl ⟨19, .data⟩ (by simp) rfl
      obtain rfl := (hV.c19 d19).symm
      have d23 : L 23 = true := hd _ rfl ⟨23, .data⟩ (by simp) rfl
      obtain rfl := (hV.c23 d23).symm
      refine op_at _ rfl rfl (fun K' hK => ?_)
      conv => arg 2; whnf
      go_wp2_with fail
      exact ⟨va, vl, z44, z45, z46, z47, z48, z49, z50, z51, z52, z53, z54, z55, z56, z57, z58, z59, z60, z61, z62, .bool true, z64, z65, z66, .bool true, .bool true, z69, z70, z71, z72, z73, z74, z75, z76, z77, z78, z79, z80, z81, z82, z83, z84, z85, z86, z4, ⟨(kq hV.p7_4), (kq hV.p10_4), (kq hV.p10_7), (kq hV.p18_4), (kq hV.p18_7), (kq hV.p19_4), (kq hV.p19_7), (kq hV.p19_13), (kq hV.p21_4), (kq hV.p21_7), (kq hV.p22_4), (kq hV.p22_7), (kq hV.p22_13), (kc hV.c0), (kc hV.c1), (kc hV.c2), (kc hV.c3), (kc hV.c4), (kc hV.c5), (kc hV.c6), (kc hV.c7), (kc hV.c8), (kc hV.c9), (kc hV.c10), (kc hV.c11), (kc hV.c12), (kc hV.c13), (kc hV.c14), (kc hV.c15), (kc hV.c16), (kc hV.c17), (kc hV.c18), (kc hV.c19), (kc hV.c20), (kc hV.c21), (kc hV.c22), (kc hV.c23), (fun _ => rfl), (kc hV.c25), (kc hV.c26), (kc hV.c27), (kc hV.c28), (kc hV.c29), (kc hV.c30), (kc hV.c31), (kc hV.c32), (kc hV.c33), (kc hV.c34), (kc hV.c35), (kc hV.c36), (kc hV.c37), (kc hV.c38), (kc hV.c39), (kc hV.c40), (kc hV.c41), (kc hV.c42), (kc hV.c43), hV.fr, (kc hV.r22)⟩, rfl⟩
    · have d23 : L 23 = true := hd _ rfl ⟨23, .chain⟩ (by simp) rfl
      have d24 : L 24 = true := hd _ rfl ⟨24, .data⟩ (by simp) rfl
      obtain rfl := (hV.c24 d24).symm
      refine op_at _ rfl rfl (fun K' hK => ?_)
      conv => arg 2; whnf
      go_wp2_with fail
      exact ⟨va, vl, z44, z45, z46, z47, z48, z49, z50, z51, z52, z53, z54, z55, z56, z57, z58, z59, z60, z61, z62, z63, z64, z65, z66, z67, .bool true, .bool true, z70, z71, z72, z73, z74, z75, z76, z77, z78, z79, z80, z81, z82, z83, z84, z85, z86, z4, ⟨(kq hV.p7_4), (kq hV.p10_4), (kq hV.p10_7), (kq hV.p18_4), (kq hV.p18_7), (kq hV.p19_4), (kq hV.p19_7), (kq hV.p19_13), (kq hV.p21_4), (kq hV.p21_7), (kq hV.p22_4), (kq hV.p22_7), (kq hV.p22_13), (kc hV.c0), (kc hV.c1), (kc hV.c2), (kc hV.c3), (kc hV.c4), (kc hV.c5), (kc hV.c6), (kc hV.c7), (kc hV.c8), (kc hV.c9), (kc hV.c10), (kc hV.c11), (kc hV.c12), (kc hV.c13), (kc hV.c14), (kc hV.c15), (kc hV.c16), (kc hV.c17), (kc hV.c18), (kc hV.c19), (kc hV.c20), (kc hV.c21), (kc hV.c22), (kc hV.c23), (kc hV.c24), (fun _ => rfl), (kc hV.c26), (kc hV.c27), (kc hV.c28), (kc hV.c29), (kc hV.c30), (kc hV.c31), (kc hV.c32), (kc hV.c33), (kc hV.c34), (kc hV.c35), (kc hV.c36), (kc hV.c37), (kc hV.c38), (kc hV.c39), (kc hV.c40), (kc hV.c41), (kc hV.c42), (kc hV.c43), hV.fr, (kc hV.r22)⟩, rfl⟩
    · have d25 : L 25 = true := hd _ rfl ⟨25, .guard⟩ (by simp) rfl
      obtain rfl := (hV.c25 d25).symm
      have ho := HX6.out.old hV.fr
      have x0 := ho.at 0 _ rfl
      have x1 := ho.at 1 _ rfl
      have hxl := ho.lt
      refine op_atg _ rfl rfl (fun K' hK => ?_)
      conv => arg 2; whnf
      go_wp2_with fail
      exact ⟨va, vl, z44, z45, z46, z47, z48, z49, z50, z51, z52, z53, z54, z55, z56, z57, z58, z59, z60, z61, z62, z63, z64, z65, z66, z67, z68, .bool true, .agg #[va6, vl6], z71, z72, z73, z74, z75, z76, z77, z78, z79, z80, z81, z82, z83, z84, z85, z86, z4, ⟨(kq hV.p7_4), (kq hV.p10_4), (kq hV.p10_7), (kq hV.p18_4), (kq hV.p18_7), (kq hV.p19_4), (kq hV.p19_7), (kq hV.p19_13), (kq hV.p21_4), (kq hV.p21_7), (kq hV.p22_4), (kq hV.p22_7), (kq hV.p22_13), (kc hV.c0), (kc hV.c1), (kc hV.c2), (kc hV.c3), (kc hV.c4), (kc hV.c5), (kc hV.c6), (kc hV.c7), (kc hV.c8), (kc hV.c9), (kc hV.c10), (kc hV.c11), (kc hV.c12), (kc hV.c13), (kc hV.c14), (kc hV.c15), (kc hV.c16), (kc hV.c17), (kc hV.c18), (kc hV.c19), (kc hV.c20), (kc hV.c21), (kc hV.c22), (kc hV.c23), (kc hV.c24), (kc hV.c25), (fun _ => rfl), (kc hV.c27), (kc hV.c28), (kc hV.c29), (kc hV.c30), (kc hV.c31), (kc hV.c32), (kc hV.c33), (kc hV.c34), (kc hV.c35), (kc hV.c36), (kc hV.c37), (kc hV.c38), (kc hV.c39), (kc hV.c40), (kc hV.c41), (kc hV.c42), (kc hV.c43), hV.fr, (kc hV.r22)⟩, rfl⟩
    · have d25 : L 25 = true := hd _ rfl ⟨25, .guard⟩ (by simp) rfl
      obtain rfl := (hV.c25 d25).symm
      have ho := HX8.out.old hV.fr
      have x0 := ho.at 0 _ rfl
      have x1 := ho.at 1 _ rfl
      have hxl := ho.lt
      refine op_atg _ rfl rfl (fun K' hK => ?_)
      conv => arg 2; whnf
      go_wp2_with fail
      exact ⟨va, vl, z44, z45, z46, z47, z48, z49, z50, z51, z52, z53, z54, z55, z56, z57, z58, z59, z60, z61, z62, z63, z64, z65, z66, z67, z68, .bool true, z70, .agg #[va8, vl8], z72, z73, z74, z75, z76, z77, z78, z79, z80, z81, z82, z83, z84, z85, z86, z4, ⟨(kq hV.p7_4), (kq hV.p10_4), (kq hV.p10_7), (kq hV.p18_4), (kq hV.p18_7), (kq hV.p19_4), (kq hV.p19_7), (kq hV.p19_13), (kq hV.p21_4), (kq hV.p21_7), (kq hV.p22_4), (kq hV.p22_7), (kq hV.p22_13), (kc hV.c0), (kc hV.c1), (kc hV.c2), (kc hV.c3), (kc hV.c4), (kc hV.c5), (kc hV.c6), (kc hV.c7), (kc hV.c8), (kc hV.c9), (kc hV.c10), (kc hV.c11), (kc hV.c12), (kc hV.c13), (kc hV.c14), (kc hV.c15), (kc hV.c16), (kc hV.c17), (kc hV.c18), (kc hV.c19), (kc hV.c20), (kc hV.c21), (kc hV.c22), (kc hV.c23), (kc hV.c24), (kc hV.c25), (kc hV.c26), (fun _ => rfl), (kc hV.c28), (kc hV.c29), (kc hV.c30), (kc hV.c31), (kc hV.c32), (kc hV.c33), (kc hV.c34), (kc hV.c35), (kc hV.c36), (kc hV.c37), (kc hV.c38), (kc hV.c39), (kc hV.c40), (kc hV.c41), (kc hV.c42), (kc hV.c43), hV.fr, (kc hV.r22)⟩, rfl⟩
    · have d25 : L 25 = true := hd _ rfl ⟨25, .guard⟩ (by simp) rfl
      obtain rfl := (hV.c25 d25).symm
      have d26 : L 26 = true := hd _ rfl ⟨26, .data⟩ (by simp) rfl
      obtain rfl := (hV.c26 d26).symm
      have d27 : L 27 = true := hd _ rfl ⟨27, .data⟩ (by simp) rfl
      obtain rfl := (hV.c27 d27).symm
      refine op_atg _ rfl rfl (fun K' hK => ?_)
      conv => arg 2; whnf
      go_wp2_with fail
      refine (HAC.out _ hV.fr).mono ?_
      rintro e w7 ⟨rfl, hb7⟩
      go_wp2_with fail
      exact ⟨va, vl, z44, z45, z46, z47, z48, z49, z50, z51, z52, z53, z54, z55, z56, z57, z58, z59, z60, z61, z62, z63, z64, z65, z66, z67, z68, .bool true, .agg #[va6, vl6], .agg #[va8, vl8], .bool false, z73, z74, z75, z76, z77, z78, z79, z80, z81, z82, z83, z84, z85, z86, z4, ⟨(kq hV.p7_4), (kq hV.p10_4), (kq hV.p10_7), (kq hV.p18_4), (kq hV.p18_7), (kq hV.p19_4), (kq hV.p19_7), (kq hV.p19_13), (kq hV.p21_4), (kq hV.p21_7), (kq hV.p22_4), (kq hV.p22_7), (kq hV.p22_13), (kc hV.c0), (kc hV.c1), (kc hV.c2), (kc hV.c3), (kc hV.c4), (kc hV.c5), (kc hV.c6), (kc hV.c7), (kc hV.c8), (kc hV.c9), (kc hV.c10), (kc hV.c11), (kc hV.c12), (kc hV.c13), (kc hV.c14), (kc hV.c15), (kc hV.c16), (kc hV.c17), (kc hV.c18), (kc hV.c19), (kc hV.c20), (kc hV.c21), (kc hV.c22), (kc hV.c23), (kc hV.c24), (kc hV.c25), (kc hV.c26), (kc hV.c27), (fun _ => rfl), (kc hV.c29), (kc hV.c30), (kc hV.c31), (kc hV.c32), (kc hV.c33), (kc hV.c34), (kc hV.c35), (kc hV.c36), (kc hV.c37), (kc hV.c38), (kc hV.c39), (kc hV.c40), (kc hV.c41), (kc hV.c42), (kc hV.c43), (Below.trans (hV.fr) (Below.mono hb7 (Below.size (hV.fr)))), (fun h0 => CodeAt.old (hV.r22 (kb h0)) hb7)⟩, rfl⟩
    · have d25 : L 25 = true := hd _ rfl ⟨25, .guard⟩ (by simp) rfl
      obtain rfl := (hV.c25 d25).symm
      have d28 : L 28 = true := hd _ rfl ⟨28, .data⟩ (by simp) rfl
      obtain rfl := (hV.c28 d28).symm
      refine op_atg _ rfl rfl (fun K' hK => ?_)
      conv => arg 2; whnf
      go_wp2_with fail
      exact ⟨va, vl, z44, z45, z46, z47, z48, z49, z50, z51, z52, z53, z54, z55, z56, z57, z58, z59, z60, z61, z62, z63, z64, z65, z66, z67, z68, .bool true, z70, z71, .bool false, .bool true, z74, z75, z76, z77, z78, z79, z80, z81, z82, z83, z84, z85, z86, z4, ⟨(kq hV.p7_4), (kq hV.p10_4), (kq hV.p10_7), (kq hV.p18_4), (kq hV.p18_7), (kq hV.p19_4), (kq hV.p19_7), (kq hV.p19_13), (kq hV.p21_4), (kq hV.p21_7), (kq hV.p22_4), (kq hV.p22_7), (kq hV.p22_13), (kc hV.c0), (kc hV.c1), (kc hV.c2), (kc hV.c3), (kc hV.c4), (kc hV.c5), (kc hV.c6), (kc hV.c7), (kc hV.c8), (kc hV.c9), (kc hV.c10), (kc hV.c11), (kc hV.c12), (kc hV.c13), (kc hV.c14), (kc hV.c15), (kc hV.c16), (kc hV.c17), (kc hV.c18), (kc hV.c19), (kc hV.c20), (kc hV.c21), (kc hV.c22), (kc hV.c23), (kc hV.c24), (kc hV.c25), (kc hV.c26), (kc hV.c27), (kc hV.c28), (fun _ => rfl), (kc hV.c30), (kc hV.c31), (kc hV.c32), (kc hV.c33), (kc hV.c34), (kc hV.c35), (kc hV.c36), (kc hV.c37), (kc hV.c38), (kc hV.c39), (kc hV.c40), (kc hV.c41), (kc hV.c42), (kc hV.c43), hV.fr, (kc hV.r22)⟩, rfl⟩
    · have d25 : L 25 = true := hd _ rfl ⟨25, .data⟩ (by simp) rfl
      obtain rfl := (hV.c25 d25).symm
      have d29 : L 29 = true := hd _ rfl ⟨29, .data⟩ (by simp) rfl
      obtain rfl := (hV.c29 d29).symm
      refine op_at _ rfl rfl (fun K' hK => ?_)
      conv => arg 2; whnf
      go_wp2_with fail
      exact ⟨va, vl, z44, z45, z46, z47, z48, z49, z50, z51, z52, z53, z54, z55, z56, z57, z58, z59, z60, z61, z62, z63, z64, z65, z66, z67, z68, .bool true, z70, z71, z72, .bool true, .bool true, z75, z76, z77, z78, z79, z80, z81, z82, z83, z84, z85, z86, z4, ⟨(kq hV.p7_4), (kq hV.p10_4), (kq hV.p10_7), (kq hV.p18_4), (kq hV.p18_7), (kq hV.p19_4), (kq hV.p19_7), (kq hV.p19_13), (kq hV.p21_4), (kq hV.p21_7), (kq hV.p22_4), (kq hV.p22_7), (kq hV.p22_13), (kc hV.c0), (kc hV.c1), (kc hV.c2), (kc hV.c3), (kc hV.c4), (kc hV.c5), (kc hV.c6), (kc hV.c7), (kc hV.c8), (kc hV.c9), (kc hV.c10), (kc hV.c11), (kc hV.c12), (kc hV.c13), (kc hV.c14), (kc hV.c15), (kc hV.c16), (kc hV.c17), (kc hV.c18), (kc hV.c19), (kc hV.c20), (kc hV.c21), (kc hV.c22), (kc hV.c23), (kc hV.c24), (kc hV.c25), (kc hV.c26), (kc hV.c27), (kc hV.c28), (kc hV.c29), (fun _ => rfl), (kc hV.c31), (kc hV.c32), (kc hV.c33), (kc hV.c34), (kc hV.c35), (kc hV.c36), (kc hV.c37), (kc hV.c38), (kc hV.c39), (kc hV.c40), (kc hV.c41), (kc hV.c42), (kc hV.c43), hV.fr, (kc hV.r22)⟩, rfl⟩
    · have d28 : L 28 = true := hd _ rfl ⟨28, .chain⟩ (by simp) rfl
      have d30 : L 30 = true := hd _ rfl ⟨30, .data⟩ (by simp) rfl
      obtain rfl := (hV.c30 d30).symm
      refine op_at _ rfl rfl (fun K' hK => ?_)
      conv => arg 2; whnf
      go_wp2_with fail
      exact ⟨va, vl, z44, z45, z46, z47, z48, z49, z50, z51, z52, z53, z54, z55, z56, z57, z58, z59, z60, z61, z62, z63, z64, z65, z66, z67, z68, z69, z70, z71, z72, z73, .bool true, .bool true, z76, z77, z78, z79, z80, z81, z82, z83, z84, z85, z86, z4, ⟨(kq hV.p7_4), (kq hV.p10_4), (kq hV.p10_7), (kq hV.p18_4), (kq hV.p18_7), (kq hV.p19_4), (kq hV.p19_7), (kq hV.p19_13), (kq hV.p21_4), (kq hV.p21_7), (kq hV.p22_4), (kq hV.p22_7), (kq hV.p22_13), (kc hV.c0), (kc hV.c1), (kc hV.c2), (kc hV.c3), (kc hV.c4), (kc hV.c5), (kc hV.c6), (kc hV.c7), (kc hV.c8), (kc hV.c9), (kc hV.c10), (kc hV.c11), (kc hV.c12), (kc hV.c13), (kc hV.c14), (kc hV.c15), (kc hV.c16), (kc hV.c17), (kc hV.c18), (kc hV.c19), (kc hV.c20), (kc hV.c21), (kc hV.c22), (kc hV.c23), (kc hV.c24), (kc hV.c25), (kc hV.c26), (kc hV.c27), (kc hV.c28), (kc hV.c29), (kc hV.c30), (fun _ => rfl), (kc hV.c32), (kc hV.c33), (kc hV.c34), (kc hV.c35), (kc hV.c36), (kc hV.c37), (kc hV.c38), (kc hV.c39), (kc hV.c40), (kc hV.c41), (kc hV.c42), (kc hV.c43), hV.fr, (kc hV.r22)⟩, rfl⟩
    · have d31 : L 31 = true := hd _ rfl ⟨31, .guard⟩ (by simp) rfl
      obtain rfl := (hV.c31 d31).symm
      have ho := HX8.out.old hV.fr
      have x0 := ho.at 0 _ rfl
      have x1 := ho.at 1 _ rfl
      have hxl := ho.lt
      refine op_atg _ rfl rfl (fun K' hK => ?_)
      conv => arg 2; whnf
      go_wp2_with fail
      exact ⟨va, vl, z44, z45, z46, z47, z48, z49, z50, z51, z52, z53, z54, z55, z56, z57, z58, z59, z60, z61, z62, z63, z64, z65, z66, z67, z68, z69, z70, z71, z72, z73, z74, .bool true, .agg #[va8, vl8], z77, z78, z79, z80, z81, z82, z83, z84, z85, z86, z4, ⟨(kq hV.p7_4), (kq hV.p10_4), (kq hV.p10_7), (kq hV.p18_4), (kq hV.p18_7), (kq hV.p19_4), (kq hV.p19_7), (kq hV.p19_13), (kq hV.p21_4), (kq hV.p21_7), (kq hV.p22_4), (kq hV.p22_7), (kq hV.p22_13), (kc hV.c0), (kc hV.c1), (kc hV.c2), (kc hV.c3), (kc hV.c4), (kc hV.c5), (kc hV.c6), (kc hV.c7), (kc hV.c8), (kc hV.c9), (kc hV.c10), (kc hV.c11), (kc hV.c12), (kc hV.c13), (kc hV.c14), (kc hV.c15), (kc hV.c16), (kc hV.c17), (kc hV.c18), (kc hV.c19), (kc hV.c20), (kc hV.c21), (kc hV.c22), (kc hV.c23), (kc hV.c24), (kc hV.c25), (kc hV.c26), (kc hV.c27), (kc hV.c28), (kc hV.c29), (kc hV.c30), (kc hV.c31), (fun _ => rfl), (kc hV.c33), (kc hV.c34), (kc hV.c35), (kc hV.c36), (kc hV.c37), (kc hV.c38), (kc hV.c39), (kc hV.c40), (kc hV.c41), (kc hV.c42), (kc hV.c43), hV.fr, (kc hV.r22)⟩, rfl⟩
    · have d31 : L 31 = true := hd _ rfl ⟨31, .guard⟩ (by simp) rfl
      obtain rfl := (hV.c31 d31).symm
      have ho := HX6.out.old hV.fr
      have x0 := ho.at 0 _ rfl
      have x1 := ho.at 1 _ rfl
      have hxl := ho.lt
      refine op_atg _ rfl rfl (fun K' hK => ?_)
      conv => arg 2; whnf
      go_wp2_with fail
      exact ⟨va, vl, z44, z45, z46, z47, z48, z49, z50, z51, z52, z53, z54, z55, z56, z57, z58, z59, z60, z61, z62, z63, z64, z65, z66, z67, z68, z69, z70, z71, z72, z73, z74, .bool true, z76, .agg #[va6, vl6], z78, z79, z80, z81, z82, z83, z84, z85, z86, z4, ⟨(kq hV.p7_4), (kq hV.p10_4), (kq hV.p10_7), (kq hV.p18_4), (kq hV.p18_7), (kq hV.p19_4), (kq hV.p19_7), (kq hV.p19_13), (kq hV.p21_4), (kq hV.p21_7), (kq hV.p22_4), (kq hV.p22_7), (kq hV.p22_13), (kc hV.c0), (kc hV.c1), (kc hV.c2), (kc hV.c3), (kc hV.c4), (kc hV.c5), (kc hV.c6), (kc hV.c7), (kc hV.c8), (kc hV.c9), (kc hV.c10), (kc hV.c11), (kc hV.c12), (kc hV.c13), (kc hV.c14), (kc hV.c15), (kc hV.c16), (kc hV.c17), (kc hV.c18), (kc hV.c19), (kc hV.c20), (kc hV.c21), (kc hV.c22), (kc hV.c23), (kc hV.c24), (kc hV.c25), (kc hV.c26), (kc hV.c27), (kc hV.c28), (kc hV.c29), (kc hV.c30), (kc hV.c31), (kc hV.c32), (fun _ => rfl), (kc hV.c34), (kc hV.c35), (kc hV.c36), (kc hV.c37), (kc hV.c38), (kc hV.c39), (kc hV.c40), (kc hV.c41), (kc hV.c42), (kc hV.c43), hV.fr, (kc hV.r22)⟩, rfl⟩
    · have d31 : L 31 = true := hd _ rfl ⟨31, .guard⟩ (by simp) rfl
      obtain rfl := (hV.c31 d31).symm
      have d32 : L 32 = true := hd _ rfl ⟨32, .data⟩ (by simp) rfl
      obtain rfl := (hV.c32 d32).symm
      have d33 : L 33 = true := hd _ rfl ⟨33, .data⟩ (by simp) rfl
      obtain rfl := (hV.c33 d33).symm
      refine op_atg _ rfl rfl (fun K' hK => ?_)
      conv => arg 2; whnf
      go_wp2_with fail
      refine (HCA.out _ hV.fr).mono ?_
      rintro e w7 ⟨rfl, hb7⟩
      go_wp2_with fail
      exact ⟨va, vl, z44, z45, z46, z47, z48, z49, z50, z51, z52, z53, z54, z55, z56, z57, z58, z59, z60, z61, z62, z63, z64, z65, z66, z67, z68, z69, z70, z71, z72, z73, z74, .bool true, .agg #[va8, vl8], .agg #[va6, vl6], .bool false, z79, z80, z81, z82, z83, z84, z85, z86, z4, ⟨(kq hV.p7_4), (kq hV.p10_4), (kq hV.p10_7), (kq hV.p18_4), (kq hV.p18_7), (kq hV.p19_4), (kq hV.p19_7), (kq hV.p19_13), (kq hV.p21_4), (kq hV.p21_7), (kq hV.p22_4), (kq hV.p22_7), (kq hV.p22_13), (kc hV.c0), (kc hV.c1), (kc hV.c2), (kc hV.c3), (kc hV.c4), (kc hV.c5), (kc hV.c6), (kc hV.c7), (kc hV.c8), (kc hV.c9), (kc hV.c10), (kc hV.c11), (kc hV.c12), (kc hV.c13), (kc hV.c14), (kc hV.c15), (kc hV.c16), (kc hV.c17), (kc hV.c18), (kc hV.c19), (kc hV.c20), (kc hV.c21), (kc hV.c22), (kc hV.c23), (kc hV.c24), (kc hV.c25), (kc hV.c26), (kc hV.c27), (kc hV.c28), (kc hV.c29), (kc hV.c30), (kc hV.c31), (kc hV.c32), (kc hV.c33), (fun _ => rfl), (kc hV.c35), (kc hV.c36), (kc hV.c37), (kc hV.c38), (kc hV.c39), (kc hV.c40), (kc hV.c41), (kc hV.c42), (kc hV.c43), (Below.trans (hV.fr) (Below.mono hb7 (Below.size (hV.fr)))), (fun h0 => CodeAt.old (hV.r22 (kb h0)) hb7)⟩, rfl⟩
    · have d31 : L 31 = true := hd _ rfl ⟨31, .guard⟩ (by simp) rfl
      obtain rfl := (hV.c31 d31).symm
      have d34 : L 34 = true := hd _ rfl ⟨34, .data⟩ (by simp) rfl
      obtain rfl := (hV.c34 d34).symm
      refine op_atg _ rfl rfl (fun K' hK => ?_)
      conv => arg 2; whnf
      go_wp2_with fail
      exact ⟨va, vl, z44, z45, z46, z47, z48, z49, z50, z51, z52, z53, z54, z55, z56, z57, z58, z59, z60, z61, z62, z63, z64, z65, z66, z67, z68, z69, z70, z71, z72, z73, z74, .bool true, z76, z77, .bool false, .bool true, z80, z81, z82, z83, z84, z85, z86, z4, ⟨(kq hV.p7_4), (kq hV.p10_4), (kq hV.p10_7), (kq hV.p18_4), (kq hV.p18_7), (kq hV.p19_4), (kq hV.p19_7), (kq hV.p19_13), (kq hV.p21_4), (kq hV.p21_7), (kq hV.p22_4), (kq hV.p22_7), (kq hV.p22_13), (kc hV.c0), (kc hV.c1), (kc hV.c2), (kc hV.c3), (kc hV.c4), (kc hV.c5), (kc hV.c6), (kc hV.c7), (kc hV.c8), (kc hV.c9), (kc hV.c10), (kc hV.c11), (kc hV.c12), (kc hV.c13), (kc hV.c14), (kc hV.c15), (kc hV.c16), (kc hV.c17), (kc hV.c18), (kc hV.c19), (kc hV.c20), (kc hV.c21), (kc hV.c22), (kc hV.c23), (kc hV.c24), (kc hV.c25), (kc hV.c26), (kc hV.c27), (kc hV.c28), (kc hV.c29), (kc hV.c30), (kc hV.c31), (kc hV.c32), (kc hV.c33), (kc hV.c34), (fun _ => rfl), (kc hV.c36), (kc hV.c37), (kc hV.c38), (kc hV.c39), (kc hV.c40), (kc hV.c41), (kc hV.c42), (kc hV.c43), hV.fr, (kc hV.r22)⟩, rfl⟩
    · have d31 : L 31 = true := hd _ rfl ⟨31, .data⟩ (by simp) rfl
      obtain rfl := (hV.c31 d31).symm
      have d35 : L 35 = true := hd _ rfl ⟨35, .data⟩ (by simp) rfl
      obtain rfl := (hV.c35 d35).symm
      refine op_at _ rfl rfl (fun K' hK => ?_)
      conv => arg 2; whnf
      go_wp2_with fail
      exact ⟨va, vl, z44, z45, z46, z47, z48, z49, z50, z51, z52, z53, z54, z55, z56, z57, z58, z59, z60, z61, z62, z63, z64, z65, z66, z67, z68, z69, z70, z71, z72, z73, z74, .bool true, z76, z77, z78, .bool true, .bool true, z81, z82, z83, z84, z85, z86, z4, ⟨(kq hV.p7_4), (kq hV.p10_4), (kq hV.p10_7), (kq hV.p18_4), (kq hV.p18_7), (kq hV.p19_4), (kq hV.p19_7), (kq hV.p19_13), (kq hV.p21_4), (kq hV.p21_7), (kq hV.p22_4), (kq hV.p22_7), (kq hV.p22_13), (kc hV.c0), (kc hV.c1), (kc hV.c2), (kc hV.c3), (kc hV.c4), (kc hV.c5), (kc hV.c6), (kc hV.c7), (kc hV.c8), (kc hV.c9), (kc hV.c10), (kc hV.c11), (kc hV.c12), (kc hV.c13), (kc hV.c14), (kc hV.c15), (kc hV.c16), (kc hV.c17), (kc hV.c18), (kc hV.c19), (kc hV.c20), (kc hV.c21), (kc hV.c22), (kc hV.c23), (kc hV.c24), (kc hV.c25), (kc hV.c26), (kc hV.c27), (kc hV.c28), (kc hV.c29), (kc hV.c30), (kc hV.c31), (kc hV.c32), (kc hV.c33), (kc hV.c34), (kc hV.c35), (fun _ => rfl), (kc hV.c37), (kc hV.c38), (kc hV.c39), (kc hV.c40), (kc hV.c41), (kc hV.c42), (kc hV.c43), hV.fr, (kc hV.r22)⟩, rfl⟩
    · have d34 : L 34 = true := hd _ rfl ⟨34, .chain⟩ (by simp) rfl
      have d36 : L 36 = true := hd _ rfl ⟨36, .data⟩ (by simp) rfl
      obtain rfl := (hV.c36 d36).symm
      refine op_at _ rfl rfl (fun K' hK => ?_)
      conv => arg 2; whnf
      go_wp2_with fail
      exact ⟨va, vl, z44, z45, z46, z47, z48, z49, z50, z51, z52, z53, z54, z55, z56, z57, z58, z59, z60, z61, z62, z63, z64, z65, z66, z67, z68, z69, z70, z71, z72, z73, z74, z75, z76, z77, z78, z79, .bool true, .bool true, z82, z83, z84, z85, z86, z4, ⟨(kq hV.p7_4), (kq hV.p10_4), (kq hV.p10_7), (kq hV.p18_4), (kq hV.p18_7), (kq hV.p19_4), (kq hV.p19_7), (kq hV.p19_13), (kq hV.p21_4), (kq hV.p21_7), (kq hV.p22_4), (kq hV.p22_7), (kq hV.p22_13), (kc hV.c0), (kc hV.c1), (kc hV.c2), (kc hV.c3), (kc hV.c4), (kc hV.c5), (kc hV.c6), (kc hV.c7), (kc hV.c8), (kc hV.c9), (kc hV.c10), (kc hV.c11), (kc hV.c12), (kc hV.c13), (kc hV.c14), (kc hV.c15), (kc hV.c16), (kc hV.c17), (kc hV.c18), (kc hV.c19), (kc hV.c20), (kc hV.c21), (kc hV.c22), (kc hV.c23), (kc hV.c24), (kc hV.c25), (kc hV.c26), (kc hV.c27), (kc hV.c28), (kc hV.c29), (kc hV.c30), (kc hV.c31), (kc hV.c32), (kc hV.c33), (kc hV.c34), (kc hV.c35), (kc hV.c36), (fun _ => rfl), (kc hV.c38), (kc hV.c39), (kc hV.c40), (kc hV.c41), (kc hV.c42), (kc hV.c43), hV.fr, (kc hV.r22)⟩, rfl⟩
    · have d37 : L 37 = true := hd _ rfl ⟨37, .guard⟩ (by simp) rfl
      obtain rfl := (hV.c37 d37).symm
      have ho := HX6.out.old hV.fr
      have x0 := ho.at 0 _ rfl
      have x1 := ho.at 1 _ rfl
      have hxl := ho.lt
      refine op_atg _ rfl rfl (fun K' hK => ?_)
      conv => arg 2; whnf
      go_wp2_with fail
      exact ⟨va, vl, z44, z45, z46, z47, z48, z49, z50, z51, z52, z53, z54, z55, z56, z57, z58, z59, z60, z61, z62, z63, z64, z65, z66, z67, z68, z69, z70, z71, z72, z73, z74, z75, z76, z77, z78, z79, z80, .bool true, .agg #[va6, vl6], z83, z84, z85, z86, z4, ⟨(kq hV.p7_4), (kq hV.p10_4), (kq hV.p10_7), (kq hV.p18_4), (kq hV.p18_7), (kq hV.p19_4), (kq hV.p19_7), (kq hV.p19_13), (kq hV.p21_4), (kq hV.p21_7), (kq hV.p22_4), (kq hV.p22_7), (kq hV.p22_13), (kc hV.c0), (kc hV.c1), (kc hV.c2), (kc hV.c3), (kc hV.c4), (kc hV.c5), (kc hV.c6), (kc hV.c7), (kc hV.c8), (kc hV.c9), (kc hV.c10), (kc hV.c11), (kc hV.c12), (kc hV.c13), (kc hV.c14), (kc hV.c15), (kc hV.c16), (kc hV.c17), (kc hV.c18), (kc hV.c19), (kc hV.c20), (kc hV.c21), (kc hV.c22), (kc hV.c23), (kc hV.c24), (kc hV.c25), (kc hV.c26), (kc hV.c27), (kc hV.c28), (kc hV.c29), (kc hV.c30), (kc hV.c31), (kc hV.c32), (kc hV.c33), (kc hV.c34), (kc hV.c35), (kc hV.c36), (kc hV.c37), (fun _ => rfl), (kc hV.c39), (kc hV.c40), (kc hV.c41), (kc hV.c42), (kc hV.c43), hV.fr, (kc hV.r22)⟩, rfl⟩
    · have d37 : L 37 = true := hd _ rfl ⟨37, .guard⟩ (by simp) rfl
      obtain rfl := (hV.c37 d37).symm
      have ho := HX9.out.old hV.fr
      have x0 := ho.at 0 _ rfl
      have x1 := ho.at 1 _ rfl
      have hxl := ho.lt
      refine op_atg _ rfl rfl (fun K' hK => ?_)
      conv => arg 2; whnf
      go_wp2_with fail
      exact ⟨va, vl, z44, z45, z46, z47, z48, z49, z50, z51, z52, z53, z54, z55, z56, z57, z58, z59, z60, z61, z62, z63, z64, z65, z66, z67, z68, z69, z70, z71, z72, z73, z74, z75, z76, z77, z78, z79, z80, .bool true, z82, .agg #[va9, vl9], z84, z85, z86, z4, ⟨(kq hV.p7_4), (kq hV.p10_4), (kq hV.p10_7), (kq hV.p18_4), (kq hV.p18_7), (kq hV.p19_4), (kq hV.p19_7), (kq hV.p19_13), (kq hV.p21_4), (kq hV.p21_7), (kq hV.p22_4), (kq hV.p22_7), (kq hV.p22_13), (kc hV.c0), (kc hV.c1), (kc hV.c2), (kc hV.c3), (kc hV.c4), (kc hV.c5), (kc hV.c6), (kc hV.c7), (kc hV.c8), (kc hV.c9), (kc hV.c10), (kc hV.c11), (kc hV.c12), (kc hV.c13), (kc hV.c14), (kc hV.c15), (kc hV.c16), (kc hV.c17), (kc hV.c18), (kc hV.c19), (kc hV.c20), (kc hV.c21), (kc hV.c22), (kc hV.c23), (kc hV.c24), (kc hV.c25), (kc hV.c26), (kc hV.c27), (kc hV.c28), (kc hV.c29), (kc hV.c30), (kc hV.c31), (kc hV.c32), (kc hV.c33), (kc hV.c34), (kc hV.c35), (kc hV.c36), (kc hV.c37), (kc hV.c38), (fun _ => rfl), (kc hV.c40), (kc hV.c41), (kc hV.c42), (kc hV.c43), hV.fr, (kc hV.r22)⟩, rfl⟩
    · have d37 : L 37 = true := hd _ rfl ⟨37, .guard⟩ (by simp) rfl
      obtain rfl := (hV.c37 d37).symm
      have d38 : L 38 = true := hd _ rfl ⟨38, .data⟩ (by simp) rfl
      obtain rfl := (hV.c38 d38).symm
      have d39 : L 39 = true := hd _ rfl ⟨39, .data⟩ (by simp) rfl
      obtain rfl := (hV.c39 d39).symm
      refine op_atg _ rfl rfl (fun K' hK => ?_)
      conv => arg 2; whnf
      go_wp2_with fail
      refine (HAD.out _ hV.fr).mono ?_
      rintro e w7 ⟨rfl, hb7⟩
      go_wp2_with fail
      exact ⟨va, vl, z44, z45, z46, z47, z48, z49, z50, z51, z52, z53, z54, z55, z56, z57, z58, z59, z60, z61, z62, z63, z64, z65, z66, z67, z68, z69, z70, z71, z72, z73, z74, z75, z76, z77, z78, z79, z80, .bool true, .agg #[va6, vl6], .agg #[va9, vl9], .bool false, z85, z86, z4, ⟨(kq hV.p7_4), (kq hV.p10_4), (kq hV.p10_7), (kq hV.p18_4), (kq hV.p18_7), (kq hV.p19_4), (kq hV.p19_7), (kq hV.p19_13), (kq hV.p21_4), (kq hV.p21_7), (kq hV.p22_4), (kq hV.p22_7), (kq hV.p22_13), (kc hV.c0), (kc hV.c1), (kc hV.c2), (kc hV.c3), (kc hV.c4), (kc hV.c5), (kc hV.c6), (kc hV.c7), (kc hV.c8), (kc hV.c9), (kc hV.c10), (kc hV.c11), (kc hV.c12), (kc hV.c13), (kc hV.c14), (kc hV.c15), (kc hV.c16), (kc hV.c17), (kc hV.c18), (kc hV.c19), (kc hV.c20), (kc hV.c21), (kc hV.c22), (kc hV.c23), (kc hV.c24), (kc hV.c25), (kc hV.c26), (kc hV.c27), (kc hV.c28), (kc hV.c29), (kc hV.c30), (kc hV.c31), (kc hV.c32), (kc hV.c33), (kc hV.c34), (kc hV.c35), (kc hV.c36), (kc hV.c37), (kc hV.c38), (kc hV.c39), (fun _ => rfl), (kc hV.c41), (kc hV.c42), (kc hV.c43), (Below.trans (hV.fr) (Below.mono hb7 (Below.size (hV.fr)))), (fun h0 => CodeAt.old (hV.r22 (kb h0)) hb7)⟩, rfl⟩
    · have d37 : L 37 = true := hd _ rfl ⟨37, .guard⟩ (by simp) rfl
      obtain rfl := (hV.c37 d37).symm
      have d40 : L 40 = true := hd _ rfl ⟨40, .data⟩ (by simp) rfl
      obtain rfl := (hV.c40 d40).symm
      refine op_atg _ rfl rfl (fun K' hK => ?_)
      conv => arg 2; whnf
      go_wp2_with fail
      exact ⟨va, vl, z44, z45, z46, z47, z48, z49, z50, z51, z52, z53, z54, z55, z56, z57, z58, z59, z60, z61, z62, z63, z64, z65, z66, z67, z68, z69, z70, z71, z72, z73, z74, z75, z76, z77, z78, z79, z80, .bool true, z82, z83, .bool false, .bool true, z86, z4, ⟨(kq hV.p7_4), (kq hV.p10_4), (kq hV.p10_7), (kq hV.p18_4), (kq hV.p18_7), (kq hV.p19_4), (kq hV.p19_7), (kq hV.p19_13), (kq hV.p21_4), (kq hV.p21_7), (kq hV.p22_4), (kq hV.p22_7), (kq hV.p22_13), (kc hV.c0), (kc hV.c1), (kc hV.c2), (kc hV.c3), (kc hV.c4), (kc hV.c5), (kc hV.c6), (kc hV.c7), (kc hV.c8), (kc hV.c9), (kc hV.c10), (kc hV.c11), (kc hV.c12), (kc hV.c13), (kc hV.c14), (kc hV.c15), (kc hV.c16), (kc hV.c17), (kc hV.c18), (kc hV.c19), (kc hV.c20), (kc hV.c21), (kc hV.c22), (kc hV.c23), (kc hV.c24), (kc hV.c25), (kc hV.c26), (kc hV.c27), (kc hV.c28), (kc hV.c29), (kc hV.c30), (kc hV.c31), (kc hV.c32), (kc hV.c33), (kc hV.c34), (kc hV.c35), (kc hV.c36), (kc hV.c37), (kc hV.c38), (kc hV.c39), (kc hV.c40), (fun _ => rfl), (kc hV.c42), (kc hV.c43), hV.fr, (kc hV.r22)⟩, rfl⟩
    · have d37 : L 37 = true := hd _ rfl ⟨37, .data⟩ (by simp) rfl
      obtain rfl := (hV.c37 d37).symm
      have d41 : L 41 = true := hd _ rfl ⟨41, .data⟩ (by simp) rfl
      obtain rfl := (hV.c41 d41).symm
      refine op_at _ rfl rfl (fun K' hK => ?_)
      conv => arg 2; whnf
      go_wp2_with fail
      exact ⟨va, vl, z44, z45, z46, z47, z48, z49, z50, z51, z52, z53, z54, z55, z56, z57, z58, z59, z60, z61, z62, z63, z64, z65, z66, z67, z68, z69, z70, z71, z72, z73, z74, z75, z76, z77, z78, z79, z80, .bool true, z82, z83, z84, .bool true, .bool true, z4, ⟨(kq hV.p7_4), (kq hV.p10_4), (kq hV.p10_7), (kq hV.p18_4), (kq hV.p18_7), (kq hV.p19_4), (kq hV.p19_7), (kq hV.p19_13), (kq hV.p21_4), (kq hV.p21_7), (kq hV.p22_4), (kq hV.p22_7), (kq hV.p22_13), (kc hV.c0), (kc hV.c1), (kc hV.c2), (kc hV.c3), (kc hV.c4), (kc hV.c5), (kc hV.c6), (kc hV.c7), (kc hV.c8), (kc hV.c9), (kc hV.c10), (kc hV.c11), (kc hV.c12), (kc hV.c13), (kc hV.c14), (kc hV.c15), (kc hV.c16), (kc hV.c17), (kc hV.c18), (kc hV.c19), (kc hV.c20), (kc hV.c21), (kc hV.c22), (kc hV.c23), (kc hV.c24), (kc hV.c25), (kc hV.c26), (kc hV.c27), (kc hV.c28), (kc hV.c29), (kc hV.c30), (kc hV.c31), (kc hV.c32), (kc hV.c33), (kc hV.c34), (kc hV.c35), (kc hV.c36), (kc hV.c37), (kc hV.c38), (kc hV.c39), (kc hV.c40), (kc hV.c41), (fun _ => rfl), (kc hV.c43), hV.fr, (kc hV.r22)⟩, rfl⟩
    · have d40 : L 40 = true := hd _ rfl ⟨40, .chain⟩ (by simp) rfl
      have d42 : L 42 = true := hd _ rfl ⟨42, .data⟩ (by simp) rfl
      obtain rfl := (hV.c42 d42).symm
      refine op_at _ rfl rfl (fun K' hK => ?_)
      conv => arg 2; whnf
      go_wp2_with fail
      exact ⟨va, vl, z44, z45, z46, z47, z48, z49, z50, z51, z52, z53, z54, z55, z56, z57, z58, z59, z60, z61, z62, z63, z64, z65, z66, z67, z68, z69, z70, z71, z72, z73, z74, z75, z76, z77, z78, z79, z80, z81, z82, z83, z84, z85, .bool true, .bool true, ⟨(kq hV.p7_4), (kq hV.p10_4), (kq hV.p10_7), (kq hV.p18_4), (kq hV.p18_7), (kq hV.p19_4), (kq hV.p19_7), (kq hV.p19_13), (kq hV.p21_4), (kq hV.p21_7), (kq hV.p22_4), (kq hV.p22_7), (kq hV.p22_13), (kc hV.c0), (kc hV.c1), (kc hV.c2), (kc hV.c3), (kc hV.c4), (kc hV.c5), (kc hV.c6), (kc hV.c7), (kc hV.c8), (kc hV.c9), (kc hV.c10), (kc hV.c11), (kc hV.c12), (kc hV.c13), (kc hV.c14), (kc hV.c15), (kc hV.c16), (kc hV.c17), (kc hV.c18), (kc hV.c19), (kc hV.c20), (kc hV.c21), (kc hV.c22), (kc hV.c23), (kc hV.c24), (kc hV.c25), (kc hV.c26), (kc hV.c27), (kc hV.c28), (kc hV.c29), (kc hV.c30), (kc hV.c31), (kc hV.c32), (kc hV.c33), (kc hV.c34), (kc hV.c35), (kc hV.c36), (kc hV.c37), (kc hV.c38), (kc hV.c39), (kc hV.c40), (kc hV.c41), (kc hV.c42), (fun _ => rfl), hV.fr, (kc hV.r22)⟩, rfl⟩
  · intro L act wx hI hall
    obtain ⟨va, vl, z44, z45, z46, z47, z48, z49, z50, z51, z52, z53, z54, z55, z56, z57, z58, z59, z60, z61, z62, z63, z64, z65, z66, z67, z68, z69, z70, z71, z72, z73, z74, z75, z76, z77, z78, z79, z80, z81, z82, z83, z84, z85, z86, z4, hV, rfl⟩ := hI
    obtain rfl := (hV.c0 (hall 0 (by decide))).symm
    obtain rfl := (hV.c1 (hall 1 (by decide))).symm
    obtain rfl := (hV.c2 (hall 2 (by decide))).symm
    obtain rfl := (hV.c3 (hall 3 (by decide))).symm
    obtain rfl := (hV.c4 (hall 4 (by decide))).symm
    obtain rfl := (hV.c5 (hall 5 (by decide))).symm
    obtain rfl := (hV.c6 (hall 6 (by decide))).symm
    obtain rfl := (hV.c7 (hall 7 (by decide))).symm
    obtain rfl := (hV.c8 (hall 8 (by decide))).symm
    obtain rfl := (hV.c9 (hall 9 (by decide))).symm
    obtain rfl := (hV.c10 (hall 10 (by decide))).symm
    obtain rfl := (hV.c11 (hall 11 (by decide))).symm
    obtain rfl := (hV.c12 (hall 12 (by decide))).symm
    obtain rfl := (hV.c13 (hall 13 (by decide))).symm
    obtain rfl := (hV.c14 (hall 14 (by decide))).symm
    obtain rfl := (hV.c15 (hall 15 (by decide))).symm
    obtain rfl := (hV.c16 (hall 16 (by decide))).symm
    obtain rfl := (hV.c17 (hall 17 (by decide))).symm
    obtain rfl := (hV.c18 (hall 18 (by decide))).symm
    obtain rfl := (hV.c19 (hall 19 (by decide))).symm
    obtain rfl := (hV.c20 (hall 20 (by decide))).symm
    obtain rfl := (hV.c21 (hall 21 (by decide))).symm
    obtain rfl := (hV.c22 (hall 22 (by decide))).symm
    obtain rfl := (hV.c23 (hall 23 (by decide))).symm
    obtain rfl := (hV.c24 (hall 24 (by decide))).symm
    obtain rfl := (hV.c25 (hall 25 (by decide))).symm
    obtain rfl := (hV.c26 (hall 26 (by decide))).symm
    obtain rfl := (hV.c27 (hall 27 (by decide))).symm
    obtain rfl := (hV.c28 (hall 28 (by decide))).symm
    obtain rfl := (hV.c29 (hall 29 (by decide))).symm
    obtain rfl := (hV.c30 (hall 30 (by decide))).symm
    obtain rfl := (hV.c31 (hall 31 (by decide))).symm
    obtain rfl := (hV.c32 (hall 32 (by decide))).symm
    obtain rfl := (hV.c33 (hall 33 (by decide))).symm
    obtain rfl := (hV.c34 (hall 34 (by decide))).symm
    obtain rfl := (hV.c35 (hall 35 (by decide))).symm
    obtain rfl := (hV.c36 (hall 36 (by decide))).symm
    obtain rfl := (hV.c37 (hall 37 (by decide))).symm
    obtain rfl := (hV.c38 (hall 38 (by decide))).symm
    obtain rfl := (hV.c39 (hall 39 (by decide))).symm
    obtain rfl := (hV.c40 (hall 40 (by decide))).symm
    obtain rfl := (hV.c41 (hall 41 (by decide))).symm
    obtain rfl := (hV.c42 (hall 42 (by decide))).symm
    obtain rfl := (hV.c43 (hall 43 (by decide))).symm
    exact hM _ _ (Met.intro (hJ _ _ ⟨va, vl, hV.fr, rfl⟩))
end Go.Proofs.YtnfkllbkgpmgoaaGreatDoor

namespace Go.Proofs.YtnfkllbkgpmgoaaGreatDoor
set_option maxHeartbeats 4000000
set_option maxRecDepth 100000

theorem same_self (a : Cd) : sameC a a = true := (sameC_iff _ _).2 rfl
theorem same_comm (a b : Cd) : sameC b a = sameC a b := by
  rw [Bool.eq_iff_iff, sameC_iff, sameC_iff]
  exact eq_comm
theorem same_not {a b : Cd} (h : a ≠ b) : sameC a b = false := by
  cases e : sameC a b with
  | false => rfl
  | true => exact absurd ((sameC_iff _ _).1 e) h
theorem same_text {a b : Cd} (ha : GoodC a) (hb : GoodC b) : (codeT a == codeT b) = sameC a b := by
  rw [Bool.eq_iff_iff, beq_iff_eq, sameC_iff]
  constructor
  · intro h
    have h1 := good_back ha
    rw [h, good_back hb] at h1
    exact (Prod.mk.inj h1).1.symm
  · intro h; rw [h]
def moreC (a : Cd) : Cd := ⟨a.arrs, a.lines ++ [⟨[], ⟨27, 0, 0, 0, 0, []⟩⟩]⟩
theorem more_ne (a : Cd) : a ≠ moreC a := by
  intro h
  have := congrArg (fun c => c.lines.length) h
  simp [moreC] at this
def arrs11 : List Ar := [⟨[97], 4⟩, ⟨[98], 11⟩]
def greatC (a : Cd) : Cd := ⟨arrs11, a.lines⟩
theorem great_ne {a : Cd} (h : a.arrs = arrs2) : a ≠ greatC a := by
  intro e
  have e2 := congrArg (fun c => c.arrs) e
  dsimp only [greatC] at e2
  rw [h] at e2
  simp [arrs2, arrs11] at e2
end Go.Proofs.YtnfkllbkgpmgoaaGreatDoor

namespace Go.Proofs.YtnfkllbkgpmgoaaGreatDoor
open Go.RowKit
set_option maxHeartbeats 4000000
set_option maxRecDepth 100000

def arrD : List Value := [.string ⟨#[97]⟩, .int .i64 4, .string ⟨#[98]⟩, .int .i64 11]
theorem arrD_is : arrs11.flatMap arCells = arrD := rfl
theorem arr_at11 {w : World} {A : Nat} (h : OwnAt w A arrD 51) : ArwAt w arrs11 (.slice (some ⟨A, 0, none⟩) 2 2) := by
  refine ⟨some ⟨A, 0, none⟩, 2, A, 0, rfl, .inr rfl, by decide, fun i p hi q u hq => ?_⟩
  have hqk : q < 2 := by
    have := (List.getElem?_eq_some_iff.1 hq).1
    simpa [arCells] using this
  rw [Nat.zero_add]
  exact h.at (i * 2 + q) u (by rw [← arrD_is, iflat_at arCells 2 arCells_len arrs11 i q p hi hqk]; exact hq)
theorem qsame_any (one : List Ln) (v0 : Value) (two : List Ln) (v1 : Value) (w : World) (h : RawQ w one v0) (h2 : RawQ w two v1) (hl : ILib w) :
    Calls Tryz.prog 8 #[v0, v1] w fun e w' => e = .returned (.bool true) ∧ Below w.heap.size w w' := by
  have HR := Lib.hid h; have HR2 := Lib.hid h2; have HL := Lib.hid hl
  have HAW := Lib.hid (fun w hl => qawake_any w hl)
  have HF1 := Lib.hid (fun w hr => fit_good one v0 w hr)
  have HF2 := Lib.hid (fun w hr => fit_good two v1 w hr)
  have HG := Lib.hid (fitC_good h.ok)
  have HG2 := Lib.hid (fitC_good h2.ok)
  clear h h2 hl
  generalize fitC one = ca at *
  generalize fitC two = cb at *
  have hcl : ca.lines.length ≤ 41 := HG.out.len
  have hcl2 : cb.lines.length ≤ 41 := HG2.out.len
  have hclI : (ca.lines.length : Int) ≤ 41 := by omega
  have HPA := Lib.hid (fun va vl w' h hl => codePrint_any ca va vl w' h HG.out.short HG.out.alen (fun x hx => (HG.out.wells x hx).2) hl)
  rw [good_print HG.out] at HPA
  have HPB := Lib.hid (fun va vl w' h hl => codePrint_any cb va vl w' h HG2.out.short HG2.out.alen (fun x hx => (HG2.out.wells x hx).2) hl)
  rw [good_print HG2.out] at HPB
  dsimp only at HPA HPB
  have HST := Lib.hid (same_text HG.out HG2.out)
  have HCA : Hid (ca.arrs = arrs2) := Lib.hid HG.out.arrs
  have HCB : Hid (cb.arrs = arrs2) := Lib.hid HG2.out.arrs
  have HGR : Hid (sameC ca (greatC ca) = false) := Lib.hid (same_not (great_ne HG.out.arrs))
  clear HG HG2
  generalize codeT ca = s at *
  generalize codeT cb = t at *
  go_enter Tryz.func8, Tryz.ntmps8
  go_wp2_with fail
  refine (HAW.out _ HL.out).mono ?_
  rintro e w1 ⟨rfl, hb1⟩
  have HB1 := Lib.hid hb1
  have HR1 := Lib.hid (HR.out.old hb1)
  clear hb1 HAW
  go_wp2_with fail
  refine (HF1.out _ HR1.out).mono ?_
  rintro e w2 ⟨A6, base6, al6, cl6, rfl, hfo, hbf⟩
  have hbA : Below w2.heap.size w2 (w2.alloc (.cells #[.slice (some ⟨A6, 0, none⟩) 2 2, .slice al6 ca.lines.length cl6] 27)) := (Below.refl _ _).alloc (Nat.le_refl _) _
  have hbq := hbf.trans (hbA.mono hbf.size)
  have HC6 := Lib.hid ((hfo.code HCA.out (by omega)).old hbA)
  have HO6 := Lib.hid (OwnAt.new w2 [.slice (some ⟨A6, 0, none⟩) 2 2, .slice al6 ca.lines.length cl6] 27)
  have HBX := Lib.hid (HB1.out.trans (hbq.mono HB1.out.size))
  have HBQ6 := Lib.hid hbq
  have hsf6 := hbf.size
  clear hbA hbq hbf hfo HB1 HR1 
  go_wp2_with fail
  obtain ⟨W6, hW⟩ : ∃ W6, (w2.alloc (.cells #[.slice (some ⟨A6, 0, none⟩) 2 2, .slice al6 ca.lines.length cl6] 27)) = W6 := ⟨_, rfl⟩
  have hsz : W6.heap.size = w2.heap.size + 1 := by rw [← hW]; simp
  have HSZ6 := Lib.hid hsz
  obtain ⟨T6, hT⟩ : ∃ T6, w2.heap.size = T6 := ⟨_, rfl⟩
  rw [hW] at HC6 HBX HBQ6 HO6 ⊢
  rw [hT] at HO6 hsf6 HSZ6 ⊢
  clear hW hT hsz
  have HB6 := HBX
  clear HBX HBQ6 HSZ6
  have HR7 := Lib.hid (HR2.out.old HB6.out)
  go_wp2_with fail
  refine (HF2.out _ HR7.out).mono ?_
  rintro e w3 ⟨A7, base7, al7, cl7, rfl, hfo, hbf⟩
  have hbA : Below w3.heap.size w3 (w3.alloc (.cells #[.slice (some ⟨A7, 0, none⟩) 2 2, .slice al7 cb.lines.length cl7] 27)) := (Below.refl _ _).alloc (Nat.le_refl _) _
  have hbq := hbf.trans (hbA.mono hbf.size)
  have HC7 := Lib.hid ((hfo.code HCB.out (by omega)).old hbA)
  have HO7 := Lib.hid (OwnAt.new w3 [.slice (some ⟨A7, 0, none⟩) 2 2, .slice al7 cb.lines.length cl7] 27)
  have HC6a := Lib.hid (HC6.out.old hbq)
  have HO6a := Lib.hid (HO6.out.old hbq)
  have HBX := Lib.hid (HB6.out.trans (hbq.mono HB6.out.size))
  have HBQ7 := Lib.hid hbq
  have hsf7 := hbf.size
  clear hbA hbq hbf hfo HB6 HR7 HC6 HO6
  go_wp2_with fail
  obtain ⟨W7, hW⟩ : ∃ W7, (w3.alloc (.cells #[.slice (some ⟨A7, 0, none⟩) 2 2, .slice al7 cb.lines.length cl7] 27)) = W7 := ⟨_, rfl⟩
  have hsz : W7.heap.size = w3.heap.size + 1 := by rw [← hW]; simp
  have HSZ7 := Lib.hid hsz
  obtain ⟨T7, hT⟩ : ∃ T7, w3.heap.size = T7 := ⟨_, rfl⟩
  rw [hW] at HC7 HBX HBQ7 HO7 HC6a HO6a ⊢
  rw [hT] at HO7 hsf7 HSZ7 ⊢
  clear hW hT hsz
  have HB7 := HBX
  clear HBX HBQ7 HSZ7 HR2
  have HR8 := Lib.hid (HR.out.old HB7.out)
  have HB7k := HB7
  go_wp2_with fail
  refine (HF1.out _ HR8.out).mono ?_
  rintro e w4 ⟨A8, base8, al8, cl8, rfl, hfo, hbf⟩
  have hbA : Below w4.heap.size w4 (w4.alloc (.cells #[.slice (some ⟨A8, 0, none⟩) 2 2, .slice al8 ca.lines.length cl8] 27)) := (Below.refl _ _).alloc (Nat.le_refl _) _
  have hbq := hbf.trans (hbA.mono hbf.size)
  have HF8 := Lib.hid (hfo.old hbA)
  have HLT8 : Hid (∀ g, (Value.slice al8 ca.lines.length cl8).ownBlock = some g → base8 ≤ g ∧ g < w4.heap.size) := Lib.hid (RwOwn.lt hfo.ln)
  have hab8 := hfo.ab
  have hlo8 := hfo.lo
  have hle8 := hfo.le
  have HC8 := Lib.hid ((hfo.code HCA.out (by omega)).old hbA)
  have HO8 := Lib.hid (OwnAt.new w4 [.slice (some ⟨A8, 0, none⟩) 2 2, .slice al8 ca.lines.length cl8] 27)
  have HBX := Lib.hid (HB7.out.trans (hbq.mono HB7.out.size))
  have HBQ8 := Lib.hid hbq
  have hsf8 := hbf.size
  clear hbA hbq hbf hfo HB7 HR8 
  go_upto_region 5 with (fail)
  obtain ⟨W8, hW⟩ : ∃ W8, (w4.alloc (.cells #[.slice (some ⟨A8, 0, none⟩) 2 2, .slice al8 ca.lines.length cl8] 27)) = W8 := ⟨_, rfl⟩
  have hsz : W8.heap.size = w4.heap.size + 1 := by rw [← hW]; simp
  have HSZ8 := Lib.hid hsz
  obtain ⟨T8, hT⟩ : ∃ T8, w4.heap.size = T8 := ⟨_, rfl⟩
  rw [hW] at HC8 HBX HBQ8 HF8 HO8 ⊢
  rw [hT] at HO8 hsf8 HSZ8 HLT8 hle8 ⊢
  clear hW hT hsz
  have HB8 := HBX
  clear HBX HC8
  have hbL : Below W8.heap.size W8 (W8.alloc (.cells #[.string ⟨#[]⟩, .int .i64 27, .int .i64 0, .int .i64 0, .int .i64 0, .int .i64 0, .string ⟨#[]⟩] 44)) := (Below.refl _ _).alloc (Nat.le_refl _) _
  have HR8 := Lib.hid (RwOwn.old HF8.out.ln hbL)
  have HA8 := Lib.hid (OwnAt.old HF8.out.aa hbL)
  have HO8L := Lib.hid (HO8.out.old hbL)
  have HNL := Lib.hid (OwnAt.new W8 (lnCells ⟨[], ⟨27, 0, 0, 0, 0, []⟩⟩) 44)
  have HB8L := Lib.hid (HBQ8.out.trans (hbL.mono HBQ8.out.size))
  have HSL : Hid (base8 ≤ (W8.alloc (.cells #[.string ⟨#[]⟩, .int .i64 27, .int .i64 0, .int .i64 0, .int .i64 0, .int .i64 0, .string ⟨#[]⟩] 44)).heap.size) := Lib.hid (by have := HSZ8.out; simp; omega)
  have HSW : Hid (W7.heap.size ≤ (W8.alloc (.cells #[.string ⟨#[]⟩, .int .i64 27, .int .i64 0, .int .i64 0, .int .i64 0, .int .i64 0, .string ⟨#[]⟩] 44)).heap.size) := Lib.hid HB8L.out.size
  have HNT : Hid (∀ g, (some g = (Value.slice al8 ca.lines.length cl8).ownBlock ∨ g = (W8.alloc (.cells #[.string ⟨#[]⟩, .int .i64 27, .int .i64 0, .int .i64 0, .int .i64 0, .int .i64 0, .string ⟨#[]⟩] 44)).heap.size) → g ≠ T8) := Lib.hid (by
    have := HSZ8.out
    rintro g (h | h)
    · have := HLT8.out g h.symm; omega
    · rw [h]; simp; omega)
  clear hbL
  have x1 := HO8.out.at 1 _ rfl
  have hxl := HO8.out.lt
  go_upto_region 6 with (at_builtin; refine wpList_lnSnoc _ rfl _ _ rfl base8 ca.lines _ rfl HR8.out ⟨[], ⟨27, 0, 0, 0, 0, []⟩⟩ W8.heap.size 1 rfl HNL.out (by omega) HSL.out ?_; intro g8 cg8 w5 how5 hgr5 hat5 hlt5; have HR9 := Lib.hid how5; have HO9 := Lib.hid (HO8L.out.grow hgr5 (fun e => by have := HLT8.out T8 e; omega)); have HA9 := Lib.hid (HA8.out.grow hgr5 (fun e => by have := HLT8.out A8 e; omega)); have HB9 := Lib.hid (below_grow HB8L.out hgr5 (fun k e => by have := HLT8.out k e; omega) HSW.out); have HGT : Hid (g8 ≠ T8) := Lib.hid (HNT.out g8 (by rcases hat5 with h | h; exact .inl h.symm; exact .inr h)); have y1 := HO9.out.at 1 _ rfl; have fy := HO9.out.fz 1; have hyl := HO9.out.lt; clear how5 hgr5 hat5 hlt5)
  have HT8 : Hid (W7.heap.size ≤ T8) := Lib.hid hsf8
  have HO8 := Lib.hid (HO9.out.set 1 (.slice (some ⟨g8, 0, none⟩) (ca.lines.length + 1) cg8))
  have HB9' := Lib.hid (zbelow_set HB9.out HT8.out 1 (.slice (some ⟨g8, 0, none⟩) (ca.lines.length + 1) cg8))
  have hAT : A8 ≠ T8 := by omega
  have HC8 : Hid (CodeAt (w5.setCell ⟨T8, 1, none⟩ (.slice (some ⟨g8, 0, none⟩) (ca.lines.length + 1) cg8)) (moreC ca) (.slice (some ⟨A8, 0, none⟩) 2 2) (.slice (some ⟨g8, 0, none⟩) (ca.lines.length + 1) cg8)) := Lib.hid ⟨by show ArwAt _ ca.arrs _; rw [HCA.out]; exact arr_at (HA9.out.other hAT 1 _), by
    have := RwOwn.nilv (RwOwn.set HR9.out (fun e => HGT.out (by injection e)) 1 (.slice (some ⟨g8, 0, none⟩) (ca.lines.length + 1) cg8)) (by simp; omega) lnCells_len
    exact this⟩
  have HB5 := Lib.hid (HB7k.out.trans (HB9'.out.mono HB7k.out.size))
  have HC6b := Lib.hid (HC6a.out.old HB9'.out)
  have HO6b := Lib.hid (HO6a.out.old HB9'.out)
  have HC7b := Lib.hid (HC7.out.old HB9'.out)
  have HO7b := Lib.hid (HO7.out.old HB9'.out)
  clear HC6a HO6a HC7 HO7 HB7k HB9 HB9' HA9 HR9 HGT y1 fy hyl x1 hxl HNT HSW HSL HNL HO8L HA8 HR8 HB8L HB8 HBQ8 HF8 HLT8 HO9 HSZ8 HT8
  generalize (w5.setCell ⟨T8, 1, none⟩ (.slice (some ⟨g8, 0, none⟩) (ca.lines.length + 1) cg8)) = W5 at *
  have HR9 := Lib.hid (HR.out.old HB5.out)
  have HB5k := HB5
  go_wp2_with fail
  refine (HF1.out _ HR9.out).mono ?_
  rintro e w6 ⟨A9, base9, al9, cl9, rfl, hfo, hbf⟩
  have hbA : Below w6.heap.size w6 (w6.alloc (.cells #[.slice (some ⟨A9, 0, none⟩) 2 2, .slice al9 ca.lines.length cl9] 27)) := (Below.refl _ _).alloc (Nat.le_refl _) _
  have hbq := hbf.trans (hbA.mono hbf.size)
  have HF9 := Lib.hid (hfo.old hbA)
  have HLT9 : Hid (∀ g, (Value.slice al9 ca.lines.length cl9).ownBlock = some g → base9 ≤ g ∧ g < w6.heap.size) := Lib.hid (RwOwn.lt hfo.ln)
  have hab9 := hfo.ab
  have hlo9 := hfo.lo
  have hle9 := hfo.le
  have HC9 := Lib.hid ((hfo.code HCA.out (by omega)).old hbA)
  have HO9 := Lib.hid (OwnAt.new w6 [.slice (some ⟨A9, 0, none⟩) 2 2, .slice al9 ca.lines.length cl9] 27)
  have HBX := Lib.hid (HB5k.out.trans (hbq.mono HB5k.out.size))
  have HBQ9 := Lib.hid hbq
  have hsf9 := hbf.size
  clear hbA hbq hbf hfo HB5k HR9 
  go_upto_region 7 with (fail)
  obtain ⟨W9, hW⟩ : ∃ W9, (w6.alloc (.cells #[.slice (some ⟨A9, 0, none⟩) 2 2, .slice al9 ca.lines.length cl9] 27)) = W9 := ⟨_, rfl⟩
  have hsz : W9.heap.size = w6.heap.size + 1 := by rw [← hW]; simp
  have HSZ9 := Lib.hid hsz
  obtain ⟨T9, hT⟩ : ∃ T9, w6.heap.size = T9 := ⟨_, rfl⟩
  rw [hW] at HC9 HBX HBQ9 HF9 HO9 ⊢
  rw [hT] at HO9 hsf9 HSZ9 HLT9 hle9 ⊢
  clear hW hT hsz
  have HB9 := HBX
  clear HBX HC9
  have x0 := HO9.out.at 0 _ rfl
  have fx := HO9.out.fz 0
  have hxl := HO9.out.lt
  go_upto_region 8 with (fail)
  have hal : Below (W9.setCell ⟨T9, 0, none⟩ (.slice (some ⟨W9.heap.size, 0, none⟩) 2 2)).heap.size (W9.setCell ⟨T9, 0, none⟩ (.slice (some ⟨W9.heap.size, 0, none⟩) 2 2)) ((W9.setCell ⟨T9, 0, none⟩ (.slice (some ⟨W9.heap.size, 0, none⟩) 2 2)).alloc (.cells #[.string ⟨#[97]⟩, .int .i64 4, .string ⟨#[98]⟩, .int .i64 11] 51)) := (Below.refl _ _).alloc (Nat.le_refl _) _
  have hbz : Below W5.heap.size W5 ((W9.setCell ⟨T9, 0, none⟩ (.slice (some ⟨W9.heap.size, 0, none⟩) 2 2)).alloc (.cells #[.string ⟨#[97]⟩, .int .i64 4, .string ⟨#[98]⟩, .int .i64 11] 51)) := (zbelow_set HBQ9.out hsf9 0 (.slice (some ⟨W9.heap.size, 0, none⟩) 2 2)).trans (hal.mono (by simpa using HBQ9.out.size))
  have HC9 : Hid (CodeAt ((W9.setCell ⟨T9, 0, none⟩ (.slice (some ⟨W9.heap.size, 0, none⟩) 2 2)).alloc (.cells #[.string ⟨#[97]⟩, .int .i64 4, .string ⟨#[98]⟩, .int .i64 11] 51)) (greatC ca) (.slice (some ⟨W9.heap.size, 0, none⟩) 2 2) (.slice al9 ca.lines.length cl9)) := Lib.hid ⟨arr_at11 (by
      have := OwnAt.new (W9.setCell ⟨T9, 0, none⟩ (.slice (some ⟨W9.heap.size, 0, none⟩) 2 2)) arrD 51
      rw [show (W9.setCell ⟨T9, 0, none⟩ (.slice (some ⟨W9.heap.size, 0, none⟩) 2 2)).heap.size = W9.heap.size by simp] at this
      exact this), by
    have := RwOwn.nilv (RwOwn.old (RwOwn.set HF9.out.ln (fun e => by have := HLT9.out T9 e; omega) 0 (.slice (some ⟨W9.heap.size, 0, none⟩) 2 2)) hal) (by omega) lnCells_len
    exact this⟩
  have HO9z := Lib.hid (OwnAt.old (HO9.out.set 0 (.slice (some ⟨W9.heap.size, 0, none⟩) 2 2)) hal)
  have HC6 := Lib.hid (HC6b.out.old hbz)
  have HO6 := Lib.hid (HO6b.out.old hbz)
  have HC7 := Lib.hid (HC7b.out.old hbz)
  have HO7 := Lib.hid (HO7b.out.old hbz)
  have HC8z := Lib.hid (HC8.out.old hbz)
  have HO8z := Lib.hid (HO8.out.old hbz)
  have HBZ := Lib.hid (HB5.out.trans (hbz.mono HB5.out.size))
  clear HF9 HLT9 HO9 HC6b HO6b HC7b HO7b HC8 HO8 hal hbz HBQ9 HB9 HB5 x0 fx hxl
  have HO9 := HO9z; have HC8 := HC8z; have HO8 := HO8z; clear HO9z HC8z HO8z
  obtain ⟨WZ, hWZ⟩ : ∃ WZ, ((W9.setCell ⟨T9, 0, none⟩ (.slice (some ⟨W9.heap.size, 0, none⟩) 2 2)).alloc (.cells #[.string ⟨#[97]⟩, .int .i64 4, .string ⟨#[98]⟩, .int .i64 11] 51)) = WZ := ⟨_, rfl⟩
  rw [hWZ] at HC9 HO9 HC6 HO6 HC7 HO7 HC8 HO8 HBZ ⊢
  clear hWZ
  have HO9 : Hid (OwnAt WZ T9 [.slice (some ⟨W9.heap.size, 0, none⟩) 2 2, .slice al9 ca.lines.length cl9] 27) := HO9
  obtain ⟨T10, hT10⟩ : ∃ T10, W9.heap.size = T10 := ⟨_, rfl⟩
  rw [hT10] at HC9 HO9 ⊢
  clear hT10 HSZ9
  have x0 := HO6.out.at 0 _ rfl
  have x1 := HO6.out.at 1 _ rfl
  have hxl := HO6.out.lt
  have HLZ := Lib.hid (HL.out.old HBZ.out)
  go_wp2_with fail
  refine (HPA.out _ _ _ HC6.out HLZ.out).mono ?_
  rintro e wa ⟨rfl, hba⟩
  replace HC6 := Lib.hid (HC6.out.old hba)
  replace HO6 := Lib.hid (HO6.out.old hba)
  replace HC7 := Lib.hid (HC7.out.old hba)
  replace HO7 := Lib.hid (HO7.out.old hba)
  replace HC8 := Lib.hid (HC8.out.old hba)
  replace HO8 := Lib.hid (HO8.out.old hba)
  replace HC9 := Lib.hid (HC9.out.old hba)
  replace HO9 := Lib.hid (HO9.out.old hba)
  replace HBZ := Lib.hid (HBZ.out.trans (hba.mono HBZ.out.size))
  clear hba HLZ x0 x1 hxl HPA
  have x0 := HO7.out.at 0 _ rfl
  have x1 := HO7.out.at 1 _ rfl
  have hxl := HO7.out.lt
  have HLZ := Lib.hid (HL.out.old HBZ.out)
  go_wp2_with fail
  refine (HPB.out _ _ _ HC7.out HLZ.out).mono ?_
  rintro e wb ⟨rfl, hba⟩
  replace HC6 := Lib.hid (HC6.out.old hba)
  replace HO6 := Lib.hid (HO6.out.old hba)
  replace HC7 := Lib.hid (HC7.out.old hba)
  replace HO7 := Lib.hid (HO7.out.old hba)
  replace HC8 := Lib.hid (HC8.out.old hba)
  replace HO8 := Lib.hid (HO8.out.old hba)
  replace HC9 := Lib.hid (HC9.out.old hba)
  replace HO9 := Lib.hid (HO9.out.old hba)
  replace HBZ := Lib.hid (HBZ.out.trans (hba.mono HBZ.out.size))
  clear hba HLZ x0 x1 hxl HPB
  have HAB := Lib.hid (fun w hb => same_any ca cb _ _ _ _ w (HC6.out.old hb) (HC7.out.old hb))
  have HBA := Lib.hid (fun w hb => same_any cb ca _ _ _ _ w (HC7.out.old hb) (HC6.out.old hb))
  have HAC := Lib.hid (fun w hb => same_any ca (moreC ca) _ _ _ _ w (HC6.out.old hb) (HC8.out.old hb))
  have HCA2 := Lib.hid (fun w hb => same_any (moreC ca) ca _ _ _ _ w (HC8.out.old hb) (HC6.out.old hb))
  have HAD := Lib.hid (fun w hb => same_any ca (greatC ca) _ _ _ _ w (HC6.out.old hb) (HC9.out.old hb))
  have HAA := Lib.hid (fun va vl w hb h => same_any ca ca _ _ va vl w (HC6.out.old hb) h)
  rw [same_comm ca cb] at HBA
  rw [same_not (more_ne ca)] at HAC
  rw [same_not (fun e => more_ne ca e.symm)] at HCA2
  rw [HGR.out] at HAD
  rw [same_self ca] at HAA
  have HFT : Hid (∀ w, Below wb.heap.size wb w → Calls Tryz.prog 10 #[v0] w fun e w' => ∃ va vl, e = .returned (.agg #[va, vl]) ∧ CodeAt w' ca va vl ∧ Below w.heap.size w w') := Lib.hid (fun w hb => (HF1.out w (HR.out.old (HBZ.out.trans (hb.mono HBZ.out.size)))).mono (fun e w' h => by
    obtain ⟨A, base, a, cap, rfl, hfo, hb⟩ := h
    exact ⟨_, _, rfl, hfo.code HCA.out (by omega), hb⟩))
  go_upto_region 10 with (fail)
  refine wp_cut (fun a' w' => RS10 T6 T7 T8 T9 (.slice (some ⟨A6, 0, none⟩) 2 2) (.slice al6 ca.lines.length cl6) (.slice (some ⟨A7, 0, none⟩) 2 2) (.slice al7 cb.lines.length cl7) (.slice (some ⟨A8, 0, none⟩) 2 2) (.slice (some ⟨g8, 0, none⟩) (ca.lines.length + 1) cg8) (.slice (some ⟨T10, 0, none⟩) 2 2) (.slice al9 ca.lines.length cl9) v0 ca s t (sameC ca cb) wb _ _ _ _ _ _ _ _ _ _ _ _ _ _ _ _ _ _ _ _ _ _ _ _ _ _ _ _ _ _ _ _ _ _ _ a' w') ?rest (fun J K' hJ hM => then_any (reg_S10 T6 T7 T8 T9 (.slice (some ⟨A6, 0, none⟩) 2 2) (.slice al6 ca.lines.length cl6) (.slice (some ⟨A7, 0, none⟩) 2 2) (.slice al7 cb.lines.length cl7) (.slice (some ⟨A8, 0, none⟩) 2 2) (.slice (some ⟨g8, 0, none⟩) (ca.lines.length + 1) cg8) (.slice (some ⟨T10, 0, none⟩) 2 2) (.slice al9 ca.lines.length cl9) v0 ca s t (sameC ca cb) wb HO6 HO7 HO8 HO9 HST.out HAB HBA HAC HCA2 HAD HAA HFT _ _ _ _ _ _ _ _ _ _ _ _ _ _ _ _ _ _ _ _ _ _ _ _ _ _ _ _ _ _ _ _ _ _ _ _ _ _ _ _ _ _ _ _ _ _ _ _ _ _ _ _ _ _ _ _ _ _ _ _ _ _ _ _ _ _ _ _ _ _ _ _ _ _ _ _ _ _ _ J K' hJ hM))
  case rest =>
    rintro a' w' ⟨ua, ul, hb, rfl⟩
    have HBY := Lib.hid (HBZ.out.trans (hb.mono HBZ.out.size))
    clear hb
    go_wp2_with fail
    go_ret
    exact ⟨by first | rfl | (simp; done), HBY.out⟩
end Go.Proofs.YtnfkllbkgpmgoaaGreatDoor
