/-
  InstrTells: the two answers on an instruction are the same, in whatever order they are asked. Conditions: the instruction lies in memory, what is asked of it is known.
-/
import Derived.Test.YtgdnnaiidmfncaaDoorInstrG
import Derived.Test.YtgdnnaiidmfncaaDoorInstrRd
set_option linter.unusedVariables false
set_option linter.unusedSimpArgs false
namespace Go.Proofs.YtgdnnaiidmfncaaDoor
open Go.RowKit
set_option maxHeartbeats 8000000
set_option maxRecDepth 100000

theorem op_atg {P : Program} {ops : Array Oper} {Q : Exit → Act → World → Prop} {i : Nat} {K : Act → World → Prop} {a : Act} {w : World} (o : Oper) (ho : ops[i]? = some o) (hg : Region.wanted o (yielded ops a.tmps) = true) (h : ∀ K' : Act → World → Prop, (∀ a w, K a w → K' a w) → o.wp P a w K' Q) : wpOp P ops Q i K a w := by
  unfold wpOp
  rw [ho]
  simp only [hg, if_true]
  exact .inl (h K (fun _ _ q => q))
structure VT8 (T12 : Nat) (y : Ins) (A : Bs) (er : Int) (rb : Bool) (NL : List Int) (wi : Int) (W : World) (L : Nat → Bool) (va : Value) (vb : Value) (z47 z48 z49 z50 z51 z52 z53 z54 z55 z56 z57 z58 z59 z60 z61 z62 z63 z64 z65 z66 z67 z68 z69 z70 z71 z72 z73 z74 z75 z76 : Value) (wx : World) : Prop where
  p12_10 : L 12 = true → L 10 = true
  p15_10 : L 15 = true → L 10 = true
  p15_12 : L 15 = true → L 12 = true
  p16_10 : L 16 = true → L 10 = true
  p17_10 : L 17 = true → L 10 = true
  p17_12 : L 17 = true → L 12 = true
  p19_10 : L 19 = true → L 10 = true
  p19_12 : L 19 = true → L 12 = true
  p19_17 : L 19 = true → L 17 = true
  c0 : L 0 = true → z47 = .string (strOf A)
  c1 : L 1 = true → z48 = .string (strOf A)
  c2 : L 2 = true → z49 = .bool false
  c3 : L 3 = true → z50 = .bool false
  c4 : L 4 = true → z51 = .int .i64 er
  c5 : L 5 = true → z52 = .int .i64 er
  c6 : L 6 = true → z53 = .bool false
  c7 : L 7 = true → z54 = .bool false
  c8 : L 8 = true → z55 = .bool false
  c9 : L 9 = true → z56 = .agg #[.int .i64 y.op, .int .i64 y.d, .int .i64 y.a, .int .i64 y.b, .int .i64 y.n, .string (strOf y.name)]
  c10 : L 10 = true → z57 = .bool rb
  c11 : L 11 = true → z58 = .agg #[.int .i64 y.op, .int .i64 y.d, .int .i64 y.a, .int .i64 y.b, .int .i64 y.n, .string (strOf y.name)]
  c12 : L 12 = true → z59 = .bool rb
  c13 : L 13 = true → z60 = .bool false
  c14 : L 14 = true → z61 = .bool false
  c15 : L 15 = true → z62 = .bool false
  c16 : L 16 = true → z63 = .agg #[.int .i64 y.op, .int .i64 y.d, .int .i64 y.a, .int .i64 y.b, .int .i64 y.n, .string (strOf y.name)]
  c17 : L 17 = true → z64 = va
  c18 : L 18 = true → z65 = .agg #[.int .i64 y.op, .int .i64 y.d, .int .i64 y.a, .int .i64 y.b, .int .i64 y.n, .string (strOf y.name)]
  c19 : L 19 = true → z66 = vb
  c20 : L 20 = true → z67 = .bool true
  c21 : L 21 = true → z68 = .bool false
  c22 : L 22 = true → z69 = .bool false
  c23 : L 23 = true → z70 = .bool false
  c24 : L 24 = true → z71 = .agg #[.int .i64 y.op, .int .i64 y.d, .int .i64 y.a, .int .i64 y.b, .int .i64 y.n, .string (strOf y.name)]
  c25 : L 25 = true → z72 = .int .i64 wi
  c26 : L 26 = true → z73 = .agg #[.int .i64 y.op, .int .i64 y.d, .int .i64 y.a, .int .i64 y.b, .int .i64 y.n, .string (strOf y.name)]
  c27 : L 27 = true → z74 = .int .i64 wi
  c28 : L 28 = true → z75 = .bool false
  c29 : L 29 = true → z76 = .bool false
  fr : Below W.heap.size W wx
  r1 : L 17 = true → IntsAt wx va NL
  r2 : L 19 = true → IntsAt wx vb NL
def IT8 (T12 : Nat) (y : Ins) (A : Bs) (er : Int) (rb : Bool) (NL : List Int) (wi : Int) (W : World) (q0 q1 q2 q3 q4 q5 q6 q7 q8 q9 q10 q11 q17 q18 q19 q20 q21 q22 q23 q24 q25 q26 q27 q28 q29 q30 q31 q32 q33 q34 q35 q36 q37 q38 q39 q40 q41 q42 q43 q44 q45 q46 q77 q78 q79 q80 q81 q82 q83 q84 q85 q86 q87 q88 q89 q90 q91 q92 q93 q94 q95 q96 q97 q98 q99 q100 q101 q102 q103 q104 q105 q106 q107 q108 q109 q110 q111 q112 q113 q114 q115 q116 q117 q118 q119 q120 q121 q122 q123 q124 q125 q126 q127 q128 q129 q130 q131 q132 q133 q134 q135 q136 q137 q138 q139 q140 q141 q142 q143 q144 q145 q146 q147 q148 q149 q150 q151 q152 q153 q154 q155 q156 : Value) (L : Nat → Bool) (a' : Act) (w' : World) : Prop :=
  ∃ va : Value, ∃ vb : Value, ∃ z47 z48 z49 z50 z51 z52 z53 z54 z55 z56 z57 z58 z59 z60 z61 z62 z63 z64 z65 z66 z67 z68 z69 z70 z71 z72 z73 z74 z75 z76 : Value, VT8 T12 y A er rb NL wi W L va vb z47 z48 z49 z50 z51 z52 z53 z54 z55 z56 z57 z58 z59 z60 z61 z62 z63 z64 z65 z66 z67 z68 z69 z70 z71 z72 z73 z74 z75 z76 w' ∧ a' = ⟨[q0, q1, q2, q3, q4, q5, q6, q7, q8, q9, q10, q11, .pointer (some ⟨T12, 0, none⟩), .string (strOf A), .int .i64 er, .string (strOf A), .int .i64 er, q17, q18, q19, q20, q21, q22, q23, q24, q25, q26, q27, q28, q29, q30, q31, q32, q33, q34, q35, q36, q37, q38, q39, q40, q41, q42, q43, q44, q45, q46, z47, z48, z49, z50, z51, z52, z53, z54, z55, z56, z57, z58, z59, z60, z61, z62, z63, z64, z65, z66, z67, z68, z69, z70, z71, z72, z73, z74, z75, z76, q77, q78, q79, q80, q81, q82, q83, q84, q85, q86, q87, q88, q89, q90, q91, q92, q93, q94, q95, q96, q97, q98, q99, q100, q101, q102, q103, q104, q105, q106, q107, q108, q109, q110, q111, q112, q113, q114, q115, q116, q117, q118, q119, q120, q121, q122, q123, q124, q125, q126, q127, q128, q129, q130, q131, q132, q133, q134, q135, q136, q137, q138, q139, q140, q141, q142, q143, q144, q145, q146, q147, q148, q149, q150, q151, q152, q153, q154, q155, q156].toArray, []⟩
def RT8 (T12 : Nat) (y : Ins) (A : Bs) (er : Int) (rb : Bool) (NL : List Int) (wi : Int) (W : World) (q0 q1 q2 q3 q4 q5 q6 q7 q8 q9 q10 q11 q17 q18 q19 q20 q21 q22 q23 q24 q25 q26 q27 q28 q29 q30 q31 q32 q33 q34 q35 q36 q37 q38 q39 q40 q41 q42 q43 q44 q45 q46 q77 q78 q79 q80 q81 q82 q83 q84 q85 q86 q87 q88 q89 q90 q91 q92 q93 q94 q95 q96 q97 q98 q99 q100 q101 q102 q103 q104 q105 q106 q107 q108 q109 q110 q111 q112 q113 q114 q115 q116 q117 q118 q119 q120 q121 q122 q123 q124 q125 q126 q127 q128 q129 q130 q131 q132 q133 q134 q135 q136 q137 q138 q139 q140 q141 q142 q143 q144 q145 q146 q147 q148 q149 q150 q151 q152 q153 q154 q155 q156 : Value) (a' : Act) (w' : World) : Prop :=
  ∃ va : Value, ∃ vb : Value, (Below W.heap.size W w') ∧ a' = ⟨[q0, q1, q2, q3, q4, q5, q6, q7, q8, q9, q10, q11, .pointer (some ⟨T12, 0, none⟩), .string (strOf A), .int .i64 er, .string (strOf A), .int .i64 er, q17, q18, q19, q20, q21, q22, q23, q24, q25, q26, q27, q28, q29, q30, q31, q32, q33, q34, q35, q36, q37, q38, q39, q40, q41, q42, q43, q44, q45, q46, .string (strOf A), .string (strOf A), .bool false, .bool false, .int .i64 er, .int .i64 er, .bool false, .bool false, .bool false, .agg #[.int .i64 y.op, .int .i64 y.d, .int .i64 y.a, .int .i64 y.b, .int .i64 y.n, .string (strOf y.name)], .bool rb, .agg #[.int .i64 y.op, .int .i64 y.d, .int .i64 y.a, .int .i64 y.b, .int .i64 y.n, .string (strOf y.name)], .bool rb, .bool false, .bool false, .bool false, .agg #[.int .i64 y.op, .int .i64 y.d, .int .i64 y.a, .int .i64 y.b, .int .i64 y.n, .string (strOf y.name)], va, .agg #[.int .i64 y.op, .int .i64 y.d, .int .i64 y.a, .int .i64 y.b, .int .i64 y.n, .string (strOf y.name)], vb, .bool true, .bool false, .bool false, .bool false, .agg #[.int .i64 y.op, .int .i64 y.d, .int .i64 y.a, .int .i64 y.b, .int .i64 y.n, .string (strOf y.name)], .int .i64 wi, .agg #[.int .i64 y.op, .int .i64 y.d, .int .i64 y.a, .int .i64 y.b, .int .i64 y.n, .string (strOf y.name)], .int .i64 wi, .bool false, .bool false, q77, q78, q79, q80, q81, q82, q83, q84, q85, q86, q87, q88, q89, q90, q91, q92, q93, q94, q95, q96, q97, q98, q99, q100, q101, q102, q103, q104, q105, q106, q107, q108, q109, q110, q111, q112, q113, q114, q115, q116, q117, q118, q119, q120, q121, q122, q123, q124, q125, q126, q127, q128, q129, q130, q131, q132, q133, q134, q135, q136, q137, q138, q139, q140, q141, q142, q143, q144, q145, q146, q147, q148, q149, q150, q151, q152, q153, q154, q155, q156].toArray, []⟩
theorem reg_T8 (T12 : Nat) (y : Ins) (A : Bs) (er : Int) (rb : Bool) (NL : List Int) (wi : Int) (W : World) (HX : Hid (OwnAt W T12 (insCells y) 23)) (HRT : Hid (∀ w, Calls Tryd.prog 8 #[.agg #[.int .i64 y.op, .int .i64 y.d, .int .i64 y.a, .int .i64 y.b, .int .i64 y.n, .string (strOf y.name)]] w fun e w' => e = .returned (.bool rb) ∧ Below w.heap.size w w')) (HRU : Hid (∀ w, Calls Tryd.prog 9 #[.agg #[.int .i64 y.op, .int .i64 y.d, .int .i64 y.a, .int .i64 y.b, .int .i64 y.n, .string (strOf y.name)]] w fun e w' => e = .returned (.bool rb) ∧ Below w.heap.size w w')) (HWT : Hid (∀ w, Calls Tryd.prog 13 #[.agg #[.int .i64 y.op, .int .i64 y.d, .int .i64 y.a, .int .i64 y.b, .int .i64 y.n, .string (strOf y.name)]] w fun e w' => e = .returned (.int .i64 wi) ∧ Below w.heap.size w w')) (HWU : Hid (∀ w, Calls Tryd.prog 14 #[.agg #[.int .i64 y.op, .int .i64 y.d, .int .i64 y.a, .int .i64 y.b, .int .i64 y.n, .string (strOf y.name)]] w fun e w' => e = .returned (.int .i64 wi) ∧ Below w.heap.size w w')) (HET : Hid (∀ w, Calls Tryd.prog 11 #[.agg #[.int .i64 y.op, .int .i64 y.d, .int .i64 y.a, .int .i64 y.b, .int .i64 y.n, .string (strOf y.name)]] w fun e w' => (∃ v, e = .returned v ∧ IntsAt w' v NL) ∧ Below w.heap.size w w')) (HEU : Hid (∀ w, Calls Tryd.prog 12 #[.agg #[.int .i64 y.op, .int .i64 y.d, .int .i64 y.a, .int .i64 y.b, .int .i64 y.n, .string (strOf y.name)]] w fun e w' => (∃ v, e = .returned v ∧ IntsAt w' v NL) ∧ Below w.heap.size w w')) (HIN : Hid (∀ v u w, IntsAt w v NL → IntsAt w u NL → Calls Tryd.prog 10 #[v, u] w fun e w' => e = .returned (.bool true) ∧ Below w.heap.size w w')) (q0 q1 q2 q3 q4 q5 q6 q7 q8 q9 q10 q11 q17 q18 q19 q20 q21 q22 q23 q24 q25 q26 q27 q28 q29 q30 q31 q32 q33 q34 q35 q36 q37 q38 q39 q40 q41 q42 q43 q44 q45 q46 q47 q48 q49 q50 q51 q52 q53 q54 q55 q56 q57 q58 q59 q60 q61 q62 q63 q64 q65 q66 q67 q68 q69 q70 q71 q72 q73 q74 q75 q76 q77 q78 q79 q80 q81 q82 q83 q84 q85 q86 q87 q88 q89 q90 q91 q92 q93 q94 q95 q96 q97 q98 q99 q100 q101 q102 q103 q104 q105 q106 q107 q108 q109 q110 q111 q112 q113 q114 q115 q116 q117 q118 q119 q120 q121 q122 q123 q124 q125 q126 q127 q128 q129 q130 q131 q132 q133 q134 q135 q136 q137 q138 q139 q140 q141 q142 q143 q144 q145 q146 q147 q148 q149 q150 q151 q152 q153 q154 q155 q156 : Value) (J K' : Act → World → Prop) (hJ : ∀ a' w', RT8 T12 y A er rb NL wi W q0 q1 q2 q3 q4 q5 q6 q7 q8 q9 q10 q11 q17 q18 q19 q20 q21 q22 q23 q24 q25 q26 q27 q28 q29 q30 q31 q32 q33 q34 q35 q36 q37 q38 q39 q40 q41 q42 q43 q44 q45 q46 q77 q78 q79 q80 q81 q82 q83 q84 q85 q86 q87 q88 q89 q90 q91 q92 q93 q94 q95 q96 q97 q98 q99 q100 q101 q102 q103 q104 q105 q106 q107 q108 q109 q110 q111 q112 q113 q114 q115 q116 q117 q118 q119 q120 q121 q122 q123 q124 q125 q126 q127 q128 q129 q130 q131 q132 q133 q134 q135 q136 q137 q138 q139 q140 q141 q142 q143 q144 q145 q146 q147 q148 q149 q150 q151 q152 q153 q154 q155 q156 a' w' → J a' w') (hM : ∀ a' w', Met J a' w' → K' a' w') :
    Code.wp Tryd.prog ((Tryd.f3.body.bind (regOf 8)).getD .skip) (Exit.then K' (fun _ _ _ => False)) ⟨[q0, q1, q2, q3, q4, q5, q6, q7, q8, q9, q10, q11, .pointer (some ⟨T12, 0, none⟩), .string (strOf A), .int .i64 er, .string (strOf A), .int .i64 er, q17, q18, q19, q20, q21, q22, q23, q24, q25, q26, q27, q28, q29, q30, q31, q32, q33, q34, q35, q36, q37, q38, q39, q40, q41, q42, q43, q44, q45, q46, q47, q48, q49, q50, q51, q52, q53, q54, q55, q56, q57, q58, q59, q60, q61, q62, q63, q64, q65, q66, q67, q68, q69, q70, q71, q72, q73, q74, q75, q76, q77, q78, q79, q80, q81, q82, q83, q84, q85, q86, q87, q88, q89, q90, q91, q92, q93, q94, q95, q96, q97, q98, q99, q100, q101, q102, q103, q104, q105, q106, q107, q108, q109, q110, q111, q112, q113, q114, q115, q116, q117, q118, q119, q120, q121, q122, q123, q124, q125, q126, q127, q128, q129, q130, q131, q132, q133, q134, q135, q136, q137, q138, q139, q140, q141, q142, q143, q144, q145, q146, q147, q148, q149, q150, q151, q152, q153, q154, q155, q156].toArray, []⟩ W := by
  conv => arg 2; whnf
  dsimp only
  refine region_by (by kernel_rfl) (by kernel_rfl) (IT8 T12 y A er rb NL wi W q0 q1 q2 q3 q4 q5 q6 q7 q8 q9 q10 q11 q17 q18 q19 q20 q21 q22 q23 q24 q25 q26 q27 q28 q29 q30 q31 q32 q33 q34 q35 q36 q37 q38 q39 q40 q41 q42 q43 q44 q45 q46 q77 q78 q79 q80 q81 q82 q83 q84 q85 q86 q87 q88 q89 q90 q91 q92 q93 q94 q95 q96 q97 q98 q99 q100 q101 q102 q103 q104 q105 q106 q107 q108 q109 q110 q111 q112 q113 q114 q115 q116 q117 q118 q119 q120 q121 q122 q123 q124 q125 q126 q127 q128 q129 q130 q131 q132 q133 q134 q135 q136 q137 q138 q139 q140 q141 q142 q143 q144 q145 q146 q147 q148 q149 q150 q151 q152 q153 q154 q155 q156) ?_ ?_ ?_
  · exact ⟨undef, undef, q47, q48, q49, q50, q51, q52, q53, q54, q55, q56, q57, q58, q59, q60, q61, q62, q63, q64, q65, q66, q67, q68, q69, q70, q71, q72, q73, q74, q75, q76, ⟨(fun h => by cases h), (fun h => by cases h), (fun h => by cases h), (fun h => by cases h), (fun h => by cases h), (fun h => by cases h), (fun h => by cases h), (fun h => by cases h), (fun h => by cases h), (fun h => by cases h), (fun h => by cases h), (fun h => by cases h), (fun h => by cases h), (fun h => by cases h), (fun h => by cases h), (fun h => by cases h), (fun h => by cases h), (fun h => by cases h), (fun h => by cases h), (fun h => by cases h), (fun h => by cases h), (fun h => by cases h), (fun h => by cases h), (fun h => by cases h), (fun h => by cases h), (fun h => by cases h), (fun h => by cases h), (fun h => by cases h), (fun h => by cases h), (fun h => by cases h), (fun h => by cases h), (fun h => by cases h), (fun h => by cases h), (fun h => by cases h), (fun h => by cases h), (fun h => by cases h), (fun h => by cases h), (fun h => by cases h), (fun h => by cases h), ((Below.refl _ _).drew), (fun h => by cases h), (fun h => by cases h)⟩, rfl⟩
  · intro L act wx k hI hk hl hd
    obtain ⟨va, vb, z47, z48, z49, z50, z51, z52, z53, z54, z55, z56, z57, z58, z59, z60, z61, z62, z63, z64, z65, z66, z67, z68, z69, z70, z71, z72, z73, z74, z75, z76, hV, rfl⟩ := hI
    have hk : k = 0 ∨ k = 1 ∨ k = 2 ∨ k = 3 ∨ k = 4 ∨ k = 5 ∨ k = 6 ∨ k = 7 ∨ k = 8 ∨ k = 9 ∨ k = 10 ∨ k = 11 ∨ k = 12 ∨ k = 13 ∨ k = 14 ∨ k = 15 ∨ k = 16 ∨ k = 17 ∨ k = 18 ∨ k = 19 ∨ k = 20 ∨ k = 21 ∨ k = 22 ∨ k = 23 ∨ k = 24 ∨ k = 25 ∨ k = 26 ∨ k = 27 ∨ k = 28 ∨ k = 29 := by
      have : k < 30 := hk
      omega
    rcases hk with rfl | rfl | rfl | rfl | rfl | rfl | rfl | rfl | rfl | rfl | rfl | rfl | rfl | rfl | rfl | rfl | rfl | rfl | rfl | rfl | rfl | rfl | rfl | rfl | rfl | rfl | rfl | rfl | rfl | rfl
    · refine op_at _ rfl rfl (fun K' hK => ?_)
      conv => arg 2; whnf
      go_wp2_with fail
      exact ⟨va, vb, .string (strOf A), z48, z49, z50, z51, z52, z53, z54, z55, z56, z57, z58, z59, z60, z61, z62, z63, z64, z65, z66, z67, z68, z69, z70, z71, z72, z73, z74, z75, z76, ⟨(kq hV.p12_10), (kq hV.p15_10), (kq hV.p15_12), (kq hV.p16_10), (kq hV.p17_10), (kq hV.p17_12), (kq hV.p19_10), (kq hV.p19_12), (kq hV.p19_17), (fun _ => rfl), (kc hV.c1), (kc hV.c2), (kc hV.c3), (kc hV.c4), (kc hV.c5), (kc hV.c6), (kc hV.c7), (kc hV.c8), (kc hV.c9), (kc hV.c10), (kc hV.c11), (kc hV.c12), (kc hV.c13), (kc hV.c14), (kc hV.c15), (kc hV.c16), (kc hV.c17), (kc hV.c18), (kc hV.c19), (kc hV.c20), (kc hV.c21), (kc hV.c22), (kc hV.c23), (kc hV.c24), (kc hV.c25), (kc hV.c26), (kc hV.c27), (kc hV.c28), (kc hV.c29), hV.fr, (kc hV.r1), (kc hV.r2)⟩, rfl⟩
    · refine op_at _ rfl rfl (fun K' hK => ?_)
      conv => arg 2; whnf
      go_wp2_with fail
      exact ⟨va, vb, z47, .string (strOf A), z49, z50, z51, z52, z53, z54, z55, z56, z57, z58, z59, z60, z61, z62, z63, z64, z65, z66, z67, z68, z69, z70, z71, z72, z73, z74, z75, z76, ⟨(kq hV.p12_10), (kq hV.p15_10), (kq hV.p15_12), (kq hV.p16_10), (kq hV.p17_10), (kq hV.p17_12), (kq hV.p19_10), (kq hV.p19_12), (kq hV.p19_17), (kc hV.c0), (fun _ => rfl), (kc hV.c2), (kc hV.c3), (kc hV.c4), (kc hV.c5), (kc hV.c6), (kc hV.c7), (kc hV.c8), (kc hV.c9), (kc hV.c10), (kc hV.c11), (kc hV.c12), (kc hV.c13), (kc hV.c14), (kc hV.c15), (kc hV.c16), (kc hV.c17), (kc hV.c18), (kc hV.c19), (kc hV.c20), (kc hV.c21), (kc hV.c22), (kc hV.c23), (kc hV.c24), (kc hV.c25), (kc hV.c26), (kc hV.c27), (kc hV.c28), (kc hV.c29), hV.fr, (kc hV.r1), (kc hV.r2)⟩, rfl⟩
    · have d0 : L 0 = true := hd _ rfl ⟨0, .data⟩ (by simp) rfl
      obtain rfl := (hV.c0 d0).symm
      have d1 : L 1 = true := hd _ rfl ⟨1, .data⟩ (by simp) rfl
      obtain rfl := (hV.c1 d1).symm
      refine op_at _ rfl rfl (fun K' hK => ?_)
      conv => arg 2; whnf
      go_wp2_with fail
      exact ⟨va, vb, .string (strOf A), .string (strOf A), .bool false, z50, z51, z52, z53, z54, z55, z56, z57, z58, z59, z60, z61, z62, z63, z64, z65, z66, z67, z68, z69, z70, z71, z72, z73, z74, z75, z76, ⟨(kq hV.p12_10), (kq hV.p15_10), (kq hV.p15_12), (kq hV.p16_10), (kq hV.p17_10), (kq hV.p17_12), (kq hV.p19_10), (kq hV.p19_12), (kq hV.p19_17), (kc hV.c0), (kc hV.c1), (fun _ => rfl), (kc hV.c3), (kc hV.c4), (kc hV.c5), (kc hV.c6), (kc hV.c7), (kc hV.c8), (kc hV.c9), (kc hV.c10), (kc hV.c11), (kc hV.c12), (kc hV.c13), (kc hV.c14), (kc hV.c15), (kc hV.c16), (kc hV.c17), (kc hV.c18), (kc hV.c19), (kc hV.c20), (kc hV.c21), (kc hV.c22), (kc hV.c23), (kc hV.c24), (kc hV.c25), (kc hV.c26), (kc hV.c27), (kc hV.c28), (kc hV.c29), hV.fr, (kc hV.r1), (kc hV.r2)⟩, rfl⟩
    · have d2 : L 2 = true := hd _ rfl ⟨2, .data⟩ (by simp) rfl
      obtain rfl := (hV.c2 d2).symm
      refine op_at _ rfl rfl (fun K' hK => ?_)
      conv => arg 2; whnf
      go_wp2_with fail
      exact ⟨va, vb, z47, z48, .bool false, .bool false, z51, z52, z53, z54, z55, z56, z57, z58, z59, z60, z61, z62, z63, z64, z65, z66, z67, z68, z69, z70, z71, z72, z73, z74, z75, z76, ⟨(kq hV.p12_10), (kq hV.p15_10), (kq hV.p15_12), (kq hV.p16_10), (kq hV.p17_10), (kq hV.p17_12), (kq hV.p19_10), (kq hV.p19_12), (kq hV.p19_17), (kc hV.c0), (kc hV.c1), (kc hV.c2), (fun _ => rfl), (kc hV.c4), (kc hV.c5), (kc hV.c6), (kc hV.c7), (kc hV.c8), (kc hV.c9), (kc hV.c10), (kc hV.c11), (kc hV.c12), (kc hV.c13), (kc hV.c14), (kc hV.c15), (kc hV.c16), (kc hV.c17), (kc hV.c18), (kc hV.c19), (kc hV.c20), (kc hV.c21), (kc hV.c22), (kc hV.c23), (kc hV.c24), (kc hV.c25), (kc hV.c26), (kc hV.c27), (kc hV.c28), (kc hV.c29), hV.fr, (kc hV.r1), (kc hV.r2)⟩, rfl⟩
    · have d3 : L 3 = true := hd _ rfl ⟨3, .guard⟩ (by simp) rfl
      obtain rfl := (hV.c3 d3).symm
      refine op_atg _ rfl rfl (fun K' hK => ?_)
      conv => arg 2; whnf
      go_wp2_with fail
      exact ⟨va, vb, z47, z48, z49, .bool false, .int .i64 er, z52, z53, z54, z55, z56, z57, z58, z59, z60, z61, z62, z63, z64, z65, z66, z67, z68, z69, z70, z71, z72, z73, z74, z75, z76, ⟨(kq hV.p12_10), (kq hV.p15_10), (kq hV.p15_12), (kq hV.p16_10), (kq hV.p17_10), (kq hV.p17_12), (kq hV.p19_10), (kq hV.p19_12), (kq hV.p19_17), (kc hV.c0), (kc hV.c1), (kc hV.c2), (kc hV.c3), (fun _ => rfl), (kc hV.c5), (kc hV.c6), (kc hV.c7), (kc hV.c8), (kc hV.c9), (kc hV.c10), (kc hV.c11), (kc hV.c12), (kc hV.c13), (kc hV.c14), (kc hV.c15), (kc hV.c16), (kc hV.c17), (kc hV.c18), (kc hV.c19), (kc hV.c20), (kc hV.c21), (kc hV.c22), (kc hV.c23), (kc hV.c24), (kc hV.c25), (kc hV.c26), (kc hV.c27), (kc hV.c28), (kc hV.c29), hV.fr, (kc hV.r1), (kc hV.r2)⟩, rfl⟩
    · have d3 : L 3 = true := hd _ rfl ⟨3, .guard⟩ (by simp) rfl
      obtain rfl := (hV.c3 d3).symm
      refine op_atg _ rfl rfl (fun K' hK => ?_)
      conv => arg 2; whnf
      go_wp2_with fail
      exact ⟨va, vb, z47, z48, z49, .bool false, z51, .int .i64 er, z53, z54, z55, z56, z57, z58, z59, z60, z61, z62, z63, z64, z65, z66, z67, z68, z69, z70, z71, z72, z73, z74, z75, z76, ⟨(kq hV.p12_10), (kq hV.p15_10), (kq hV.p15_12), (kq hV.p16_10), (kq hV.p17_10), (kq hV.p17_12), (kq hV.p19_10), (kq hV.p19_12), (kq hV.p19_17), (kc hV.c0), (kc hV.c1), (kc hV.c2), (kc hV.c3), (kc hV.c4), (fun _ => rfl), (kc hV.c6), (kc hV.c7), (kc hV.c8), (kc hV.c9), (kc hV.c10), (kc hV.c11), (kc hV.c12), (kc hV.c13), (kc hV.c14), (kc hV.c15), (kc hV.c16), (kc hV.c17), (kc hV.c18), (kc hV.c19), (kc hV.c20), (kc hV.c21), (kc hV.c22), (kc hV.c23), (kc hV.c24), (kc hV.c25), (kc hV.c26), (kc hV.c27), (kc hV.c28), (kc hV.c29), hV.fr, (kc hV.r1), (kc hV.r2)⟩, rfl⟩
    · have d3 : L 3 = true := hd _ rfl ⟨3, .guard⟩ (by simp) rfl
      obtain rfl := (hV.c3 d3).symm
      have d4 : L 4 = true := hd _ rfl ⟨4, .data⟩ (by simp) rfl
      obtain rfl := (hV.c4 d4).symm
      have d5 : L 5 = true := hd _ rfl ⟨5, .data⟩ (by simp) rfl
      obtain rfl := (hV.c5 d5).symm
      refine op_atg _ rfl rfl (fun K' hK => ?_)
      conv => arg 2; whnf
      go_wp2_with fail
      exact ⟨va, vb, z47, z48, z49, .bool false, .int .i64 er, .int .i64 er, .bool false, z54, z55, z56, z57, z58, z59, z60, z61, z62, z63, z64, z65, z66, z67, z68, z69, z70, z71, z72, z73, z74, z75, z76, ⟨(kq hV.p12_10), (kq hV.p15_10), (kq hV.p15_12), (kq hV.p16_10), (kq hV.p17_10), (kq hV.p17_12), (kq hV.p19_10), (kq hV.p19_12), (kq hV.p19_17), (kc hV.c0), (kc hV.c1), (kc hV.c2), (kc hV.c3), (kc hV.c4), (kc hV.c5), (fun _ => rfl), (kc hV.c7), (kc hV.c8), (kc hV.c9), (kc hV.c10), (kc hV.c11), (kc hV.c12), (kc hV.c13), (kc hV.c14), (kc hV.c15), (kc hV.c16), (kc hV.c17), (kc hV.c18), (kc hV.c19), (kc hV.c20), (kc hV.c21), (kc hV.c22), (kc hV.c23), (kc hV.c24), (kc hV.c25), (kc hV.c26), (kc hV.c27), (kc hV.c28), (kc hV.c29), hV.fr, (kc hV.r1), (kc hV.r2)⟩, rfl⟩
    · have d3 : L 3 = true := hd _ rfl ⟨3, .data⟩ (by simp) rfl
      obtain rfl := (hV.c3 d3).symm
      have d6 : L 6 = true := hd _ rfl ⟨6, .data⟩ (by simp) rfl
      obtain rfl := (hV.c6 d6).symm
      refine op_at _ rfl rfl (fun K' hK => ?_)
      conv => arg 2; whnf
      go_wp2_with fail
      exact ⟨va, vb, z47, z48, z49, .bool false, z51, z52, .bool false, .bool false, z55, z56, z57, z58, z59, z60, z61, z62, z63, z64, z65, z66, z67, z68, z69, z70, z71, z72, z73, z74, z75, z76, ⟨(kq hV.p12_10), (kq hV.p15_10), (kq hV.p15_12), (kq hV.p16_10), (kq hV.p17_10), (kq hV.p17_12), (kq hV.p19_10), (kq hV.p19_12), (kq hV.p19_17), (kc hV.c0), (kc hV.c1), (kc hV.c2), (kc hV.c3), (kc hV.c4), (kc hV.c5), (kc hV.c6), (fun _ => rfl), (kc hV.c8), (kc hV.c9), (kc hV.c10), (kc hV.c11), (kc hV.c12), (kc hV.c13), (kc hV.c14), (kc hV.c15), (kc hV.c16), (kc hV.c17), (kc hV.c18), (kc hV.c19), (kc hV.c20), (kc hV.c21), (kc hV.c22), (kc hV.c23), (kc hV.c24), (kc hV.c25), (kc hV.c26), (kc hV.c27), (kc hV.c28), (kc hV.c29), hV.fr, (kc hV.r1), (kc hV.r2)⟩, rfl⟩
    · have d3 : L 3 = true := hd _ rfl ⟨3, .chain⟩ (by simp) rfl
      have d7 : L 7 = true := hd _ rfl ⟨7, .data⟩ (by simp) rfl
      obtain rfl := (hV.c7 d7).symm
      refine op_at _ rfl rfl (fun K' hK => ?_)
      conv => arg 2; whnf
      go_wp2_with fail
      exact ⟨va, vb, z47, z48, z49, z50, z51, z52, z53, .bool false, .bool false, z56, z57, z58, z59, z60, z61, z62, z63, z64, z65, z66, z67, z68, z69, z70, z71, z72, z73, z74, z75, z76, ⟨(kq hV.p12_10), (kq hV.p15_10), (kq hV.p15_12), (kq hV.p16_10), (kq hV.p17_10), (kq hV.p17_12), (kq hV.p19_10), (kq hV.p19_12), (kq hV.p19_17), (kc hV.c0), (kc hV.c1), (kc hV.c2), (kc hV.c3), (kc hV.c4), (kc hV.c5), (kc hV.c6), (kc hV.c7), (fun _ => rfl), (kc hV.c9), (kc hV.c10), (kc hV.c11), (kc hV.c12), (kc hV.c13), (kc hV.c14), (kc hV.c15), (kc hV.c16), (kc hV.c17), (kc hV.c18), (kc hV.c19), (kc hV.c20), (kc hV.c21), (kc hV.c22), (kc hV.c23), (kc hV.c24), (kc hV.c25), (kc hV.c26), (kc hV.c27), (kc hV.c28), (kc hV.c29), hV.fr, (kc hV.r1), (kc hV.r2)⟩, rfl⟩
    · have d8 : L 8 = true := hd _ rfl ⟨8, .guard⟩ (by simp) rfl
      obtain rfl := (hV.c8 d8).symm
      have ho := HX.out.old hV.fr
      have x0 := ho.at 0 _ rfl
      have x1 := ho.at 1 _ rfl
      have x2 := ho.at 2 _ rfl
      have x3 := ho.at 3 _ rfl
      have x4 := ho.at 4 _ rfl
      have x5 := ho.at 5 _ rfl
      have hxl := ho.lt
      refine op_atg _ rfl rfl (fun K' hK => ?_)
      conv => arg 2; whnf
      go_wp2_with fail
      exact ⟨va, vb, z47, z48, z49, z50, z51, z52, z53, z54, .bool false, .agg #[.int .i64 y.op, .int .i64 y.d, .int .i64 y.a, .int .i64 y.b, .int .i64 y.n, .string (strOf y.name)], z57, z58, z59, z60, z61, z62, z63, z64, z65, z66, z67, z68, z69, z70, z71, z72, z73, z74, z75, z76, ⟨(kq hV.p12_10), (kq hV.p15_10), (kq hV.p15_12), (kq hV.p16_10), (kq hV.p17_10), (kq hV.p17_12), (kq hV.p19_10), (kq hV.p19_12), (kq hV.p19_17), (kc hV.c0), (kc hV.c1), (kc hV.c2), (kc hV.c3), (kc hV.c4), (kc hV.c5), (kc hV.c6), (kc hV.c7), (kc hV.c8), (fun _ => rfl), (kc hV.c10), (kc hV.c11), (kc hV.c12), (kc hV.c13), (kc hV.c14), (kc hV.c15), (kc hV.c16), (kc hV.c17), (kc hV.c18), (kc hV.c19), (kc hV.c20), (kc hV.c21), (kc hV.c22), (kc hV.c23), (kc hV.c24), (kc hV.c25), (kc hV.c26), (kc hV.c27), (kc hV.c28), (kc hV.c29), hV.fr, (kc hV.r1), (kc hV.r2)⟩, rfl⟩
    · have d8 : L 8 = true := hd _ rfl ⟨8, .guard⟩ (by simp) rfl
      obtain rfl := (hV.c8 d8).symm
      have d9 : L 9 = true := hd _ rfl ⟨9, .data⟩ (by simp) rfl
      obtain rfl := (hV.c9 d9).symm
      refine op_atg _ rfl rfl (fun K' hK => ?_)
      conv => arg 2; whnf
      go_wp2_with fail
      refine (HRT.out _).mono ?_
      rintro e w7 ⟨rfl, hb7⟩
      go_wp2_with fail
      exact ⟨va, vb, z47, z48, z49, z50, z51, z52, z53, z54, .bool false, .agg #[.int .i64 y.op, .int .i64 y.d, .int .i64 y.a, .int .i64 y.b, .int .i64 y.n, .string (strOf y.name)], .bool rb, z58, z59, z60, z61, z62, z63, z64, z65, z66, z67, z68, z69, z70, z71, z72, z73, z74, z75, z76, ⟨(fun _ => upd_same L 10), (fun _ => upd_same L 10), (kq hV.p15_12), (fun _ => upd_same L 10), (fun _ => upd_same L 10), (kq hV.p17_12), (fun _ => upd_same L 10), (kq hV.p19_12), (kq hV.p19_17), (kc hV.c0), (kc hV.c1), (kc hV.c2), (kc hV.c3), (kc hV.c4), (kc hV.c5), (kc hV.c6), (kc hV.c7), (kc hV.c8), (kc hV.c9), (fun _ => rfl), (kc hV.c11), (kc hV.c12), (kc hV.c13), (kc hV.c14), (kc hV.c15), (kc hV.c16), (kc hV.c17), (kc hV.c18), (kc hV.c19), (kc hV.c20), (kc hV.c21), (kc hV.c22), (kc hV.c23), (kc hV.c24), (kc hV.c25), (kc hV.c26), (kc hV.c27), (kc hV.c28), (kc hV.c29), (Below.trans (hV.fr) (Below.mono hb7 (Below.size (hV.fr)))), (kn hV.p17_10 hl), (kn hV.p19_10 hl)⟩, rfl⟩
    · have d8 : L 8 = true := hd _ rfl ⟨8, .guard⟩ (by simp) rfl
      obtain rfl := (hV.c8 d8).symm
      have ho := HX.out.old hV.fr
      have x0 := ho.at 0 _ rfl
      have x1 := ho.at 1 _ rfl
      have x2 := ho.at 2 _ rfl
      have x3 := ho.at 3 _ rfl
      have x4 := ho.at 4 _ rfl
      have x5 := ho.at 5 _ rfl
      have hxl := ho.lt
      refine op_atg _ rfl rfl (fun K' hK => ?_)
      conv => arg 2; whnf
      go_wp2_with fail
      exact ⟨va, vb, z47, z48, z49, z50, z51, z52, z53, z54, .bool false, z56, z57, .agg #[.int .i64 y.op, .int .i64 y.d, .int .i64 y.a, .int .i64 y.b, .int .i64 y.n, .string (strOf y.name)], z59, z60, z61, z62, z63, z64, z65, z66, z67, z68, z69, z70, z71, z72, z73, z74, z75, z76, ⟨(kq hV.p12_10), (kq hV.p15_10), (kq hV.p15_12), (kq hV.p16_10), (kq hV.p17_10), (kq hV.p17_12), (kq hV.p19_10), (kq hV.p19_12), (kq hV.p19_17), (kc hV.c0), (kc hV.c1), (kc hV.c2), (kc hV.c3), (kc hV.c4), (kc hV.c5), (kc hV.c6), (kc hV.c7), (kc hV.c8), (kc hV.c9), (kc hV.c10), (fun _ => rfl), (kc hV.c12), (kc hV.c13), (kc hV.c14), (kc hV.c15), (kc hV.c16), (kc hV.c17), (kc hV.c18), (kc hV.c19), (kc hV.c20), (kc hV.c21), (kc hV.c22), (kc hV.c23), (kc hV.c24), (kc hV.c25), (kc hV.c26), (kc hV.c27), (kc hV.c28), (kc hV.c29), hV.fr, (kc hV.r1), (kc hV.r2)⟩, rfl⟩
    · have d8 : L 8 = true := hd _ rfl ⟨8, .guard⟩ (by simp) rfl
      obtain rfl := (hV.c8 d8).symm
      have d10 : L 10 = true := hd _ rfl ⟨10, .chain⟩ (by simp) rfl
      have d11 : L 11 = true := hd _ rfl ⟨11, .data⟩ (by simp) rfl
      obtain rfl := (hV.c11 d11).symm
      refine op_atg _ rfl rfl (fun K' hK => ?_)
      conv => arg 2; whnf
      go_wp2_with fail
      refine (HRU.out _).mono ?_
      rintro e w7 ⟨rfl, hb7⟩
      go_wp2_with fail
      exact ⟨va, vb, z47, z48, z49, z50, z51, z52, z53, z54, .bool false, z56, z57, .agg #[.int .i64 y.op, .int .i64 y.d, .int .i64 y.a, .int .i64 y.b, .int .i64 y.n, .string (strOf y.name)], .bool rb, z60, z61, z62, z63, z64, z65, z66, z67, z68, z69, z70, z71, z72, z73, z74, z75, z76, ⟨(kd (d10)), (kq hV.p15_10), (fun _ => upd_same L 12), (kq hV.p16_10), (kq hV.p17_10), (fun _ => upd_same L 12), (kq hV.p19_10), (fun _ => upd_same L 12), (kq hV.p19_17), (kc hV.c0), (kc hV.c1), (kc hV.c2), (kc hV.c3), (kc hV.c4), (kc hV.c5), (kc hV.c6), (kc hV.c7), (kc hV.c8), (kc hV.c9), (kc hV.c10), (kc hV.c11), (fun _ => rfl), (kc hV.c13), (kc hV.c14), (kc hV.c15), (kc hV.c16), (kc hV.c17), (kc hV.c18), (kc hV.c19), (kc hV.c20), (kc hV.c21), (kc hV.c22), (kc hV.c23), (kc hV.c24), (kc hV.c25), (kc hV.c26), (kc hV.c27), (kc hV.c28), (kc hV.c29), (Below.trans (hV.fr) (Below.mono hb7 (Below.size (hV.fr)))), (kn hV.p17_12 hl), (kn hV.p19_12 hl)⟩, rfl⟩
    · have d8 : L 8 = true := hd _ rfl ⟨8, .guard⟩ (by simp) rfl
      obtain rfl := (hV.c8 d8).symm
      have d10 : L 10 = true := hd _ rfl ⟨10, .data⟩ (by simp) rfl
      obtain rfl := (hV.c10 d10).symm
      have d12 : L 12 = true := hd _ rfl ⟨12, .data⟩ (by simp) rfl
      obtain rfl := (hV.c12 d12).symm
      refine op_atg _ rfl rfl (fun K' hK => ?_)
      conv => arg 2; whnf
      go_wp2_with fail
      exact ⟨va, vb, z47, z48, z49, z50, z51, z52, z53, z54, .bool false, z56, .bool rb, z58, .bool rb, .bool false, z61, z62, z63, z64, z65, z66, z67, z68, z69, z70, z71, z72, z73, z74, z75, z76, ⟨(kq hV.p12_10), (kq hV.p15_10), (kq hV.p15_12), (kq hV.p16_10), (kq hV.p17_10), (kq hV.p17_12), (kq hV.p19_10), (kq hV.p19_12), (kq hV.p19_17), (kc hV.c0), (kc hV.c1), (kc hV.c2), (kc hV.c3), (kc hV.c4), (kc hV.c5), (kc hV.c6), (kc hV.c7), (kc hV.c8), (kc hV.c9), (kc hV.c10), (kc hV.c11), (kc hV.c12), (fun _ => rfl), (kc hV.c14), (kc hV.c15), (kc hV.c16), (kc hV.c17), (kc hV.c18), (kc hV.c19), (kc hV.c20), (kc hV.c21), (kc hV.c22), (kc hV.c23), (kc hV.c24), (kc hV.c25), (kc hV.c26), (kc hV.c27), (kc hV.c28), (kc hV.c29), hV.fr, (kc hV.r1), (kc hV.r2)⟩, rfl⟩
    · have d8 : L 8 = true := hd _ rfl ⟨8, .data⟩ (by simp) rfl
      obtain rfl := (hV.c8 d8).symm
      have d13 : L 13 = true := hd _ rfl ⟨13, .data⟩ (by simp) rfl
      obtain rfl := (hV.c13 d13).symm
      refine op_at _ rfl rfl (fun K' hK => ?_)
      conv => arg 2; whnf
      go_wp2_with fail
      exact ⟨va, vb, z47, z48, z49, z50, z51, z52, z53, z54, .bool false, z56, z57, z58, z59, .bool false, .bool false, z62, z63, z64, z65, z66, z67, z68, z69, z70, z71, z72, z73, z74, z75, z76, ⟨(kq hV.p12_10), (kq hV.p15_10), (kq hV.p15_12), (kq hV.p16_10), (kq hV.p17_10), (kq hV.p17_12), (kq hV.p19_10), (kq hV.p19_12), (kq hV.p19_17), (kc hV.c0), (kc hV.c1), (kc hV.c2), (kc hV.c3), (kc hV.c4), (kc hV.c5), (kc hV.c6), (kc hV.c7), (kc hV.c8), (kc hV.c9), (kc hV.c10), (kc hV.c11), (kc hV.c12), (kc hV.c13), (fun _ => rfl), (kc hV.c15), (kc hV.c16), (kc hV.c17), (kc hV.c18), (kc hV.c19), (kc hV.c20), (kc hV.c21), (kc hV.c22), (kc hV.c23), (kc hV.c24), (kc hV.c25), (kc hV.c26), (kc hV.c27), (kc hV.c28), (kc hV.c29), hV.fr, (kc hV.r1), (kc hV.r2)⟩, rfl⟩
    · have d12 : L 12 = true := hd _ rfl ⟨12, .chain⟩ (by simp) rfl
      have d14 : L 14 = true := hd _ rfl ⟨14, .data⟩ (by simp) rfl
      obtain rfl := (hV.c14 d14).symm
      refine op_at _ rfl rfl (fun K' hK => ?_)
      conv => arg 2; whnf
      go_wp2_with fail
      exact ⟨va, vb, z47, z48, z49, z50, z51, z52, z53, z54, z55, z56, z57, z58, z59, z60, .bool false, .bool false, z63, z64, z65, z66, z67, z68, z69, z70, z71, z72, z73, z74, z75, z76, ⟨(kq hV.p12_10), (kd (hV.p12_10 d12)), (kd (d12)), (kq hV.p16_10), (kq hV.p17_10), (kq hV.p17_12), (kq hV.p19_10), (kq hV.p19_12), (kq hV.p19_17), (kc hV.c0), (kc hV.c1), (kc hV.c2), (kc hV.c3), (kc hV.c4), (kc hV.c5), (kc hV.c6), (kc hV.c7), (kc hV.c8), (kc hV.c9), (kc hV.c10), (kc hV.c11), (kc hV.c12), (kc hV.c13), (kc hV.c14), (fun _ => rfl), (kc hV.c16), (kc hV.c17), (kc hV.c18), (kc hV.c19), (kc hV.c20), (kc hV.c21), (kc hV.c22), (kc hV.c23), (kc hV.c24), (kc hV.c25), (kc hV.c26), (kc hV.c27), (kc hV.c28), (kc hV.c29), hV.fr, (kc hV.r1), (kc hV.r2)⟩, rfl⟩
    · have d15 : L 15 = true := hd _ rfl ⟨15, .guard⟩ (by simp) rfl
      obtain rfl := (hV.c15 d15).symm
      have ho := HX.out.old hV.fr
      have x0 := ho.at 0 _ rfl
      have x1 := ho.at 1 _ rfl
      have x2 := ho.at 2 _ rfl
      have x3 := ho.at 3 _ rfl
      have x4 := ho.at 4 _ rfl
      have x5 := ho.at 5 _ rfl
      have hxl := ho.lt
      refine op_atg _ rfl rfl (fun K' hK => ?_)
      conv => arg 2; whnf
      go_wp2_with fail
      exact ⟨va, vb, z47, z48, z49, z50, z51, z52, z53, z54, z55, z56, z57, z58, z59, z60, z61, .bool false, .agg #[.int .i64 y.op, .int .i64 y.d, .int .i64 y.a, .int .i64 y.b, .int .i64 y.n, .string (strOf y.name)], z64, z65, z66, z67, z68, z69, z70, z71, z72, z73, z74, z75, z76, ⟨(kq hV.p12_10), (kq hV.p15_10), (kq hV.p15_12), (kd (hV.p15_10 d15)), (kq hV.p17_10), (kq hV.p17_12), (kq hV.p19_10), (kq hV.p19_12), (kq hV.p19_17), (kc hV.c0), (kc hV.c1), (kc hV.c2), (kc hV.c3), (kc hV.c4), (kc hV.c5), (kc hV.c6), (kc hV.c7), (kc hV.c8), (kc hV.c9), (kc hV.c10), (kc hV.c11), (kc hV.c12), (kc hV.c13), (kc hV.c14), (kc hV.c15), (fun _ => rfl), (kc hV.c17), (kc hV.c18), (kc hV.c19), (kc hV.c20), (kc hV.c21), (kc hV.c22), (kc hV.c23), (kc hV.c24), (kc hV.c25), (kc hV.c26), (kc hV.c27), (kc hV.c28), (kc hV.c29), hV.fr, (kc hV.r1), (kc hV.r2)⟩, rfl⟩
    · have d15 : L 15 = true := hd _ rfl ⟨15, .guard⟩ (by simp) rfl
      obtain rfl := (hV.c15 d15).symm
      have d16 : L 16 = true := hd _ rfl ⟨16, .data⟩ (by simp) rfl
      obtain rfl := (hV.c16 d16).symm
      refine op_atg _ rfl rfl (fun K' hK => ?_)
      conv => arg 2; whnf
      go_wp2_with fail
      refine (HET.out _).mono ?_
      rintro e w7 ⟨⟨ua, rfl, hc7⟩, hb7⟩
      go_wp2_with fail
      exact ⟨ua, vb, z47, z48, z49, z50, z51, z52, z53, z54, z55, z56, z57, z58, z59, z60, z61, .bool false, .agg #[.int .i64 y.op, .int .i64 y.d, .int .i64 y.a, .int .i64 y.b, .int .i64 y.n, .string (strOf y.name)], (ua), z65, z66, z67, z68, z69, z70, z71, z72, z73, z74, z75, z76, ⟨(kq hV.p12_10), (kq hV.p15_10), (kq hV.p15_12), (kq hV.p16_10), (kd (hV.p16_10 d16)), (kd (hV.p15_12 d15)), (kq hV.p19_10), (kq hV.p19_12), (fun _ => upd_same L 17), (kc hV.c0), (kc hV.c1), (kc hV.c2), (kc hV.c3), (kc hV.c4), (kc hV.c5), (kc hV.c6), (kc hV.c7), (kc hV.c8), (kc hV.c9), (kc hV.c10), (kc hV.c11), (kc hV.c12), (kc hV.c13), (kc hV.c14), (kc hV.c15), (kc hV.c16), (fun _ => rfl), (kc hV.c18), (kc hV.c19), (kc hV.c20), (kc hV.c21), (kc hV.c22), (kc hV.c23), (kc hV.c24), (kc hV.c25), (kc hV.c26), (kc hV.c27), (kc hV.c28), (kc hV.c29), (Below.trans (hV.fr) (Below.mono hb7 (Below.size (hV.fr)))), (fun _ => hc7), (kn hV.p19_17 hl)⟩, rfl⟩
    · have d15 : L 15 = true := hd _ rfl ⟨15, .guard⟩ (by simp) rfl
      obtain rfl := (hV.c15 d15).symm
      have ho := HX.out.old hV.fr
      have x0 := ho.at 0 _ rfl
      have x1 := ho.at 1 _ rfl
      have x2 := ho.at 2 _ rfl
      have x3 := ho.at 3 _ rfl
      have x4 := ho.at 4 _ rfl
      have x5 := ho.at 5 _ rfl
      have hxl := ho.lt
      refine op_atg _ rfl rfl (fun K' hK => ?_)
      conv => arg 2; whnf
      go_wp2_with fail
      exact ⟨va, vb, z47, z48, z49, z50, z51, z52, z53, z54, z55, z56, z57, z58, z59, z60, z61, .bool false, z63, z64, .agg #[.int .i64 y.op, .int .i64 y.d, .int .i64 y.a, .int .i64 y.b, .int .i64 y.n, .string (strOf y.name)], z66, z67, z68, z69, z70, z71, z72, z73, z74, z75, z76, ⟨(kq hV.p12_10), (kq hV.p15_10), (kq hV.p15_12), (kq hV.p16_10), (kq hV.p17_10), (kq hV.p17_12), (kq hV.p19_10), (kq hV.p19_12), (kq hV.p19_17), (kc hV.c0), (kc hV.c1), (kc hV.c2), (kc hV.c3), (kc hV.c4), (kc hV.c5), (kc hV.c6), (kc hV.c7), (kc hV.c8), (kc hV.c9), (kc hV.c10), (kc hV.c11), (kc hV.c12), (kc hV.c13), (kc hV.c14), (kc hV.c15), (kc hV.c16), (kc hV.c17), (fun _ => rfl), (kc hV.c19), (kc hV.c20), (kc hV.c21), (kc hV.c22), (kc hV.c23), (kc hV.c24), (kc hV.c25), (kc hV.c26), (kc hV.c27), (kc hV.c28), (kc hV.c29), hV.fr, (kc hV.r1), (kc hV.r2)⟩, rfl⟩
    · have d15 : L 15 = true := hd _ rfl ⟨15, .guard⟩ (by simp) rfl
      obtain rfl := (hV.c15 d15).symm
      have d17 : L 17 = true := hd _ rfl ⟨17, .chain⟩ (by simp) rfl
      have d18 : L 18 = true := hd _ rfl ⟨18, .data⟩ (by simp) rfl
      obtain rfl := (hV.c18 d18).symm
      refine op_atg _ rfl rfl (fun K' hK => ?_)
      conv => arg 2; whnf
      go_wp2_with fail
      refine (HEU.out _).mono ?_
      rintro e w7 ⟨⟨ua, rfl, hc7⟩, hb7⟩
      go_wp2_with fail
      exact ⟨va, ua, z47, z48, z49, z50, z51, z52, z53, z54, z55, z56, z57, z58, z59, z60, z61, .bool false, z63, z64, .agg #[.int .i64 y.op, .int .i64 y.d, .int .i64 y.a, .int .i64 y.b, .int .i64 y.n, .string (strOf y.name)], (ua), z67, z68, z69, z70, z71, z72, z73, z74, z75, z76, ⟨(kq hV.p12_10), (kq hV.p15_10), (kq hV.p15_12), (kq hV.p16_10), (kq hV.p17_10), (kq hV.p17_12), (kd (hV.p17_10 d17)), (kd (hV.p17_12 d17)), (kd (d17)), (kc hV.c0), (kc hV.c1), (kc hV.c2), (kc hV.c3), (kc hV.c4), (kc hV.c5), (kc hV.c6), (kc hV.c7), (kc hV.c8), (kc hV.c9), (kc hV.c10), (kc hV.c11), (kc hV.c12), (kc hV.c13), (kc hV.c14), (kc hV.c15), (kc hV.c16), (kc hV.c17), (kc hV.c18), (fun _ => rfl), (kc hV.c20), (kc hV.c21), (kc hV.c22), (kc hV.c23), (kc hV.c24), (kc hV.c25), (kc hV.c26), (kc hV.c27), (kc hV.c28), (kc hV.c29), (Below.trans (hV.fr) (Below.mono hb7 (Below.size (hV.fr)))), (fun h0 => IntsAt.old (hV.r1 (kb h0)) hb7), (fun _ => hc7)⟩, rfl⟩
    · have d15 : L 15 = true := hd _ rfl ⟨15, .guard⟩ (by simp) rfl
      obtain rfl := (hV.c15 d15).symm
      have d17 : L 17 = true := hd _ rfl ⟨17, .data⟩ (by simp) rfl
      obtain rfl := (hV.c17 d17).symm
      have d19 : L 19 = true := hd _ rfl ⟨19, .data⟩ (by simp) rfl
      obtain rfl := (hV.c19 d19).symm
      refine op_atg _ rfl rfl (fun K' hK => ?_)
      conv => arg 2; whnf
      go_wp2_with fail
      refine (HIN.out _ _ _ (hV.r1 d17) (hV.r2 d19)).mono ?_
      rintro e w7 ⟨rfl, hb7⟩
      go_wp2_with fail
      exact ⟨va, vb, z47, z48, z49, z50, z51, z52, z53, z54, z55, z56, z57, z58, z59, z60, z61, .bool false, z63, va, z65, vb, .bool true, z68, z69, z70, z71, z72, z73, z74, z75, z76, ⟨(kq hV.p12_10), (kq hV.p15_10), (kq hV.p15_12), (kq hV.p16_10), (kq hV.p17_10), (kq hV.p17_12), (kq hV.p19_10), (kq hV.p19_12), (kq hV.p19_17), (kc hV.c0), (kc hV.c1), (kc hV.c2), (kc hV.c3), (kc hV.c4), (kc hV.c5), (kc hV.c6), (kc hV.c7), (kc hV.c8), (kc hV.c9), (kc hV.c10), (kc hV.c11), (kc hV.c12), (kc hV.c13), (kc hV.c14), (kc hV.c15), (kc hV.c16), (kc hV.c17), (kc hV.c18), (kc hV.c19), (fun _ => rfl), (kc hV.c21), (kc hV.c22), (kc hV.c23), (kc hV.c24), (kc hV.c25), (kc hV.c26), (kc hV.c27), (kc hV.c28), (kc hV.c29), (Below.trans (hV.fr) (Below.mono hb7 (Below.size (hV.fr)))), (fun h0 => IntsAt.old (hV.r1 (kb h0)) hb7), (fun h0 => IntsAt.old (hV.r2 (kb h0)) hb7)⟩, rfl⟩
    · have d15 : L 15 = true := hd _ rfl ⟨15, .guard⟩ (by simp) rfl
      obtain rfl := (hV.c15 d15).symm
      have d20 : L 20 = true := hd _ rfl ⟨20, .data⟩ (by simp) rfl
      obtain rfl := (hV.c20 d20).symm
      refine op_atg _ rfl rfl (fun K' hK => ?_)
      conv => arg 2; whnf
      go_wp2_with fail
      exact ⟨va, vb, z47, z48, z49, z50, z51, z52, z53, z54, z55, z56, z57, z58, z59, z60, z61, .bool false, z63, z64, z65, z66, .bool true, .bool false, z69, z70, z71, z72, z73, z74, z75, z76, ⟨(kq hV.p12_10), (kq hV.p15_10), (kq hV.p15_12), (kq hV.p16_10), (kq hV.p17_10), (kq hV.p17_12), (kq hV.p19_10), (kq hV.p19_12), (kq hV.p19_17), (kc hV.c0), (kc hV.c1), (kc hV.c2), (kc hV.c3), (kc hV.c4), (kc hV.c5), (kc hV.c6), (kc hV.c7), (kc hV.c8), (kc hV.c9), (kc hV.c10), (kc hV.c11), (kc hV.c12), (kc hV.c13), (kc hV.c14), (kc hV.c15), (kc hV.c16), (kc hV.c17), (kc hV.c18), (kc hV.c19), (kc hV.c20), (fun _ => rfl), (kc hV.c22), (kc hV.c23), (kc hV.c24), (kc hV.c25), (kc hV.c26), (kc hV.c27), (kc hV.c28), (kc hV.c29), hV.fr, (kc hV.r1), (kc hV.r2)⟩, rfl⟩
    · have d15 : L 15 = true := hd _ rfl ⟨15, .data⟩ (by simp) rfl
      obtain rfl := (hV.c15 d15).symm
      have d21 : L 21 = true := hd _ rfl ⟨21, .data⟩ (by simp) rfl
      obtain rfl := (hV.c21 d21).symm
      refine op_at _ rfl rfl (fun K' hK => ?_)
      conv => arg 2; whnf
      go_wp2_with fail
      exact ⟨va, vb, z47, z48, z49, z50, z51, z52, z53, z54, z55, z56, z57, z58, z59, z60, z61, .bool false, z63, z64, z65, z66, z67, .bool false, .bool false, z70, z71, z72, z73, z74, z75, z76, ⟨(kq hV.p12_10), (kq hV.p15_10), (kq hV.p15_12), (kq hV.p16_10), (kq hV.p17_10), (kq hV.p17_12), (kq hV.p19_10), (kq hV.p19_12), (kq hV.p19_17), (kc hV.c0), (kc hV.c1), (kc hV.c2), (kc hV.c3), (kc hV.c4), (kc hV.c5), (kc hV.c6), (kc hV.c7), (kc hV.c8), (kc hV.c9), (kc hV.c10), (kc hV.c11), (kc hV.c12), (kc hV.c13), (kc hV.c14), (kc hV.c15), (kc hV.c16), (kc hV.c17), (kc hV.c18), (kc hV.c19), (kc hV.c20), (kc hV.c21), (fun _ => rfl), (kc hV.c23), (kc hV.c24), (kc hV.c25), (kc hV.c26), (kc hV.c27), (kc hV.c28), (kc hV.c29), hV.fr, (kc hV.r1), (kc hV.r2)⟩, rfl⟩
    · have d20 : L 20 = true := hd _ rfl ⟨20, .chain⟩ (by simp) rfl
      have d22 : L 22 = true := hd _ rfl ⟨22, .data⟩ (by simp) rfl
      obtain rfl := (hV.c22 d22).symm
      refine op_at _ rfl rfl (fun K' hK => ?_)
      conv => arg 2; whnf
      go_wp2_with fail
      exact ⟨va, vb, z47, z48, z49, z50, z51, z52, z53, z54, z55, z56, z57, z58, z59, z60, z61, z62, z63, z64, z65, z66, z67, z68, .bool false, .bool false, z71, z72, z73, z74, z75, z76, ⟨(kq hV.p12_10), (kq hV.p15_10), (kq hV.p15_12), (kq hV.p16_10), (kq hV.p17_10), (kq hV.p17_12), (kq hV.p19_10), (kq hV.p19_12), (kq hV.p19_17), (kc hV.c0), (kc hV.c1), (kc hV.c2), (kc hV.c3), (kc hV.c4), (kc hV.c5), (kc hV.c6), (kc hV.c7), (kc hV.c8), (kc hV.c9), (kc hV.c10), (kc hV.c11), (kc hV.c12), (kc hV.c13), (kc hV.c14), (kc hV.c15), (kc hV.c16), (kc hV.c17), (kc hV.c18), (kc hV.c19), (kc hV.c20), (kc hV.c21), (kc hV.c22), (fun _ => rfl), (kc hV.c24), (kc hV.c25), (kc hV.c26), (kc hV.c27), (kc hV.c28), (kc hV.c29), hV.fr, (kc hV.r1), (kc hV.r2)⟩, rfl⟩
    · have d23 : L 23 = true := hd _ rfl ⟨23, .guard⟩ (by simp) rfl
      obtain rfl := (hV.c23 d23).symm
      have ho := HX.out.old hV.fr
      have x0 := ho.at 0 _ rfl
      have x1 := ho.at 1 _ rfl
      have x2 := ho.at 2 _ rfl
      have x3 := ho.at 3 _ rfl
      have x4 := ho.at 4 _ rfl
      have x5 := ho.at 5 _ rfl
      have hxl := ho.lt
      refine op_atg _ rfl rfl (fun K' hK => ?_)
      conv => arg 2; whnf
      go_wp2_with fail
      exact ⟨va, vb, z47, z48, z49, z50, z51, z52, z53, z54, z55, z56, z57, z58, z59, z60, z61, z62, z63, z64, z65, z66, z67, z68, z69, .bool false, .agg #[.int .i64 y.op, .int .i64 y.d, .int .i64 y.a, .int .i64 y.b, .int .i64 y.n, .string (strOf y.name)], z72, z73, z74, z75, z76, ⟨(kq hV.p12_10), (kq hV.p15_10), (kq hV.p15_12), (kq hV.p16_10), (kq hV.p17_10), (kq hV.p17_12), (kq hV.p19_10), (kq hV.p19_12), (kq hV.p19_17), (kc hV.c0), (kc hV.c1), (kc hV.c2), (kc hV.c3), (kc hV.c4), (kc hV.c5), (kc hV.c6), (kc hV.c7), (kc hV.c8), (kc hV.c9), (kc hV.c10), (kc hV.c11), (kc hV.c12), (kc hV.c13), (kc hV.c14), (kc hV.c15), (kc hV.c16), (kc hV.c17), (kc hV.c18), (kc hV.c19), (kc hV.c20), (kc hV.c21), (kc hV.c22), (kc hV.c23), (fun _ => rfl), (kc hV.c25), (kc hV.c26), (kc hV.c27), (kc hV.c28), (kc hV.c29), hV.fr, (kc hV.r1), (kc hV.r2)⟩, rfl⟩
    · have d23 : L 23 = true := hd _ rfl ⟨23, .guard⟩ (by simp) rfl
      obtain rfl := (hV.c23 d23).symm
      have d24 : L 24 = true := hd _ rfl ⟨24, .data⟩ (by simp) rfl
      obtain rfl := (hV.c24 d24).symm
      refine op_atg _ rfl rfl (fun K' hK => ?_)
      conv => arg 2; whnf
      go_wp2_with fail
      refine (HWT.out _).mono ?_
      rintro e w7 ⟨rfl, hb7⟩
      go_wp2_with fail
      exact ⟨va, vb, z47, z48, z49, z50, z51, z52, z53, z54, z55, z56, z57, z58, z59, z60, z61, z62, z63, z64, z65, z66, z67, z68, z69, .bool false, .agg #[.int .i64 y.op, .int .i64 y.d, .int .i64 y.a, .int .i64 y.b, .int .i64 y.n, .string (strOf y.name)], .int .i64 wi, z73, z74, z75, z76, ⟨(kq hV.p12_10), (kq hV.p15_10), (kq hV.p15_12), (kq hV.p16_10), (kq hV.p17_10), (kq hV.p17_12), (kq hV.p19_10), (kq hV.p19_12), (kq hV.p19_17), (kc hV.c0), (kc hV.c1), (kc hV.c2), (kc hV.c3), (kc hV.c4), (kc hV.c5), (kc hV.c6), (kc hV.c7), (kc hV.c8), (kc hV.c9), (kc hV.c10), (kc hV.c11), (kc hV.c12), (kc hV.c13), (kc hV.c14), (kc hV.c15), (kc hV.c16), (kc hV.c17), (kc hV.c18), (kc hV.c19), (kc hV.c20), (kc hV.c21), (kc hV.c22), (kc hV.c23), (kc hV.c24), (fun _ => rfl), (kc hV.c26), (kc hV.c27), (kc hV.c28), (kc hV.c29), (Below.trans (hV.fr) (Below.mono hb7 (Below.size (hV.fr)))), (fun h0 => IntsAt.old (hV.r1 (kb h0)) hb7), (fun h0 => IntsAt.old (hV.r2 (kb h0)) hb7)⟩, rfl⟩
    · have d23 : L 23 = true := hd _ rfl ⟨23, .guard⟩ (by simp) rfl
      obtain rfl := (hV.c23 d23).symm
      have ho := HX.out.old hV.fr
      have x0 := ho.at 0 _ rfl
      have x1 := ho.at 1 _ rfl
      have x2 := ho.at 2 _ rfl
      have x3 := ho.at 3 _ rfl
      have x4 := ho.at 4 _ rfl
      have x5 := ho.at 5 _ rfl
      have hxl := ho.lt
      refine op_atg _ rfl rfl (fun K' hK => ?_)
      conv => arg 2; whnf
      go_wp2_with fail
      exact ⟨va, vb, z47, z48, z49, z50, z51, z52, z53, z54, z55, z56, z57, z58, z59, z60, z61, z62, z63, z64, z65, z66, z67, z68, z69, .bool false, z71, z72, .agg #[.int .i64 y.op, .int .i64 y.d, .int .i64 y.a, .int .i64 y.b, .int .i64 y.n, .string (strOf y.name)], z74, z75, z76, ⟨(kq hV.p12_10), (kq hV.p15_10), (kq hV.p15_12), (kq hV.p16_10), (kq hV.p17_10), (kq hV.p17_12), (kq hV.p19_10), (kq hV.p19_12), (kq hV.p19_17), (kc hV.c0), (kc hV.c1), (kc hV.c2), (kc hV.c3), (kc hV.c4), (kc hV.c5), (kc hV.c6), (kc hV.c7), (kc hV.c8), (kc hV.c9), (kc hV.c10), (kc hV.c11), (kc hV.c12), (kc hV.c13), (kc hV.c14), (kc hV.c15), (kc hV.c16), (kc hV.c17), (kc hV.c18), (kc hV.c19), (kc hV.c20), (kc hV.c21), (kc hV.c22), (kc hV.c23), (kc hV.c24), (kc hV.c25), (fun _ => rfl), (kc hV.c27), (kc hV.c28), (kc hV.c29), hV.fr, (kc hV.r1), (kc hV.r2)⟩, rfl⟩
    · have d23 : L 23 = true := hd _ rfl ⟨23, .guard⟩ (by simp) rfl
      obtain rfl := (hV.c23 d23).symm
      have d25 : L 25 = true := hd _ rfl ⟨25, .chain⟩ (by simp) rfl
      have d26 : L 26 = true := hd _ rfl ⟨26, .data⟩ (by simp) rfl
      obtain rfl := (hV.c26 d26).symm
      refine op_atg _ rfl rfl (fun K' hK => ?_)
      conv => arg 2; whnf
      go_wp2_with fail
      refine (HWU.out _).mono ?_
      rintro e w7 ⟨rfl, hb7⟩
      go_wp2_with fail
      exact ⟨va, vb, z47, z48, z49, z50, z51, z52, z53, z54, z55, z56, z57, z58, z59, z60, z61, z62, z63, z64, z65, z66, z67, z68, z69, .bool false, z71, z72, .agg #[.int .i64 y.op, .int .i64 y.d, .int .i64 y.a, .int .i64 y.b, .int .i64 y.n, .string (strOf y.name)], .int .i64 wi, z75, z76, ⟨(kq hV.p12_10), (kq hV.p15_10), (kq hV.p15_12), (kq hV.p16_10), (kq hV.p17_10), (kq hV.p17_12), (kq hV.p19_10), (kq hV.p19_12), (kq hV.p19_17), (kc hV.c0), (kc hV.c1), (kc hV.c2), (kc hV.c3), (kc hV.c4), (kc hV.c5), (kc hV.c6), (kc hV.c7), (kc hV.c8), (kc hV.c9), (kc hV.c10), (kc hV.c11), (kc hV.c12), (kc hV.c13), (kc hV.c14), (kc hV.c15), (kc hV.c16), (kc hV.c17), (kc hV.c18), (kc hV.c19), (kc hV.c20), (kc hV.c21), (kc hV.c22), (kc hV.c23), (kc hV.c24), (kc hV.c25), (kc hV.c26), (fun _ => rfl), (kc hV.c28), (kc hV.c29), (Below.trans (hV.fr) (Below.mono hb7 (Below.size (hV.fr)))), (fun h0 => IntsAt.old (hV.r1 (kb h0)) hb7), (fun h0 => IntsAt.old (hV.r2 (kb h0)) hb7)⟩, rfl⟩
    · have d23 : L 23 = true := hd _ rfl ⟨23, .guard⟩ (by simp) rfl
      obtain rfl := (hV.c23 d23).symm
      have d25 : L 25 = true := hd _ rfl ⟨25, .data⟩ (by simp) rfl
      obtain rfl := (hV.c25 d25).symm
      have d27 : L 27 = true := hd _ rfl ⟨27, .data⟩ (by simp) rfl
      obtain rfl := (hV.c27 d27).symm
      refine op_atg _ rfl rfl (fun K' hK => ?_)
      conv => arg 2; whnf
      go_wp2_with fail
      exact ⟨va, vb, z47, z48, z49, z50, z51, z52, z53, z54, z55, z56, z57, z58, z59, z60, z61, z62, z63, z64, z65, z66, z67, z68, z69, .bool false, z71, .int .i64 wi, z73, .int .i64 wi, .bool false, z76, ⟨(kq hV.p12_10), (kq hV.p15_10), (kq hV.p15_12), (kq hV.p16_10), (kq hV.p17_10), (kq hV.p17_12), (kq hV.p19_10), (kq hV.p19_12), (kq hV.p19_17), (kc hV.c0), (kc hV.c1), (kc hV.c2), (kc hV.c3), (kc hV.c4), (kc hV.c5), (kc hV.c6), (kc hV.c7), (kc hV.c8), (kc hV.c9), (kc hV.c10), (kc hV.c11), (kc hV.c12), (kc hV.c13), (kc hV.c14), (kc hV.c15), (kc hV.c16), (kc hV.c17), (kc hV.c18), (kc hV.c19), (kc hV.c20), (kc hV.c21), (kc hV.c22), (kc hV.c23), (kc hV.c24), (kc hV.c25), (kc hV.c26), (kc hV.c27), (fun _ => rfl), (kc hV.c29), hV.fr, (kc hV.r1), (kc hV.r2)⟩, rfl⟩
    · have d23 : L 23 = true := hd _ rfl ⟨23, .data⟩ (by simp) rfl
      obtain rfl := (hV.c23 d23).symm
      have d28 : L 28 = true := hd _ rfl ⟨28, .data⟩ (by simp) rfl
      obtain rfl := (hV.c28 d28).symm
      refine op_at _ rfl rfl (fun K' hK => ?_)
      conv => arg 2; whnf
      go_wp2_with fail
      exact ⟨va, vb, z47, z48, z49, z50, z51, z52, z53, z54, z55, z56, z57, z58, z59, z60, z61, z62, z63, z64, z65, z66, z67, z68, z69, .bool false, z71, z72, z73, z74, .bool false, .bool false, ⟨(kq hV.p12_10), (kq hV.p15_10), (kq hV.p15_12), (kq hV.p16_10), (kq hV.p17_10), (kq hV.p17_12), (kq hV.p19_10), (kq hV.p19_12), (kq hV.p19_17), (kc hV.c0), (kc hV.c1), (kc hV.c2), (kc hV.c3), (kc hV.c4), (kc hV.c5), (kc hV.c6), (kc hV.c7), (kc hV.c8), (kc hV.c9), (kc hV.c10), (kc hV.c11), (kc hV.c12), (kc hV.c13), (kc hV.c14), (kc hV.c15), (kc hV.c16), (kc hV.c17), (kc hV.c18), (kc hV.c19), (kc hV.c20), (kc hV.c21), (kc hV.c22), (kc hV.c23), (kc hV.c24), (kc hV.c25), (kc hV.c26), (kc hV.c27), (kc hV.c28), (fun _ => rfl), hV.fr, (kc hV.r1), (kc hV.r2)⟩, rfl⟩
  · intro L act wx hI hall
    obtain ⟨va, vb, z47, z48, z49, z50, z51, z52, z53, z54, z55, z56, z57, z58, z59, z60, z61, z62, z63, z64, z65, z66, z67, z68, z69, z70, z71, z72, z73, z74, z75, z76, hV, rfl⟩ := hI
    obtain rfl := (hV.c0 (hall 0 (by decide))).symm
    obtain rfl := (hV.c1 (hall 1 (by decide))).symm
    obtain rfl := (hV.c2 (hall 2 (by decide))).symm
    obtain rfl := (hV.c3 (hall 3 (by decide))).symm
    obtain rfl := (hV.c4 (hall 4 (by decide))).symm
    obtain rfl := (hV.c5 (hall 5 (by decide))).symm
    obtain rfl := (hV.c6 (hall 6 (by decide))).symm
    obtain rfl := (hV.c7 (hall 7 (by decide))).symm
    obtain rfl := (hV.c8 (hall 8 (by decide))).symm
    obtain rfl := (hV.c9 (hall 9 (by decide))).symm
    obtain rfl := (hV.c10 (hall 10 (by decide))).symm
    obtain rfl := (hV.c11 (hall 11 (by decide))).symm
    obtain rfl := (hV.c12 (hall 12 (by decide))).symm
    obtain rfl := (hV.c13 (hall 13 (by decide))).symm
    obtain rfl := (hV.c14 (hall 14 (by decide))).symm
    obtain rfl := (hV.c15 (hall 15 (by decide))).symm
    obtain rfl := (hV.c16 (hall 16 (by decide))).symm
    obtain rfl := (hV.c17 (hall 17 (by decide))).symm
    obtain rfl := (hV.c18 (hall 18 (by decide))).symm
    obtain rfl := (hV.c19 (hall 19 (by decide))).symm
    obtain rfl := (hV.c20 (hall 20 (by decide))).symm
    obtain rfl := (hV.c21 (hall 21 (by decide))).symm
    obtain rfl := (hV.c22 (hall 22 (by decide))).symm
    obtain rfl := (hV.c23 (hall 23 (by decide))).symm
    obtain rfl := (hV.c24 (hall 24 (by decide))).symm
    obtain rfl := (hV.c25 (hall 25 (by decide))).symm
    obtain rfl := (hV.c26 (hall 26 (by decide))).symm
    obtain rfl := (hV.c27 (hall 27 (by decide))).symm
    obtain rfl := (hV.c28 (hall 28 (by decide))).symm
    obtain rfl := (hV.c29 (hall 29 (by decide))).symm
    exact hM _ _ (Met.intro (hJ _ _ ⟨va, vb, hV.fr, rfl⟩))
end Go.Proofs.YtgdnnaiidmfncaaDoor
