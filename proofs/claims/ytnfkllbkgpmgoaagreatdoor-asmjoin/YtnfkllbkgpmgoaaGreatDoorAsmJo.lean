/-
  AsmJoin: an instruction behind the others, in whatever order it is built. Conditions: the code is the law's own.
  Code put between two labels, instructions that name nothing behind it: what Check and Flat say. Plain functions alone.
  AsmJoin: its walk. Conditions: what comes in lies in memory, the numbers are ints.
-/
import Derived.Test.YtnfkllbkgpmgoaaGreatDoorAsmJ
import Derived.Test.YtnfkllbkgpmgoaaGreatDoorAsmK
import Derived.Test.YtnfkllbkgpmgoaaGreatDoorAsmWr
import Derived.Test.YtnfkllbkgpmgoaaGreatDoorAsmTw
import Derived.Test.YtnfkllbkgpmgoaaGreatDoorAsmLd
set_option linter.unusedVariables false
set_option linter.unusedSimpArgs false
namespace Go.Proofs.YtnfkllbkgpmgoaaGreatDoor
open Go.RowKit
set_option maxHeartbeats 8000000
set_option maxRecDepth 100000

structure VJ9 (X : Nat) (va vl : Value) (ls : List Ln) (dd pp ii : Int) (base : Nat) (W : World) (L : Nat → Bool) (nb : Nat) (gn : Nat) (cn : Nat) (z41 z42 z43 z44 z45 z46 z47 z48 z49 z50 : Value) (wx : World) : Prop where
  ord : L 10 = true → ∀ j, j < 10 → L j = true
  p8_7 : L 8 = true → L 7 = true
  p10_8 : L 10 = true → L 8 = true
  c0 : L 0 = true → z41 = .pointer (some ⟨X, 1, none⟩)
  c1 : L 1 = true → z42 = vl
  c2 : L 2 = true → z43 = .int .i64 dd
  c3 : L 3 = true → z44 = .int .i64 pp
  c4 : L 4 = true → z45 = .int .i64 ii
  c5 : L 5 = true → z46 = .agg #[.int .i64 15, .int .i64 pp, .int .i64 ii, .int .i64 0, .int .i64 0, .string ⟨#[]⟩]
  c6 : L 6 = true → z47 = .agg #[.string ⟨#[]⟩, .int .i64 15, .int .i64 pp, .int .i64 ii, .int .i64 0, .int .i64 0, .string ⟨#[]⟩]
  c7 : L 7 = true → z48 = .slice (some ⟨nb, 0, none⟩) 1 1
  c8 : L 8 = true → z49 = .slice (some ⟨gn, 0, none⟩) (ls.length + 1) cn
  c9 : L 9 = true → z50 = .pointer (some ⟨X, 1, none⟩)
  fr : Fr3 X vl vl W wx
  x : L 10 = false → OwnAt wx X [va, vl] 27
  x3 : L 10 = true → OwnAt wx X [va, .slice (some ⟨gn, 0, none⟩) (ls.length + 1) cn] 27
  lo : L 8 = false → LnsOwn wx base ls vl
  r7 : L 7 = true → L 8 = false → OwnAt wx nb (lnCells ⟨[], ⟨15, pp, ii, 0, 0, []⟩⟩) 44 ∧ W.heap.size ≤ nb
  r8 : L 8 = true → LnsOwn wx base (ls ++ [⟨[], ⟨15, pp, ii, 0, 0, []⟩⟩]) (.slice (some ⟨gn, 0, none⟩) (ls.length + 1) cn) ∧ (vl.ownBlock = some gn ∨ W.heap.size ≤ gn)
def IJ9 (X : Nat) (va vl : Value) (ls : List Ln) (dd pp ii : Int) (base : Nat) (W : World) (q0 q1 q3 q4 q5 q6 q7 q9 q10 q11 q13 q14 q15 q16 q17 q18 q19 q20 q21 q22 q23 q24 q25 q26 q27 q28 q29 q30 q31 q32 q33 q34 q35 q36 q37 q38 q39 q40 q51 q52 q53 q54 q55 q56 q57 q58 q59 q60 q61 q62 q63 q64 q65 q66 q67 q68 q69 q70 q71 q72 q73 q74 q75 q76 q77 q78 q79 q80 q81 q82 q83 q84 q85 q86 q87 q88 q89 q90 q91 q92 q93 q94 q95 q96 q97 q98 q99 q100 q101 q102 q103 q104 q105 q106 q107 q108 q109 q110 q111 q112 q113 q114 q115 q116 q117 q118 : Value) (L : Nat → Bool) (a' : Act) (w' : World) : Prop :=
  ∃ nb : Nat, ∃ gn : Nat, ∃ cn : Nat, ∃ z41 z42 z43 z44 z45 z46 z47 z48 z49 z50 : Value, VJ9 X va vl ls dd pp ii base W L nb gn cn z41 z42 z43 z44 z45 z46 z47 z48 z49 z50 w' ∧ a' = ⟨[q0, q1, .int .i64 dd, q3, q4, q5, q6, q7, .pointer (some ⟨X, 0, none⟩), q9, q10, q11, .int .i64 ii, q13, q14, q15, q16, q17, q18, q19, q20, q21, q22, q23, q24, q25, q26, q27, q28, q29, q30, q31, q32, q33, q34, q35, q36, q37, q38, q39, q40, z41, z42, z43, z44, z45, z46, z47, z48, z49, z50, q51, q52, q53, q54, q55, q56, q57, q58, q59, q60, q61, q62, q63, q64, q65, q66, q67, q68, q69, q70, q71, q72, q73, q74, q75, q76, q77, q78, q79, q80, q81, q82, q83, q84, q85, q86, q87, q88, q89, q90, q91, q92, q93, q94, q95, q96, q97, q98, q99, q100, q101, q102, q103, q104, q105, q106, q107, q108, q109, q110, q111, q112, q113, q114, q115, q116, q117, q118].toArray, []⟩
def RJ9 (X : Nat) (va vl : Value) (ls : List Ln) (dd pp ii : Int) (base : Nat) (W : World) (q0 q1 q3 q4 q5 q6 q7 q9 q10 q11 q13 q14 q15 q16 q17 q18 q19 q20 q21 q22 q23 q24 q25 q26 q27 q28 q29 q30 q31 q32 q33 q34 q35 q36 q37 q38 q39 q40 q51 q52 q53 q54 q55 q56 q57 q58 q59 q60 q61 q62 q63 q64 q65 q66 q67 q68 q69 q70 q71 q72 q73 q74 q75 q76 q77 q78 q79 q80 q81 q82 q83 q84 q85 q86 q87 q88 q89 q90 q91 q92 q93 q94 q95 q96 q97 q98 q99 q100 q101 q102 q103 q104 q105 q106 q107 q108 q109 q110 q111 q112 q113 q114 q115 q116 q117 q118 : Value) (a' : Act) (w' : World) : Prop :=
  ∃ nb : Nat, ∃ gn : Nat, ∃ cn : Nat, ((Fr3 X vl vl W w') ∧ (OwnAt w' X [va, .slice (some ⟨gn, 0, none⟩) (ls.length + 1) cn] 27) ∧ (LnsOwn w' base (ls ++ [⟨[], ⟨15, pp, ii, 0, 0, []⟩⟩]) (.slice (some ⟨gn, 0, none⟩) (ls.length + 1) cn) ∧ (vl.ownBlock = some gn ∨ W.heap.size ≤ gn))) ∧ a' = ⟨[q0, q1, .int .i64 dd, q3, q4, q5, q6, q7, .pointer (some ⟨X, 0, none⟩), q9, q10, q11, .int .i64 ii, q13, q14, q15, q16, q17, q18, q19, q20, q21, q22, q23, q24, q25, q26, q27, q28, q29, q30, q31, q32, q33, q34, q35, q36, q37, q38, q39, q40, .pointer (some ⟨X, 1, none⟩), vl, .int .i64 dd, .int .i64 pp, .int .i64 ii, .agg #[.int .i64 15, .int .i64 pp, .int .i64 ii, .int .i64 0, .int .i64 0, .string ⟨#[]⟩], .agg #[.string ⟨#[]⟩, .int .i64 15, .int .i64 pp, .int .i64 ii, .int .i64 0, .int .i64 0, .string ⟨#[]⟩], .slice (some ⟨nb, 0, none⟩) 1 1, .slice (some ⟨gn, 0, none⟩) (ls.length + 1) cn, .pointer (some ⟨X, 1, none⟩), q51, q52, q53, q54, q55, q56, q57, q58, q59, q60, q61, q62, q63, q64, q65, q66, q67, q68, q69, q70, q71, q72, q73, q74, q75, q76, q77, q78, q79, q80, q81, q82, q83, q84, q85, q86, q87, q88, q89, q90, q91, q92, q93, q94, q95, q96, q97, q98, q99, q100, q101, q102, q103, q104, q105, q106, q107, q108, q109, q110, q111, q112, q113, q114, q115, q116, q117, q118].toArray, []⟩
theorem reg_J9 (X : Nat) (va vl : Value) (ls : List Ln) (dd pp ii : Int) (base : Nat) (W : World) (hx0 : OwnAt W X [va, vl] 27) (hlo : LnsOwn W base ls vl) (hvX : vl.ownBlock ≠ some X) (hll : ls.length ≤ 1000000) (hbase : base ≤ W.heap.size) (HP : Hid (∀ w, Calls Tryz.prog 13 #[.int .i64 dd, .int .i64 32] w fun e w' => e = .returned (.int .i64 pp) ∧ w = w')) (q0 q1 q3 q4 q5 q6 q7 q9 q10 q11 q13 q14 q15 q16 q17 q18 q19 q20 q21 q22 q23 q24 q25 q26 q27 q28 q29 q30 q31 q32 q33 q34 q35 q36 q37 q38 q39 q40 q41 q42 q43 q44 q45 q46 q47 q48 q49 q50 q51 q52 q53 q54 q55 q56 q57 q58 q59 q60 q61 q62 q63 q64 q65 q66 q67 q68 q69 q70 q71 q72 q73 q74 q75 q76 q77 q78 q79 q80 q81 q82 q83 q84 q85 q86 q87 q88 q89 q90 q91 q92 q93 q94 q95 q96 q97 q98 q99 q100 q101 q102 q103 q104 q105 q106 q107 q108 q109 q110 q111 q112 q113 q114 q115 q116 q117 q118 : Value) (J K' : Act → World → Prop) (hJ : ∀ a' w', RJ9 X va vl ls dd pp ii base W q0 q1 q3 q4 q5 q6 q7 q9 q10 q11 q13 q14 q15 q16 q17 q18 q19 q20 q21 q22 q23 q24 q25 q26 q27 q28 q29 q30 q31 q32 q33 q34 q35 q36 q37 q38 q39 q40 q51 q52 q53 q54 q55 q56 q57 q58 q59 q60 q61 q62 q63 q64 q65 q66 q67 q68 q69 q70 q71 q72 q73 q74 q75 q76 q77 q78 q79 q80 q81 q82 q83 q84 q85 q86 q87 q88 q89 q90 q91 q92 q93 q94 q95 q96 q97 q98 q99 q100 q101 q102 q103 q104 q105 q106 q107 q108 q109 q110 q111 q112 q113 q114 q115 q116 q117 q118 a' w' → J a' w') (hM : ∀ a' w', Met J a' w' → K' a' w') :
    Code.wp Tryz.prog ((Tryz.f7.body.bind (regOf 9)).getD .skip) (Exit.then K' (fun _ _ _ => False)) ⟨[q0, q1, .int .i64 dd, q3, q4, q5, q6, q7, .pointer (some ⟨X, 0, none⟩), q9, q10, q11, .int .i64 ii, q13, q14, q15, q16, q17, q18, q19, q20, q21, q22, q23, q24, q25, q26, q27, q28, q29, q30, q31, q32, q33, q34, q35, q36, q37, q38, q39, q40, q41, q42, q43, q44, q45, q46, q47, q48, q49, q50, q51, q52, q53, q54, q55, q56, q57, q58, q59, q60, q61, q62, q63, q64, q65, q66, q67, q68, q69, q70, q71, q72, q73, q74, q75, q76, q77, q78, q79, q80, q81, q82, q83, q84, q85, q86, q87, q88, q89, q90, q91, q92, q93, q94, q95, q96, q97, q98, q99, q100, q101, q102, q103, q104, q105, q106, q107, q108, q109, q110, q111, q112, q113, q114, q115, q116, q117, q118].toArray, []⟩ W := by
  have hXl : X < W.heap.size := hx0.lt
  have HX0 := Lib.hid hx0; have HLO := Lib.hid hlo
  have HVX := Lib.hid hvX
  clear hx0 hlo hvX
  conv => arg 2; whnf
  dsimp only
  refine region_by (by kernel_rfl) (by kernel_rfl) (IJ9 X va vl ls dd pp ii base W q0 q1 q3 q4 q5 q6 q7 q9 q10 q11 q13 q14 q15 q16 q17 q18 q19 q20 q21 q22 q23 q24 q25 q26 q27 q28 q29 q30 q31 q32 q33 q34 q35 q36 q37 q38 q39 q40 q51 q52 q53 q54 q55 q56 q57 q58 q59 q60 q61 q62 q63 q64 q65 q66 q67 q68 q69 q70 q71 q72 q73 q74 q75 q76 q77 q78 q79 q80 q81 q82 q83 q84 q85 q86 q87 q88 q89 q90 q91 q92 q93 q94 q95 q96 q97 q98 q99 q100 q101 q102 q103 q104 q105 q106 q107 q108 q109 q110 q111 q112 q113 q114 q115 q116 q117 q118) ?_ ?_ ?_
  · exact ⟨0, 0, 0, q41, q42, q43, q44, q45, q46, q47, q48, q49, q50, ⟨(fun h => by cases h), (fun h => by cases h), (fun h => by cases h), (fun h => by cases h), (fun h => by cases h), (fun h => by cases h), (fun h => by cases h), (fun h => by cases h), (fun h => by cases h), (fun h => by cases h), (fun h => by cases h), (fun h => by cases h), (fun h => by cases h), (Fr3.old (Fr3.refl _ _ _ _) (Below.refl _ _).drew), (fun _ => HX0.out.old (Below.refl _ _).drew), (fun h => by cases h), (fun _ => RwOwn.old HLO.out (Below.refl _ _).drew), (fun h => fun _ => by cases h), (fun h => by cases h)⟩, rfl⟩
  · intro L act wx k hI hk hl hd
    obtain ⟨nb, gn, cn, z41, z42, z43, z44, z45, z46, z47, z48, z49, z50, hV, rfl⟩ := hI
    have hk : k = 0 ∨ k = 1 ∨ k = 2 ∨ k = 3 ∨ k = 4 ∨ k = 5 ∨ k = 6 ∨ k = 7 ∨ k = 8 ∨ k = 9 ∨ k = 10 := by
      have : k < 11 := hk
      omega
    rcases hk with rfl | rfl | rfl | rfl | rfl | rfl | rfl | rfl | rfl | rfl | rfl
    · have nl := kf hV.ord hl
      refine op_at _ rfl rfl (fun K' hK => ?_)
      conv => arg 2; whnf
      go_wp2_with fail
      exact ⟨nb, gn, cn, .pointer (some ⟨X, 1, none⟩), z42, z43, z44, z45, z46, z47, z48, z49, z50, ⟨(kl nl), (kq hV.p8_7), (kq hV.p10_8), (fun _ => rfl), (kc hV.c1), (kc hV.c2), (kc hV.c3), (kc hV.c4), (kc hV.c5), (kc hV.c6), (kc hV.c7), (kc hV.c8), (kc hV.c9), hV.fr, (fun h0 => hV.x (kb h0)), (kl nl), (fun h0 => hV.lo (kb h0)), (fun h0 => fun h1 => hV.r7 (kb h0) (kb h1)), (kc hV.r8)⟩, rfl⟩
    · have nl := kf hV.ord hl
      have d0 : L 0 = true := hd _ rfl ⟨0, .data⟩ (by simp) rfl
      obtain rfl := (hV.c0 d0).symm
      have ho := hV.x nl
      have x1 := ho.at 1 _ rfl
      refine op_at _ rfl rfl (fun K' hK => ?_)
      conv => arg 2; whnf
      go_wp2_with fail
      exact ⟨nb, gn, cn, .pointer (some ⟨X, 1, none⟩), vl, z43, z44, z45, z46, z47, z48, z49, z50, ⟨(kl nl), (kq hV.p8_7), (kq hV.p10_8), (kc hV.c0), (fun _ => rfl), (kc hV.c2), (kc hV.c3), (kc hV.c4), (kc hV.c5), (kc hV.c6), (kc hV.c7), (kc hV.c8), (kc hV.c9), hV.fr, (fun h0 => hV.x (kb h0)), (kl nl), (fun h0 => hV.lo (kb h0)), (fun h0 => fun h1 => hV.r7 (kb h0) (kb h1)), (kc hV.r8)⟩, rfl⟩
    · have nl := kf hV.ord hl
      refine op_at _ rfl rfl (fun K' hK => ?_)
      conv => arg 2; whnf
      go_wp2_with fail
      exact ⟨nb, gn, cn, z41, z42, .int .i64 dd, z44, z45, z46, z47, z48, z49, z50, ⟨(kl nl), (kq hV.p8_7), (kq hV.p10_8), (kc hV.c0), (kc hV.c1), (fun _ => rfl), (kc hV.c3), (kc hV.c4), (kc hV.c5), (kc hV.c6), (kc hV.c7), (kc hV.c8), (kc hV.c9), hV.fr, (fun h0 => hV.x (kb h0)), (kl nl), (fun h0 => hV.lo (kb h0)), (fun h0 => fun h1 => hV.r7 (kb h0) (kb h1)), (kc hV.r8)⟩, rfl⟩
    · have nl := kf hV.ord hl
      have d2 : L 2 = true := hd _ rfl ⟨2, .data⟩ (by simp) rfl
      obtain rfl := (hV.c2 d2).symm
      refine op_at _ rfl rfl (fun K' hK => ?_)
      conv => arg 2; whnf
      go_wp2_with fail
      refine (HP.out _).mono ?_
      rintro e w7 ⟨rfl, hw7⟩
      subst hw7
      go_wp2_with fail
      exact ⟨nb, gn, cn, z41, z42, .int .i64 dd, .int .i64 pp, z45, z46, z47, z48, z49, z50, ⟨(kl nl), (kq hV.p8_7), (kq hV.p10_8), (kc hV.c0), (kc hV.c1), (kc hV.c2), (fun _ => rfl), (kc hV.c4), (kc hV.c5), (kc hV.c6), (kc hV.c7), (kc hV.c8), (kc hV.c9), hV.fr, (fun h0 => hV.x (kb h0)), (kl nl), (fun h0 => hV.lo (kb h0)), (fun h0 => fun h1 => hV.r7 (kb h0) (kb h1)), (kc hV.r8)⟩, rfl⟩
    · have nl := kf hV.ord hl
      refine op_at _ rfl rfl (fun K' hK => ?_)
      conv => arg 2; whnf
      go_wp2_with fail
      exact ⟨nb, gn, cn, z41, z42, z43, z44, .int .i64 ii, z46, z47, z48, z49, z50, ⟨(kl nl), (kq hV.p8_7), (kq hV.p10_8), (kc hV.c0), (kc hV.c1), (kc hV.c2), (kc hV.c3), (fun _ => rfl), (kc hV.c5), (kc hV.c6), (kc hV.c7), (kc hV.c8), (kc hV.c9), hV.fr, (fun h0 => hV.x (kb h0)), (kl nl), (fun h0 => hV.lo (kb h0)), (fun h0 => fun h1 => hV.r7 (kb h0) (kb h1)), (kc hV.r8)⟩, rfl⟩
    · have nl := kf hV.ord hl
      have d3 : L 3 = true := hd _ rfl ⟨3, .data⟩ (by simp) rfl
      obtain rfl := (hV.c3 d3).symm
      have d4 : L 4 = true := hd _ rfl ⟨4, .data⟩ (by simp) rfl
      obtain rfl := (hV.c4 d4).symm
      refine op_at _ rfl rfl (fun K' hK => ?_)
      conv => arg 2; whnf
      go_wp2_with fail
      exact ⟨nb, gn, cn, z41, z42, z43, .int .i64 pp, .int .i64 ii, .agg #[.int .i64 15, .int .i64 pp, .int .i64 ii, .int .i64 0, .int .i64 0, .string ⟨#[]⟩], z47, z48, z49, z50, ⟨(kl nl), (kq hV.p8_7), (kq hV.p10_8), (kc hV.c0), (kc hV.c1), (kc hV.c2), (kc hV.c3), (kc hV.c4), (fun _ => rfl), (kc hV.c6), (kc hV.c7), (kc hV.c8), (kc hV.c9), hV.fr, (fun h0 => hV.x (kb h0)), (kl nl), (fun h0 => hV.lo (kb h0)), (fun h0 => fun h1 => hV.r7 (kb h0) (kb h1)), (kc hV.r8)⟩, rfl⟩
    · have nl := kf hV.ord hl
      have d5 : L 5 = true := hd _ rfl ⟨5, .data⟩ (by simp) rfl
      obtain rfl := (hV.c5 d5).symm
      refine op_at _ rfl rfl (fun K' hK => ?_)
      conv => arg 2; whnf
      go_wp2_with fail
      exact ⟨nb, gn, cn, z41, z42, z43, z44, z45, .agg #[.int .i64 15, .int .i64 pp, .int .i64 ii, .int .i64 0, .int .i64 0, .string ⟨#[]⟩], .agg #[.string ⟨#[]⟩, .int .i64 15, .int .i64 pp, .int .i64 ii, .int .i64 0, .int .i64 0, .string ⟨#[]⟩], z48, z49, z50, ⟨(kl nl), (kq hV.p8_7), (kq hV.p10_8), (kc hV.c0), (kc hV.c1), (kc hV.c2), (kc hV.c3), (kc hV.c4), (kc hV.c5), (fun _ => rfl), (kc hV.c7), (kc hV.c8), (kc hV.c9), hV.fr, (fun h0 => hV.x (kb h0)), (kl nl), (fun h0 => hV.lo (kb h0)), (fun h0 => fun h1 => hV.r7 (kb h0) (kb h1)), (kc hV.r8)⟩, rfl⟩
    · have nl := kf hV.ord hl
      have d6 : L 6 = true := hd _ rfl ⟨6, .data⟩ (by simp) rfl
      obtain rfl := (hV.c6 d6).symm
      have hal : Below wx.heap.size wx (wx.alloc (.cells #[.string ⟨#[]⟩, .int .i64 15, .int .i64 pp, .int .i64 ii, .int .i64 0, .int .i64 0, .string ⟨#[]⟩] 44)) := (Below.refl _ _).alloc (Nat.le_refl _) _
      have hfs := hV.fr.size
      refine op_at _ rfl rfl (fun K' hK => ?_)
      conv => arg 2; whnf
      go_wp2_with fail
      exact ⟨wx.heap.size, gn, cn, z41, z42, z43, z44, z45, z46, .agg #[.string ⟨#[]⟩, .int .i64 15, .int .i64 pp, .int .i64 ii, .int .i64 0, .int .i64 0, .string ⟨#[]⟩], .slice (some ⟨(wx.heap.size), 0, none⟩) 1 1, z49, z50, ⟨(kl nl), (fun _ => upd_same L 7), (kq hV.p10_8), (kc hV.c0), (kc hV.c1), (kc hV.c2), (kc hV.c3), (kc hV.c4), (kc hV.c5), (kc hV.c6), (fun _ => rfl), (kc hV.c8), (kc hV.c9), (Fr3.old (hV.fr) hal), (fun h0 => OwnAt.old (hV.x (kb h0)) hal), (kl nl), (fun h0 => RwOwn.old (hV.lo (kb h0)) hal), (fun _ _ => ⟨OwnAt.new wx (lnCells ⟨[], ⟨15, pp, ii, 0, 0, []⟩⟩) 44, hfs⟩), (kn hV.p8_7 hl)⟩, rfl⟩
    · have nl := kf hV.ord hl
      have d1 : L 1 = true := hd _ rfl ⟨1, .data⟩ (by simp) rfl
      obtain rfl := (hV.c1 d1).symm
      have d3 : L 3 = true := hd _ rfl ⟨3, .chain⟩ (by simp) rfl
      have d7 : L 7 = true := hd _ rfl ⟨7, .data⟩ (by simp) rfl
      obtain rfl := (hV.c7 d7).symm
      have hr8 := hV.r7 d7 hl
      have hlo := hV.lo hl
      have hfs := hV.fr.size
      refine op_at _ rfl rfl (fun K' hK => ?_)
      conv => arg 2; whnf
      refine wp_lnSnoc wx _ _ rfl base ls vl rfl hlo ⟨[], ⟨15, pp, ii, 0, 0, []⟩⟩ nb 1 rfl hr8.1 hll (Nat.le_trans hbase hfs) ?_
      intro g2 cap2 w2 hr2 hg2 ha2 hl2
      go_wp2_with fail
      exact ⟨nb, g2, cap2, z41, vl, z43, z44, z45, z46, z47, .slice (some ⟨nb, 0, none⟩) 1 1, .slice (some ⟨(g2), 0, none⟩) (ls.length + 1) (cap2), z50, ⟨(kl nl), (kd (d7)), (fun _ => upd_same L 8), (kc hV.c0), (kc hV.c1), (kc hV.c2), (kc hV.c3), (kc hV.c4), (kc hV.c5), (kc hV.c6), (kc hV.c7), (fun _ => rfl), (kc hV.c9), (hV.fr.grown hg2 (.inl rfl)), (fun _ => (hV.x nl).grow hg2 HVX.out), (kl nl), (ks), (fun _ => ks), (fun _ => ⟨hr2, by rcases ha2 with h | h; exact .inl h; exact .inr (by rw [h]; exact hfs)⟩)⟩, rfl⟩
    · have nl := kf hV.ord hl
      refine op_at _ rfl rfl (fun K' hK => ?_)
      conv => arg 2; whnf
      go_wp2_with fail
      exact ⟨nb, gn, cn, z41, z42, z43, z44, z45, z46, z47, z48, z49, .pointer (some ⟨X, 1, none⟩), ⟨(kl nl), (kq hV.p8_7), (kq hV.p10_8), (kc hV.c0), (kc hV.c1), (kc hV.c2), (kc hV.c3), (kc hV.c4), (kc hV.c5), (kc hV.c6), (kc hV.c7), (kc hV.c8), (fun _ => rfl), hV.fr, (fun h0 => hV.x (kb h0)), (kl nl), (fun h0 => hV.lo (kb h0)), (fun h0 => fun h1 => hV.r7 (kb h0) (kb h1)), (kc hV.r8)⟩, rfl⟩
    · have before : ∀ j, j < 10 → L j = true := fun j hj => by
        have hj : j = 0 ∨ j = 1 ∨ j = 2 ∨ j = 3 ∨ j = 4 ∨ j = 5 ∨ j = 6 ∨ j = 7 ∨ j = 8 ∨ j = 9 := by omega
        rcases hj with rfl | rfl | rfl | rfl | rfl | rfl | rfl | rfl | rfl | rfl
        · exact hd _ rfl ⟨0, .phase⟩ (by simp) rfl
        · exact hd _ rfl ⟨1, .phase⟩ (by simp) rfl
        · exact hd _ rfl ⟨2, .phase⟩ (by simp) rfl
        · exact hd _ rfl ⟨3, .phase⟩ (by simp) rfl
        · exact hd _ rfl ⟨4, .phase⟩ (by simp) rfl
        · exact hd _ rfl ⟨5, .phase⟩ (by simp) rfl
        · exact hd _ rfl ⟨6, .phase⟩ (by simp) rfl
        · exact hd _ rfl ⟨7, .phase⟩ (by simp) rfl
        · exact hd _ rfl ⟨8, .data⟩ (by simp) rfl
        · exact hd _ rfl ⟨9, .data⟩ (by simp) rfl
      have d8 : L 8 = true := hd _ rfl ⟨8, .data⟩ (by simp) rfl
      obtain rfl := (hV.c8 d8).symm
      have d9 : L 9 = true := hd _ rfl ⟨9, .data⟩ (by simp) rfl
      obtain rfl := (hV.c9 d9).symm
      have hx := hV.x hl
      have x1 := hx.at 1 _ rfl
      have fx := hx.fz 1
      have hxl := hx.lt
      have hr9 := hV.r8 (before 8 (by decide))
      refine op_at _ rfl rfl (fun K' hK => ?_)
      conv => arg 2; whnf
      go_wp2_with fail
      exact ⟨nb, gn, cn, z41, z42, z43, z44, z45, z46, z47, z48, .slice (some ⟨gn, 0, none⟩) (ls.length + 1) cn, .pointer (some ⟨X, 1, none⟩), ⟨(fun _ j hj => by rw [upd_ne L (show j ≠ 10 by omega)]; exact before j hj), (kq hV.p8_7), (kd (before 8 (by decide))), (kc hV.c0), (kc hV.c1), (kc hV.c2), (kc hV.c3), (kc hV.c4), (kc hV.c5), (kc hV.c6), (kc hV.c7), (kc hV.c8), (kc hV.c9), (hV.fr.set hXl 1 (.slice (some ⟨gn, 0, none⟩) (ls.length + 1) cn)), (ks), (fun _ => hx.set 1 (.slice (some ⟨gn, 0, none⟩) (ls.length + 1) cn)), (fun h => by rw [upd_ne L (show 8 ≠ 10 by decide), before 8 (by decide)] at h; cases h), (fun _ h => by rw [upd_ne L (show 8 ≠ 10 by decide), before 8 (by decide)] at h; cases h), (fun _ => ⟨RwOwn.set hr9.1 (fun e => by have e : gn = X := (by injection e); rcases hr9.2 with h | h; exact HVX.out (by rw [h, e]); omega) 1 (.slice (some ⟨gn, 0, none⟩) (ls.length + 1) cn), hr9.2⟩)⟩, rfl⟩
  · intro L act wx hI hall
    obtain ⟨nb, gn, cn, z41, z42, z43, z44, z45, z46, z47, z48, z49, z50, hV, rfl⟩ := hI
    obtain rfl := (hV.c0 (hall 0 (by decide))).symm
    obtain rfl := (hV.c1 (hall 1 (by decide))).symm
    obtain rfl := (hV.c2 (hall 2 (by decide))).symm
    obtain rfl := (hV.c3 (hall 3 (by decide))).symm
    obtain rfl := (hV.c4 (hall 4 (by decide))).symm
    obtain rfl := (hV.c5 (hall 5 (by decide))).symm
    obtain rfl := (hV.c6 (hall 6 (by decide))).symm
    obtain rfl := (hV.c7 (hall 7 (by decide))).symm
    obtain rfl := (hV.c8 (hall 8 (by decide))).symm
    obtain rfl := (hV.c9 (hall 9 (by decide))).symm
    exact hM _ _ (Met.intro (hJ _ _ ⟨nb, gn, cn, ⟨hV.fr, hV.x3 (hall 10 (by decide)), hV.r8 (hall 8 (by decide))⟩, rfl⟩))
end Go.Proofs.YtnfkllbkgpmgoaaGreatDoor

namespace Go.Proofs.YtnfkllbkgpmgoaaGreatDoor
set_option maxRecDepth 100000
set_option maxHeartbeats 4000000

def firstB : Bs := [102, 105, 114, 115, 116, 46, 111, 102, 46, 97, 108, 108]
def lastB : Bs := [108, 97, 115, 116, 46, 111, 102, 46, 97, 108, 108]
def mvI (p : Int) (i : Nat) : Ins := ⟨15, p, i, 0, 0, []⟩
def mvL (p : Int) (k : Nat) : List Ln := (List.range k).map fun i => ⟨[], mvI p i⟩
/-- The code, put between. -/
def joinC (c : Cd) (p : Int) (k : Nat) : Cd := ⟨c.arrs, ⟨firstB, zeroI 0⟩ :: (c.lines ++ [⟨lastB, zeroI 0⟩]) ++ mvL p k⟩
theorem first_not : ∀ n : Int, iname n ≠ firstB ∧ iname n ≠ lastB := by
  intro n
  have h : ∀ j : Fin 40, inameN j.val ≠ firstB ∧ inameN j.val ≠ lastB := by decide
  have hr := ipick_range n 40 (by decide)
  exact h ⟨(ipick n 40).toNat, by omega⟩
theorem mv_right (p : Int) (i : Nat) (hp : 0 ≤ p) (hp1 : p < 32) (hi : i < 32) : rightI (mvI p i) = true := by
  have := fit_right ⟨14, p, i, 0, 0, []⟩
  have e : fitI ⟨14, p, i, 0, 0, []⟩ = mvI p i := by
    have h1 : ipick p 32 = p := by unfold ipick; rw [if_neg (by omega)]; exact Int.emod_eq_of_lt hp hp1
    have h2 : ipick (i : Int) 32 = (i : Int) := by unfold ipick; rw [if_neg (by omega)]; exact Int.emod_eq_of_lt (by omega) (by omega)
    have h3 : ipick 14 28 = 14 := by decide
    unfold fitI
    dsimp only
    rw [h1, h2, h3]
    rfl
  rwa [e] at this
theorem join_lines (c : Cd) (p : Int) (k : Nat) : (joinC c p k).lines = (⟨firstB, zeroI 0⟩ :: c.lines) ++ (⟨lastB, zeroI 0⟩ :: mvL p k) := by
  unfold joinC
  simp
theorem place_first {l : List Ln} {s : Bs} {i : Nat} (h : place l s = some i) (hs : s ≠ firstB) : place (⟨firstB, zeroI 0⟩ :: l) s = some (i + 1) := by
  have := place_mid (k := 0) h ⟨firstB, zeroI 0⟩ (fun e => hs e.symm) (Nat.zero_le _)
  rw [if_neg (by omega)] at this
  exact this
theorem place_join {c : Cd} {p : Int} {k : Nat} {s : Bs} {i : Nat} (h : place c.lines s = some i) (hs : s ≠ firstB) : place (joinC c p k).lines s = some (i + 1) := by
  rw [join_lines]
  exact place_app (place_first h hs)
theorem good_iname {c : Cd} (h : GoodC c) {s : Bs} {i : Nat} (hp : place c.lines s = some i) : ∃ n, s = iname n := by
  obtain ⟨h1, h2, h3, _⟩ := place_some hp
  rcases h.line i h2 with ⟨g, _⟩ | ⟨_, _, n, e⟩
  · exact absurd (h3.symm.trans g) h1
  · exact ⟨n, h3.symm.trans e⟩
theorem ahead_join (c : Cd) (p : Int) (k : Nat) (i : Nat) (hi : i ≤ c.lines.length) : aheadN (joinC c p k).lines (i + 1) = aheadN c.lines i := by
  rw [join_lines]
  unfold aheadN
  rw [List.cons_append, List.take_succ_cons, List.take_append_of_le_length hi, List.filter_cons]
  rfl
theorem insL_join (c : Cd) (p : Int) (k : Nat) : insL (joinC c p k).lines = insL c.lines ++ (mvL p k).map (·.ins) := by
  rw [join_lines]
  have h1 : insL (⟨firstB, zeroI 0⟩ :: c.lines) = insL c.lines := by unfold insL; rw [List.filter_cons]; rfl
  have h2 : insL (⟨lastB, zeroI 0⟩ :: mvL p k) = (mvL p k).map (·.ins) := by
    unfold insL
    rw [List.filter_cons, if_neg (by decide)]
    congr 1
    refine List.filter_eq_self.2 fun x hx => ?_
    obtain ⟨i, _, rfl⟩ := List.mem_map.1 hx
    rfl
  unfold insL at *
  rw [List.filter_append, List.map_append, h1, h2]
theorem to_join {c : Cd} (h : GoodC c) (p : Int) (k : Nat) (x : Ins) (hx : knownB c x = true) : toA (joinC c p k) x = toA c x := by
  unfold toA
  by_cases hn : x.op ≠ 17 ∧ x.name ≠ []
  · rw [if_pos hn, if_pos hn]
    unfold knownB at hx
    rw [if_neg hn.1] at hx
    simp only [Bool.or_eq_true] at hx
    rcases hx with hx | hx
    · obtain ⟨i, hi⟩ := Option.isSome_iff_exists.1 hx
      obtain ⟨n, e⟩ := good_iname h hi
      have hne : x.name ≠ firstB := by rw [e]; exact (first_not n).1
      rw [place_join hi hne, hi]
      show ((aheadN (joinC c p k).lines (i + 1) : Nat) : Int) = ((aheadN c.lines i : Nat) : Int)
      rw [ahead_join c p k i (by obtain ⟨_, h2, _⟩ := place_some hi; omega)]
    · exact absurd (by simpa using hx) hn.2
  · rw [if_neg hn, if_neg hn]
theorem mv_to (c : Cd) (p : Int) (i : Nat) : toA c (mvI p i) = -1 := by
  unfold toA
  rw [if_neg (fun h => h.2 rfl)]
theorem known_join {c : Cd} (h : GoodC c) (p : Int) (k : Nat) {x : Ins} (hx : knownB c x = true) : knownB (joinC c p k) x = true := by
  unfold knownB at hx ⊢
  by_cases h17 : x.op = 17
  · rw [if_pos h17] at hx ⊢; exact hx
  · rw [if_neg h17] at hx ⊢
    simp only [Bool.or_eq_true] at hx ⊢
    rcases hx with hx | hx
    · obtain ⟨i, hi⟩ := Option.isSome_iff_exists.1 hx
      obtain ⟨n, e⟩ := good_iname h hi
      left
      rw [place_join hi (by rw [e]; exact (first_not n).1)]; rfl
    · exact .inr hx
theorem known_nameless (c : Cd) {x : Ins} (h17 : x.op ≠ 17) (hn : x.name = []) : knownB c x = true := by
  unfold knownB
  rw [if_neg h17, hn]; simp
theorem join_at (c : Cd) (p : Int) (k : Nat) (j : Nat) (x : Ln) (hx : (joinC c p k).lines[j]? = some x) : (j = 0 ∧ x = ⟨firstB, zeroI 0⟩) ∨ (∃ i, ∃ hi : i < c.lines.length, j = i + 1 ∧ x = c.lines[i]) ∨ (j = c.lines.length + 1 ∧ x = ⟨lastB, zeroI 0⟩) ∨ (∃ i, i < k ∧ x = ⟨[], mvI p i⟩) := by
  rw [join_lines] at hx
  by_cases h1 : j < c.lines.length + 1
  · rw [List.getElem?_append_left (by simpa using h1)] at hx
    cases j with
    | zero => left; refine ⟨rfl, ?_⟩; simp at hx; exact hx.symm
    | succ i =>
      right; left
      rw [List.getElem?_cons_succ] at hx
      obtain ⟨hi, e⟩ := List.getElem?_eq_some_iff.1 hx
      exact ⟨i, hi, rfl, e.symm⟩
  · rw [List.getElem?_append_right (by simp; omega)] at hx
    right; right
    obtain ⟨m, hm⟩ : ∃ m, j - (⟨firstB, zeroI 0⟩ :: c.lines).length = m := ⟨_, rfl⟩
    rw [hm] at hx
    rw [List.length_cons] at hm
    cases m with
    | zero => left; refine ⟨by omega, ?_⟩; simp at hx; exact hx.symm
    | succ m =>
      right
      rw [List.getElem?_cons_succ] at hx
      unfold mvL at hx
      rw [List.getElem?_map] at hx
      by_cases hmk : m < k
      · rw [List.getElem?_range hmk] at hx
        simp at hx
        exact ⟨m, hmk, hx.symm⟩
      · rw [List.getElem?_eq_none (by simpa using hmk)] at hx; cases hx
theorem join_check {c : Cd} (h : GoodC c) (p : Int) (k : Nat) (hp : 0 ≤ p) (hp1 : p < 32) (hk : k ≤ 5) : checkC (joinC c p k) = (0, 0) := by
  have hlen := h.len
  have hL : (joinC c p k).lines.length = c.lines.length + 2 + k := by
    rw [join_lines, List.length_append, List.length_cons, List.length_cons]
    unfold mvL
    rw [List.length_map, List.length_range]; omega
  have hlast : place (joinC c p k).lines lastB = some (c.lines.length + 1) := by
    refine place_at (y := ⟨lastB, zeroI 0⟩) (by decide) ?_ rfl (fun j z hj hz => ?_)
    · rw [join_lines, List.getElem?_append_right (by simp), List.length_cons, Nat.sub_self]; rfl
    · rcases join_at c p k j z hz with ⟨_, rfl⟩ | ⟨i, hi, _, rfl⟩ | ⟨e, _⟩ | ⟨i, hi, rfl⟩
      · decide
      · intro e
        rcases h.line i hi with ⟨g, _⟩ | ⟨_, _, n, g⟩
        · rw [g] at e; revert e; decide
        · exact (first_not n).2 (g.symm.trans e)
      · omega
      · show ([] : Bs) ≠ lastB; decide
  refine checkC_ok (by omega) (by show arrsE c.arrs = 0; rw [h.arrs]; exact arrs2_ok) fun j hj => ?_
  rcases join_at c p k j _ (List.getElem?_eq_getElem hj) with ⟨e0, e⟩ | ⟨i, hi, e0, e⟩ | ⟨e0, e⟩ | ⟨i, hi, e⟩
  · rw [e]
    subst e0
    exact lineE_zero.2 ⟨by decide, fun _ => Int.natCast_nonneg _, known_nameless _ (by decide) rfl⟩
  · rw [e]
    subst e0
    refine lineE_zero.2 ⟨h.well hi, fun hl => ?_, known_join h p k (h.known hi)⟩
    have hpl := h.place hi hl
    obtain ⟨n, en⟩ := good_iname h hpl
    unfold placeI
    rw [place_join hpl (by rw [en]; exact (first_not n).1)]
    exact Int.le_refl _
  · rw [e]
    refine lineE_zero.2 ⟨by decide, fun _ => ?_, known_nameless _ (by decide) rfl⟩
    unfold placeI
    rw [hlast, e0]
    exact Int.le_refl _
  · rw [e]
    refine lineE_zero.2 ⟨mv_right p i hp hp1 (by omega), fun hl => absurd rfl hl, known_nameless _ (show (15 : Int) ≠ 17 by decide) rfl⟩
theorem join_flat {c : Cd} (h : GoodC c) (p : Int) (k : Nat) (hp : 0 ≤ p) (hp1 : p < 32) (hk : k ≤ 5) : flatA (joinC c p k) = (insL c.lines ++ (mvL p k).map (·.ins), (insL c.lines).map (toA c) ++ List.replicate k (-1)) := by
  unfold flatA
  rw [join_check h p k hp hp1 hk, if_pos rfl, insL_join, List.map_append]
  congr 2
  · refine List.map_congr_left fun x hx => ?_
    unfold insL at hx
    obtain ⟨y, hy, rfl⟩ := List.mem_map.1 hx
    obtain ⟨hy, _⟩ := List.mem_filter.1 hy
    obtain ⟨j, hj, rfl⟩ := List.getElem_of_mem hy
    exact to_join h p k _ (h.known hj)
  · apply List.ext_getElem
    · simp [mvL]
    · intro j h1 h2
      simp only [mvL, List.map_map, List.getElem_map, List.getElem_range, Function.comp, List.getElem_replicate]
      exact mv_to _ p j
end Go.Proofs.YtnfkllbkgpmgoaaGreatDoor

namespace Go.Proofs.YtnfkllbkgpmgoaaGreatDoor
open Go.RowKit
set_option maxHeartbeats 4000000
set_option maxRecDepth 100000

theorem own_new (w : World) (y : Ln) (base : Nat) (hb : base ≤ w.heap.size) : LnsOwn (w.alloc (.cells (lnCells y).toArray 44)) base [y] (.slice (some ⟨w.heap.size, 0, none⟩) 1 1) := by
  refine ⟨rfl, .inr ⟨w.heap.size, 1, (lnCells y).toArray, rfl, hb, Array.getElem?_push_size, Nat.le_refl _, by decide, rfl, ?_⟩⟩
  rfl
theorem wpList_rapp (w : World) {ops : Array Oper} {rest : List Oper} {o : Oper} {a : Act} {Q : Exit → Act → World → Prop} (hgd : o.guard = none) (s x : Operand) (ho : o.op = .call { callee := .builtin .append, args := #[s, x], argTypes := #[22, 22] })
    (base : Nat) (L : List Ln) (v : Value) (hs : a.eval s = v) (hown : LnsOwn w base L v) (M : List Ln) (ad : Addr) (m c : Nat) (hx : a.eval x = .slice (some ad) m c) (hm : M.length = m) (hnews : ∀ j u, (M.flatMap lnCells)[j]? = some u → w.cell? (ad.add j) = some u)
    (hlen : L.length + m ≤ 1000000) (hbase : base ≤ w.heap.size)
    (h : ∀ v' w', LnsOwn w' base (L ++ M) v' → w.grownBy w' v.ownBlock → (v'.ownBlock = v.ownBlock ∨ v'.ownBlock = some w.heap.size) → wpList Tryz.prog ops Q rest (a.put o.dst v') w') : wpList Tryz.prog ops Q (o :: rest) a w :=
  wpList_plain hgd fun K hK => wp_rapp w s x ho base L v hs hown M ad m c hx hm hnews hlen hbase fun v' w' h1 h2 h3 => hK _ _ (h v' w' h1 h2 h3)
theorem slices_not {w : World} {T b o : Nat} {va vl : Value} {n : Int} (hx : OwnAt w T [va, vl] 27) (h1 : ∃ a n c, va = .slice a n c) (h2 : ∃ a n c, vl = .slice a n c) (hc : w.cell? ⟨b, o, none⟩ = some (.int .i64 n)) : b ≠ T := by
  intro e
  subst e
  obtain ⟨a, n1, c, rfl⟩ := h1
  obtain ⟨a', n2, c', rfl⟩ := h2
  have hh : w.heap[b]? = some (.cells [.slice a n1 c, .slice a' n2 c'].toArray 27 (0, 0)) := hx
  simp only [World.cell?, hh] at hc
  cases o with
  | zero => simp at hc
  | succ o =>
    cases o with
    | zero => simp at hc
    | succ o => simp at hc
/-- Code that is being joined. -/
structure JoIn (w3 : World) (A T8 : Nat) (wr : World) (L : List Ln) (vl : Value) : Prop where
  x : OwnAt wr T8 [.slice (some ⟨A, 0, none⟩) 2 2, vl] 27
  ln : LnsOwn wr w3.heap.size L vl
  fr : Fr3 T8 (.slice none 0 0) (.slice none 0 0) w3 wr
theorem mvL_succ (p : Int) (i : Nat) : mvL p (i + 1) = mvL p i ++ [⟨[], ⟨15, p, i, 0, 0, []⟩⟩] := by
  unfold mvL
  rw [List.range_succ, List.map_append]; rfl
theorem mvL_len (p : Int) (i : Nat) : (mvL p i).length = i := by unfold mvL; simp
theorem JoIn.step {w3 wr w' : World} {A T8 : Nat} {L : List Ln} {vl : Value} (h : JoIn w3 A T8 wr L vl) {y : Ln} {g n cp : Nat} (hf : Fr3 T8 vl vl wr w') (hx : OwnAt w' T8 [.slice (some ⟨A, 0, none⟩) 2 2, .slice (some ⟨g, 0, none⟩) n cp] 27)
    (hr : LnsOwn w' w3.heap.size (L ++ [y]) (.slice (some ⟨g, 0, none⟩) n cp)) : JoIn w3 A T8 w' (L ++ [y]) (.slice (some ⟨g, 0, none⟩) n cp) := by
  have hs := h.fr.size
  have hv := fun k e => (RwOwn.lt h.ln k e).1
  refine ⟨hx, hr, ⟨hf.os.trans h.fr.os, hf.tape.trans h.fr.tape, hf.output.trans h.fr.output, Nat.le_trans hs hf.size, fun k hk h1 h2 h3 => (hf.block k (by omega) h1 (fun e => by have := hv k e; omega) (fun e => by have := hv k e; omega)).trans (h.fr.block k hk h1 h2 h3)⟩⟩
theorem join_short {c : Cd} (h : GoodC c) (p : Int) (k : Nat) : ShortC (joinC c p k) := by
  refine ⟨fun y hy => ?_, h.short.arrs⟩
  rw [join_lines] at hy
  rcases List.mem_append.1 hy with hy | hy
  · rcases List.mem_cons.1 hy with rfl | hy
    · exact ⟨by decide, by decide⟩
    · exact h.short.lines y hy
  · rcases List.mem_cons.1 hy with rfl | hy
    · exact ⟨by decide, by decide⟩
    · obtain ⟨i, _, rfl⟩ := List.mem_map.1 hy
      exact ⟨Nat.zero_le _, Nat.zero_le _⟩
theorem join_list (c : Cd) (p : Int) (k : Nat) : [(⟨firstB, zeroI 0⟩ : Ln)] ++ c.lines ++ [(⟨lastB, zeroI 0⟩ : Ln)] ++ mvL p k = (joinC c p k).lines := by
  rw [join_lines]; simp
theorem ins_over {w3 wr w8 : World} {A T8 i : Nat} {L : List Ln} {vl : Value} {M : List Ins} {a : Option Addr} {n cp : Nat} {va v2 : Value} (hj : JoIn w3 A T8 wr L vl) (hb : Below wr.heap.size wr w8) (ho : OwnAt w3 T8 [va, v2] 27) (h1 : ∃ a n c, va = .slice a n c) (h2 : ∃ a n c, v2 = .slice a n c)
    (h : InsAt w3 M (.slice a n cp)) (hi : i < M.length) : ∃ b off, a = some ⟨b, off, none⟩ ∧ b < w8.heap.size ∧
    w8.cell? ⟨b, off + i * 6, none⟩ = some (.int .i64 M[i].op) ∧ w8.cell? ⟨b, off + i * 6 + 1, none⟩ = some (.int .i64 M[i].d) ∧ w8.cell? ⟨b, off + i * 6 + 2, none⟩ = some (.int .i64 M[i].a) ∧ w8.cell? ⟨b, off + i * 6 + 3, none⟩ = some (.int .i64 M[i].b) ∧ w8.cell? ⟨b, off + i * 6 + 4, none⟩ = some (.int .i64 M[i].n) ∧ w8.cell? ⟨b, off + i * 6 + 5, none⟩ = some (.string (strOf M[i].name)) := by
  obtain ⟨b, off, e, hbl, i0, i1, i2, i3, i4, i5⟩ := InsAt.at h hi
  have hne := slices_not ho h1 h2 i0
  have hh := hj.fr.block b hbl hne (fun e => by cases e) (fun e => by cases e)
  have t : ∀ {o u}, w3.cell? ⟨b, o, none⟩ = some u → w8.cell? ⟨b, o, none⟩ = some u := fun hc => below_keeps hb ((cell_heap hh).trans hc)
  exact ⟨b, off, e, World.block_lt_of_cell? _ _ (t i0), t i0, t i1, t i2, t i3, t i4, t i5⟩
theorem nums_over {w3 wr w8 : World} {A T8 i : Nat} {L : List Ln} {vl : Value} {M : List Int} {a : Option Addr} {n cp : Nat} {va v2 : Value} (hj : JoIn w3 A T8 wr L vl) (hb : Below wr.heap.size wr w8) (ho : OwnAt w3 T8 [va, v2] 27) (h1 : ∃ a n c, va = .slice a n c) (h2 : ∃ a n c, v2 = .slice a n c)
    (h : NumsAt w3 M (.slice a n cp)) (hi : i < M.length) : ∃ b off, a = some ⟨b, off, none⟩ ∧ b < w8.heap.size ∧ w8.cell? ⟨b, off + i, none⟩ = some (.int .i64 M[i]) := by
  obtain ⟨b, off, e, hbl, i0⟩ := NumsAt.at h hi
  have hne := slices_not ho h1 h2 i0
  have hh := hj.fr.block b hbl hne (fun e => by cases e) (fun e => by cases e)
  have hc := below_keeps hb ((cell_heap hh).trans i0)
  exact ⟨b, off, e, World.block_lt_of_cell? _ _ hc, hc⟩
theorem qjoin_any (raw : List Ln) (v : Value) (nn dd : Int) (hnn : I64 nn) (hdd : I64 dd) (w : World) (h : RawQ w raw v) (hl : ILib w) :
    Calls Tryz.prog 7 #[v, .int .i64 nn, .int .i64 dd] w fun e w' => e = .returned (.bool true) ∧ Below w.heap.size w w' := by
  have HR := Lib.hid h; have HL := Lib.hid hl
  have HAW := Lib.hid (fun w hl => qawake_any w hl)
  have HFT := Lib.hid (fun w hr => fit_good raw v w hr)
  have HG := Lib.hid (fitC_good h.ok)
  clear h hl
  generalize fitC raw = c at *
  have hcl : c.lines.length ≤ 41 := HG.out.len
  have hclI : (c.lines.length : Int) ≤ 41 := by omega
  have HCA : Hid (c.arrs = arrs2) := Lib.hid HG.out.arrs
  have hpos : 0 < c.lines.length := by
    obtain ⟨j0, hj0, _⟩ := HG.out.has
    omega
  have HFL := Lib.hid (fun va vl w' h => flat_any c va vl w' h HG.out.short)
  rw [good_flat HG.out] at HFL
  dsimp only at HFL
  have hkn := ipick_range nn 5 (by decide)
  have HPN := Lib.hid (fun w => qpick_any nn 5 hnn (by decide) (by decide) w)
  obtain ⟨k, hke⟩ : ∃ k : Nat, ipick nn 5 = (k : Int) := ⟨(ipick nn 5).toNat, by omega⟩
  rw [hke] at hkn HPN
  obtain ⟨hk0, hk1⟩ := hkn
  have hpp := ipick_range dd 32 (by decide)
  have HPD := Lib.hid (fun w => qpick_any dd 32 hdd (by decide) (by decide) w)
  generalize ipick dd 32 = pp at *
  obtain ⟨hp0, hp1⟩ := hpp
  have hjf := join_flat HG.out pp (k + 1) hp0 hp1 (by omega)
  have HJF := Lib.hid hjf
  have HLN : Hid (((insL c.lines).map (toA c)).length = (insL c.lines).length) := Lib.hid (List.length_map _)
  have hil := insL_len c.lines
  clear hke hjf
  go_enter Tryz.func7, Tryz.ntmps7
  go_wp2_with fail
  refine (HAW.out _ HL.out).mono ?_
  rintro e w1 ⟨rfl, hb1⟩
  have HB1 := Lib.hid hb1
  have HR1 := Lib.hid (HR.out.old hb1)
  clear hb1 HAW
  go_wp2_with fail
  refine (HFT.out _ HR1.out).mono ?_
  rintro e w2 ⟨A, base, al, cl, rfl, hfo, hb2⟩
  obtain ⟨g0, rfl, hgb0, hgl0, _, _⟩ := lns_at hfo.ln hpos
  have hbA : Below w2.heap.size w2 (w2.alloc (.cells #[.slice (some ⟨A, 0, none⟩) 2 2, .slice (some ⟨g0, 0, none⟩) c.lines.length cl] 27)) := (Below.refl _ _).alloc (Nat.le_refl _) _
  have HF2 := Lib.hid (hfo.old hbA)
  have HC2 := Lib.hid ((hfo.code HCA.out (by omega)).old hbA)
  have HO2 := Lib.hid (OwnAt.new w2 [.slice (some ⟨A, 0, none⟩) 2 2, .slice (some ⟨g0, 0, none⟩) c.lines.length cl] 27)
  have hb3 := HB1.out.trans (hb2.mono HB1.out.size)
  have HB2 := Lib.hid (hb3.trans (hbA.mono hb3.size))
  have hs12 := hb3.size
  have hbs := hfo.le
  have hba := hfo.ab
  have hlo1 := hfo.lo
  have hs1 := HB1.out.size
  clear hbA hb2 hb3 hfo HB1 HR1 HFT
  go_wp2_with fail
  obtain ⟨W2, hW2⟩ : ∃ W2, (w2.alloc (.cells #[.slice (some ⟨A, 0, none⟩) 2 2, .slice (some ⟨g0, 0, none⟩) c.lines.length cl] 27)) = W2 := ⟨_, rfl⟩
  have hsz2 : W2.heap.size = w2.heap.size + 1 := by rw [← hW2]; simp
  have HSZ2 := Lib.hid hsz2
  obtain ⟨T8, hT8⟩ : ∃ T8, w2.heap.size = T8 := ⟨_, rfl⟩
  rw [hW2] at HC2 HB2 HO2 HF2 ⊢
  rw [hT8] at HO2 hs12 hbs hgl0 HSZ2 ⊢
  clear hW2 hT8 hsz2
  have x1 := HO2.out.at 1 _ rfl
  have x0 := HO2.out.at 0 _ rfl
  have hxl := HO2.out.lt
  go_wp2_with fail
  refine (HFL.out _ _ _ HC2.out).mono ?_
  rintro e w3 ⟨v1, v2, rfl, hv1, hv2, hb3⟩
  have HO3 := Lib.hid (HO2.out.old hb3)
  have HF3 := Lib.hid (HF2.out.old hb3)
  have HB3 := Lib.hid (HB2.out.trans (hb3.mono HB2.out.size))
  obtain ⟨a1, c1, rfl⟩ := RwAt.shape hv1
  obtain ⟨a2, c2, hs2⟩ := RwAt.shape hv2
  rw [HLN.out] at hs2
  subst hs2
  have HV1 := Lib.hid hv1
  have HV2 := Lib.hid hv2
  have hsW := hb3.size
  clear hb3 HC2 HO2 HF2 HB2 HFL hv1 hv2 x0 x1 hxl
  have x0 := HO3.out.at 0 _ rfl
  have x1 := HO3.out.at 1 _ rfl
  have hxl := HO3.out.lt
  go_wp2_with fail
  refine (HPN.out _).mono ?_
  rintro e w7 ⟨rfl, hw7⟩
  subst hw7
  clear HPN
  have hbF : Below w3.heap.size w3 (w3.alloc (.cells #[.string ⟨#[102, 105, 114, 115, 116, 46, 111, 102, 46, 97, 108, 108]⟩, .int .i64 0, .int .i64 0, .int .i64 0, .int .i64 0, .int .i64 0, .string ⟨#[]⟩] 44)) := (Below.refl _ _).alloc (Nat.le_refl _) _
  have HN4 := Lib.hid (own_new w3 ⟨firstB, zeroI 0⟩ w3.heap.size (Nat.le_refl _))
  have HF4 := Lib.hid (HF3.out.old hbF)
  have HO4 := Lib.hid (HO3.out.old hbF)
  have HB4 := Lib.hid (HB3.out.trans (hbF.mono HB3.out.size))
  have hcells : ∀ j u, (c.lines.flatMap lnCells)[j]? = some u → (w3.alloc (.cells #[.string ⟨#[102, 105, 114, 115, 116, 46, 111, 102, 46, 97, 108, 108]⟩, .int .i64 0, .int .i64 0, .int .i64 0, .int .i64 0, .int .i64 0, .string ⟨#[]⟩] 44)).cell? ((⟨g0, 0, none⟩ : Addr).add j) = some u := fun j u hu => by
    have := pre_cells HF4.out.ln c.lines.length j u (by rw [List.take_length]; exact hu)
    exact this
  have HCE := Lib.hid hcells
  clear hbF hcells
  have hTw : T8 < w3.heap.size := hxl
  obtain ⟨n1, hn1⟩ : ∃ n1, c.lines.length + 1 = n1 := ⟨_, rfl⟩
  have HLEN : Hid (([⟨firstB, zeroI 0⟩] ++ c.lines : List Ln).length = n1) := Lib.hid (by rw [← hn1]; simp)
  have hn1I : n1 ≤ 42 := by omega
  go_upto_region 6 with (first | (at_builtin; refine wpList_rapp _ rfl _ _ rfl w3.heap.size [⟨firstB, zeroI 0⟩] _ rfl HN4.out c.lines ⟨g0, 0, none⟩ c.lines.length cl rfl rfl HCE.out (by simp; omega) (by simp) ?_; intro v5 w5 hr5 hg5 ha5; obtain ⟨a5, c5, e5⟩ := RwOwn.shape hr5; rw [HLEN.out] at e5; subst e5; have HO5 := Lib.hid (HO4.out.grow hg5 (fun e => by have e2 : w3.heap.size = T8 := (by injection e); omega)); have HG5 := Lib.hid hg5; have hbL : Below w5.heap.size w5 (w5.alloc (.cells #[.string ⟨#[108, 97, 115, 116, 46, 111, 102, 46, 97, 108, 108]⟩, .int .i64 0, .int .i64 0, .int .i64 0, .int .i64 0, .int .i64 0, .string ⟨#[]⟩] 44)) := (Below.refl _ _).alloc (Nat.le_refl _) _; have HR6 := Lib.hid (RwOwn.old hr5 hbL); have HO6 := Lib.hid (HO5.out.old hbL); have HNL := Lib.hid (OwnAt.new w5 (lnCells ⟨lastB, zeroI 0⟩) 44); have HS6 : Hid (w3.heap.size ≤ (w5.alloc (.cells #[.string ⟨#[108, 97, 115, 116, 46, 111, 102, 46, 97, 108, 108]⟩, .int .i64 0, .int .i64 0, .int .i64 0, .int .i64 0, .int .i64 0, .string ⟨#[]⟩] 44)).heap.size) := Lib.hid (by have := hg5.size; simp at this ⊢; omega); clear hr5 hg5 ha5 hbL) | (at_builtin; refine wpList_lnSnoc _ rfl _ _ rfl w3.heap.size ([⟨firstB, zeroI 0⟩] ++ c.lines) _ rfl HR6.out ⟨lastB, zeroI 0⟩ w5.heap.size 1 rfl HNL.out (by rw [HLEN.out]; omega) HS6.out ?_; intro g6 cg6 w6 how6 hgr6 hat6 hlt6; rw [HLEN.out] at how6 ⊢; have HR7 := Lib.hid how6; have HO7 := Lib.hid (HO6.out.grow hgr6 (fun e => by have := (RwOwn.lt HR6.out T8 e).1; omega)); have HG7 := Lib.hid hgr6; have HRL := Lib.hid (fun k e => (RwOwn.lt HR6.out k e).1); have y1 := HO7.out.at 1 _ rfl; have fy := HO7.out.fz 1; have hyl := HO7.out.lt; clear how6 hgr6 hat6 hlt6))
  have hfr : Fr3 T8 (.slice none 0 0) (.slice none 0 0) w3 (w6.setCell ⟨T8, 1, none⟩ (.slice (some ⟨g6, 0, none⟩) (n1 + 1) cg6)) := ((((Fr3.refl T8 (.slice none 0 0) (.slice none 0 0) w3).old ((Below.refl _ _).alloc (Nat.le_refl _) (.cells #[.string ⟨#[102, 105, 114, 115, 116, 46, 111, 102, 46, 97, 108, 108]⟩, .int .i64 0, .int .i64 0, .int .i64 0, .int .i64 0, .int .i64 0, .string ⟨#[]⟩] 44))).newer HG5.out (fun k e => by have e2 : w3.heap.size = k := (by injection e); omega)).old ((Below.refl _ _).alloc (Nat.le_refl _) (.cells #[.string ⟨#[108, 97, 115, 116, 46, 111, 102, 46, 97, 108, 108]⟩, .int .i64 0, .int .i64 0, .int .i64 0, .int .i64 0, .int .i64 0, .string ⟨#[]⟩] 44))).newer HG7.out HRL.out |>.set hTw 1 _
  have HJ : Hid (JoIn w3 A T8 (w6.setCell ⟨T8, 1, none⟩ (.slice (some ⟨g6, 0, none⟩) (n1 + 1) cg6)) ([⟨firstB, zeroI 0⟩] ++ c.lines ++ [⟨lastB, zeroI 0⟩]) (.slice (some ⟨g6, 0, none⟩) (n1 + 1) cg6)) := Lib.hid ⟨HO7.out.set 1 _, RwOwn.set HR7.out (fun e => by have := (RwOwn.lt HR7.out T8 e).1; omega) 1 _, hfr⟩
  clear hfr
  generalize (w6.setCell ⟨T8, 1, none⟩ (.slice (some ⟨g6, 0, none⟩) (n1 + 1) cg6)) = W6 at *
  clear HO7 HR7 HG7 HRL y1 fy hyl HR6 HO6 HNL HS6 HO5 HG5 HN4 HF4 HO4 HCE x0 x1 hxl
  go_wp2_with fail
  go_loopw [12] (fun s12 wr => ∃ i : Nat, i ≤ k + 1 ∧ s12 = .int .i64 i ∧ ∃ vl, Hid (JoIn w3 A T8 wr ([(⟨firstB, zeroI 0⟩ : Ln)] ++ c.lines ++ [(⟨lastB, zeroI 0⟩ : Ln)] ++ mvL pp i) vl)) (fun s12 _ => k + 1 - (intOf s12).toNat)
  case atStart => exact ⟨0, Nat.zero_le _, rfl, _, by rw [show mvL pp 0 = [] from rfl, List.append_nil]; exact HJ⟩
  case round =>
    clear HJ
    obtain ⟨i, hi, rfl, vl, HJ⟩ := hrel
    by_cases hlt : i < k + 1
    · have hltI : (i : Int) < 1 + (k : Int) := by omega
      have hLL : ([(⟨firstB, zeroI 0⟩ : Ln)] ++ c.lines ++ [(⟨lastB, zeroI 0⟩ : Ln)] ++ mvL pp i : List Ln).length ≤ 1000000 := by rw [List.length_append, mvL_len]; simp; omega
      have hvT : vl.ownBlock ≠ some T8 := fun e => by have := (RwOwn.lt HJ.out.ln T8 e).1; omega
      go_upto_region 9 with (fail)
      refine wp_mono (reg_J9 T8 (.slice (some ⟨A, 0, none⟩) 2 2) vl ([(⟨firstB, zeroI 0⟩ : Ln)] ++ c.lines ++ [(⟨lastB, zeroI 0⟩ : Ln)] ++ mvL pp i) dd pp (i : Int) w3.heap.size wr HJ.out.x HJ.out.ln hvT hLL HJ.out.fr.size HPD _ _ _ _ _ _ _ _ _ _ _ _ _ _ _ _ _ _ _ _ _ _ _ _ _ _ _ _ _ _ _ _ _ _ _ _ _ _ _ _ _ _ _ _ _ _ _ _ _ _ _ _ _ _ _ _ _ _ _ _ _ _ _ _ _ _ _ _ _ _ _ _ _ _ _ _ _ _ _ _ _ _ _ _ _ _ _ _ _ _ _ _ _ _ _ _ _ _ _ _ _ _ _ _ _ _ _ _ _ _ _ _ _ _ _ _ (RJ9 T8 (.slice (some ⟨A, 0, none⟩) 2 2) vl ([(⟨firstB, zeroI 0⟩ : Ln)] ++ c.lines ++ [(⟨lastB, zeroI 0⟩ : Ln)] ++ mvL pp i) dd pp (i : Int) w3.heap.size wr _ _ _ _ _ _ _ _ _ _ _ _ _ _ _ _ _ _ _ _ _ _ _ _ _ _ _ _ _ _ _ _ _ _ _ _ _ _ _ _ _ _ _ _ _ _ _ _ _ _ _ _ _ _ _ _ _ _ _ _ _ _ _ _ _ _ _ _ _ _ _ _ _ _ _ _ _ _ _ _ _ _ _ _ _ _ _ _ _ _ _ _ _ _ _ _ _ _ _ _ _ _ _ _ _ _) (RJ9 T8 (.slice (some ⟨A, 0, none⟩) 2 2) vl ([(⟨firstB, zeroI 0⟩ : Ln)] ++ c.lines ++ [(⟨lastB, zeroI 0⟩ : Ln)] ++ mvL pp i) dd pp (i : Int) w3.heap.size wr _ _ _ _ _ _ _ _ _ _ _ _ _ _ _ _ _ _ _ _ _ _ _ _ _ _ _ _ _ _ _ _ _ _ _ _ _ _ _ _ _ _ _ _ _ _ _ _ _ _ _ _ _ _ _ _ _ _ _ _ _ _ _ _ _ _ _ _ _ _ _ _ _ _ _ _ _ _ _ _ _ _ _ _ _ _ _ _ _ _ _ _ _ _ _ _ _ _ _ _ _ _ _ _ _ _) (fun _ _ q => q) (fun _ _ q => q)) ?_
      intro e a' w' hq
      cases e with
      | normal =>
        obtain ⟨nb, gn, cn, ⟨hfr, hx, hr⟩, rfl⟩ := hq
        have HJ2 := Lib.hid (HJ.out.step hfr hx hr.1)
        clear hfr hx hr
        go_wp2_with fail
        exact ⟨⟨i + 1, hlt, by first | rfl | (simp; done) | go_num, _, by rw [mvL_succ, ← List.append_assoc]; exact HJ2⟩, by simp [intOf]; omega⟩
      | _ => exact False.elim hq
    · have he : i = k + 1 := by omega
      subst he
      have hjl := HJ.out.ln
      rw [join_list] at hjl
      have hA : OwnAt wr A arrC 51 := (HJ.out.fr.block A HF3.out.aa.lt (by omega) (fun e => by cases e) (fun e => by cases e)).trans HF3.out.aa
      have HCJ : Hid (CodeAt wr (joinC c pp (k + 1)) (.slice (some ⟨A, 0, none⟩) 2 2) vl) := Lib.hid ⟨by show ArwAt wr c.arrs _; rw [HCA.out]; exact arr_at hA, RwOwn.nilv hjl (by rw [← join_list, List.length_append, mvL_len]; simp; omega) lnCells_len⟩
      obtain ⟨aj, cj, ej⟩ := RwOwn.shape hjl
      have HFJ := Lib.hid (fun va vl w' h => flat_any (joinC c pp (k + 1)) va vl w' h (join_short HG.out pp (k + 1)))
      rw [HJF.out] at HFJ
      dsimp only at HFJ
      subst ej
      clear hjl hA
      have x0 := HJ.out.x.at 0 _ rfl
      have x1 := HJ.out.x.at 1 _ rfl
      have hxl := HJ.out.x.lt
      go_wp2_with fail
      refine (HFJ.out _ _ _ HCJ.out).mono ?_
      rintro e w8 ⟨v3, v4, rfl, hv3, hv4, hb8⟩
      obtain ⟨N, hN⟩ : ∃ N, (insL c.lines).length = N := ⟨_, rfl⟩
      have HN := Lib.hid hN
      have HM3 : Hid ((insL c.lines ++ (mvL pp (k + 1)).map (·.ins)).length = N + (k + 1)) := Lib.hid (by rw [List.length_append, List.length_map, mvL_len, hN])
      have HM4 : Hid (((insL c.lines).map (toA c) ++ List.replicate (k + 1) (-1)).length = N + (k + 1)) := Lib.hid (by rw [List.length_append, List.length_map, List.length_replicate, hN])
      obtain ⟨a3, c3, e3⟩ := RwAt.shape hv3
      obtain ⟨a4, c4, e4⟩ := RwAt.shape hv4
      rw [HM3.out] at e3
      rw [HM4.out] at e4
      subst e3
      subst e4
      rw [hN] at hil HV1 HV2 HLN ⊢
      clear hN
      have HV3 := Lib.hid hv3
      have HV4 := Lib.hid hv4
      have HB8 := Lib.hid hb8
      obtain ⟨M, hM⟩ : ∃ M, N + (k + 1) = M := ⟨_, rfl⟩
      rw [hM] at HV3 HV4 HM3 HM4 ⊢
      have hMI : ((M : Int) != (N : Int) + (1 + (k : Int))) = false := by simp; omega
      have hMM : (M : Int) ≤ 100 := by omega
      clear hv3 hv4 hb8 x0 x1 hxl HFJ HCJ
      go_wp2_with fail
      go_loopw [15] (fun s15 wx => ∃ i : Nat, i ≤ M ∧ s15 = .int .i64 i ∧ Hid (Below w8.heap.size w8 wx)) (fun s15 _ => M - (intOf s15).toNat)
      case atStart => exact ⟨0, Nat.zero_le _, rfl, Lib.hid (Below.refl _ _)⟩
      case round =>
        obtain ⟨i, hi, rfl, HBX⟩ := hrel
        have hb := HB8.out.trans (HBX.out.mono HB8.out.size)
        have HBB := Lib.hid hb
        clear hb
        by_cases hlt : i < M
        · have hltI : (i : Int) < (M : Int) := by omega
          have h4l : i < ((insL c.lines).map (toA c) ++ List.replicate (k + 1) (-1)).length := by rw [HM4.out]; exact hlt
          have h3l : i < (insL c.lines ++ (mvL pp (k + 1)).map (·.ins)).length := by rw [HM3.out]; exact hlt
          obtain ⟨b4, o4, rfl, hb4l, t4⟩ := NumsAt.at (HV4.out.old HBX.out) h4l
          by_cases hin : i < N
          · have hinI : (i : Int) < (N : Int) := by omega
            have hinI3 : decide ((N : Int) ≤ (i : Int)) = false := decide_eq_false (by omega)
            have hinI4 : decide (N ≤ i) = false := decide_eq_false (by omega)
            have h1l : i < (insL c.lines).length := by rw [HN.out]; exact hin
            have h2l : i < ((insL c.lines).map (toA c)).length := by rw [List.length_map]; exact h1l
            obtain ⟨b3, o3, rfl, hb3l, q0, q1, q2, q3, q4, q5⟩ := InsAt.at (HV3.out.old HBX.out) h3l
            obtain ⟨b1, o1, rfl, hb1l, p0, p1, p2, p3, p4, p5⟩ := ins_over HJ.out HBB.out HO3.out ⟨_, _, _, rfl⟩ ⟨_, _, _, rfl⟩ HV1.out h1l
            obtain ⟨b2, o2, rfl, hb2l, t2⟩ := nums_over HJ.out HBB.out HO3.out ⟨_, _, _, rfl⟩ ⟨_, _, _, rfl⟩ HV2.out h2l
            rw [List.getElem_append_left h1l] at q0 q1 q2 q3 q4 q5
            rw [List.getElem_append_left h2l] at t4
            obtain ⟨x, hx⟩ : ∃ x, (insL c.lines)[i] = x := ⟨_, rfl⟩
            obtain ⟨tt, htt⟩ : ∃ tt, ((insL c.lines).map (toA c))[i] = tt := ⟨_, rfl⟩
            rw [hx] at p0 p1 p2 p3 p4 p5 q0 q1 q2 q3 q4 q5
            rw [htt] at t2 t4
            clear hx htt h1l h2l h3l h4l
            obtain ⟨xo, xd, xa, xb, xn, xm⟩ := x
            dsimp only at p0 p1 p2 p3 p4 p5 q0 q1 q2 q3 q4 q5
            go_upto_region 16 with (fail)
            go_quiet (fail)
            go_wp2_with fail
            exact ⟨⟨i + 1, hlt, by first | rfl | (simp; done) | go_num, Lib.hid (below_dn HBX.out)⟩, by simp [intOf]; omega⟩
          · have hinI : ¬ (i : Int) < (N : Int) := by omega
            have hinI2 : (N : Int) ≤ (i : Int) := by omega
            rw [List.getElem_append_right (by rw [List.length_map, HN.out]; omega), List.getElem_replicate] at t4
            clear h3l h4l
            go_upto_region 16 with (fail)
            go_quiet (fail)
            go_wp2_with fail
            exact ⟨⟨i + 1, hlt, by first | rfl | (simp; done) | go_num, Lib.hid (below_dn HBX.out)⟩, by simp [intOf]; omega⟩
        · have he2 : i = M := by omega
          subst he2
          go_wp2_with fail
          go_ret
          have hfr := HJ.out.fr
          have hbw : Below w.heap.size w3 _ := ⟨hfr.os, hfr.tape, hfr.output, hfr.size, fun j hj => hfr.block j (by have := HB3.out.size; omega) (by omega) (fun e => by cases e) (fun e => by cases e)⟩
          exact ⟨rfl, (HB3.out.trans hbw).trans (HBB.out.mono (by have h1 := HB3.out.size; have h2 := hfr.size; omega))⟩
end Go.Proofs.YtnfkllbkgpmgoaaGreatDoor
