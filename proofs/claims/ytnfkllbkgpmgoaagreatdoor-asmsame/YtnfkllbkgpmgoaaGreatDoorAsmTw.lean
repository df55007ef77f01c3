/-
  AsmTwice: a label's line behind the others, in whatever order it is built. Conditions: the code is the law's own.
-/
import Derived.Test.YtnfkllbkgpmgoaaGreatDoorAsmJ
set_option linter.unusedVariables false
set_option linter.unusedSimpArgs false
namespace Go.Proofs.YtnfkllbkgpmgoaaGreatDoor
open Go.RowKit
set_option maxHeartbeats 8000000
set_option maxRecDepth 100000

theorem lns_lab {w : World} {base : Nat} {L : List Ln} {g n cap : Nat} (h : LnsOwn w base L (.slice (some ⟨g, 0, none⟩) n cap)) {i : Nat} (hi : i < L.length) : w.cell? ⟨g, i * 7, none⟩ = some (.string (strOf L[i].label)) := by
  have h2 := World.ownsRow.cells h (g := g) rfl (i * 7 + 0) (.string (strOf L[i].label)) (by rw [iflat_at lnCells 7 lnCells_len L i 0 L[i] (List.getElem?_eq_getElem hi) (by decide)]; rfl)
  have h3 : (⟨g, 0, none⟩ : Addr).add (i * 7 + 0) = ⟨g, i * 7, none⟩ := by unfold Addr.add; split <;> simp_all
  rw [h3] at h2; exact h2
structure VT13 (X : Nat) (va : Value) (g0 vc : Nat) (ls : List Ln) (lab : Bs) (kk : Nat) (base : Nat) (W : World) (L : Nat → Bool) (nb : Nat) (gn : Nat) (cn : Nat) (z52 z53 z54 z55 z56 z57 z58 z59 z60 z61 z62 z63 : Value) (wx : World) : Prop where
  ord : L 12 = true → ∀ j, j < 12 → L j = true
  p8_7 : L 8 = true → L 7 = true
  p9_7 : L 9 = true → L 7 = true
  p10_7 : L 10 = true → L 7 = true
  p10_9 : L 10 = true → L 9 = true
  p12_10 : L 12 = true → L 10 = true
  c0 : L 0 = true → z52 = .pointer (some ⟨X, 1, none⟩)
  c1 : L 1 = true → z53 = .slice (some ⟨g0, 0, none⟩) ls.length vc
  c2 : L 2 = true → z54 = .pointer (some ⟨X, 1, none⟩)
  c3 : L 3 = true → z55 = .slice (some ⟨g0, 0, none⟩) ls.length vc
  c4 : L 4 = true → z56 = .int .i64 kk
  c5 : L 5 = true → z57 = .pointer (some ⟨g0, kk * 7, none⟩)
  c6 : L 6 = true → z58 = .pointer (some ⟨g0, kk * 7, none⟩)
  c7 : L 7 = true → z59 = .string (strOf lab)
  c8 : L 8 = true → z60 = .agg #[.string (strOf lab), .int .i64 0, .int .i64 0, .int .i64 0, .int .i64 0, .int .i64 0, .string ⟨#[]⟩]
  c9 : L 9 = true → z61 = .slice (some ⟨nb, 0, none⟩) 1 1
  c10 : L 10 = true → z62 = .slice (some ⟨gn, 0, none⟩) (ls.length + 1) cn
  c11 : L 11 = true → z63 = .pointer (some ⟨X, 1, none⟩)
  fr : Fr3 X (.slice (some ⟨g0, 0, none⟩) ls.length vc) (.slice (some ⟨g0, 0, none⟩) ls.length vc) W wx
  x : L 12 = false → OwnAt wx X [va, .slice (some ⟨g0, 0, none⟩) ls.length vc] 27
  x3 : L 12 = true → OwnAt wx X [va, .slice (some ⟨gn, 0, none⟩) (ls.length + 1) cn] 27
  lo : L 10 = false → LnsOwn wx base ls (.slice (some ⟨g0, 0, none⟩) ls.length vc)
  r9 : L 9 = true → L 10 = false → OwnAt wx nb (lnCells ⟨lab, zeroI 0⟩) 44 ∧ W.heap.size ≤ nb
  r10 : L 10 = true → LnsOwn wx base (ls ++ [⟨lab, zeroI 0⟩]) (.slice (some ⟨gn, 0, none⟩) (ls.length + 1) cn) ∧ (g0 = gn ∨ W.heap.size ≤ gn)
def IT13 (X : Nat) (va : Value) (g0 vc : Nat) (ls : List Ln) (lab : Bs) (kk : Nat) (base : Nat) (W : World) (q0 q1 q2 q3 q4 q5 q7 q8 q10 q11 q12 q13 q14 q15 q16 q17 q18 q19 q20 q21 q22 q23 q24 q25 q26 q27 q28 q29 q30 q31 q32 q33 q34 q35 q36 q37 q38 q39 q40 q41 q42 q43 q44 q45 q46 q47 q48 q49 q50 q51 q64 q65 q66 q67 q68 q69 q70 q71 q72 q73 q74 q75 q76 q77 q78 q79 q80 q81 q82 q83 q84 q85 q86 q87 q88 q89 q90 q91 q92 q93 q94 q95 q96 q97 q98 q99 q100 q101 q102 q103 q104 q105 q106 q107 q108 q109 q110 q111 q112 q113 q114 q115 q116 q117 q118 q119 q120 : Value) (L : Nat → Bool) (a' : Act) (w' : World) : Prop :=
  ∃ nb : Nat, ∃ gn : Nat, ∃ cn : Nat, ∃ z52 z53 z54 z55 z56 z57 z58 z59 z60 z61 z62 z63 : Value, VT13 X va g0 vc ls lab kk base W L nb gn cn z52 z53 z54 z55 z56 z57 z58 z59 z60 z61 z62 z63 w' ∧ a' = ⟨[q0, q1, q2, q3, q4, q5, .pointer (some ⟨X, 0, none⟩), q7, q8, .int .i64 kk, q10, q11, q12, q13, q14, q15, q16, q17, q18, q19, q20, q21, q22, q23, q24, q25, q26, q27, q28, q29, q30, q31, q32, q33, q34, q35, q36, q37, q38, q39, q40, q41, q42, q43, q44, q45, q46, q47, q48, q49, q50, q51, z52, z53, z54, z55, z56, z57, z58, z59, z60, z61, z62, z63, q64, q65, q66, q67, q68, q69, q70, q71, q72, q73, q74, q75, q76, q77, q78, q79, q80, q81, q82, q83, q84, q85, q86, q87, q88, q89, q90, q91, q92, q93, q94, q95, q96, q97, q98, q99, q100, q101, q102, q103, q104, q105, q106, q107, q108, q109, q110, q111, q112, q113, q114, q115, q116, q117, q118, q119, q120].toArray, []⟩
def RT13 (X : Nat) (va : Value) (g0 vc : Nat) (ls : List Ln) (lab : Bs) (kk : Nat) (base : Nat) (W : World) (q0 q1 q2 q3 q4 q5 q7 q8 q10 q11 q12 q13 q14 q15 q16 q17 q18 q19 q20 q21 q22 q23 q24 q25 q26 q27 q28 q29 q30 q31 q32 q33 q34 q35 q36 q37 q38 q39 q40 q41 q42 q43 q44 q45 q46 q47 q48 q49 q50 q51 q64 q65 q66 q67 q68 q69 q70 q71 q72 q73 q74 q75 q76 q77 q78 q79 q80 q81 q82 q83 q84 q85 q86 q87 q88 q89 q90 q91 q92 q93 q94 q95 q96 q97 q98 q99 q100 q101 q102 q103 q104 q105 q106 q107 q108 q109 q110 q111 q112 q113 q114 q115 q116 q117 q118 q119 q120 : Value) (a' : Act) (w' : World) : Prop :=
  ∃ nb : Nat, ∃ gn : Nat, ∃ cn : Nat, ((Fr3 X (.slice (some ⟨g0, 0, none⟩) ls.length vc) (.slice (some ⟨g0, 0, none⟩) ls.length vc) W w') ∧ (OwnAt w' X [va, .slice (some ⟨gn, 0, none⟩) (ls.length + 1) cn] 27) ∧ (LnsOwn w' base (ls ++ [⟨lab, zeroI 0⟩]) (.slice (some ⟨gn, 0, none⟩) (ls.length + 1) cn) ∧ (g0 = gn ∨ W.heap.size ≤ gn))) ∧ a' = ⟨[q0, q1, q2, q3, q4, q5, .pointer (some ⟨X, 0, none⟩), q7, q8, .int .i64 kk, q10, q11, q12, q13, q14, q15, q16, q17, q18, q19, q20, q21, q22, q23, q24, q25, q26, q27, q28, q29, q30, q31, q32, q33, q34, q35, q36, q37, q38, q39, q40, q41, q42, q43, q44, q45, q46, q47, q48, q49, q50, q51, .pointer (some ⟨X, 1, none⟩), .slice (some ⟨g0, 0, none⟩) ls.length vc, .pointer (some ⟨X, 1, none⟩), .slice (some ⟨g0, 0, none⟩) ls.length vc, .int .i64 kk, .pointer (some ⟨g0, kk * 7, none⟩), .pointer (some ⟨g0, kk * 7, none⟩), .string (strOf lab), .agg #[.string (strOf lab), .int .i64 0, .int .i64 0, .int .i64 0, .int .i64 0, .int .i64 0, .string ⟨#[]⟩], .slice (some ⟨nb, 0, none⟩) 1 1, .slice (some ⟨gn, 0, none⟩) (ls.length + 1) cn, .pointer (some ⟨X, 1, none⟩), q64, q65, q66, q67, q68, q69, q70, q71, q72, q73, q74, q75, q76, q77, q78, q79, q80, q81, q82, q83, q84, q85, q86, q87, q88, q89, q90, q91, q92, q93, q94, q95, q96, q97, q98, q99, q100, q101, q102, q103, q104, q105, q106, q107, q108, q109, q110, q111, q112, q113, q114, q115, q116, q117, q118, q119, q120].toArray, []⟩
theorem reg_T13 (X : Nat) (va : Value) (g0 vc : Nat) (ls : List Ln) (lab : Bs) (kk : Nat) (base : Nat) (W : World) (hx0 : OwnAt W X [va, .slice (some ⟨g0, 0, none⟩) ls.length vc] 27) (hlo : LnsOwn W base ls (.slice (some ⟨g0, 0, none⟩) ls.length vc)) (hvX : g0 ≠ X) (hll : ls.length ≤ 1000000) (hbase : base ≤ W.heap.size) (hkl : kk < ls.length) (hlab : ls[kk].label = lab) (q0 q1 q2 q3 q4 q5 q7 q8 q10 q11 q12 q13 q14 q15 q16 q17 q18 q19 q20 q21 q22 q23 q24 q25 q26 q27 q28 q29 q30 q31 q32 q33 q34 q35 q36 q37 q38 q39 q40 q41 q42 q43 q44 q45 q46 q47 q48 q49 q50 q51 q52 q53 q54 q55 q56 q57 q58 q59 q60 q61 q62 q63 q64 q65 q66 q67 q68 q69 q70 q71 q72 q73 q74 q75 q76 q77 q78 q79 q80 q81 q82 q83 q84 q85 q86 q87 q88 q89 q90 q91 q92 q93 q94 q95 q96 q97 q98 q99 q100 q101 q102 q103 q104 q105 q106 q107 q108 q109 q110 q111 q112 q113 q114 q115 q116 q117 q118 q119 q120 : Value) (J K' : Act → World → Prop) (hJ : ∀ a' w', RT13 X va g0 vc ls lab kk base W q0 q1 q2 q3 q4 q5 q7 q8 q10 q11 q12 q13 q14 q15 q16 q17 q18 q19 q20 q21 q22 q23 q24 q25 q26 q27 q28 q29 q30 q31 q32 q33 q34 q35 q36 q37 q38 q39 q40 q41 q42 q43 q44 q45 q46 q47 q48 q49 q50 q51 q64 q65 q66 q67 q68 q69 q70 q71 q72 q73 q74 q75 q76 q77 q78 q79 q80 q81 q82 q83 q84 q85 q86 q87 q88 q89 q90 q91 q92 q93 q94 q95 q96 q97 q98 q99 q100 q101 q102 q103 q104 q105 q106 q107 q108 q109 q110 q111 q112 q113 q114 q115 q116 q117 q118 q119 q120 a' w' → J a' w') (hM : ∀ a' w', Met J a' w' → K' a' w') :
    Code.wp Tryz.prog ((Tryz.f6.body.bind (regOf 13)).getD .skip) (Exit.then K' (fun _ _ _ => False)) ⟨[q0, q1, q2, q3, q4, q5, .pointer (some ⟨X, 0, none⟩), q7, q8, .int .i64 kk, q10, q11, q12, q13, q14, q15, q16, q17, q18, q19, q20, q21, q22, q23, q24, q25, q26, q27, q28, q29, q30, q31, q32, q33, q34, q35, q36, q37, q38, q39, q40, q41, q42, q43, q44, q45, q46, q47, q48, q49, q50, q51, q52, q53, q54, q55, q56, q57, q58, q59, q60, q61, q62, q63, q64, q65, q66, q67, q68, q69, q70, q71, q72, q73, q74, q75, q76, q77, q78, q79, q80, q81, q82, q83, q84, q85, q86, q87, q88, q89, q90, q91, q92, q93, q94, q95, q96, q97, q98, q99, q100, q101, q102, q103, q104, q105, q106, q107, q108, q109, q110, q111, q112, q113, q114, q115, q116, q117, q118, q119, q120].toArray, []⟩ W := by
  have hXl : X < W.heap.size := hx0.lt
  have hg0 : base ≤ g0 ∧ g0 < W.heap.size := RwOwn.lt hlo g0 rfl
  have HX0 := Lib.hid hx0; have HLO := Lib.hid hlo; have HLAB := Lib.hid hlab
  have hllI : (ls.length : Int) ≤ 1000000 := by omega
  have hkI : (kk : Int) < (ls.length : Int) := by omega
  clear hx0 hlo hlab
  conv => arg 2; whnf
  dsimp only
  refine region_by (by kernel_rfl) (by kernel_rfl) (IT13 X va g0 vc ls lab kk base W q0 q1 q2 q3 q4 q5 q7 q8 q10 q11 q12 q13 q14 q15 q16 q17 q18 q19 q20 q21 q22 q23 q24 q25 q26 q27 q28 q29 q30 q31 q32 q33 q34 q35 q36 q37 q38 q39 q40 q41 q42 q43 q44 q45 q46 q47 q48 q49 q50 q51 q64 q65 q66 q67 q68 q69 q70 q71 q72 q73 q74 q75 q76 q77 q78 q79 q80 q81 q82 q83 q84 q85 q86 q87 q88 q89 q90 q91 q92 q93 q94 q95 q96 q97 q98 q99 q100 q101 q102 q103 q104 q105 q106 q107 q108 q109 q110 q111 q112 q113 q114 q115 q116 q117 q118 q119 q120) ?_ ?_ ?_
  · exact ⟨0, 0, 0, q52, q53, q54, q55, q56, q57, q58, q59, q60, q61, q62, q63, ⟨(fun h => by cases h), (fun h => by cases h), (fun h => by cases h), (fun h => by cases h), (fun h => by cases h), (fun h => by cases h), (fun h => by cases h), (fun h => by cases h), (fun h => by cases h), (fun h => by cases h), (fun h => by cases h), (fun h => by cases h), (fun h => by cases h), (fun h => by cases h), (fun h => by cases h), (fun h => by cases h), (fun h => by cases h), (fun h => by cases h), (Fr3.old (Fr3.refl _ _ _ _) (Below.refl _ _).drew), (fun _ => HX0.out.old (Below.refl _ _).drew), (fun h => by cases h), (fun _ => RwOwn.old HLO.out (Below.refl _ _).drew), (fun h => fun _ => by cases h), (fun h => by cases h)⟩, rfl⟩
  · intro L act wx k hI hk hl hd
    obtain ⟨nb, gn, cn, z52, z53, z54, z55, z56, z57, z58, z59, z60, z61, z62, z63, hV, rfl⟩ := hI
    have hk : k = 0 ∨ k = 1 ∨ k = 2 ∨ k = 3 ∨ k = 4 ∨ k = 5 ∨ k = 6 ∨ k = 7 ∨ k = 8 ∨ k = 9 ∨ k = 10 ∨ k = 11 ∨ k = 12 := by
      have : k < 13 := hk
      omega
    rcases hk with rfl | rfl | rfl | rfl | rfl | rfl | rfl | rfl | rfl | rfl | rfl | rfl | rfl
    · have nl := kf hV.ord hl
      refine op_at _ rfl rfl (fun K' hK => ?_)
      conv => arg 2; whnf
      go_wp2_with fail
      exact ⟨nb, gn, cn, .pointer (some ⟨X, 1, none⟩), z53, z54, z55, z56, z57, z58, z59, z60, z61, z62, z63, ⟨(kl nl), (kq hV.p8_7), (kq hV.p9_7), (kq hV.p10_7), (kq hV.p10_9), (kq hV.p12_10), (fun _ => rfl), (kc hV.c1), (kc hV.c2), (kc hV.c3), (kc hV.c4), (kc hV.c5), (kc hV.c6), (kc hV.c7), (kc hV.c8), (kc hV.c9), (kc hV.c10), (kc hV.c11), hV.fr, (fun h0 => hV.x (kb h0)), (kl nl), (fun h0 => hV.lo (kb h0)), (fun h0 => fun h1 => hV.r9 (kb h0) (kb h1)), (kc hV.r10)⟩, rfl⟩
    · have nl := kf hV.ord hl
      have d0 : L 0 = true := hd _ rfl ⟨0, .data⟩ (by simp) rfl
      obtain rfl := (hV.c0 d0).symm
      have ho := hV.x nl
      have x1 := ho.at 1 _ rfl
      refine op_at _ rfl rfl (fun K' hK => ?_)
      conv => arg 2; whnf
      go_wp2_with fail
      exact ⟨nb, gn, cn, .pointer (some ⟨X, 1, none⟩), .slice (some ⟨g0, 0, none⟩) ls.length vc, z54, z55, z56, z57, z58, z59, z60, z61, z62, z63, ⟨(kl nl), (kq hV.p8_7), (kq hV.p9_7), (kq hV.p10_7), (kq hV.p10_9), (kq hV.p12_10), (kc hV.c0), (fun _ => rfl), (kc hV.c2), (kc hV.c3), (kc hV.c4), (kc hV.c5), (kc hV.c6), (kc hV.c7), (kc hV.c8), (kc hV.c9), (kc hV.c10), (kc hV.c11), hV.fr, (fun h0 => hV.x (kb h0)), (kl nl), (fun h0 => hV.lo (kb h0)), (fun h0 => fun h1 => hV.r9 (kb h0) (kb h1)), (kc hV.r10)⟩, rfl⟩
    · have nl := kf hV.ord hl
      refine op_at _ rfl rfl (fun K' hK => ?_)
      conv => arg 2; whnf
      go_wp2_with fail
      exact ⟨nb, gn, cn, z52, z53, .pointer (some ⟨X, 1, none⟩), z55, z56, z57, z58, z59, z60, z61, z62, z63, ⟨(kl nl), (kq hV.p8_7), (kq hV.p9_7), (kq hV.p10_7), (kq hV.p10_9), (kq hV.p12_10), (kc hV.c0), (kc hV.c1), (fun _ => rfl), (kc hV.c3), (kc hV.c4), (kc hV.c5), (kc hV.c6), (kc hV.c7), (kc hV.c8), (kc hV.c9), (kc hV.c10), (kc hV.c11), hV.fr, (fun h0 => hV.x (kb h0)), (kl nl), (fun h0 => hV.lo (kb h0)), (fun h0 => fun h1 => hV.r9 (kb h0) (kb h1)), (kc hV.r10)⟩, rfl⟩
    · have nl := kf hV.ord hl
      have d2 : L 2 = true := hd _ rfl ⟨2, .data⟩ (by simp) rfl
      obtain rfl := (hV.c2 d2).symm
      have ho := hV.x nl
      have x1 := ho.at 1 _ rfl
      refine op_at _ rfl rfl (fun K' hK => ?_)
      conv => arg 2; whnf
      go_wp2_with fail
      exact ⟨nb, gn, cn, z52, z53, .pointer (some ⟨X, 1, none⟩), .slice (some ⟨g0, 0, none⟩) ls.length vc, z56, z57, z58, z59, z60, z61, z62, z63, ⟨(kl nl), (kq hV.p8_7), (kq hV.p9_7), (kq hV.p10_7), (kq hV.p10_9), (kq hV.p12_10), (kc hV.c0), (kc hV.c1), (kc hV.c2), (fun _ => rfl), (kc hV.c4), (kc hV.c5), (kc hV.c6), (kc hV.c7), (kc hV.c8), (kc hV.c9), (kc hV.c10), (kc hV.c11), hV.fr, (fun h0 => hV.x (kb h0)), (kl nl), (fun h0 => hV.lo (kb h0)), (fun h0 => fun h1 => hV.r9 (kb h0) (kb h1)), (kc hV.r10)⟩, rfl⟩
    · have nl := kf hV.ord hl
      refine op_at _ rfl rfl (fun K' hK => ?_)
      conv => arg 2; whnf
      go_wp2_with fail
      exact ⟨nb, gn, cn, z52, z53, z54, z55, .int .i64 kk, z57, z58, z59, z60, z61, z62, z63, ⟨(kl nl), (kq hV.p8_7), (kq hV.p9_7), (kq hV.p10_7), (kq hV.p10_9), (kq hV.p12_10), (kc hV.c0), (kc hV.c1), (kc hV.c2), (kc hV.c3), (fun _ => rfl), (kc hV.c5), (kc hV.c6), (kc hV.c7), (kc hV.c8), (kc hV.c9), (kc hV.c10), (kc hV.c11), hV.fr, (fun h0 => hV.x (kb h0)), (kl nl), (fun h0 => hV.lo (kb h0)), (fun h0 => fun h1 => hV.r9 (kb h0) (kb h1)), (kc hV.r10)⟩, rfl⟩
    · have nl := kf hV.ord hl
      have d3 : L 3 = true := hd _ rfl ⟨3, .data⟩ (by simp) rfl
      obtain rfl := (hV.c3 d3).symm
      have d4 : L 4 = true := hd _ rfl ⟨4, .data⟩ (by simp) rfl
      obtain rfl := (hV.c4 d4).symm
      refine op_at _ rfl rfl (fun K' hK => ?_)
      conv => arg 2; whnf
      go_wp2_with fail
      exact ⟨nb, gn, cn, z52, z53, z54, .slice (some ⟨g0, 0, none⟩) ls.length vc, .int .i64 kk, .pointer (some ⟨g0, kk * 7, none⟩), z58, z59, z60, z61, z62, z63, ⟨(kl nl), (kq hV.p8_7), (kq hV.p9_7), (kq hV.p10_7), (kq hV.p10_9), (kq hV.p12_10), (kc hV.c0), (kc hV.c1), (kc hV.c2), (kc hV.c3), (kc hV.c4), (fun _ => rfl), (kc hV.c6), (kc hV.c7), (kc hV.c8), (kc hV.c9), (kc hV.c10), (kc hV.c11), hV.fr, (fun h0 => hV.x (kb h0)), (kl nl), (fun h0 => hV.lo (kb h0)), (fun h0 => fun h1 => hV.r9 (kb h0) (kb h1)), (kc hV.r10)⟩, rfl⟩
    · have nl := kf hV.ord hl
      have d5 : L 5 = true := hd _ rfl ⟨5, .data⟩ (by simp) rfl
      obtain rfl := (hV.c5 d5).symm
      refine op_at _ rfl rfl (fun K' hK => ?_)
      conv => arg 2; whnf
      go_wp2_with fail
      exact ⟨nb, gn, cn, z52, z53, z54, z55, z56, .pointer (some ⟨g0, kk * 7, none⟩), .pointer (some ⟨g0, kk * 7, none⟩), z59, z60, z61, z62, z63, ⟨(kl nl), (kq hV.p8_7), (kq hV.p9_7), (kq hV.p10_7), (kq hV.p10_9), (kq hV.p12_10), (kc hV.c0), (kc hV.c1), (kc hV.c2), (kc hV.c3), (kc hV.c4), (kc hV.c5), (fun _ => rfl), (kc hV.c7), (kc hV.c8), (kc hV.c9), (kc hV.c10), (kc hV.c11), hV.fr, (fun h0 => hV.x (kb h0)), (kl nl), (fun h0 => hV.lo (kb h0)), (fun h0 => fun h1 => hV.r9 (kb h0) (kb h1)), (kc hV.r10)⟩, rfl⟩
    · have nl := kf hV.ord hl
      have d6 : L 6 = true := hd _ rfl ⟨6, .data⟩ (by simp) rfl
      obtain rfl := (hV.c6 d6).symm
      have n10 : L 10 = false := by
        cases h : L 10 with
        | false => rfl
        | true => have := hV.p10_7 h; rw [hl] at this; cases this
      have hlc := lns_lab (hV.lo n10) hkl
      rw [HLAB.out] at hlc
      have hgl := World.block_lt_of_cell? _ _ hlc
      refine op_at _ rfl rfl (fun K' hK => ?_)
      conv => arg 2; whnf
      go_wp2_with fail
      exact ⟨nb, gn, cn, z52, z53, z54, z55, z56, z57, .pointer (some ⟨g0, kk * 7, none⟩), .string (strOf lab), z60, z61, z62, z63, ⟨(kl nl), (fun _ => upd_same L 7), (fun _ => upd_same L 7), (fun _ => upd_same L 7), (kq hV.p10_9), (kq hV.p12_10), (kc hV.c0), (kc hV.c1), (kc hV.c2), (kc hV.c3), (kc hV.c4), (kc hV.c5), (kc hV.c6), (fun _ => rfl), (kc hV.c8), (kc hV.c9), (kc hV.c10), (kc hV.c11), hV.fr, (fun h0 => hV.x (kb h0)), (kl nl), (fun h0 => hV.lo (kb h0)), (fun h0 => fun h1 => hV.r9 (kb h0) (kb h1)), (kc hV.r10)⟩, rfl⟩
    · have nl := kf hV.ord hl
      have d7 : L 7 = true := hd _ rfl ⟨7, .data⟩ (by simp) rfl
      obtain rfl := (hV.c7 d7).symm
      refine op_at _ rfl rfl (fun K' hK => ?_)
      conv => arg 2; whnf
      go_wp2_with fail
      exact ⟨nb, gn, cn, z52, z53, z54, z55, z56, z57, z58, .string (strOf lab), .agg #[.string (strOf lab), .int .i64 0, .int .i64 0, .int .i64 0, .int .i64 0, .int .i64 0, .string ⟨#[]⟩], z61, z62, z63, ⟨(kl nl), (kd (d7)), (kq hV.p9_7), (kq hV.p10_7), (kq hV.p10_9), (kq hV.p12_10), (kc hV.c0), (kc hV.c1), (kc hV.c2), (kc hV.c3), (kc hV.c4), (kc hV.c5), (kc hV.c6), (kc hV.c7), (fun _ => rfl), (kc hV.c9), (kc hV.c10), (kc hV.c11), hV.fr, (fun h0 => hV.x (kb h0)), (kl nl), (fun h0 => hV.lo (kb h0)), (fun h0 => fun h1 => hV.r9 (kb h0) (kb h1)), (kc hV.r10)⟩, rfl⟩
    · have nl := kf hV.ord hl
      have d8 : L 8 = true := hd _ rfl ⟨8, .data⟩ (by simp) rfl
      obtain rfl := (hV.c8 d8).symm
      have hal : Below wx.heap.size wx (wx.alloc (.cells #[.string (strOf lab), .int .i64 0, .int .i64 0, .int .i64 0, .int .i64 0, .int .i64 0, .string ⟨#[]⟩] 44)) := (Below.refl _ _).alloc (Nat.le_refl _) _
      have hfs := hV.fr.size
      refine op_at _ rfl rfl (fun K' hK => ?_)
      conv => arg 2; whnf
      go_wp2_with fail
      exact ⟨wx.heap.size, gn, cn, z52, z53, z54, z55, z56, z57, z58, z59, .agg #[.string (strOf lab), .int .i64 0, .int .i64 0, .int .i64 0, .int .i64 0, .int .i64 0, .string ⟨#[]⟩], .slice (some ⟨(wx.heap.size), 0, none⟩) 1 1, z62, z63, ⟨(kl nl), (kq hV.p8_7), (kd (hV.p8_7 d8)), (kq hV.p10_7), (fun _ => upd_same L 9), (kq hV.p12_10), (kc hV.c0), (kc hV.c1), (kc hV.c2), (kc hV.c3), (kc hV.c4), (kc hV.c5), (kc hV.c6), (kc hV.c7), (kc hV.c8), (fun _ => rfl), (kc hV.c10), (kc hV.c11), (Fr3.old (hV.fr) hal), (fun h0 => OwnAt.old (hV.x (kb h0)) hal), (kl nl), (fun h0 => RwOwn.old (hV.lo (kb h0)) hal), (fun _ _ => ⟨OwnAt.new wx (lnCells ⟨lab, zeroI 0⟩) 44, hfs⟩), (kn hV.p10_9 hl)⟩, rfl⟩
    · have nl := kf hV.ord hl
      have d1 : L 1 = true := hd _ rfl ⟨1, .data⟩ (by simp) rfl
      obtain rfl := (hV.c1 d1).symm
      have d9 : L 9 = true := hd _ rfl ⟨9, .data⟩ (by simp) rfl
      obtain rfl := (hV.c9 d9).symm
      have hr8 := hV.r9 d9 hl
      have hlo := hV.lo hl
      have hfs := hV.fr.size
      refine op_at _ rfl rfl (fun K' hK => ?_)
      conv => arg 2; whnf
      refine wp_lnSnoc wx _ _ rfl base ls _ rfl hlo ⟨lab, zeroI 0⟩ nb 1 rfl hr8.1 hll (Nat.le_trans hbase hfs) ?_
      intro g2 cap2 w2 hr2 hg2 ha2 hl2
      go_wp2_with fail
      exact ⟨nb, g2, cap2, z52, .slice (some ⟨g0, 0, none⟩) ls.length vc, z54, z55, z56, z57, z58, z59, z60, .slice (some ⟨nb, 0, none⟩) 1 1, .slice (some ⟨(g2), 0, none⟩) (ls.length + 1) (cap2), z63, ⟨(kl nl), (kq hV.p8_7), (kq hV.p9_7), (kd (hV.p9_7 d9)), (kd (d9)), (fun _ => upd_same L 10), (kc hV.c0), (kc hV.c1), (kc hV.c2), (kc hV.c3), (kc hV.c4), (kc hV.c5), (kc hV.c6), (kc hV.c7), (kc hV.c8), (kc hV.c9), (fun _ => rfl), (kc hV.c11), (hV.fr.grown hg2 (.inl rfl)), (fun _ => (hV.x nl).grow hg2 (fun e => by have e : g0 = X := (by injection e); exact hvX e)), (kl nl), (ks), (fun _ => ks), (fun _ => ⟨hr2, by rcases ha2 with h | h; exact .inl (by injection h); exact .inr (by rw [h]; exact hfs)⟩)⟩, rfl⟩
    · have nl := kf hV.ord hl
      refine op_at _ rfl rfl (fun K' hK => ?_)
      conv => arg 2; whnf
      go_wp2_with fail
      exact ⟨nb, gn, cn, z52, z53, z54, z55, z56, z57, z58, z59, z60, z61, z62, .pointer (some ⟨X, 1, none⟩), ⟨(kl nl), (kq hV.p8_7), (kq hV.p9_7), (kq hV.p10_7), (kq hV.p10_9), (kq hV.p12_10), (kc hV.c0), (kc hV.c1), (kc hV.c2), (kc hV.c3), (kc hV.c4), (kc hV.c5), (kc hV.c6), (kc hV.c7), (kc hV.c8), (kc hV.c9), (kc hV.c10), (fun _ => rfl), hV.fr, (fun h0 => hV.x (kb h0)), (kl nl), (fun h0 => hV.lo (kb h0)), (fun h0 => fun h1 => hV.r9 (kb h0) (kb h1)), (kc hV.r10)⟩, rfl⟩
    · have before : ∀ j, j < 12 → L j = true := fun j hj => by
        have hj : j = 0 ∨ j = 1 ∨ j = 2 ∨ j = 3 ∨ j = 4 ∨ j = 5 ∨ j = 6 ∨ j = 7 ∨ j = 8 ∨ j = 9 ∨ j = 10 ∨ j = 11 := by omega
        rcases hj with rfl | rfl | rfl | rfl | rfl | rfl | rfl | rfl | rfl | rfl | rfl | rfl
        · exact hd _ rfl ⟨0, .phase⟩ (by simp) rfl
        · exact hd _ rfl ⟨1, .phase⟩ (by simp) rfl
        · exact hd _ rfl ⟨2, .phase⟩ (by simp) rfl
        · exact hd _ rfl ⟨3, .phase⟩ (by simp) rfl
        · exact hd _ rfl ⟨4, .phase⟩ (by simp) rfl
        · exact hd _ rfl ⟨5, .phase⟩ (by simp) rfl
        · exact hd _ rfl ⟨6, .phase⟩ (by simp) rfl
        · exact hd _ rfl ⟨7, .phase⟩ (by simp) rfl
        · exact hd _ rfl ⟨8, .phase⟩ (by simp) rfl
        · exact hd _ rfl ⟨9, .phase⟩ (by simp) rfl
        · exact hd _ rfl ⟨10, .data⟩ (by simp) rfl
        · exact hd _ rfl ⟨11, .data⟩ (by simp) rfl
      have d10 : L 10 = true := hd _ rfl ⟨10, .data⟩ (by simp) rfl
      obtain rfl := (hV.c10 d10).symm
      have d11 : L 11 = true := hd _ rfl ⟨11, .data⟩ (by simp) rfl
      obtain rfl := (hV.c11 d11).symm
      have hx := hV.x hl
      have x1 := hx.at 1 _ rfl
      have fx := hx.fz 1
      have hxl := hx.lt
      have hr9 := hV.r10 (before 10 (by decide))
      refine op_at _ rfl rfl (fun K' hK => ?_)
      conv => arg 2; whnf
      go_wp2_with fail
      exact ⟨nb, gn, cn, z52, z53, z54, z55, z56, z57, z58, z59, z60, z61, .slice (some ⟨gn, 0, none⟩) (ls.length + 1) cn, .pointer (some ⟨X, 1, none⟩), ⟨(fun _ j hj => by rw [upd_ne L (show j ≠ 12 by omega)]; exact before j hj), (kq hV.p8_7), (kq hV.p9_7), (kq hV.p10_7), (kq hV.p10_9), (kd (before 10 (by decide))), (kc hV.c0), (kc hV.c1), (kc hV.c2), (kc hV.c3), (kc hV.c4), (kc hV.c5), (kc hV.c6), (kc hV.c7), (kc hV.c8), (kc hV.c9), (kc hV.c10), (kc hV.c11), (hV.fr.set hXl 1 (.slice (some ⟨gn, 0, none⟩) (ls.length + 1) cn)), (ks), (fun _ => hx.set 1 (.slice (some ⟨gn, 0, none⟩) (ls.length + 1) cn)), (fun h => by rw [upd_ne L (show 10 ≠ 12 by decide), before 10 (by decide)] at h; cases h), (fun _ h => by rw [upd_ne L (show 10 ≠ 12 by decide), before 10 (by decide)] at h; cases h), (fun _ => ⟨RwOwn.set hr9.1 (fun e => by have e : gn = X := (by injection e); rcases hr9.2 with h | h; exact hvX (h.trans e); omega) 1 (.slice (some ⟨gn, 0, none⟩) (ls.length + 1) cn), hr9.2⟩)⟩, rfl⟩
  · intro L act wx hI hall
    obtain ⟨nb, gn, cn, z52, z53, z54, z55, z56, z57, z58, z59, z60, z61, z62, z63, hV, rfl⟩ := hI
    obtain rfl := (hV.c0 (hall 0 (by decide))).symm
    obtain rfl := (hV.c1 (hall 1 (by decide))).symm
    obtain rfl := (hV.c2 (hall 2 (by decide))).symm
    obtain rfl := (hV.c3 (hall 3 (by decide))).symm
    obtain rfl := (hV.c4 (hall 4 (by decide))).symm
    obtain rfl := (hV.c5 (hall 5 (by decide))).symm
    obtain rfl := (hV.c6 (hall 6 (by decide))).symm
    obtain rfl := (hV.c7 (hall 7 (by decide))).symm
    obtain rfl := (hV.c8 (hall 8 (by decide))).symm
    obtain rfl := (hV.c9 (hall 9 (by decide))).symm
    obtain rfl := (hV.c10 (hall 10 (by decide))).symm
    obtain rfl := (hV.c11 (hall 11 (by decide))).symm
    exact hM _ _ (Met.intro (hJ _ _ ⟨nb, gn, cn, ⟨hV.fr, hV.x3 (hall 12 (by decide)), hV.r10 (hall 10 (by decide))⟩, rfl⟩))
end Go.Proofs.YtnfkllbkgpmgoaaGreatDoor
