/-
  Fit of raw lines: an instruction behind the others, in whatever order it is built. Conditions: what is read lies in memory, apart.
  Code that is made of raw lines, in memory: its rows grow, its lines are named. No condition.
  Code out of raw lines: its walk. Conditions: the raw lines lie in memory, their numbers are ints.
-/
import Derived.Test.YtlkfmnabbmceeaaGreatDoorAsmH
import Derived.Test.YtlkfmnabbmceeaaGreatDoorInstrF
import Derived.Test.YtlkfmnabbmceeaaGreatDoorAsmA
import Derived.Test.YtlkfmnabbmceeaaGreatDoorAsmI
set_option linter.unusedVariables false
set_option linter.unusedSimpArgs false
namespace Go.Proofs.YtlkfmnabbmceeaaGreatDoor
open Go.RowKit
set_option maxHeartbeats 8000000
set_option maxRecDepth 100000

/-- An instruction's cells, one behind a place. -/
def ICells (w : World) (b o : Nat) (x : Ins) : Prop := ∀ q u, (insCells x)[q]? = some u → w.cell? ⟨b, o + (1 + q), none⟩ = some u
theorem ICells.all {w : World} {b o : Nat} {x : Ins} (h : ICells w b o x) : w.cell? ⟨b, o + 1, none⟩ = some (.int .i64 x.op) ∧ w.cell? ⟨b, o + 2, none⟩ = some (.int .i64 x.d) ∧ w.cell? ⟨b, o + 3, none⟩ = some (.int .i64 x.a) ∧ w.cell? ⟨b, o + 4, none⟩ = some (.int .i64 x.b) ∧ w.cell? ⟨b, o + 5, none⟩ = some (.int .i64 x.n) ∧ w.cell? ⟨b, o + 6, none⟩ = some (.string (strOf x.name)) :=
  ⟨h 0 _ rfl, h 1 _ rfl, h 2 _ rfl, h 3 _ rfl, h 4 _ rfl, h 5 _ rfl⟩
theorem ICells.old {w w' : World} {b o : Nat} {x : Ins} (h : ICells w b o x) (hb : Below w.heap.size w w') : ICells w' b o x := fun q u hu => below_keeps hb (h q u hu)
theorem cell_heap {w w' : World} {b o : Nat} (h : w'.heap[b]? = w.heap[b]?) : w'.cell? ⟨b, o, none⟩ = w.cell? ⟨b, o, none⟩ := by
  simp only [World.cell?, h]
theorem ICells.grow {w w' : World} {b o : Nat} {x : Ins} (h : ICells w b o x) {row : Option Nat} (hg : w.grownBy w' row) (hr : row ≠ some b) : ICells w' b o x := fun q u hu => by
  have h1 := h q u hu
  rw [cell_heap (hg.block b (World.block_lt_of_cell? _ _ h1) (fun e => hr e.symm))]; exact h1
theorem ICells.other {w : World} {b o : Nat} {x : Ins} (h : ICells w b o x) {k : Nat} (hk : b ≠ k) (i : Nat) (v : Value) : ICells (w.setCell ⟨k, i, none⟩ v) b o x := fun q u hu => by
  rw [cell_heap (Below.heap_setCell _ _ _ _ hk)]; exact h q u hu
structure VF16 (X : Nat) (va vl : Value) (ls : List Ln) (xi yi : Ins) (rb ro rn rc i : Nat) (base : Nat) (W : World) (L : Nat → Bool) (nb : Nat) (gn : Nat) (cn : Nat) (z68 z69 z70 z71 z72 z73 z74 z75 z76 z77 z78 z79 : Value) (wx : World) : Prop where
  ord : L 12 = true → ∀ j, j < 12 → L j = true
  p8_7 : L 8 = true → L 7 = true
  p9_7 : L 9 = true → L 7 = true
  p10_7 : L 10 = true → L 7 = true
  p10_9 : L 10 = true → L 9 = true
  p12_10 : L 12 = true → L 10 = true
  c0 : L 0 = true → z68 = .pointer (some ⟨X, 1, none⟩)
  c1 : L 1 = true → z69 = vl
  c2 : L 2 = true → z70 = .slice (some ⟨rb, ro, none⟩) rn rc
  c3 : L 3 = true → z71 = .int .i64 i
  c4 : L 4 = true → z72 = .pointer (some ⟨rb, ro + i * 7, none⟩)
  c5 : L 5 = true → z73 = .pointer (some ⟨rb, ro + i * 7 + 1, none⟩)
  c6 : L 6 = true → z74 = .agg #[.int .i64 xi.op, .int .i64 xi.d, .int .i64 xi.a, .int .i64 xi.b, .int .i64 xi.n, .string (strOf xi.name)]
  c7 : L 7 = true → z75 = .agg #[.int .i64 yi.op, .int .i64 yi.d, .int .i64 yi.a, .int .i64 yi.b, .int .i64 yi.n, .string (strOf yi.name)]
  c8 : L 8 = true → z76 = .agg #[.string ⟨#[]⟩, .int .i64 yi.op, .int .i64 yi.d, .int .i64 yi.a, .int .i64 yi.b, .int .i64 yi.n, .string (strOf yi.name)]
  c9 : L 9 = true → z77 = .slice (some ⟨nb, 0, none⟩) 1 1
  c10 : L 10 = true → z78 = .slice (some ⟨gn, 0, none⟩) (ls.length + 1) cn
  c11 : L 11 = true → z79 = .pointer (some ⟨X, 1, none⟩)
  fr : Fr3 X vl vl W wx
  x : L 12 = false → OwnAt wx X [va, vl] 26
  x3 : L 12 = true → OwnAt wx X [va, .slice (some ⟨gn, 0, none⟩) (ls.length + 1) cn] 26
  ra : ICells wx rb (ro + i * 7) xi
  lo : L 10 = false → LnsOwn wx base ls vl
  r9 : L 9 = true → L 10 = false → OwnAt wx nb (lnCells ⟨[], yi⟩) 48 ∧ W.heap.size ≤ nb
  r10 : L 10 = true → LnsOwn wx base (ls ++ [⟨[], yi⟩]) (.slice (some ⟨gn, 0, none⟩) (ls.length + 1) cn) ∧ (vl.ownBlock = some gn ∨ W.heap.size ≤ gn)
def IF16 (X : Nat) (va vl : Value) (ls : List Ln) (xi yi : Ins) (rb ro rn rc i : Nat) (base : Nat) (W : World) (q1 q2 q4 q6 q7 q8 q9 q10 q11 q12 q13 q14 q15 q16 q17 q18 q19 q20 q21 q22 q23 q24 q25 q26 q27 q28 q29 q30 q31 q32 q33 q34 q35 q36 q37 q38 q39 q40 q41 q42 q43 q44 q45 q46 q47 q48 q49 q50 q51 q52 q53 q54 q55 q56 q57 q58 q59 q60 q61 q62 q63 q64 q65 q66 q67 q80 q81 q82 q83 q84 q85 q86 q87 q88 q89 q90 q91 q92 q93 q94 q95 q96 q97 q98 q99 q100 q101 q102 q103 q104 q105 q106 q107 q108 q109 q110 q111 q112 q113 q114 q115 q116 q117 q118 q119 q120 q121 q122 q123 q124 q125 q126 q127 q128 q129 q130 q131 q132 q133 q134 q135 q136 q137 q138 q139 : Value) (L : Nat → Bool) (a' : Act) (w' : World) : Prop :=
  ∃ nb : Nat, ∃ gn : Nat, ∃ cn : Nat, ∃ z68 z69 z70 z71 z72 z73 z74 z75 z76 z77 z78 z79 : Value, VF16 X va vl ls xi yi rb ro rn rc i base W L nb gn cn z68 z69 z70 z71 z72 z73 z74 z75 z76 z77 z78 z79 w' ∧ a' = ⟨[.slice (some ⟨rb, ro, none⟩) rn rc, q1, q2, .pointer (some ⟨X, 0, none⟩), q4, .int .i64 i, q6, q7, q8, q9, q10, q11, q12, q13, q14, q15, q16, q17, q18, q19, q20, q21, q22, q23, q24, q25, q26, q27, q28, q29, q30, q31, q32, q33, q34, q35, q36, q37, q38, q39, q40, q41, q42, q43, q44, q45, q46, q47, q48, q49, q50, q51, q52, q53, q54, q55, q56, q57, q58, q59, q60, q61, q62, q63, q64, q65, q66, q67, z68, z69, z70, z71, z72, z73, z74, z75, z76, z77, z78, z79, q80, q81, q82, q83, q84, q85, q86, q87, q88, q89, q90, q91, q92, q93, q94, q95, q96, q97, q98, q99, q100, q101, q102, q103, q104, q105, q106, q107, q108, q109, q110, q111, q112, q113, q114, q115, q116, q117, q118, q119, q120, q121, q122, q123, q124, q125, q126, q127, q128, q129, q130, q131, q132, q133, q134, q135, q136, q137, q138, q139].toArray, []⟩
def RF16 (X : Nat) (va vl : Value) (ls : List Ln) (xi yi : Ins) (rb ro rn rc i : Nat) (base : Nat) (W : World) (q1 q2 q4 q6 q7 q8 q9 q10 q11 q12 q13 q14 q15 q16 q17 q18 q19 q20 q21 q22 q23 q24 q25 q26 q27 q28 q29 q30 q31 q32 q33 q34 q35 q36 q37 q38 q39 q40 q41 q42 q43 q44 q45 q46 q47 q48 q49 q50 q51 q52 q53 q54 q55 q56 q57 q58 q59 q60 q61 q62 q63 q64 q65 q66 q67 q80 q81 q82 q83 q84 q85 q86 q87 q88 q89 q90 q91 q92 q93 q94 q95 q96 q97 q98 q99 q100 q101 q102 q103 q104 q105 q106 q107 q108 q109 q110 q111 q112 q113 q114 q115 q116 q117 q118 q119 q120 q121 q122 q123 q124 q125 q126 q127 q128 q129 q130 q131 q132 q133 q134 q135 q136 q137 q138 q139 : Value) (a' : Act) (w' : World) : Prop :=
  ∃ nb : Nat, ∃ gn : Nat, ∃ cn : Nat, ((Fr3 X vl vl W w') ∧ (OwnAt w' X [va, .slice (some ⟨gn, 0, none⟩) (ls.length + 1) cn] 26) ∧ (LnsOwn w' base (ls ++ [⟨[], yi⟩]) (.slice (some ⟨gn, 0, none⟩) (ls.length + 1) cn) ∧ (vl.ownBlock = some gn ∨ W.heap.size ≤ gn))) ∧ a' = ⟨[.slice (some ⟨rb, ro, none⟩) rn rc, q1, q2, .pointer (some ⟨X, 0, none⟩), q4, .int .i64 i, q6, q7, q8, q9, q10, q11, q12, q13, q14, q15, q16, q17, q18, q19, q20, q21, q22, q23, q24, q25, q26, q27, q28, q29, q30, q31, q32, q33, q34, q35, q36, q37, q38, q39, q40, q41, q42, q43, q44, q45, q46, q47, q48, q49, q50, q51, q52, q53, q54, q55, q56, q57, q58, q59, q60, q61, q62, q63, q64, q65, q66, q67, .pointer (some ⟨X, 1, none⟩), vl, .slice (some ⟨rb, ro, none⟩) rn rc, .int .i64 i, .pointer (some ⟨rb, ro + i * 7, none⟩), .pointer (some ⟨rb, ro + i * 7 + 1, none⟩), .agg #[.int .i64 xi.op, .int .i64 xi.d, .int .i64 xi.a, .int .i64 xi.b, .int .i64 xi.n, .string (strOf xi.name)], .agg #[.int .i64 yi.op, .int .i64 yi.d, .int .i64 yi.a, .int .i64 yi.b, .int .i64 yi.n, .string (strOf yi.name)], .agg #[.string ⟨#[]⟩, .int .i64 yi.op, .int .i64 yi.d, .int .i64 yi.a, .int .i64 yi.b, .int .i64 yi.n, .string (strOf yi.name)], .slice (some ⟨nb, 0, none⟩) 1 1, .slice (some ⟨gn, 0, none⟩) (ls.length + 1) cn, .pointer (some ⟨X, 1, none⟩), q80, q81, q82, q83, q84, q85, q86, q87, q88, q89, q90, q91, q92, q93, q94, q95, q96, q97, q98, q99, q100, q101, q102, q103, q104, q105, q106, q107, q108, q109, q110, q111, q112, q113, q114, q115, q116, q117, q118, q119, q120, q121, q122, q123, q124, q125, q126, q127, q128, q129, q130, q131, q132, q133, q134, q135, q136, q137, q138, q139].toArray, []⟩
theorem reg_F16 (X : Nat) (va vl : Value) (ls : List Ln) (xi yi : Ins) (rb ro rn rc i : Nat) (base : Nat) (W : World) (hx0 : OwnAt W X [va, vl] 26) (hra : ICells W rb (ro + i * 7) xi) (hrX : rb ≠ X) (hrv : vl.ownBlock ≠ some rb) (hlo : LnsOwn W base ls vl) (hvX : vl.ownBlock ≠ some X) (hll : ls.length ≤ 1000000) (hbase : base ≤ W.heap.size) (hin : i < rn) (hrn : rn ≤ 140737488355328) (HF : Hid (∀ w, Calls Tryz.prog 14 #[.agg #[.int .i64 xi.op, .int .i64 xi.d, .int .i64 xi.a, .int .i64 xi.b, .int .i64 xi.n, .string (strOf xi.name)]] w fun e w' => e = .returned (.agg #[.int .i64 yi.op, .int .i64 yi.d, .int .i64 yi.a, .int .i64 yi.b, .int .i64 yi.n, .string (strOf yi.name)]) ∧ Below w.heap.size w w')) (q1 q2 q4 q6 q7 q8 q9 q10 q11 q12 q13 q14 q15 q16 q17 q18 q19 q20 q21 q22 q23 q24 q25 q26 q27 q28 q29 q30 q31 q32 q33 q34 q35 q36 q37 q38 q39 q40 q41 q42 q43 q44 q45 q46 q47 q48 q49 q50 q51 q52 q53 q54 q55 q56 q57 q58 q59 q60 q61 q62 q63 q64 q65 q66 q67 q68 q69 q70 q71 q72 q73 q74 q75 q76 q77 q78 q79 q80 q81 q82 q83 q84 q85 q86 q87 q88 q89 q90 q91 q92 q93 q94 q95 q96 q97 q98 q99 q100 q101 q102 q103 q104 q105 q106 q107 q108 q109 q110 q111 q112 q113 q114 q115 q116 q117 q118 q119 q120 q121 q122 q123 q124 q125 q126 q127 q128 q129 q130 q131 q132 q133 q134 q135 q136 q137 q138 q139 : Value) (J K' : Act → World → Prop) (hJ : ∀ a' w', RF16 X va vl ls xi yi rb ro rn rc i base W q1 q2 q4 q6 q7 q8 q9 q10 q11 q12 q13 q14 q15 q16 q17 q18 q19 q20 q21 q22 q23 q24 q25 q26 q27 q28 q29 q30 q31 q32 q33 q34 q35 q36 q37 q38 q39 q40 q41 q42 q43 q44 q45 q46 q47 q48 q49 q50 q51 q52 q53 q54 q55 q56 q57 q58 q59 q60 q61 q62 q63 q64 q65 q66 q67 q80 q81 q82 q83 q84 q85 q86 q87 q88 q89 q90 q91 q92 q93 q94 q95 q96 q97 q98 q99 q100 q101 q102 q103 q104 q105 q106 q107 q108 q109 q110 q111 q112 q113 q114 q115 q116 q117 q118 q119 q120 q121 q122 q123 q124 q125 q126 q127 q128 q129 q130 q131 q132 q133 q134 q135 q136 q137 q138 q139 a' w' → J a' w') (hM : ∀ a' w', Met J a' w' → K' a' w') :
    Code.wp Tryz.prog ((Tryz.f7.body.bind (regOf 16)).getD .skip) (Exit.then K' (fun _ _ _ => False)) ⟨[.slice (some ⟨rb, ro, none⟩) rn rc, q1, q2, .pointer (some ⟨X, 0, none⟩), q4, .int .i64 i, q6, q7, q8, q9, q10, q11, q12, q13, q14, q15, q16, q17, q18, q19, q20, q21, q22, q23, q24, q25, q26, q27, q28, q29, q30, q31, q32, q33, q34, q35, q36, q37, q38, q39, q40, q41, q42, q43, q44, q45, q46, q47, q48, q49, q50, q51, q52, q53, q54, q55, q56, q57, q58, q59, q60, q61, q62, q63, q64, q65, q66, q67, q68, q69, q70, q71, q72, q73, q74, q75, q76, q77, q78, q79, q80, q81, q82, q83, q84, q85, q86, q87, q88, q89, q90, q91, q92, q93, q94, q95, q96, q97, q98, q99, q100, q101, q102, q103, q104, q105, q106, q107, q108, q109, q110, q111, q112, q113, q114, q115, q116, q117, q118, q119, q120, q121, q122, q123, q124, q125, q126, q127, q128, q129, q130, q131, q132, q133, q134, q135, q136, q137, q138, q139].toArray, []⟩ W := by
  have hXl : X < W.heap.size := hx0.lt
  have hvl : ∀ g, vl.ownBlock = some g → g < W.heap.size := fun g h => (RwOwn.lt hlo g h).2
  have HX0 := Lib.hid hx0; have HRA := Lib.hid hra; have HLO := Lib.hid hlo
  have HVX := Lib.hid hvX; have HVLT := Lib.hid hvl; have HRX := Lib.hid hrX; have HRV := Lib.hid hrv
  have hrnI : (rn : Int) ≤ 140737488355328 := by omega
  have hinI : (i : Int) < (rn : Int) := by omega
  clear hx0 hra hlo hvX hvl hrX hrv
  conv => arg 2; whnf
  dsimp only
  refine region_by (by kernel_rfl) (by kernel_rfl) (IF16 X va vl ls xi yi rb ro rn rc i base W q1 q2 q4 q6 q7 q8 q9 q10 q11 q12 q13 q14 q15 q16 q17 q18 q19 q20 q21 q22 q23 q24 q25 q26 q27 q28 q29 q30 q31 q32 q33 q34 q35 q36 q37 q38 q39 q40 q41 q42 q43 q44 q45 q46 q47 q48 q49 q50 q51 q52 q53 q54 q55 q56 q57 q58 q59 q60 q61 q62 q63 q64 q65 q66 q67 q80 q81 q82 q83 q84 q85 q86 q87 q88 q89 q90 q91 q92 q93 q94 q95 q96 q97 q98 q99 q100 q101 q102 q103 q104 q105 q106 q107 q108 q109 q110 q111 q112 q113 q114 q115 q116 q117 q118 q119 q120 q121 q122 q123 q124 q125 q126 q127 q128 q129 q130 q131 q132 q133 q134 q135 q136 q137 q138 q139) ?_ ?_ ?_
  · exact ⟨0, 0, 0, q68, q69, q70, q71, q72, q73, q74, q75, q76, q77, q78, q79, ⟨(fun h => by cases h), (fun h => by cases h), (fun h => by cases h), (fun h => by cases h), (fun h => by cases h), (fun h => by cases h), (fun h => by cases h), (fun h => by cases h), (fun h => by cases h), (fun h => by cases h), (fun h => by cases h), (fun h => by cases h), (fun h => by cases h), (fun h => by cases h), (fun h => by cases h), (fun h => by cases h), (fun h => by cases h), (fun h => by cases h), (Fr3.old (Fr3.refl _ _ _ _) (Below.refl _ _).drew), (fun _ => HX0.out.old (Below.refl _ _).drew), (fun h => by cases h), (HRA.out.old (Below.refl _ _).drew), (fun _ => RwOwn.old HLO.out (Below.refl _ _).drew), (fun h => fun _ => by cases h), (fun h => by cases h)⟩, rfl⟩
  · intro L act wx k hI hk hl hd
    obtain ⟨nb, gn, cn, z68, z69, z70, z71, z72, z73, z74, z75, z76, z77, z78, z79, hV, rfl⟩ := hI
    have hk : k = 0 ∨ k = 1 ∨ k = 2 ∨ k = 3 ∨ k = 4 ∨ k = 5 ∨ k = 6 ∨ k = 7 ∨ k = 8 ∨ k = 9 ∨ k = 10 ∨ k = 11 ∨ k = 12 := by
      have : k < 13 := hk
      omega
    rcases hk with rfl | rfl | rfl | rfl | rfl | rfl | rfl | rfl | rfl | rfl | rfl | rfl | rfl
    · have nl := kf hV.ord hl
      refine op_at _ rfl rfl (fun K' hK => ?_)
      conv => arg 2; whnf
      go_wp2_with fail
      exact ⟨nb, gn, cn, .pointer (some ⟨X, 1, none⟩), z69, z70, z71, z72, z73, z74, z75, z76, z77, z78, z79, ⟨(kl nl), (kq hV.p8_7), (kq hV.p9_7), (kq hV.p10_7), (kq hV.p10_9), (kq hV.p12_10), (fun _ => rfl), (kc hV.c1), (kc hV.c2), (kc hV.c3), (kc hV.c4), (kc hV.c5), (kc hV.c6), (kc hV.c7), (kc hV.c8), (kc hV.c9), (kc hV.c10), (kc hV.c11), hV.fr, (fun h0 => hV.x (kb h0)), (kl nl), hV.ra, (fun h0 => hV.lo (kb h0)), (fun h0 => fun h1 => hV.r9 (kb h0) (kb h1)), (kc hV.r10)⟩, rfl⟩
    · have nl := kf hV.ord hl
      have d0 : L 0 = true := hd _ rfl ⟨0, .data⟩ (by simp) rfl
      obtain rfl := (hV.c0 d0).symm
      have ho := hV.x nl
      have x1 := ho.at 1 _ rfl
      refine op_at _ rfl rfl (fun K' hK => ?_)
      conv => arg 2; whnf
      go_wp2_with fail
      exact ⟨nb, gn, cn, .pointer (some ⟨X, 1, none⟩), vl, z70, z71, z72, z73, z74, z75, z76, z77, z78, z79, ⟨(kl nl), (kq hV.p8_7), (kq hV.p9_7), (kq hV.p10_7), (kq hV.p10_9), (kq hV.p12_10), (kc hV.c0), (fun _ => rfl), (kc hV.c2), (kc hV.c3), (kc hV.c4), (kc hV.c5), (kc hV.c6), (kc hV.c7), (kc hV.c8), (kc hV.c9), (kc hV.c10), (kc hV.c11), hV.fr, (fun h0 => hV.x (kb h0)), (kl nl), hV.ra, (fun h0 => hV.lo (kb h0)), (fun h0 => fun h1 => hV.r9 (kb h0) (kb h1)), (kc hV.r10)⟩, rfl⟩
    · have nl := kf hV.ord hl
      refine op_at _ rfl rfl (fun K' hK => ?_)
      conv => arg 2; whnf
      go_wp2_with fail
      exact ⟨nb, gn, cn, z68, z69, .slice (some ⟨rb, ro, none⟩) rn rc, z71, z72, z73, z74, z75, z76, z77, z78, z79, ⟨(kl nl), (kq hV.p8_7), (kq hV.p9_7), (kq hV.p10_7), (kq hV.p10_9), (kq hV.p12_10), (kc hV.c0), (kc hV.c1), (fun _ => rfl), (kc hV.c3), (kc hV.c4), (kc hV.c5), (kc hV.c6), (kc hV.c7), (kc hV.c8), (kc hV.c9), (kc hV.c10), (kc hV.c11), hV.fr, (fun h0 => hV.x (kb h0)), (kl nl), hV.ra, (fun h0 => hV.lo (kb h0)), (fun h0 => fun h1 => hV.r9 (kb h0) (kb h1)), (kc hV.r10)⟩, rfl⟩
    · have nl := kf hV.ord hl
      refine op_at _ rfl rfl (fun K' hK => ?_)
      conv => arg 2; whnf
      go_wp2_with fail
      exact ⟨nb, gn, cn, z68, z69, z70, .int .i64 i, z72, z73, z74, z75, z76, z77, z78, z79, ⟨(kl nl), (kq hV.p8_7), (kq hV.p9_7), (kq hV.p10_7), (kq hV.p10_9), (kq hV.p12_10), (kc hV.c0), (kc hV.c1), (kc hV.c2), (fun _ => rfl), (kc hV.c4), (kc hV.c5), (kc hV.c6), (kc hV.c7), (kc hV.c8), (kc hV.c9), (kc hV.c10), (kc hV.c11), hV.fr, (fun h0 => hV.x (kb h0)), (kl nl), hV.ra, (fun h0 => hV.lo (kb h0)), (fun h0 => fun h1 => hV.r9 (kb h0) (kb h1)), (kc hV.r10)⟩, rfl⟩
    · have nl := kf hV.ord hl
      have d2 : L 2 = true := hd _ rfl ⟨2, .data⟩ (by simp) rfl
      obtain rfl := (hV.c2 d2).symm
      have d3 : L 3 = true := hd _ rfl ⟨3, .data⟩ (by simp) rfl
      obtain rfl := (hV.c3 d3).symm
      refine op_at _ rfl rfl (fun K' hK => ?_)
      conv => arg 2; whnf
      go_wp2_with fail
      exact ⟨nb, gn, cn, z68, z69, .slice (some ⟨rb, ro, none⟩) rn rc, .int .i64 i, .pointer (some ⟨rb, ro + i * 7, none⟩), z73, z74, z75, z76, z77, z78, z79, ⟨(kl nl), (kq hV.p8_7), (kq hV.p9_7), (kq hV.p10_7), (kq hV.p10_9), (kq hV.p12_10), (kc hV.c0), (kc hV.c1), (kc hV.c2), (kc hV.c3), (fun _ => rfl), (kc hV.c5), (kc hV.c6), (kc hV.c7), (kc hV.c8), (kc hV.c9), (kc hV.c10), (kc hV.c11), hV.fr, (fun h0 => hV.x (kb h0)), (kl nl), hV.ra, (fun h0 => hV.lo (kb h0)), (fun h0 => fun h1 => hV.r9 (kb h0) (kb h1)), (kc hV.r10)⟩, rfl⟩
    · have nl := kf hV.ord hl
      have d4 : L 4 = true := hd _ rfl ⟨4, .data⟩ (by simp) rfl
      obtain rfl := (hV.c4 d4).symm
      refine op_at _ rfl rfl (fun K' hK => ?_)
      conv => arg 2; whnf
      go_wp2_with fail
      exact ⟨nb, gn, cn, z68, z69, z70, z71, .pointer (some ⟨rb, ro + i * 7, none⟩), .pointer (some ⟨rb, ro + i * 7 + 1, none⟩), z74, z75, z76, z77, z78, z79, ⟨(kl nl), (kq hV.p8_7), (kq hV.p9_7), (kq hV.p10_7), (kq hV.p10_9), (kq hV.p12_10), (kc hV.c0), (kc hV.c1), (kc hV.c2), (kc hV.c3), (kc hV.c4), (fun _ => rfl), (kc hV.c6), (kc hV.c7), (kc hV.c8), (kc hV.c9), (kc hV.c10), (kc hV.c11), hV.fr, (fun h0 => hV.x (kb h0)), (kl nl), hV.ra, (fun h0 => hV.lo (kb h0)), (fun h0 => fun h1 => hV.r9 (kb h0) (kb h1)), (kc hV.r10)⟩, rfl⟩
    · have nl := kf hV.ord hl
      have d5 : L 5 = true := hd _ rfl ⟨5, .data⟩ (by simp) rfl
      obtain rfl := (hV.c5 d5).symm
      have hra := hV.ra
      obtain ⟨r0, r1, r2, r3, r4, r5⟩ := hra.all
      refine op_at _ rfl rfl (fun K' hK => ?_)
      conv => arg 2; whnf
      go_wp2_with fail
      exact ⟨nb, gn, cn, z68, z69, z70, z71, z72, .pointer (some ⟨rb, ro + i * 7 + 1, none⟩), .agg #[.int .i64 xi.op, .int .i64 xi.d, .int .i64 xi.a, .int .i64 xi.b, .int .i64 xi.n, .string (strOf xi.name)], z75, z76, z77, z78, z79, ⟨(kl nl), (kq hV.p8_7), (kq hV.p9_7), (kq hV.p10_7), (kq hV.p10_9), (kq hV.p12_10), (kc hV.c0), (kc hV.c1), (kc hV.c2), (kc hV.c3), (kc hV.c4), (kc hV.c5), (fun _ => rfl), (kc hV.c7), (kc hV.c8), (kc hV.c9), (kc hV.c10), (kc hV.c11), hV.fr, (fun h0 => hV.x (kb h0)), (kl nl), hV.ra, (fun h0 => hV.lo (kb h0)), (fun h0 => fun h1 => hV.r9 (kb h0) (kb h1)), (kc hV.r10)⟩, rfl⟩
    · have nl := kf hV.ord hl
      have d6 : L 6 = true := hd _ rfl ⟨6, .data⟩ (by simp) rfl
      obtain rfl := (hV.c6 d6).symm
      refine op_at _ rfl rfl (fun K' hK => ?_)
      conv => arg 2; whnf
      go_wp2_with fail
      refine (HF.out _).mono ?_
      rintro e w7 ⟨rfl, hal⟩
      go_wp2_with fail
      exact ⟨nb, gn, cn, z68, z69, z70, z71, z72, z73, .agg #[.int .i64 xi.op, .int .i64 xi.d, .int .i64 xi.a, .int .i64 xi.b, .int .i64 xi.n, .string (strOf xi.name)], .agg #[.int .i64 yi.op, .int .i64 yi.d, .int .i64 yi.a, .int .i64 yi.b, .int .i64 yi.n, .string (strOf yi.name)], z76, z77, z78, z79, ⟨(kl nl), (fun _ => upd_same L 7), (fun _ => upd_same L 7), (fun _ => upd_same L 7), (kq hV.p10_9), (kq hV.p12_10), (kc hV.c0), (kc hV.c1), (kc hV.c2), (kc hV.c3), (kc hV.c4), (kc hV.c5), (kc hV.c6), (fun _ => rfl), (kc hV.c8), (kc hV.c9), (kc hV.c10), (kc hV.c11), (Fr3.old (hV.fr) hal), (fun h0 => OwnAt.old (hV.x (kb h0)) hal), (kl nl), (ICells.old (hV.ra) hal), (fun h0 => RwOwn.old (hV.lo (kb h0)) hal), (kn hV.p9_7 hl), (kn hV.p10_7 hl)⟩, rfl⟩
    · have nl := kf hV.ord hl
      have d7 : L 7 = true := hd _ rfl ⟨7, .data⟩ (by simp) rfl
      obtain rfl := (hV.c7 d7).symm
      refine op_at _ rfl rfl (fun K' hK => ?_)
      conv => arg 2; whnf
      go_wp2_with fail
      exact ⟨nb, gn, cn, z68, z69, z70, z71, z72, z73, z74, .agg #[.int .i64 yi.op, .int .i64 yi.d, .int .i64 yi.a, .int .i64 yi.b, .int .i64 yi.n, .string (strOf yi.name)], .agg #[.string ⟨#[]⟩, .int .i64 yi.op, .int .i64 yi.d, .int .i64 yi.a, .int .i64 yi.b, .int .i64 yi.n, .string (strOf yi.name)], z77, z78, z79, ⟨(kl nl), (kd (d7)), (kq hV.p9_7), (kq hV.p10_7), (kq hV.p10_9), (kq hV.p12_10), (kc hV.c0), (kc hV.c1), (kc hV.c2), (kc hV.c3), (kc hV.c4), (kc hV.c5), (kc hV.c6), (kc hV.c7), (fun _ => rfl), (kc hV.c9), (kc hV.c10), (kc hV.c11), hV.fr, (fun h0 => hV.x (kb h0)), (kl nl), hV.ra, (fun h0 => hV.lo (kb h0)), (fun h0 => fun h1 => hV.r9 (kb h0) (kb h1)), (kc hV.r10)⟩, rfl⟩
    · have nl := kf hV.ord hl
      have d8 : L 8 = true := hd _ rfl ⟨8, .data⟩ (by simp) rfl
      obtain rfl := (hV.c8 d8).symm
      have hal : Below wx.heap.size wx (wx.alloc (.cells #[.string ⟨#[]⟩, .int .i64 yi.op, .int .i64 yi.d, .int .i64 yi.a, .int .i64 yi.b, .int .i64 yi.n, .string (strOf yi.name)] 48)) := (Below.refl _ _).alloc (Nat.le_refl _) _
      have hfs := hV.fr.size
      refine op_at _ rfl rfl (fun K' hK => ?_)
      conv => arg 2; whnf
      go_wp2_with fail
      exact ⟨wx.heap.size, gn, cn, z68, z69, z70, z71, z72, z73, z74, z75, .agg #[.string ⟨#[]⟩, .int .i64 yi.op, .int .i64 yi.d, .int .i64 yi.a, .int .i64 yi.b, .int .i64 yi.n, .string (strOf yi.name)], .slice (some ⟨(wx.heap.size), 0, none⟩) 1 1, z78, z79, ⟨(kl nl), (kq hV.p8_7), (kd (hV.p8_7 d8)), (kq hV.p10_7), (fun _ => upd_same L 9), (kq hV.p12_10), (kc hV.c0), (kc hV.c1), (kc hV.c2), (kc hV.c3), (kc hV.c4), (kc hV.c5), (kc hV.c6), (kc hV.c7), (kc hV.c8), (fun _ => rfl), (kc hV.c10), (kc hV.c11), (Fr3.old (hV.fr) hal), (fun h0 => OwnAt.old (hV.x (kb h0)) hal), (kl nl), (ICells.old (hV.ra) hal), (fun h0 => RwOwn.old (hV.lo (kb h0)) hal), (fun _ _ => ⟨OwnAt.new wx (lnCells ⟨[], yi⟩) 48, hfs⟩), (kn hV.p10_9 hl)⟩, rfl⟩
    · have nl := kf hV.ord hl
      have d1 : L 1 = true := hd _ rfl ⟨1, .data⟩ (by simp) rfl
      obtain rfl := (hV.c1 d1).symm
      have d7 : L 7 = true := hd _ rfl ⟨7, .chain⟩ (by simp) rfl
      have d9 : L 9 = true := hd _ rfl ⟨9, .data⟩ (by simp) rfl
      obtain rfl := (hV.c9 d9).symm
      have hr8 := hV.r9 d9 hl
      have hlo := hV.lo hl
      have hfs := hV.fr.size
      refine op_at _ rfl rfl (fun K' hK => ?_)
      conv => arg 2; whnf
      refine wp_lnSnoc wx _ _ rfl base ls vl rfl hlo ⟨[], yi⟩ nb 1 rfl hr8.1 hll (Nat.le_trans hbase hfs) ?_
      intro g2 cap2 w2 hr2 hg2 ha2 hl2
      go_wp2_with fail
      exact ⟨nb, g2, cap2, z68, vl, z70, z71, z72, z73, z74, z75, z76, .slice (some ⟨nb, 0, none⟩) 1 1, .slice (some ⟨(g2), 0, none⟩) (ls.length + 1) (cap2), z79, ⟨(kl nl), (kq hV.p8_7), (kq hV.p9_7), (kd (d7)), (kd (d9)), (fun _ => upd_same L 10), (kc hV.c0), (kc hV.c1), (kc hV.c2), (kc hV.c3), (kc hV.c4), (kc hV.c5), (kc hV.c6), (kc hV.c7), (kc hV.c8), (kc hV.c9), (fun _ => rfl), (kc hV.c11), (hV.fr.grown hg2 (.inl rfl)), (fun _ => (hV.x nl).grow hg2 HVX.out), (kl nl), (hV.ra.grow hg2 HRV.out), (ks), (fun _ => ks), (fun _ => ⟨hr2, by rcases ha2 with h | h; exact .inl h; exact .inr (by rw [h]; exact hfs)⟩)⟩, rfl⟩
    · have nl := kf hV.ord hl
      refine op_at _ rfl rfl (fun K' hK => ?_)
      conv => arg 2; whnf
      go_wp2_with fail
      exact ⟨nb, gn, cn, z68, z69, z70, z71, z72, z73, z74, z75, z76, z77, z78, .pointer (some ⟨X, 1, none⟩), ⟨(kl nl), (kq hV.p8_7), (kq hV.p9_7), (kq hV.p10_7), (kq hV.p10_9), (kq hV.p12_10), (kc hV.c0), (kc hV.c1), (kc hV.c2), (kc hV.c3), (kc hV.c4), (kc hV.c5), (kc hV.c6), (kc hV.c7), (kc hV.c8), (kc hV.c9), (kc hV.c10), (fun _ => rfl), hV.fr, (fun h0 => hV.x (kb h0)), (kl nl), hV.ra, (fun h0 => hV.lo (kb h0)), (fun h0 => fun h1 => hV.r9 (kb h0) (kb h1)), (kc hV.r10)⟩, rfl⟩
    · have before : ∀ j, j < 12 → L j = true := fun j hj => by
        have hj : j = 0 ∨ j = 1 ∨ j = 2 ∨ j = 3 ∨ j = 4 ∨ j = 5 ∨ j = 6 ∨ j = 7 ∨ j = 8 ∨ j = 9 ∨ j = 10 ∨ j = 11 := by omega
        rcases hj with rfl | rfl | rfl | rfl | rfl | rfl | rfl | rfl | rfl | rfl | rfl | rfl
        · exact hd _ rfl ⟨0, .phase⟩ (by simp) rfl
        · exact hd _ rfl ⟨1, .phase⟩ (by simp) rfl
        · exact hd _ rfl ⟨2, .phase⟩ (by simp) rfl
        · exact hd _ rfl ⟨3, .phase⟩ (by simp) rfl
        · exact hd _ rfl ⟨4, .phase⟩ (by simp) rfl
        · exact hd _ rfl ⟨5, .phase⟩ (by simp) rfl
        · exact hd _ rfl ⟨6, .phase⟩ (by simp) rfl
        · exact hd _ rfl ⟨7, .phase⟩ (by simp) rfl
        · exact hd _ rfl ⟨8, .phase⟩ (by simp) rfl
        · exact hd _ rfl ⟨9, .phase⟩ (by simp) rfl
        · exact hd _ rfl ⟨10, .data⟩ (by simp) rfl
        · exact hd _ rfl ⟨11, .data⟩ (by simp) rfl
      have d10 : L 10 = true := hd _ rfl ⟨10, .data⟩ (by simp) rfl
      obtain rfl := (hV.c10 d10).symm
      have d11 : L 11 = true := hd _ rfl ⟨11, .data⟩ (by simp) rfl
      obtain rfl := (hV.c11 d11).symm
      have hx := hV.x hl
      have x1 := hx.at 1 _ rfl
      have fx := hx.fz 1
      have hxl := hx.lt
      have hr9 := hV.r10 (before 10 (by decide))
      refine op_at _ rfl rfl (fun K' hK => ?_)
      conv => arg 2; whnf
      go_wp2_with fail
      exact ⟨nb, gn, cn, z68, z69, z70, z71, z72, z73, z74, z75, z76, z77, .slice (some ⟨gn, 0, none⟩) (ls.length + 1) cn, .pointer (some ⟨X, 1, none⟩), ⟨(fun _ j hj => by rw [upd_ne L (show j ≠ 12 by omega)]; exact before j hj), (kq hV.p8_7), (kq hV.p9_7), (kq hV.p10_7), (kq hV.p10_9), (kd (before 10 (by decide))), (kc hV.c0), (kc hV.c1), (kc hV.c2), (kc hV.c3), (kc hV.c4), (kc hV.c5), (kc hV.c6), (kc hV.c7), (kc hV.c8), (kc hV.c9), (kc hV.c10), (kc hV.c11), (hV.fr.set hXl 1 (.slice (some ⟨gn, 0, none⟩) (ls.length + 1) cn)), (ks), (fun _ => hx.set 1 (.slice (some ⟨gn, 0, none⟩) (ls.length + 1) cn)), (hV.ra.other HRX.out 1 (.slice (some ⟨gn, 0, none⟩) (ls.length + 1) cn)), (fun h => by rw [upd_ne L (show 10 ≠ 12 by decide), before 10 (by decide)] at h; cases h), (fun _ h => by rw [upd_ne L (show 10 ≠ 12 by decide), before 10 (by decide)] at h; cases h), (fun _ => ⟨RwOwn.set hr9.1 (fun e => by have e : gn = X := (by injection e); rcases hr9.2 with h | h; exact HVX.out (by rw [h, e]); omega) 1 (.slice (some ⟨gn, 0, none⟩) (ls.length + 1) cn), hr9.2⟩)⟩, rfl⟩
  · intro L act wx hI hall
    obtain ⟨nb, gn, cn, z68, z69, z70, z71, z72, z73, z74, z75, z76, z77, z78, z79, hV, rfl⟩ := hI
    obtain rfl := (hV.c0 (hall 0 (by decide))).symm
    obtain rfl := (hV.c1 (hall 1 (by decide))).symm
    obtain rfl := (hV.c2 (hall 2 (by decide))).symm
    obtain rfl := (hV.c3 (hall 3 (by decide))).symm
    obtain rfl := (hV.c4 (hall 4 (by decide))).symm
    obtain rfl := (hV.c5 (hall 5 (by decide))).symm
    obtain rfl := (hV.c6 (hall 6 (by decide))).symm
    obtain rfl := (hV.c7 (hall 7 (by decide))).symm
    obtain rfl := (hV.c8 (hall 8 (by decide))).symm
    obtain rfl := (hV.c9 (hall 9 (by decide))).symm
    obtain rfl := (hV.c10 (hall 10 (by decide))).symm
    obtain rfl := (hV.c11 (hall 11 (by decide))).symm
    exact hM _ _ (Met.intro (hJ _ _ ⟨nb, gn, cn, ⟨hV.fr, hV.x3 (hall 12 (by decide)), hV.r10 (hall 10 (by decide))⟩, rfl⟩))
end Go.Proofs.YtlkfmnabbmceeaaGreatDoor

namespace Go.Proofs.YtlkfmnabbmceeaaGreatDoor
open Go.RowKit
set_option maxHeartbeats 4000000
set_option maxRecDepth 100000

def arrC : List Value := [.string ⟨#[97]⟩, .int .i64 4, .string ⟨#[98]⟩, .int .i64 10]
theorem arrC_is : arrs2.flatMap arCells = arrC := rfl
/-- Code that is under way: the result's block R, the arrays' A, the code's X, rows from base on. -/
structure FtIn (w : World) (R A X base : Nat) (wr : World) (names : List Bs) (ls : List Ln) (vn vl : Value) : Prop where
  rr : OwnAt wr R [.slice none 0 0, .slice none 0 0] 26
  aa : OwnAt wr A arrC 45
  xx : OwnAt wr X [.slice (some ⟨A, 0, none⟩) 2 2, vl] 26
  nm : StrsOwn wr base names vn
  ln : LnsOwn wr base ls vl
  ap : ∀ g, vn.ownBlock = some g → vl.ownBlock ≠ some g
  ra : R < A
  ax : A < X
  xb : X < base
  le : base ≤ wr.heap.size
  be : Below R w wr
theorem FtIn.old {w : World} {R A X base : Nat} {wr w' : World} {names : List Bs} {ls : List Ln} {vn vl : Value} (h : FtIn w R A X base wr names ls vn vl) (hb : Below wr.heap.size wr w') : FtIn w R A X base w' names ls vn vl :=
  ⟨h.rr.old hb, h.aa.old hb, h.xx.old hb, RwOwn.old h.nm hb, RwOwn.old h.ln hb, h.ap, h.ra, h.ax, h.xb, Nat.le_trans h.le hb.size, h.be.trans (hb.mono (by have := h.rr.lt; omega))⟩
theorem FtIn.lvl {w : World} {R A X base : Nat} {wr : World} {names : List Bs} {ls : List Ln} {vn vl : Value} (h : FtIn w R A X base wr names ls vn vl) : ∀ g, vl.ownBlock = some g → base ≤ g ∧ g < wr.heap.size := fun g e => RwOwn.lt h.ln g e
/-- A line behind the others. -/
theorem FtIn.line {w : World} {R A X base : Nat} {wr w' : World} {names : List Bs} {ls : List Ln} {vn vl : Value} (h : FtIn w R A X base wr names ls vn vl) (hf : Fr3 X vl vl wr w') {y : Ln} {gn n1 cn : Nat} (hx : OwnAt w' X [.slice (some ⟨A, 0, none⟩) 2 2, .slice (some ⟨gn, 0, none⟩) n1 cn] 26)
    (hr : LnsOwn w' base (ls ++ [y]) (.slice (some ⟨gn, 0, none⟩) n1 cn)) (hg : vl.ownBlock = some gn ∨ wr.heap.size ≤ gn) : FtIn w R A X base w' names (ls ++ [y]) vn (.slice (some ⟨gn, 0, none⟩) n1 cn) := by
  have hl := h.lvl
  have h1 := h.ra; have h2 := h.ax; have h3 := h.xb; have h4 := h.le
  have hn := RwOwn.lt h.nm
  refine ⟨(hf.block R (by omega) (by omega) (fun e => by have := (hl R e).1; omega) (fun e => by have := (hl R e).1; omega)).trans h.rr, (hf.block A (by omega) (by omega) (fun e => by have := (hl A e).1; omega) (fun e => by have := (hl A e).1; omega)).trans h.aa, hx, ?_, hr, ?_, h1, h2, h3, Nat.le_trans h4 hf.size, h.be.trans ((hf.below h3 (fun g e => (hl g e).1) (fun g e => (hl g e).1) h4).mono (by omega))⟩
  · exact hf.row h.nm (fun e => by have := (hn X e).1; omega) h.ap h.ap
  · intro g e e2
    have e3 : gn = g := by injection e2
    subst e3
    rcases hg with hg | hg
    · exact h.ap _ e hg
    · have := (hn _ e).2; omega
theorem FtIn.xx_grow {w : World} {R A X base : Nat} {wr w' : World} {names : List Bs} {ls : List Ln} {vn vl : Value} (h : FtIn w R A X base wr names ls vn vl) (hg : wr.grownBy w' vl.ownBlock) : OwnAt w' X [.slice (some ⟨A, 0, none⟩) 2 2, vl] 26 :=
  h.xx.grow hg (fun e => by have := (h.lvl _ e).1; have := h.xb; omega)
/-- A line behind the others, stored. -/
theorem FtIn.snoc {w : World} {R A X base : Nat} {wr w' : World} {names : List Bs} {ls : List Ln} {vn vl : Value} (h : FtIn w R A X base wr names ls vn vl) {y : Ln} {gn n1 cn : Nat} (hg : wr.grownBy w' vl.ownBlock)
    (hr : LnsOwn w' base (ls ++ [y]) (.slice (some ⟨gn, 0, none⟩) n1 cn)) (hat : vl.ownBlock = some gn ∨ gn = wr.heap.size) : FtIn w R A X base (w'.setCell ⟨X, 1, none⟩ (.slice (some ⟨gn, 0, none⟩) n1 cn)) names (ls ++ [y]) vn (.slice (some ⟨gn, 0, none⟩) n1 cn) := by
  have h3 := h.xb; have h4 := h.le
  refine h.line (((Fr3.refl X vl vl wr).grown hg (.inl rfl)).set h.xx.lt 1 _) ((h.xx_grow hg).set 1 _) (RwOwn.set hr (fun e => ?_) 1 _) (by rcases hat with e | e; exact .inl e; exact .inr (by omega))
  have e : gn = X := by injection e
  rcases hat with e2 | e2
  · have := (h.lvl _ e2).1; omega
  · omega
/-- A name behind the others. -/
theorem FtIn.name {w : World} {R A X base : Nat} {wr w' : World} {names : List Bs} {ls : List Ln} {vn vl : Value} (h : FtIn w R A X base wr names ls vn vl) {y : Bs} {gn n1 cn : Nat} (hg : wr.grownBy w' vn.ownBlock)
    (hr : StrsOwn w' base (names ++ [y]) (.slice (some ⟨gn, 0, none⟩) n1 cn)) (hat : vn.ownBlock = some gn ∨ gn = wr.heap.size) : FtIn w R A X base w' (names ++ [y]) ls (.slice (some ⟨gn, 0, none⟩) n1 cn) vl := by
  have hl := h.lvl
  have h1 := h.ra; have h2 := h.ax; have h3 := h.xb; have h4 := h.le
  have hn := RwOwn.lt h.nm
  refine ⟨h.rr.grow hg (fun e => by have := (hn _ e).1; omega), h.aa.grow hg (fun e => by have := (hn _ e).1; omega), h.xx.grow hg (fun e => by have := (hn _ e).1; omega), hr, RwOwn.grown h.ln hg ?_, ?_, h1, h2, h3, Nat.le_trans h4 hg.size, below_grow h.be hg (fun k e => by have := (hn k e).1; omega) (by omega)⟩
  · exact own_apart h.ap
  · intro g e e2
    have e3 : gn = g := by injection e
    subst e3
    rcases hat with hat | hat
    · exact h.ap _ hat e2
    · have := (hl _ e2).2; omega
theorem strs_at {w : World} {base : Nat} {L : List Bs} {a : Option Addr} {n cap : Nat} (h : StrsOwn w base L (.slice a n cap)) {i : Nat} (hi : i < L.length) : ∃ g, a = some ⟨g, 0, none⟩ ∧ g < w.heap.size ∧ w.cell? ⟨g, i, none⟩ = some (.string (strOf L[i])) := by
  rcases h.2 with ⟨h1, h2⟩ | ⟨g, cp, cur, h1, hb, _⟩
  · omega
  · cases h1
    have h2 := World.ownsRow.cells h (g := g) rfl (i * 1 + 0) (.string (strOf L[i])) (by rw [iflat_at strCells 1 strCells_len L i 0 L[i] (List.getElem?_eq_getElem hi) (by decide)]; rfl)
    have h3 : (⟨g, 0, none⟩ : Addr).add (i * 1 + 0) = ⟨g, i, none⟩ := by unfold Addr.add; split <;> simp_all
    rw [h3] at h2
    exact ⟨g, rfl, World.block_lt_of_cell? _ _ h2, h2⟩
theorem lns_at {w : World} {base : Nat} {L : List Ln} {a : Option Addr} {n cap : Nat} (h : LnsOwn w base L (.slice a n cap)) {i : Nat} (hi : i < L.length) : ∃ g, a = some ⟨g, 0, none⟩ ∧ base ≤ g ∧ g < w.heap.size ∧ ICells w g (i * 7) L[i].ins ∧ (∀ o, w.frozen? ⟨g, o, none⟩ = false) := by
  rcases h.2 with ⟨h1, h2⟩ | ⟨g, cp, cur, h1, hb, hh, _⟩
  · omega
  · cases h1
    have hc : ∀ q u, (insCells L[i].ins)[q]? = some u → w.cell? ⟨g, i * 7 + (1 + q), none⟩ = some u := by
      intro q u hu
      have hq : q < 6 := by have := (List.getElem?_eq_some_iff.1 hu).1; rwa [insCells_len] at this
      have h2 := World.ownsRow.cells h (g := g) rfl (i * 7 + (1 + q)) u (by rw [iflat_at lnCells 7 lnCells_len L i (1 + q) L[i] (List.getElem?_eq_getElem hi) (by omega), Nat.add_comm 1 q]; exact hu)
      have h3 : (⟨g, 0, none⟩ : Addr).add (i * 7 + (1 + q)) = ⟨g, i * 7 + (1 + q), none⟩ := by unfold Addr.add; split <;> simp_all
      rw [h3] at h2
      exact h2
    exact ⟨g, rfl, hb, World.block_lt_of_cell? _ _ (hc 0 _ rfl), hc, fun o => Lib.frozen_of_heap hh o⟩
theorem own_cell {e : TypeId} {k base : Nat} {w : World} {g n cap : Nat} {xs : List Value} (h : w.ownsRow base e k (.slice (some ⟨g, 0, none⟩) n cap) n xs) (j : Nat) (v : Value) : (w.setCell ⟨g, j, none⟩ v).ownsRow base e k (.slice (some ⟨g, 0, none⟩) n cap) n (xs.set j v) := by
  refine ⟨by rw [List.length_set]; exact h.1, ?_⟩
  rcases h.2 with ⟨h1, h2⟩ | ⟨g', cp, cur, h1, hb, hh, h3, h4, h5, h6⟩
  · cases h1
  · cases h1
    refine .inr ⟨g, cap, cur.setIfInBounds j v, rfl, hb, heap_setCell_same _ _ _ _ _ _ hh, h3, h4, by simpa using h5, ?_⟩
    rw [Array.toList_setIfInBounds, List.take_set, h6]
theorem flat_set : ∀ (l : List Ln) (i : Nat) (hi : i < l.length) (y : Ins), ((((((l.flatMap lnCells).set (i * 7 + 1) (.int .i64 y.op)).set (i * 7 + 2) (.int .i64 y.d)).set (i * 7 + 3) (.int .i64 y.a)).set (i * 7 + 4) (.int .i64 y.b)).set (i * 7 + 5) (.int .i64 y.n)).set (i * 7 + 6) (.string (strOf y.name)) = (l.set i ⟨l[i].label, y⟩).flatMap lnCells
  | [], i, hi, y => by simp at hi
  | x :: l, 0, hi, y => by
    simp only [List.flatMap_cons, lnCells, insCells, List.cons_append, List.nil_append, Nat.zero_mul, Nat.zero_add, List.set_cons_succ, List.set_cons_zero, List.getElem_cons_zero]
  | x :: l, i + 1, hi, y => by
    have := flat_set l i (by simpa using hi) y
    have hs : ∀ (q : Nat) (m : List Value) (v : Value), (lnCells x ++ m).set ((i + 1) * 7 + q) v = lnCells x ++ m.set (i * 7 + q) v := by
      intro q m v
      rw [List.set_append_right _ _ (by rw [lnCells_len]; omega), lnCells_len]
      congr 2; omega
    rw [List.flatMap_cons, hs, hs, hs, hs, hs, hs, this, List.set_cons_succ, List.flatMap_cons]; rfl
/-- An instruction, named. -/
theorem FtIn.put {w : World} {R A X base : Nat} {wr : World} {names : List Bs} {ls : List Ln} {vn : Value} {g n cap : Nat} (h : FtIn w R A X base wr names ls vn (.slice (some ⟨g, 0, none⟩) n cap)) {i : Nat} (hi : i < ls.length) (y : Ins) :
    FtIn w R A X base ((((((wr.setCell ⟨g, i * 7 + 1, none⟩ (.int .i64 y.op)).setCell ⟨g, i * 7 + 2, none⟩ (.int .i64 y.d)).setCell ⟨g, i * 7 + 3, none⟩ (.int .i64 y.a)).setCell ⟨g, i * 7 + 4, none⟩ (.int .i64 y.b)).setCell ⟨g, i * 7 + 5, none⟩ (.int .i64 y.n)).setCell ⟨g, i * 7 + 6, none⟩ (.string (strOf y.name))) names (ls.set i ⟨ls[i].label, y⟩) vn (.slice (some ⟨g, 0, none⟩) n cap) := by
  have hb := (h.lvl g rfl)
  have h1 := h.ra; have h2 := h.ax; have h3 := h.xb; have h4 := h.le
  have hvn : vn.ownBlock ≠ some g := fun e => h.ap g e rfl
  have hN : ls.length = n := by
    obtain ⟨a, c, e⟩ := RwOwn.shape h.ln
    injection e with _ e1 _; exact e1.symm
  refine ⟨(((((h.rr.other (by omega) _ _).other (by omega) _ _).other (by omega) _ _).other (by omega) _ _).other (by omega) _ _).other (by omega) _ _, (((((h.aa.other (by omega) _ _).other (by omega) _ _).other (by omega) _ _).other (by omega) _ _).other (by omega) _ _).other (by omega) _ _, (((((h.xx.other (by omega) _ _).other (by omega) _ _).other (by omega) _ _).other (by omega) _ _).other (by omega) _ _).other (by omega) _ _, RwOwn.set (RwOwn.set (RwOwn.set (RwOwn.set (RwOwn.set (RwOwn.set h.nm hvn _ _) hvn _ _) hvn _ _) hvn _ _) hvn _ _) hvn _ _, ?_, h.ap, h1, h2, h3, by simpa using h4, zbelow_set (zbelow_set (zbelow_set (zbelow_set (zbelow_set (zbelow_set h.be (by omega) _ _) (by omega) _ _) (by omega) _ _) (by omega) _ _) (by omega) _ _) (by omega) _ _⟩
  have hl := h.ln
  unfold LnsOwn RwOwn at hl ⊢
  rw [List.length_set, ← flat_set ls i hi y]
  rw [hN] at hl ⊢
  exact own_cell (own_cell (own_cell (own_cell (own_cell (own_cell hl _ _) _ _) _ _) _ _) _ _) _ _
theorem FtIn.code {w : World} {R A X base : Nat} {wr : World} {names : List Bs} {ls : List Ln} {vn vl : Value} (h : FtIn w R A X base wr names ls vn vl) : ArwAt wr arrs2 (.slice (some ⟨A, 0, none⟩) 2 2) := by
  refine ⟨some ⟨A, 0, none⟩, 2, A, 0, rfl, .inr rfl, by decide, fun i p hi q u hq => ?_⟩
  have hqk : q < 2 := by rw [← arCells_len p]; exact (List.getElem?_eq_some_iff.1 hq).1
  rw [Nat.zero_add]
  exact h.aa.at (i * 2 + q) u (by rw [← arrC_is, iflat_at arCells 2 arCells_len arrs2 i q p hi hqk]; exact hq)
end Go.Proofs.YtlkfmnabbmceeaaGreatDoor

namespace Go.Proofs.YtlkfmnabbmceeaaGreatDoor
open Go.RowKit
set_option maxHeartbeats 4000000
set_option maxRecDepth 100000

/-- Code of one's own: the arrays' block, the lines' row, apart. -/
structure FitOwn (H : Nat) (w : World) (ls : List Ln) (A base : Nat) (vl : Value) : Prop where
  aa : OwnAt w A arrC 45
  ln : LnsOwn w base ls vl
  lo : H ≤ A
  ab : A < base
  le : base ≤ w.heap.size
/-- A label and a name of any length. -/
structure LimL (x : Ln) : Prop where
  label : x.label.length ≤ 9223372036854775807
  name : x.ins.name.length ≤ 9223372036854775807
theorem zcell_len (l : List Ln) : ((strOf ([] : Bs)) : ByteArray) = ⟨#[]⟩ := rfl
def uptoL (names : List Bs) (ls : List Ln) (j : Nat) : List Ln := ls.mapIdx (fun i x => if i < j then nameLn names i x else x)
theorem upto_len (names : List Bs) (ls : List Ln) (j : Nat) : (uptoL names ls j).length = ls.length := by simp [uptoL]
theorem upto_zero (names : List Bs) (ls : List Ln) : uptoL names ls 0 = ls := by
  unfold uptoL
  apply List.ext_getElem (by simp)
  intro i h1 h2; simp
theorem upto_all (names : List Bs) (ls : List Ln) : uptoL names ls ls.length = ls.mapIdx (nameLn names) := by
  unfold uptoL
  apply List.ext_getElem (by simp)
  intro i h1 h2
  have : i < ls.length := by simpa using h2
  simp [this]
theorem upto_at (names : List Bs) (ls : List Ln) (j : Nat) (hj : j < ls.length) : (uptoL names ls j)[j]'(by rw [upto_len]; exact hj) = ls[j] := by simp [uptoL]
theorem upto_set (names : List Bs) (ls : List Ln) (j : Nat) (hj : j < ls.length) : (uptoL names ls j).set j (nameLn names j ls[j]) = uptoL names ls (j + 1) := by
  apply List.ext_getElem (by simp [upto_len])
  intro i h1 h2
  rw [List.getElem_set]
  by_cases hi : j = i
  · subst hi; simp [uptoL]
  · rw [if_neg hi]
    have : (i < j) ↔ (i < j + 1) := by omega
    simp [uptoL, this]
theorem nameIn_other (names : List Bs) (j : Nat) (o d a b n : Int) (nm : Bs) (h17 : ¬ o = 17) (hn : nm ≠ []) (y : Bs) (h : names.getD ((nm.length + j) % names.length) [] = y) : nameIn names j ⟨o, d, a, b, n, nm⟩ = ⟨o, d, a, b, n, y⟩ := by
  unfold nameIn
  dsimp only
  rw [if_neg h17, if_pos hn, h]
theorem getD_at (l : List Bs) (q : Nat) (hq : q < l.length) (y : Bs) (h : l[q] = y) : l.getD q [] = y := by
  rw [List.getD_eq_getElem?_getD, List.getElem?_eq_getElem hq, h]; rfl
theorem take_snoc {α : Type} (l : List α) (k : Nat) (h : k < l.length) : l.take (k + 1) = l.take k ++ [l[k]] := by rw [List.take_add_one, List.getElem?_eq_getElem h]; rfl
theorem contains_snoc (l : List Bs) (x s : Bs) : (l ++ [x]).contains s = (l.contains s || (s == x)) := by
  rw [List.contains_eq_any_beq, List.contains_eq_any_beq, List.any_append]
  simp
theorem rawfit_any (raw : List Ln) (hr : RawL raw) (hsh : ∀ x, x ∈ raw → LimL x) (v : Value) (w : World) (h : LnsAt w raw v) :
    Calls Tryz.prog 7 #[v] w fun e w' => ∃ A base vl, e = .returned (.agg #[.slice (some ⟨A, 0, none⟩) 2 2, vl]) ∧ FitOwn w.heap.size w' (fitC raw).lines A base vl ∧ Below w.heap.size w w' := by
  have h1 : Below w.heap.size w (w.alloc (.cells #[.slice none 0 0, .slice none 0 0] 26)) := (Below.refl _ _).alloc (Nat.le_refl _) _
  have o1 := OwnAt.new w [.slice none 0 0, .slice none 0 0] 26
  have s1 : (w.alloc (.cells #[.slice none 0 0, .slice none 0 0] 26)).heap.size = w.heap.size + 1 := by simp
  have o2 : OwnAt ((w.alloc (.cells #[.slice none 0 0, .slice none 0 0] 26)).alloc (.cells #[.string ⟨#[97]⟩, .int .i64 4, .string ⟨#[98]⟩, .int .i64 10] 45)) (w.heap.size + 1) arrC 45 := by
    have := OwnAt.new (w.alloc (.cells #[.slice none 0 0, .slice none 0 0] 26)) arrC 45
    rw [s1] at this; exact this
  have h2 : Below (w.heap.size + 1) (w.alloc (.cells #[.slice none 0 0, .slice none 0 0] 26)) ((w.alloc (.cells #[.slice none 0 0, .slice none 0 0] 26)).alloc (.cells #[.string ⟨#[97]⟩, .int .i64 4, .string ⟨#[98]⟩, .int .i64 10] 45)) := (Below.refl _ _).alloc (by simp) _
  have s2 : ((w.alloc (.cells #[.slice none 0 0, .slice none 0 0] 26)).alloc (.cells #[.string ⟨#[97]⟩, .int .i64 4, .string ⟨#[98]⟩, .int .i64 10] 45)).heap.size = w.heap.size + 1 + 1 := by simp
  have o3 := OwnAt.new ((w.alloc (.cells #[.slice none 0 0, .slice none 0 0] 26)).alloc (.cells #[.string ⟨#[97]⟩, .int .i64 4, .string ⟨#[98]⟩, .int .i64 10] 45)) [.slice (some ⟨w.heap.size + 1, 0, none⟩) 2 2, .slice none 0 0] 26
  rw [s2] at o3
  have h3 : Below (w.heap.size + 1 + 1) ((w.alloc (.cells #[.slice none 0 0, .slice none 0 0] 26)).alloc (.cells #[.string ⟨#[97]⟩, .int .i64 4, .string ⟨#[98]⟩, .int .i64 10] 45)) (((w.alloc (.cells #[.slice none 0 0, .slice none 0 0] 26)).alloc (.cells #[.string ⟨#[97]⟩, .int .i64 4, .string ⟨#[98]⟩, .int .i64 10] 45)).alloc (.cells #[.slice (some ⟨w.heap.size + 1, 0, none⟩) 2 2, .slice none 0 0] 26)) := (Below.refl _ _).alloc (by simp) _
  have HI0 : Hid (FtIn w w.heap.size (w.heap.size + 1) (w.heap.size + 1 + 1) (w.heap.size + 1 + 1 + 1) (((w.alloc (.cells #[.slice none 0 0, .slice none 0 0] 26)).alloc (.cells #[.string ⟨#[97]⟩, .int .i64 4, .string ⟨#[98]⟩, .int .i64 10] 45)).alloc (.cells #[.slice (some ⟨w.heap.size + 1, 0, none⟩) 2 2, .slice none 0 0] 26)) [] [] (.slice none 0 0) (.slice none 0 0)) :=
    ⟨(o1.old (by rw [s1]; exact h2)).old (by rw [s2]; exact h3), o2.old (by rw [s2]; exact h3), o3, RwOwn.zero _ _ _ _ _, RwOwn.zero _ _ _ _ _, fun g e => (by cases e), by omega, by omega, by omega, by simp, (h1.trans (h2.mono (by omega))).trans (h3.mono (by omega))⟩
  clear h1 o1 s1 o2 h2 s2 o3 h3
  obtain ⟨ra, rc, rfl⟩ := RwAt.shape h
  have hl := RwAt.len h
  have hl63 : (raw.length : Int) ≤ 140737488355328 := by omega
  have HR := Lib.hid h; have HRL := Lib.hid hr; have HSH := Lib.hid hsh
  have HSO := Lib.hid (fun k => StOk.fold (raw.take k) StOk.zero (fun x hx => (hr x (List.mem_of_mem_take hx)).n))
  clear h hr hsh hl
  go_enter Tryz.func7, Tryz.ntmps7
  go_wp2_with fail
  obtain ⟨X, hX⟩ : ∃ X, w.heap.size + 1 + 1 = X := ⟨_, rfl⟩
  obtain ⟨A, hA⟩ : ∃ A, w.heap.size + 1 = A := ⟨_, rfl⟩
  rw [hX, hA] at HI0 ⊢
  clear hX hA
  go_loopw [4, 5] (fun s4 s5 wr => ∃ k : Nat, k ≤ 40 ∧ k ≤ raw.length ∧ s5 = .int .i64 k ∧ ∃ vl, Hid (FtIn w w.heap.size A X (X + 1) wr ((raw.take k).foldl fitStep ([], [])).1 ((raw.take k).foldl fitStep ([], [])).2 s4 vl)) (fun _ s5 _ => 40 - (intOf s5).toNat)
  case atStart => exact ⟨0, by omega, by omega, rfl, _, HI0⟩
  case round =>
    clear HI0
    obtain ⟨k, hk40, hk, rfl, vl, HF⟩ := hrel
    have hso := HSO.out k
    obtain ⟨st, hst⟩ : ∃ st, (raw.take k).foldl fitStep ([], []) = st := ⟨_, rfl⟩
    rw [hst] at HF hso
    have HST := Lib.hid hst
    obtain ⟨nms, lns⟩ := st
    clear hst
    have hlk : lns.length ≤ k := by have := hso.len; rw [List.length_take] at this; simp at this; omega
    have hnk : nms.length ≤ k := by
      have h1 : nms = (lns.map (·.label)).filter (fun s => s != []) := hso.names
      have h2 := List.length_filter_le (fun s : Bs => s != []) (lns.map (·.label))
      rw [← h1, List.length_map] at h2; omega
    clear hso
    obtain ⟨a4, c4, rfl⟩ := RwOwn.shape HF.out.nm
    obtain ⟨al, cl, rfl⟩ := RwOwn.shape HF.out.ln
    dsimp only at HF
    have HRW : Hid (LnsAt _ raw _) := Lib.hid (LnsAt.old HR.out HF.out.be)
    have hnk63 : (nms.length : Int) ≤ 40 := by omega
    have hlk63 : (lns.length : Int) ≤ 40 := by omega
    go_upto_region 4 with (fail)
    go_cut [22] from 15 to 79 (fun s22 wx => s22 = .bool (decide (k < raw.length ∧ k < 40)) ∧ wr = wx)
    case first =>
      by_cases hlt : k < raw.length
      · by_cases h40 : k < 40
        · have h40I : (k : Int) < 40 := by omega
          go_wp2_with fail
          go_meet
          exact ⟨by simp [hlt, h40], rfl⟩
        · have h40I : ¬ (k : Int) < 40 := by omega
          go_wp2_with fail
          go_meet
          exact ⟨by simp [hlt, h40], rfl⟩
      · go_wp2_with fail
        go_meet
        exact ⟨by simp [hlt], rfl⟩
    case rest =>
    obtain ⟨rfl, rfl⟩ := hcut
    by_cases hgo : k < raw.length ∧ k < 40
    · rw [decide_eq_true hgo]
      obtain ⟨hlt, h40⟩ := hgo
      have h40I : (k : Int) < 40 := by omega
      obtain ⟨b, off, rfl, hbl, c0, c1, c2, c3, c4', c5, c6⟩ := LnsAt.at HRW.out hlt
      have hrx := HRL.out _ (List.getElem_mem hlt)
      have hsx := HSH.out _ (List.getElem_mem hlt)
      have hsn : (raw.take (k + 1)).foldl fitStep ([], []) = fitStep (nms, lns) raw[k] := by rw [take_snoc raw k hlt, List.foldl_append, HST.out]; rfl
      obtain ⟨x, hx⟩ : ∃ x, raw[k] = x := ⟨_, rfl⟩
      rw [hx] at c0 c1 c2 c3 c4' c5 c6 hrx hsx hsn
      clear hx
      obtain ⟨lab, o, d, aa, bb, n1, nm⟩ := x
      obtain ⟨s1, s2'⟩ := hsx
      dsimp only at c0 c1 c2 c3 c4' c5 c6 hrx s1 s2'
      have HSN := Lib.hid hsn
      clear hsn
      by_cases hm : lab.length % 3 = 1
      · have HNM := Lib.hid (fun w => iname_any n1 hrx.n w)
        have HNE := Lib.hid (iname_ne n1)
        have hnl : (iname n1).length ≤ 40 := (label_mem (iname_ok n1)).2.2
        have HSE : Hid (fitStep (nms, lns) ⟨lab, ⟨o, d, aa, bb, n1, nm⟩⟩ = (if nms.contains (iname n1) = true then (nms, lns) else (nms ++ [iname n1], lns ++ [⟨iname n1, zeroI 0⟩]))) := by
          show _ = _
          unfold fitStep
          rw [if_pos hm]
        have hmI : ((lab.length : Int) % 3 == 1) = true := by simp; omega
        generalize iname n1 = s at *
        go_wp2_with (go_at_call 13; refine (HNM.out _).mono ?_; rintro e w5 ⟨rfl, hb5⟩; have HF5 := Lib.hid (HF.out.old hb5); clear hb5)
        clear c0 c1 c2 c3 c4' c5 c6 HF HRW
        go_loopw [7, 8] (fun s7 s8 wx => ∃ j : Nat, j ≤ nms.length ∧ s8 = .int .i64 j ∧ s7 = .bool ((nms.take j).contains s) ∧ w5 = wx) (fun _ s8 _ => nms.length - (intOf s8).toNat)
        case atStart => exact ⟨0, Nat.zero_le _, rfl, rfl, rfl⟩
        case round =>
          obtain ⟨j, hj, rfl, rfl, rfl⟩ := hrel
          by_cases hjl : j < nms.length
          · obtain ⟨g, rfl, hgl, hcj⟩ := strs_at HF5.out.nm hjl
            have hcs := contains_snoc (nms.take j) nms[j] s
            rw [← take_snoc nms j hjl] at hcs
            obtain ⟨y, hy⟩ : ∃ y, nms[j] = y := ⟨_, rfl⟩
            rw [hy] at hcj hcs
            clear hy
            cases hb : (nms.take j).contains s with
            | true =>
              rw [hb] at hcs
              have HCS := Lib.hid hcs
              clear hb hcs
              go_wp2_with fail
              exact ⟨⟨j + 1, hjl, by first | rfl | (simp; done) | go_num, by rw [HCS.out]; rfl, by first | rfl | trivial⟩, by simp [intOf]; omega⟩
            | false =>
              rw [hb] at hcs
              by_cases hys : s = y
              · subst hys
                have HCS := Lib.hid hcs
                clear hb hcs
                go_wp2_with fail
                exact ⟨⟨j + 1, hjl, by first | rfl | (simp; done) | go_num, by rw [HCS.out]; simp, by first | rfl | trivial⟩, by simp [intOf]; omega⟩
              · have hys2 : (s == y) = false := by simpa using hys
                have hys3 : (y == s) = false := by simpa using fun e => hys e.symm
                rw [hys2] at hcs
                have HCS := Lib.hid hcs
                clear hb hcs
                go_wp2_with fail
                exact ⟨⟨j + 1, hjl, by first | rfl | (simp; done) | go_num, by rw [HCS.out]; rfl, by first | rfl | trivial⟩, by simp [intOf]; omega⟩
          · have he : j = nms.length := by omega
            subst he
            rw [List.take_length]
            cases hb : nms.contains s with
            | true =>
              have HSE2 := Lib.hid (HSE.out.trans (if_pos hb))
              go_wp2_with fail
              refine ⟨⟨k + 1, by omega, hlt, by first | rfl | (simp; done) | go_num, .slice al lns.length cl, ?_⟩, by simp [intOf]; omega⟩
              rw [HSN.out, HSE2.out]; exact HF5
            | false =>
              have HSE2 := Lib.hid (HSE.out.trans (if_neg (by rw [hb]; decide)))
              have hbI : Below w5.heap.size w5 (w5.alloc (.cells #[.string (strOf s)] 9)) := (Below.refl _ _).alloc (Nat.le_refl _) _
              have HF6 := Lib.hid (HF5.out.old hbI)
              have HNS := Lib.hid (OwnAt.new w5 (strCells s) 9)
              clear hbI
              go_wp2_with (first | (at_builtin; refine wpList_strSnoc _ rfl _ _ rfl (X + 1) nms _ rfl HF6.out.nm s w5.heap.size 1 rfl HNS.out (by omega) HF6.out.le ?_; intro g2 cg2 w7 how7 hgr7 hat7 hlt7; have HF7 := Lib.hid (HF6.out.name hgr7 how7 hat7); clear how7 hgr7 hat7 hlt7; have hbJ : Below w7.heap.size w7 (w7.alloc (.cells #[.string (strOf s), .int .i64 0, .int .i64 0, .int .i64 0, .int .i64 0, .int .i64 0, .string ⟨#[]⟩] 48)) := (Below.refl _ _).alloc (Nat.le_refl _) _; have HF8 := Lib.hid (HF7.out.old hbJ); have HNL := Lib.hid (OwnAt.new w7 (lnCells ⟨s, zeroI 0⟩) 48); have x1 := HF7.out.xx.at 1 _ rfl; have hxl := HF7.out.xx.lt; clear hbJ) | (at_builtin; refine wpList_lnSnoc _ rfl _ _ rfl (X + 1) lns _ rfl HF8.out.ln ⟨s, zeroI 0⟩ w7.heap.size 1 rfl HNL.out (by omega) HF8.out.le ?_; intro g3 cg3 w9 how9 hgr9 hat9 hlt9; have HX9 := Lib.hid (HF8.out.xx_grow hgr9); have HF9 := Lib.hid (HF8.out.snoc hgr9 how9 hat9); have y1 := HX9.out.at 1 _ rfl; have fy := HX9.out.fz 1; have hyl := HX9.out.lt; clear how9 hgr9 hat9 hlt9))
              refine ⟨⟨k + 1, by omega, hlt, by first | rfl | (simp; done) | go_num, .slice (some ⟨g3, 0, none⟩) (lns.length + 1) cg3, ?_⟩, by simp [intOf]; omega⟩
              rw [HSN.out, HSE2.out]; exact HF9
      · have hmI : ((lab.length : Int) % 3 == 1) = false := by simp; omega
        have HSE : Hid (fitStep (nms, lns) ⟨lab, ⟨o, d, aa, bb, n1, nm⟩⟩ = (nms, lns ++ [⟨[], fitI ⟨o, d, aa, bb, n1, nm⟩⟩])) := by
          show _ = _
          unfold fitStep
          rw [if_neg hm]
        have HFI := Lib.hid (fun w => fit_any ⟨o, d, aa, bb, n1, nm⟩ hrx w)
        generalize fitI ⟨o, d, aa, bb, n1, nm⟩ = y at *
        unfold insV at HFI
        dsimp only at HFI
        go_upto_region 16 with (fail)
        have hxb := HF.out.xb
        have hRX : w.heap.size < X := by have := HF.out.ra; have := HF.out.ax; omega
        have hbw : b < w.heap.size := by obtain ⟨b', o', e1, e2, _⟩ := LnsAt.at HR.out hlt; cases e1; exact e2
        have hlv := HF.out.lvl
        have hra : ICells wr b (off + k * 7) ⟨o, d, aa, bb, n1, nm⟩ := fun q u hu => by
          have hq : q < 6 := by have := (List.getElem?_eq_some_iff.1 hu).1; rwa [insCells_len] at this
          have : q = 0 ∨ q = 1 ∨ q = 2 ∨ q = 3 ∨ q = 4 ∨ q = 5 := by omega
          rcases this with rfl | rfl | rfl | rfl | rfl | rfl <;> (simp only [insCells, List.getElem?_cons_zero, List.getElem?_cons_succ, Option.some.injEq] at hu; subst hu; assumption)
        refine wp_mono (reg_F16 X (.slice (some ⟨A, 0, none⟩) 2 2) (.slice al lns.length cl) lns ⟨o, d, aa, bb, n1, nm⟩ y b off raw.length rc k (X + 1) wr HF.out.xx hra (by omega) (fun e => by have := (hlv _ e).1; omega) HF.out.ln (fun e => by have := (hlv _ e).1; omega) (by omega) HF.out.le hlt (by omega) HFI _ _ _ _ _ _ _ _ _ _ _ _ _ _ _ _ _ _ _ _ _ _ _ _ _ _ _ _ _ _ _ _ _ _ _ _ _ _ _ _ _ _ _ _ _ _ _ _ _ _ _ _ _ _ _ _ _ _ _ _ _ _ _ _ _ _ _ _ _ _ _ _ _ _ _ _ _ _ _ _ _ _ _ _ _ _ _ _ _ _ _ _ _ _ _ _ _ _ _ _ _ _ _ _ _ _ _ _ _ _ _ _ _ _ _ _ _ _ _ _ _ _ _ _ _ _ _ _ _ _ _ _ _ _ _ _ _ (RF16 X (.slice (some ⟨A, 0, none⟩) 2 2) (.slice al lns.length cl) lns ⟨o, d, aa, bb, n1, nm⟩ y b off raw.length rc k (X + 1) wr _ _ _ _ _ _ _ _ _ _ _ _ _ _ _ _ _ _ _ _ _ _ _ _ _ _ _ _ _ _ _ _ _ _ _ _ _ _ _ _ _ _ _ _ _ _ _ _ _ _ _ _ _ _ _ _ _ _ _ _ _ _ _ _ _ _ _ _ _ _ _ _ _ _ _ _ _ _ _ _ _ _ _ _ _ _ _ _ _ _ _ _ _ _ _ _ _ _ _ _ _ _ _ _ _ _ _ _ _ _ _ _ _ _ _ _ _ _ _ _ _ _ _ _ _) (RF16 X (.slice (some ⟨A, 0, none⟩) 2 2) (.slice al lns.length cl) lns ⟨o, d, aa, bb, n1, nm⟩ y b off raw.length rc k (X + 1) wr _ _ _ _ _ _ _ _ _ _ _ _ _ _ _ _ _ _ _ _ _ _ _ _ _ _ _ _ _ _ _ _ _ _ _ _ _ _ _ _ _ _ _ _ _ _ _ _ _ _ _ _ _ _ _ _ _ _ _ _ _ _ _ _ _ _ _ _ _ _ _ _ _ _ _ _ _ _ _ _ _ _ _ _ _ _ _ _ _ _ _ _ _ _ _ _ _ _ _ _ _ _ _ _ _ _ _ _ _ _ _ _ _ _ _ _ _ _ _ _ _ _ _ _ _) (fun _ _ q => q) (fun _ _ q => q)) ?_
        intro e a' w' hq
        cases e with
        | normal =>
          obtain ⟨nb, gn, cn, ⟨hfr, hx, hr9⟩, rfl⟩ := hq
          have HFR := Lib.hid hfr; have HX := Lib.hid hx; have HR9 := Lib.hid hr9
          clear hfr hx hr9
          go_wp2_with fail
          refine ⟨⟨k + 1, by omega, hlt, by first | rfl | (simp; done) | go_num, .slice (some ⟨gn, 0, none⟩) (lns.length + 1) cn, ?_⟩, by simp [intOf]; omega⟩
          rw [HSN.out, HSE.out]
          exact Lib.hid (HF.out.line HFR.out HX.out HR9.out.1 HR9.out.2)
        | _ => exact False.elim hq
    · rw [decide_eq_false hgo]
      have hfold : fitFold raw = (nms, lns) := by
        unfold fitFold
        have e : raw.take 40 = raw.take k := by
          by_cases hlt : k < raw.length
          · have : k = 40 := by omega
            rw [this]
          · have : k = raw.length := by omega
            rw [this, List.take_length, List.take_of_length_le (by omega)]
        rw [e]; exact HST.out
      have HFO := Lib.hid hfold
      have hsm := StOk.main HRL.out
      rw [hfold] at hsm
      obtain ⟨hst2, hne⟩ := hsm
      have HNE := Lib.hid hne
      have HNA : Hid (∀ x, x ∈ (fitMain (nms, lns)).2 → x.ins.name.length ≤ 40) := Lib.hid (fun x hx => by
        rcases hst2.each x hx with ⟨_, y, e, _⟩ | ⟨_, e⟩
        · rw [e]; exact fit_name y
        · rw [e]; exact Nat.zero_le _)
      clear hst2
      clear hfold hgo HST HSO HRW HSH HRL hne
      go_upto_if 82 with (fail)
      go_cut [4] (fun s4 wx => ∃ names2 ls2 vl2, Hid (fitMain (nms, lns) = (names2, ls2)) ∧ Hid (FtIn w w.heap.size A X (X + 1) wx names2 ls2 s4 vl2) ∧ names2.length ≤ 41 ∧ ls2.length ≤ 41)
      case first =>
        by_cases hz : nms = []
        · subst hz
          have HFM : Hid (fitMain ([], lns) = ([mainB], lns ++ [⟨mainB, zeroI 0⟩])) := Lib.hid rfl
          have hbI : Below wr.heap.size wr (wr.alloc (.cells #[.string ⟨#[109, 97, 105, 110]⟩] 9)) := (Below.refl _ _).alloc (Nat.le_refl _) _
          have HF6 := Lib.hid (HF.out.old hbI)
          have HNS := Lib.hid (OwnAt.new wr (strCells mainB) 9)
          clear hbI
          go_wp2_with (first | (at_builtin; refine wpList_strSnoc _ rfl _ _ rfl (X + 1) [] _ rfl HF6.out.nm mainB wr.heap.size 1 rfl HNS.out (by simp) HF6.out.le ?_; intro g2 cg2 w7 how7 hgr7 hat7 hlt7; have HF7 := Lib.hid (HF6.out.name hgr7 how7 hat7); clear how7 hgr7 hat7 hlt7; have hbJ : Below w7.heap.size w7 (w7.alloc (.cells #[.string ⟨#[109, 97, 105, 110]⟩, .int .i64 0, .int .i64 0, .int .i64 0, .int .i64 0, .int .i64 0, .string ⟨#[]⟩] 48)) := (Below.refl _ _).alloc (Nat.le_refl _) _; have HF8 := Lib.hid (HF7.out.old hbJ); have HNL := Lib.hid (OwnAt.new w7 (lnCells ⟨mainB, zeroI 0⟩) 48); have x1 := HF7.out.xx.at 1 _ rfl; have hxl := HF7.out.xx.lt; clear hbJ) | (at_builtin; refine wpList_lnSnoc _ rfl _ _ rfl (X + 1) lns _ rfl HF8.out.ln ⟨mainB, zeroI 0⟩ w7.heap.size 1 rfl HNL.out (by omega) HF8.out.le ?_; intro g3 cg3 w9 how9 hgr9 hat9 hlt9; have HX9 := Lib.hid (HF8.out.xx_grow hgr9); have HF9 := Lib.hid (HF8.out.snoc hgr9 how9 hat9); have y1 := HX9.out.at 1 _ rfl; have fy := HX9.out.fz 1; have hyl := HX9.out.lt; clear how9 hgr9 hat9 hlt9))
          go_meet
          exact ⟨_, _, _, HFM, HF9, by simp, by simp; omega⟩
        · have hz1 : 0 < nms.length := List.length_pos_iff.2 hz
          have hz2 : ((nms.length : Int) == 0) = false := beq_eq_false_iff_ne.2 (by omega)
          have HFM : Hid (fitMain (nms, lns) = (nms, lns)) := Lib.hid (by unfold fitMain; rw [if_neg hz])
          go_wp2_with fail
          go_meet
          exact ⟨_, _, _, HFM, HF, by omega, by omega⟩
      case rest =>
      clear HF hnk hlk hnk63 hlk63 hk hk40
      obtain ⟨names, ls, vl2, HFM, HF, hnl, hll⟩ := hcut
      have HNE2 : Hid (names ≠ []) := Lib.hid (by have := HNE.out; rw [HFM.out] at this; exact this)
      have hn0 : 0 < names.length := List.length_pos_iff.2 HNE2.out
      have hn0I : (0 : Int) < (names.length : Int) := by omega
      have hn0z : ((names.length : Int) == 0) = false := beq_eq_false_iff_ne.2 (by omega)
      have hnlI : (names.length : Int) ≤ 41 := by omega
      have hllI : (ls.length : Int) ≤ 41 := by omega
      have HFC : Hid ((fitC raw).lines = ls.mapIdx (nameLn names)) := by show _ = _; unfold fitC; rw [HFO.out, HFM.out]
      rw [HFM.out] at HNA
      clear HNE HNE2 HFO HFM
      obtain ⟨a4, c4, rfl⟩ := RwOwn.shape HF.out.nm
      obtain ⟨al, cl, rfl⟩ := RwOwn.shape HF.out.ln
      go_wp2_with fail
      go_loopw [9] (fun s9 wr => ∃ j : Nat, j ≤ ls.length ∧ s9 = .int .i64 j ∧ Hid (FtIn w w.heap.size A X (X + 1) wr names (uptoL names ls j) (.slice a4 names.length c4) (.slice al ls.length cl))) (fun s9 _ => ls.length - (intOf s9).toNat)
      case atStart => exact ⟨0, Nat.zero_le _, rfl, by rw [upto_zero]; exact HF⟩
      case round =>
        clear HF
        obtain ⟨j, hj, rfl, HF⟩ := hrel
        have x0 := HF.out.xx.at 0 _ rfl
        have x1 := HF.out.xx.at 1 _ rfl
        have hxl := HF.out.xx.lt
        by_cases hlt : j < ls.length
        · have hlt2 : j < (uptoL names ls j).length := by rw [upto_len]; exact hlt
          have hln := HF.out.ln
          obtain ⟨g, rfl, hgb, hgl, hic, hfz⟩ := lns_at hln hlt2
          have hput := fun wq (hq : Below wr.heap.size wr wq) => (HF.out.old hq).put hlt2 (nameIn names j ls[j].ins)
          rw [show (uptoL names ls j)[j].label = ls[j].label by rw [upto_at names ls j hlt]] at hput
          rw [show (⟨ls[j].label, nameIn names j ls[j].ins⟩ : Ln) = nameLn names j ls[j] from rfl, upto_set names ls j hlt] at hput
          rw [upto_at names ls j hlt] at hic
          have hnx : ls[j].ins.name.length ≤ 40 := HNA.out _ (List.getElem_mem hlt)
          obtain ⟨x, hx⟩ : ∃ x, ls[j].ins = x := ⟨_, rfl⟩
          rw [hx] at hic hput hnx
          clear hx hln
          obtain ⟨o, d, aa, bb, n1, nm⟩ := x
          obtain ⟨c1, c2, c3, c4', c5, c6⟩ := hic.all
          dsimp only at c1 c2 c3 c4' c5 c6 hnx
          have f1 := hfz (j * 7 + 1)
          have f2 := hfz (j * 7 + 2)
          have f3 := hfz (j * 7 + 3)
          have f4 := hfz (j * 7 + 4)
          have f5 := hfz (j * 7 + 5)
          have f6 := hfz (j * 7 + 6)
          have HPUT := Lib.hid hput
          clear hput hfz hic
          have hal := HF.out.aa.lt
          have a0 := HF.out.aa.at 0 _ rfl
          have a2 := HF.out.aa.at 2 _ rfl
          by_cases h17 : o = 17
          · subst h17
            by_cases hpar : nm.length % 2 = 0
            · have hpI : (nm.length : Int) % 2 = 0 := by omega
              have HNI : Hid (nameIn names j ⟨17, d, aa, bb, n1, nm⟩ = ⟨17, d, aa, bb, n1, [97]⟩) := Lib.hid (by unfold nameIn arrN; simp [hpar])
              rw [HNI.out] at HPUT
              have HPU := Lib.hid (HPUT.out wr (Below.refl _ _))
              clear HPUT HNI
              go_wp2_with fail
              exact ⟨⟨j + 1, hlt, by first | rfl | (simp; done) | go_num, Lib.hid (HPU.out.old ((Below.refl _ _).alloc (Nat.le_refl _) _))⟩, by simp [intOf]; omega⟩
            · have hpI : (nm.length : Int) % 2 = 1 := by omega
              have HNI : Hid (nameIn names j ⟨17, d, aa, bb, n1, nm⟩ = ⟨17, d, aa, bb, n1, [98]⟩) := Lib.hid (by unfold nameIn arrN; simp [hpar])
              rw [HNI.out] at HPUT
              have HPU := Lib.hid (HPUT.out wr (Below.refl _ _))
              clear HPUT HNI
              go_wp2_with fail
              exact ⟨⟨j + 1, hlt, by first | rfl | (simp; done) | go_num, Lib.hid (HPU.out.old ((Below.refl _ _).alloc (Nat.le_refl _) _))⟩, by simp [intOf]; omega⟩
          · have h17b : (o == 17) = false := by simpa using h17
            cases nm with
            | nil =>
              have HNI : Hid (nameIn names j ⟨o, d, aa, bb, n1, []⟩ = ⟨o, d, aa, bb, n1, []⟩) := Lib.hid (by unfold nameIn; simp [h17])
              rw [HNI.out] at HPUT
              have HPU := Lib.hid (HPUT.out wr (Below.refl _ _))
              clear HPUT HNI
              go_wp2_with fail
              exact ⟨⟨j + 1, hlt, by first | rfl | (simp; done) | go_num, Lib.hid (HPU.out.old ((Below.refl _ _).alloc (Nat.le_refl _) _))⟩, by simp [intOf]; omega⟩
            | cons ch nm =>
              have hnmI : ((ch :: nm).length : Int) ≤ 140737488355328 := by omega
              have hqlt : ((ch :: nm).length + j) % names.length < names.length := Nat.mod_lt _ hn0
              obtain ⟨gn, rfl, hgnl, hcq⟩ := strs_at HF.out.nm hqlt
              have hqe : (((ch :: nm).length : Int) + (j : Int)) % (names.length : Int) = ((((ch :: nm).length + j) % names.length : Nat) : Int) := by rw [Int.natCast_emod, Int.natCast_add]
              obtain ⟨q, hq⟩ : ∃ q, ((ch :: nm).length + j) % names.length = q := ⟨_, rfl⟩
              obtain ⟨y, hy⟩ : ∃ y, names[((ch :: nm).length + j) % names.length] = y := ⟨_, rfl⟩
              have hgd : names.getD (((ch :: nm).length + j) % names.length) [] = y := getD_at names _ hqlt y hy
              rw [hy] at hcq
              have HGD := Lib.hid hgd
              rw [hq] at hcq hqe hqlt
              rw [List.length_cons] at hqe hnmI
              push_cast at hqe hnmI
              clear hq hy hgd
              have HNI : Hid (nameIn names j ⟨o, d, aa, bb, n1, ch :: nm⟩ = ⟨o, d, aa, bb, n1, y⟩) := Lib.hid (nameIn_other names j o d aa bb n1 (ch :: nm) h17 (List.cons_ne_nil _ _) y HGD.out)
              rw [HNI.out] at HPUT
              have HPU := Lib.hid (HPUT.out wr (Below.refl _ _))
              clear HPUT HNI
              go_upto_region 27 with (fail)
              go_upto_region 28 with (fail)
              go_wp2_with fail
              exact ⟨⟨j + 1, hlt, by first | rfl | (simp; done) | go_num, Lib.hid (HPU.out.old ((Below.refl _ _).alloc (Nat.le_refl _) _))⟩, by simp [intOf]; omega⟩
        · have he : j = ls.length := by omega
          subst he
          have r0 := HF.out.rr.at 0 _ rfl
          have r1 := HF.out.rr.at 1 _ rfl
          have g0 := HF.out.rr.fz 0
          have g1 := HF.out.rr.fz 1
          have hrl := HF.out.rr.lt
          go_wp2_with fail
          have HR9 := Lib.hid ((HF.out.rr.set 0 (.slice (some ⟨A, 0, none⟩) 2 2)).set 1 (.slice al ls.length cl))
          refine bodyPost_ret (results_cell_row (P := Tryz.prog) rfl _ _ w.heap.size 26 #[.slice (some ⟨A, 0, none⟩) 2 2, .slice al ls.length cl] (0, 0) _ rfl HR9.out Tryz.underlying26 rfl (by kernel_rfl)) rfl ?_
          have hln := HF.out.ln
          rw [upto_all] at hln
          have h1 := HF.out.ra; have h2 := HF.out.ax
          refine ⟨A, X + 1, .slice al ls.length cl, rfl, ⟨(HF.out.aa.other (by omega) 0 _).other (by omega) 1 _, by rw [HFC.out]; exact row_set (row_set hln (by omega) 0 _) (by omega) 1 _, by omega, by omega, by have := HF.out.le; simpa using this⟩, zbelow_set (zbelow_set HF.out.be (Nat.le_refl _) 0 _) (Nat.le_refl _) 1 _⟩
end Go.Proofs.YtlkfmnabbmceeaaGreatDoor
