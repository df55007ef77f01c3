/-
  A label twice: what Check and Parse say of it. Plain functions alone.
  AsmTwice: a label's line behind the others, in whatever order it is built. Conditions: the code is the law's own.
  AsmTwice: its walk. Conditions: what comes in lies in memory, the number is an int.
-/
import Derived.Test.YtnfkllbkgpmgoaaGreatDoorAsmK
import Derived.Test.YtnfkllbkgpmgoaaGreatDoorAsmJ
set_option linter.unusedVariables false
set_option linter.unusedSimpArgs false
namespace Go.Proofs.YtnfkllbkgpmgoaaGreatDoor
set_option maxRecDepth 100000
set_option maxHeartbeats 4000000

theorem known_app {c : Cd} {m : List Ln} {x : Ins} (h : knownB c x = true) : knownB ⟨c.arrs, c.lines ++ m⟩ x = true := by
  unfold knownB at h ⊢
  by_cases h17 : x.op = 17
  · rw [if_pos h17] at h ⊢; exact h
  · rw [if_neg h17] at h ⊢
    simp only [Bool.or_eq_true] at h ⊢
    rcases h with h | h
    · obtain ⟨i, hi⟩ := Option.isSome_iff_exists.1 h
      exact .inl (by rw [place_app hi]; rfl)
    · exact .inr h
theorem GoodC.lineE_app {c : Cd} (h : GoodC c) (m : List Ln) {j : Nat} (hj : j < c.lines.length) : lineE ⟨c.arrs, c.lines ++ m⟩ j c.lines[j] = 0 := by
  refine lineE_zero.2 ⟨h.well hj, fun hl => ?_, known_app (h.known hj)⟩
  unfold placeI
  rw [place_app (h.place hj hl)]
  exact Int.le_refl _
theorem good_label {c : Cd} (h : GoodC c) {k : Nat} (hk : k < c.lines.length) (hl : c.lines[k].label ≠ []) : labelB c.lines[k].label = true := by
  rcases h.line k hk with ⟨h1, _⟩ | ⟨_, _, n, e⟩
  · exact absurd h1 hl
  · rw [e]; exact iname_ok n
theorem dup_check {c : Cd} (h : GoodC c) {k : Nat} (hk : k < c.lines.length) (hl : c.lines[k].label ≠ []) : checkC ⟨c.arrs, c.lines ++ [⟨c.lines[k].label, zeroI 0⟩]⟩ = (61, (c.lines.length : Int)) := by
  have hlen := h.len
  have hlab := good_label h hk hl
  obtain ⟨lab, e⟩ : ∃ lab, c.lines[k].label = lab := ⟨_, rfl⟩
  have hp := h.place hk hl
  rw [e] at hl hlab hp ⊢
  have hw : wellB ⟨lab, zeroI 0⟩ = true := by
    unfold wellB
    rw [if_neg hl, hlab, (insEq_iff _ _).2 rfl]; rfl
  have he : lineE ⟨c.arrs, c.lines ++ [⟨lab, zeroI 0⟩]⟩ c.lines.length ⟨lab, zeroI 0⟩ = 61 := by
    have hlt : placeI (c.lines ++ [⟨lab, zeroI 0⟩]) lab < ((c.lines.length : Nat) : Int) := by
      unfold placeI
      rw [place_app hp]
      show ((k : Nat) : Int) < _
      omega
    unfold lineE
    rw [hw, if_neg (by decide), if_pos (.inl ⟨hl, hlt⟩)]
  have hj : c.lines.length < (c.lines ++ [⟨lab, zeroI 0⟩] : List Ln).length := by simp
  have hx : (c.lines ++ [⟨lab, zeroI 0⟩] : List Ln)[c.lines.length] = ⟨lab, zeroI 0⟩ := by simp
  have := checkC_at (c := ⟨c.arrs, c.lines ++ [⟨lab, zeroI 0⟩]⟩) (by simp; omega) (by show arrsE c.arrs = 0; rw [h.arrs]; exact arrs2_ok) c.lines.length hj (fun j hj' => by
    show lineE _ j ((c.lines ++ [⟨lab, zeroI 0⟩] : List Ln)[j]'(by simp; omega)) = 0
    rw [List.getElem_append_left hj']
    exact h.lineE_app _ hj') (by show lineE _ _ ((c.lines ++ [⟨lab, zeroI 0⟩] : List Ln)[c.lines.length]'hj) ≠ 0; rw [hx, he]; decide)
  rw [this]
  show (lineE _ _ ((c.lines ++ [⟨lab, zeroI 0⟩] : List Ln)[c.lines.length]'hj), _) = _
  rw [hx, he]
/-! ### Lines, with their numbers -/
def numsFrom (i : Int) : Nat → List Int
  | 0 => []
  | n + 1 => (i + 1) :: numsFrom (i + 1) n
theorem numsFrom_len : ∀ (n : Nat) (i : Int), (numsFrom i n).length = n
  | 0, _ => rfl
  | n + 1, i => by unfold numsFrom; rw [List.length_cons, numsFrom_len n]
theorem numsFrom_at : ∀ (n : Nat) (i : Int) (j : Nat), j < n → (numsFrom i n).getD j 0 = i + 1 + j
  | 0, _, j, h => by omega
  | n + 1, i, 0, _ => by unfold numsFrom; simp
  | n + 1, i, j + 1, h => by
    unfold numsFrom
    have := numsFrom_at n (i + 1) j (by omega)
    rw [List.getD_cons_succ, this]
    omega
theorem takes_lines : ∀ (L : List Ln) (s : Src) (i : Int), (∀ x, x ∈ L → wellB x = true ∧ FitsI x.ins) → takesA s i (L.map lineS ++ [[]]) = .inl ⟨s.arrs, s.lines ++ L, s.wh ++ numsFrom i L.length⟩
  | [], s, i, _ => by
    show takesA s i [[]] = _
    unfold takesA
    rw [bare_nil]
    unfold takeA
    rw [if_pos rfl]
    show takesA s (i + 1) [] = _
    unfold takesA
    show _ = Sum.inl (⟨s.arrs, s.lines ++ [], s.wh ++ []⟩ : Src)
    rw [List.append_nil, List.append_nil]
  | x :: L, s, i, h => by
    obtain ⟨h1, h2⟩ := h x List.mem_cons_self
    have ih := takes_lines L { s with lines := s.lines ++ [x], wh := s.wh ++ [i + 1] } (i + 1) (fun y hy => h y (List.mem_cons_of_mem _ hy))
    rw [List.map_cons, List.cons_append]
    unfold takesA
    rw [(bare_line h1).1, takeA_line h1 h2]
    dsimp only at ih ⊢
    rw [ih, List.length_cons, show numsFrom i (L.length + 1) = (i + 1) :: numsFrom (i + 1) L.length from rfl, List.append_assoc, List.append_assoc]
    rfl
theorem arr_is {s nm t : Bs} {n : Int} (hp : Lib.hasPrefix s [46, 97, 114, 114, 97, 121, 32] = true) (hc : Lib.cut (s.drop 7) [32] = (nm, t, true)) (hn : numA t = some n) (he : arrsE [⟨nm, n⟩] = 0) : arrayA s = some ⟨nm, n⟩ := by
  unfold arrayA
  rw [if_pos hp, hc]
  dsimp only
  rw [hn]
  dsimp only
  rw [if_pos he]
theorem arr1_is : arrayA arr1 = some ⟨[97], 4⟩ := arr_is (by decide) (cut_one 32 [97] [52] (by decide)) (by rw [← itoa_4]; exact num_back 4 (by decide) (by decide)) (by decide)
theorem arr2_is : arrayA arr2 = some ⟨[98], 10⟩ := arr_is (by decide) (cut_one 32 [98] [49, 48] (by decide)) (by rw [← itoa_10]; exact num_back 10 (by decide) (by decide)) (by decide)
theorem takes_code {c : Cd} (L : List Ln) (hL : ∀ x, x ∈ L → wellB x = true ∧ FitsI x.ins) : takesA ⟨[], [], []⟩ 0 (arr1 :: arr2 :: (L.map lineS ++ [[]])) = .inl ⟨arrs2, L, numsFrom 2 L.length⟩ := by
  unfold takesA
  rw [arr1_bare]
  unfold takeA
  rw [if_neg (by decide), arr1_is, if_pos ⟨rfl, rfl⟩]
  show takesA ⟨[⟨[97], 4⟩], [], []⟩ (0 + 1) _ = _
  unfold takesA
  rw [arr2_bare]
  unfold takeA
  rw [if_neg (by decide), arr2_is, if_pos ⟨rfl, rfl⟩]
  show takesA ⟨arrs2, [], []⟩ (0 + 1 + 1) _ = _
  rw [takes_lines L _ _ hL]
  rfl
theorem dup_parse {c : Cd} (h : GoodC c) {k : Nat} (hk : k < c.lines.length) (hl : c.lines[k].label ≠ []) : parseA (codeT c ++ (c.lines[k].label ++ [58, 10])) = (cd0, 61, (c.lines.length : Int) + 3) := by
  have hck := dup_check h hk hl
  have hlab := good_label h hk hl
  have hlen := code_len h
  have hll := (label_mem hlab).2.2
  obtain ⟨lab, e⟩ : ∃ lab, c.lines[k].label = lab := ⟨_, rfl⟩
  rw [e] at hl hlab hck hll ⊢
  have hw : wellB ⟨lab, zeroI 0⟩ = true := by
    unfold wellB
    rw [if_neg hl, hlab, (insEq_iff _ _).2 rfl]; rfl
  have hlS : lineS ⟨lab, zeroI 0⟩ = lab ++ [58] := by unfold lineS; rw [if_pos hl]
  have hlg : linesG [] (codeT c ++ (lab ++ [58, 10])) = arr1 :: arr2 :: (((c.lines ++ [⟨lab, zeroI 0⟩] : List Ln)).map lineS ++ [[]]) := by
    rw [code_lines h.arrs (fun x hx => (h.wells x hx).1)]
    have e1 : lab ++ [58, 10] = lineS ⟨lab, zeroI 0⟩ ++ 10 :: [] := by rw [hlS, List.append_assoc]; rfl
    rw [e1, lines_one _ _ (lineS_feed hw).1, List.map_append, List.append_assoc]
    rfl
  have ht := takes_code (c := c) (c.lines ++ [⟨lab, zeroI 0⟩]) (fun x hx => by
    rcases List.mem_append.1 hx with hx | hx
    · exact h.wells x hx
    · rw [List.mem_singleton.1 hx]; exact ⟨hw, zero_fits⟩)
  unfold parseA
  rw [if_neg (by rw [List.length_append, List.length_append]; show ¬ 400000 < _ + (_ + 2); omega), hlg, ht]
  show endA ⟨arrs2, c.lines ++ [⟨lab, zeroI 0⟩], numsFrom 2 ((c.lines ++ [⟨lab, zeroI 0⟩] : List Ln)).length⟩ = _
  unfold endA
  dsimp only
  rw [← h.arrs, hck]
  dsimp only
  rw [if_neg (by decide), if_neg ?_]
  · rw [show ((c.lines.length : Nat) : Int).toNat = c.lines.length from rfl, numsFrom_at _ _ _ (by simp)]
    congr 2
    omega
  · rw [numsFrom_len, h.arrs]
    rintro (h1 | h1 | h1)
    · exact h1 arrs2_ok
    · simp at h1; omega
    · revert h1; decide
end Go.Proofs.YtnfkllbkgpmgoaaGreatDoor

namespace Go.Proofs.YtnfkllbkgpmgoaaGreatDoor
open Go.RowKit
set_option maxHeartbeats 8000000
set_option maxRecDepth 100000

theorem lns_lab {w : World} {base : Nat} {L : List Ln} {g n cap : Nat} (h : LnsOwn w base L (.slice (some ⟨g, 0, none⟩) n cap)) {i : Nat} (hi : i < L.length) : w.cell? ⟨g, i * 7, none⟩ = some (.string (strOf L[i].label)) := by
  have h2 := World.ownsRow.cells h (g := g) rfl (i * 7 + 0) (.string (strOf L[i].label)) (by rw [iflat_at lnCells 7 lnCells_len L i 0 L[i] (List.getElem?_eq_getElem hi) (by decide)]; rfl)
  have h3 : (⟨g, 0, none⟩ : Addr).add (i * 7 + 0) = ⟨g, i * 7, none⟩ := by unfold Addr.add; split <;> simp_all
  rw [h3] at h2; exact h2
structure VT13 (X : Nat) (va : Value) (g0 vc : Nat) (ls : List Ln) (lab : Bs) (kk : Nat) (base : Nat) (W : World) (L : Nat → Bool) (nb : Nat) (gn : Nat) (cn : Nat) (z52 z53 z54 z55 z56 z57 z58 z59 z60 z61 z62 z63 : Value) (wx : World) : Prop where
  ord : L 12 = true → ∀ j, j < 12 → L j = true
  p8_7 : L 8 = true → L 7 = true
  p9_7 : L 9 = true → L 7 = true
  p10_7 : L 10 = true → L 7 = true
  p10_9 : L 10 = true → L 9 = true
  p12_10 : L 12 = true → L 10 = true
  c0 : L 0 = true → z52 = .pointer (some ⟨X, 1, none⟩)
  c1 : L 1 = true → z53 = .slice (some ⟨g0, 0, none⟩) ls.length vc
  c2 : L 2 = true → z54 = .pointer (some ⟨X, 1, none⟩)
  c3 : L 3 = true → z55 = .slice (some ⟨g0, 0, none⟩) ls.length vc
  c4 : L 4 = true → z56 = .int .i64 kk
  c5 : L 5 = true → z57 = .pointer (some ⟨g0, kk * 7, none⟩)
  c6 : L 6 = true → z58 = .pointer (some ⟨g0, kk * 7, none⟩)
  c7 : L 7 = true → z59 = .string (strOf lab)
  c8 : L 8 = true → z60 = .agg #[.string (strOf lab), .int .i64 0, .int .i64 0, .int .i64 0, .int .i64 0, .int .i64 0, .string ⟨#[]⟩]
  c9 : L 9 = true → z61 = .slice (some ⟨nb, 0, none⟩) 1 1
  c10 : L 10 = true → z62 = .slice (some ⟨gn, 0, none⟩) (ls.length + 1) cn
  c11 : L 11 = true → z63 = .pointer (some ⟨X, 1, none⟩)
  fr : Fr3 X (.slice (some ⟨g0, 0, none⟩) ls.length vc) (.slice (some ⟨g0, 0, none⟩) ls.length vc) W wx
  x : L 12 = false → OwnAt wx X [va, .slice (some ⟨g0, 0, none⟩) ls.length vc] 27
  x3 : L 12 = true → OwnAt wx X [va, .slice (some ⟨gn, 0, none⟩) (ls.length + 1) cn] 27
  lo : L 10 = false → LnsOwn wx base ls (.slice (some ⟨g0, 0, none⟩) ls.length vc)
  r9 : L 9 = true → L 10 = false → OwnAt wx nb (lnCells ⟨lab, zeroI 0⟩) 44 ∧ W.heap.size ≤ nb
  r10 : L 10 = true → LnsOwn wx base (ls ++ [⟨lab, zeroI 0⟩]) (.slice (some ⟨gn, 0, none⟩) (ls.length + 1) cn) ∧ (g0 = gn ∨ W.heap.size ≤ gn)
def IT13 (X : Nat) (va : Value) (g0 vc : Nat) (ls : List Ln) (lab : Bs) (kk : Nat) (base : Nat) (W : World) (q0 q1 q2 q3 q4 q5 q7 q8 q10 q11 q12 q13 q14 q15 q16 q17 q18 q19 q20 q21 q22 q23 q24 q25 q26 q27 q28 q29 q30 q31 q32 q33 q34 q35 q36 q37 q38 q39 q40 q41 q42 q43 q44 q45 q46 q47 q48 q49 q50 q51 q64 q65 q66 q67 q68 q69 q70 q71 q72 q73 q74 q75 q76 q77 q78 q79 q80 q81 q82 q83 q84 q85 q86 q87 q88 q89 q90 q91 q92 q93 q94 q95 q96 q97 q98 q99 q100 q101 q102 q103 q104 q105 q106 q107 q108 q109 q110 q111 q112 q113 q114 q115 q116 q117 q118 q119 q120 : Value) (L : Nat → Bool) (a' : Act) (w' : World) : Prop :=
  ∃ nb : Nat, ∃ gn : Nat, ∃ cn : Nat, ∃ z52 z53 z54 z55 z56 z57 z58 z59 z60 z61 z62 z63 : Value, VT13 X va g0 vc ls lab kk base W L nb gn cn z52 z53 z54 z55 z56 z57 z58 z59 z60 z61 z62 z63 w' ∧ a' = ⟨[q0, q1, q2, q3, q4, q5, .pointer (some ⟨X, 0, none⟩), q7, q8, .int .i64 kk, q10, q11, q12, q13, q14, q15, q16, q17, q18, q19, q20, q21, q22, q23, q24, q25, q26, q27, q28, q29, q30, q31, q32, q33, q34, q35, q36, q37, q38, q39, q40, q41, q42, q43, q44, q45, q46, q47, q48, q49, q50, q51, z52, z53, z54, z55, z56, z57, z58, z59, z60, z61, z62, z63, q64, q65, q66, q67, q68, q69, q70, q71, q72, q73, q74, q75, q76, q77, q78, q79, q80, q81, q82, q83, q84, q85, q86, q87, q88, q89, q90, q91, q92, q93, q94, q95, q96, q97, q98, q99, q100, q101, q102, q103, q104, q105, q106, q107, q108, q109, q110, q111, q112, q113, q114, q115, q116, q117, q118, q119, q120].toArray, []⟩
def RT13 (X : Nat) (va : Value) (g0 vc : Nat) (ls : List Ln) (lab : Bs) (kk : Nat) (base : Nat) (W : World) (q0 q1 q2 q3 q4 q5 q7 q8 q10 q11 q12 q13 q14 q15 q16 q17 q18 q19 q20 q21 q22 q23 q24 q25 q26 q27 q28 q29 q30 q31 q32 q33 q34 q35 q36 q37 q38 q39 q40 q41 q42 q43 q44 q45 q46 q47 q48 q49 q50 q51 q64 q65 q66 q67 q68 q69 q70 q71 q72 q73 q74 q75 q76 q77 q78 q79 q80 q81 q82 q83 q84 q85 q86 q87 q88 q89 q90 q91 q92 q93 q94 q95 q96 q97 q98 q99 q100 q101 q102 q103 q104 q105 q106 q107 q108 q109 q110 q111 q112 q113 q114 q115 q116 q117 q118 q119 q120 : Value) (a' : Act) (w' : World) : Prop :=
  ∃ nb : Nat, ∃ gn : Nat, ∃ cn : Nat, ((Fr3 X (.slice (some ⟨g0, 0, none⟩) ls.length vc) (.slice (some ⟨g0, 0, none⟩) ls.length vc) W w') ∧ (OwnAt w' X [va, .slice (some ⟨gn, 0, none⟩) (ls.length + 1) cn] 27) ∧ (LnsOwn w' base (ls ++ [⟨lab, zeroI 0⟩]) (.slice (some ⟨gn, 0, none⟩) (ls.length + 1) cn) ∧ (g0 = gn ∨ W.heap.size ≤ gn))) ∧ a' = ⟨[q0, q1, q2, q3, q4, q5, .pointer (some ⟨X, 0, none⟩), q7, q8, .int .i64 kk, q10, q11, q12, q13, q14, q15, q16, q17, q18, q19, q20, q21, q22, q23, q24, q25, q26, q27, q28, q29, q30, q31, q32, q33, q34, q35, q36, q37, q38, q39, q40, q41, q42, q43, q44, q45, q46, q47, q48, q49, q50, q51, .pointer (some ⟨X, 1, none⟩), .slice (some ⟨g0, 0, none⟩) ls.length vc, .pointer (some ⟨X, 1, none⟩), .slice (some ⟨g0, 0, none⟩) ls.length vc, .int .i64 kk, .pointer (some ⟨g0, kk * 7, none⟩), .pointer (some ⟨g0, kk * 7, none⟩), .string (strOf lab), .agg #[.string (strOf lab), .int .i64 0, .int .i64 0, .int .i64 0, .int .i64 0, .int .i64 0, .string ⟨#[]⟩], .slice (some ⟨nb, 0, none⟩) 1 1, .slice (some ⟨gn, 0, none⟩) (ls.length + 1) cn, .pointer (some ⟨X, 1, none⟩), q64, q65, q66, q67, q68, q69, q70, q71, q72, q73, q74, q75, q76, q77, q78, q79, q80, q81, q82, q83, q84, q85, q86, q87, q88, q89, q90, q91, q92, q93, q94, q95, q96, q97, q98, q99, q100, q101, q102, q103, q104, q105, q106, q107, q108, q109, q110, q111, q112, q113, q114, q115, q116, q117, q118, q119, q120].toArray, []⟩
theorem reg_T13 (X : Nat) (va : Value) (g0 vc : Nat) (ls : List Ln) (lab : Bs) (kk : Nat) (base : Nat) (W : World) (hx0 : OwnAt W X [va, .slice (some ⟨g0, 0, none⟩) ls.length vc] 27) (hlo : LnsOwn W base ls (.slice (some ⟨g0, 0, none⟩) ls.length vc)) (hvX : g0 ≠ X) (hll : ls.length ≤ 1000000) (hbase : base ≤ W.heap.size) (hkl : kk < ls.length) (hlab : ls[kk].label = lab) (q0 q1 q2 q3 q4 q5 q7 q8 q10 q11 q12 q13 q14 q15 q16 q17 q18 q19 q20 q21 q22 q23 q24 q25 q26 q27 q28 q29 q30 q31 q32 q33 q34 q35 q36 q37 q38 q39 q40 q41 q42 q43 q44 q45 q46 q47 q48 q49 q50 q51 q52 q53 q54 q55 q56 q57 q58 q59 q60 q61 q62 q63 q64 q65 q66 q67 q68 q69 q70 q71 q72 q73 q74 q75 q76 q77 q78 q79 q80 q81 q82 q83 q84 q85 q86 q87 q88 q89 q90 q91 q92 q93 q94 q95 q96 q97 q98 q99 q100 q101 q102 q103 q104 q105 q106 q107 q108 q109 q110 q111 q112 q113 q114 q115 q116 q117 q118 q119 q120 : Value) (J K' : Act → World → Prop) (hJ : ∀ a' w', RT13 X va g0 vc ls lab kk base W q0 q1 q2 q3 q4 q5 q7 q8 q10 q11 q12 q13 q14 q15 q16 q17 q18 q19 q20 q21 q22 q23 q24 q25 q26 q27 q28 q29 q30 q31 q32 q33 q34 q35 q36 q37 q38 q39 q40 q41 q42 q43 q44 q45 q46 q47 q48 q49 q50 q51 q64 q65 q66 q67 q68 q69 q70 q71 q72 q73 q74 q75 q76 q77 q78 q79 q80 q81 q82 q83 q84 q85 q86 q87 q88 q89 q90 q91 q92 q93 q94 q95 q96 q97 q98 q99 q100 q101 q102 q103 q104 q105 q106 q107 q108 q109 q110 q111 q112 q113 q114 q115 q116 q117 q118 q119 q120 a' w' → J a' w') (hM : ∀ a' w', Met J a' w' → K' a' w') :
    Code.wp Tryz.prog ((Tryz.f6.body.bind (regOf 13)).getD .skip) (Exit.then K' (fun _ _ _ => False)) ⟨[q0, q1, q2, q3, q4, q5, .pointer (some ⟨X, 0, none⟩), q7, q8, .int .i64 kk, q10, q11, q12, q13, q14, q15, q16, q17, q18, q19, q20, q21, q22, q23, q24, q25, q26, q27, q28, q29, q30, q31, q32, q33, q34, q35, q36, q37, q38, q39, q40, q41, q42, q43, q44, q45, q46, q47, q48, q49, q50, q51, q52, q53, q54, q55, q56, q57, q58, q59, q60, q61, q62, q63, q64, q65, q66, q67, q68, q69, q70, q71, q72, q73, q74, q75, q76, q77, q78, q79, q80, q81, q82, q83, q84, q85, q86, q87, q88, q89, q90, q91, q92, q93, q94, q95, q96, q97, q98, q99, q100, q101, q102, q103, q104, q105, q106, q107, q108, q109, q110, q111, q112, q113, q114, q115, q116, q117, q118, q119, q120].toArray, []⟩ W := by
  have hXl : X < W.heap.size := hx0.lt
  have hg0 : base ≤ g0 ∧ g0 < W.heap.size := RwOwn.lt hlo g0 rfl
  have HX0 := Lib.hid hx0; have HLO := Lib.hid hlo; have HLAB := Lib.hid hlab
  have hllI : (ls.length : Int) ≤ 1000000 := by omega
  have hkI : (kk : Int) < (ls.length : Int) := by omega
  clear hx0 hlo hlab
  conv => arg 2; whnf
  dsimp only
  refine region_by (by kernel_rfl) (by kernel_rfl) (IT13 X va g0 vc ls lab kk base W q0 q1 q2 q3 q4 q5 q7 q8 q10 q11 q12 q13 q14 q15 q16 q17 q18 q19 q20 q21 q22 q23 q24 q25 q26 q27 q28 q29 q30 q31 q32 q33 q34 q35 q36 q37 q38 q39 q40 q41 q42 q43 q44 q45 q46 q47 q48 q49 q50 q51 q64 q65 q66 q67 q68 q69 q70 q71 q72 q73 q74 q75 q76 q77 q78 q79 q80 q81 q82 q83 q84 q85 q86 q87 q88 q89 q90 q91 q92 q93 q94 q95 q96 q97 q98 q99 q100 q101 q102 q103 q104 q105 q106 q107 q108 q109 q110 q111 q112 q113 q114 q115 q116 q117 q118 q119 q120) ?_ ?_ ?_
  · exact ⟨0, 0, 0, q52, q53, q54, q55, q56, q57, q58, q59, q60, q61, q62, q63, ⟨(fun h => by cases h), (fun h => by cases h), (fun h => by cases h), (fun h => by cases h), (fun h => by cases h), (fun h => by cases h), (fun h => by cases h), (fun h => by cases h), (fun h => by cases h), (fun h => by cases h), (fun h => by cases h), (fun h => by cases h), (fun h => by cases h), (fun h => by cases h), (fun h => by cases h), (fun h => by cases h), (fun h => by cases h), (fun h => by cases h), (Fr3.old (Fr3.refl _ _ _ _) (Below.refl _ _).drew), (fun _ => HX0.out.old (Below.refl _ _).drew), (fun h => by cases h), (fun _ => RwOwn.old HLO.out (Below.refl _ _).drew), (fun h => fun _ => by cases h), (fun h => by cases h)⟩, rfl⟩
  · intro L act wx k hI hk hl hd
    obtain ⟨nb, gn, cn, z52, z53, z54, z55, z56, z57, z58, z59, z60, z61, z62, z63, hV, rfl⟩ := hI
    have hk : k = 0 ∨ k = 1 ∨ k = 2 ∨ k = 3 ∨ k = 4 ∨ k = 5 ∨ k = 6 ∨ k = 7 ∨ k = 8 ∨ k = 9 ∨ k = 10 ∨ k = 11 ∨ k = 12 := by
      have : k < 13 := hk
      omega
    rcases hk with rfl | rfl | rfl | rfl | rfl | rfl | rfl | rfl | rfl | rfl | rfl | rfl | rfl
    · have nl := kf hV.ord hl
      refine op_at _ rfl rfl (fun K' hK => ?_)
      conv => arg 2; whnf
      go_wp2_with fail
      exact ⟨nb, gn, cn, .pointer (some ⟨X, 1, none⟩), z53, z54, z55, z56, z57, z58, z59, z60, z61, z62, z63, ⟨(kl nl), (kq hV.p8_7), (kq hV.p9_7), (kq hV.p10_7), (kq hV.p10_9), (kq hV.p12_10), (fun _ => rfl), (kc hV.c1), (kc hV.c2), (kc hV.c3), (kc hV.c4), (kc hV.c5), (kc hV.c6), (kc hV.c7), (kc hV.c8), (kc hV.c9), (kc hV.c10), (kc hV.c11), hV.fr, (fun h0 => hV.x (kb h0)), (kl nl), (fun h0 => hV.lo (kb h0)), (fun h0 => fun h1 => hV.r9 (kb h0) (kb h1)), (kc hV.r10)⟩, rfl⟩
    · have nl := kf hV.ord hl
      have d0 : L 0 = true := hd _ rfl ⟨0, .data⟩ (by simp) rfl
      obtain rfl := (hV.c0 d0).symm
      have ho := hV.x nl
      have x1 := ho.at 1 _ rfl
      refine op_at _ rfl rfl (fun K' hK => ?_)
      conv => arg 2; whnf
      go_wp2_with fail
      exact ⟨nb, gn, cn, .pointer (some ⟨X, 1, none⟩), .slice (some ⟨g0, 0, none⟩) ls.length vc, z54, z55, z56, z57, z58, z59, z60, z61, z62, z63, ⟨(kl nl), (kq hV.p8_7), (kq hV.p9_7), (kq hV.p10_7), (kq hV.p10_9), (kq hV.p12_10), (kc hV.c0), (fun _ => rfl), (kc hV.c2), (kc hV.c3), (kc hV.c4), (kc hV.c5), (kc hV.c6), (kc hV.c7), (kc hV.c8), (kc hV.c9), (kc hV.c10), (kc hV.c11), hV.fr, (fun h0 => hV.x (kb h0)), (kl nl), (fun h0 => hV.lo (kb h0)), (fun h0 => fun h1 => hV.r9 (kb h0) (kb h1)), (kc hV.r10)⟩, rfl⟩
    · have nl := kf hV.ord hl
      refine op_at _ rfl rfl (fun K' hK => ?_)
      conv => arg 2; whnf
      go_wp2_with fail
      exact ⟨nb, gn, cn, z52, z53, .pointer (some ⟨X, 1, none⟩), z55, z56, z57, z58, z59, z60, z61, z62, z63, ⟨(kl nl), (kq hV.p8_7), (kq hV.p9_7), (kq hV.p10_7), (kq hV.p10_9), (kq hV.p12_10), (kc hV.c0), (kc hV.c1), (fun _ => rfl), (kc hV.c3), (kc hV.c4), (kc hV.c5), (kc hV.c6), (kc hV.c7), (kc hV.c8), (kc hV.c9), (kc hV.c10), (kc hV.c11), hV.fr, (fun h0 => hV.x (kb h0)), (kl nl), (fun h0 => hV.lo (kb h0)), (fun h0 => fun h1 => hV.r9 (kb h0) (kb h1)), (kc hV.r10)⟩, rfl⟩
    · have nl := kf hV.ord hl
      have d2 : L 2 = true := hd _ rfl ⟨2, .data⟩ (by simp) rfl
      obtain rfl := (hV.c2 d2).symm
      have ho := hV.x nl
      have x1 := ho.at 1 _ rfl
      refine op_at _ rfl rfl (fun K' hK => ?_)
      conv => arg 2; whnf
      go_wp2_with fail
      exact ⟨nb, gn, cn, z52, z53, .pointer (some ⟨X, 1, none⟩), .slice (some ⟨g0, 0, none⟩) ls.length vc, z56, z57, z58, z59, z60, z61, z62, z63, ⟨(kl nl), (kq hV.p8_7), (kq hV.p9_7), (kq hV.p10_7), (kq hV.p10_9), (kq hV.p12_10), (kc hV.c0), (kc hV.c1), (kc hV.c2), (fun _ => rfl), (kc hV.c4), (kc hV.c5), (kc hV.c6), (kc hV.c7), (kc hV.c8), (kc hV.c9), (kc hV.c10), (kc hV.c11), hV.fr, (fun h0 => hV.x (kb h0)), (kl nl), (fun h0 => hV.lo (kb h0)), (fun h0 => fun h1 => hV.r9 (kb h0) (kb h1)), (kc hV.r10)⟩, rfl⟩
    · have nl := kf hV.ord hl
      refine op_at _ rfl rfl (fun K' hK => ?_)
      conv => arg 2; whnf
      go_wp2_with fail
      exact ⟨nb, gn, cn, z52, z53, z54, z55, .int .i64 kk, z57, z58, z59, z60, z61, z62, z63, ⟨(kl nl), (kq hV.p8_7), (kq hV.p9_7), (kq hV.p10_7), (kq hV.p10_9), (kq hV.p12_10), (kc hV.c0), (kc hV.c1), (kc hV.c2), (kc hV.c3), (fun _ => rfl), (kc hV.c5), (kc hV.c6), (kc hV.c7), (kc hV.c8), (kc hV.c9), (kc hV.c10), (kc hV.c11), hV.fr, (fun h0 => hV.x (kb h0)), (kl nl), (fun h0 => hV.lo (kb h0)), (fun h0 => fun h1 => hV.r9 (kb h0) (kb h1)), (kc hV.r10)⟩, rfl⟩
    · have nl := kf hV.ord hl
      have d3 : L 3 = true := hd _ rfl ⟨3, .data⟩ (by simp) rfl
      obtain rfl := (hV.c3 d3).symm
      have d4 : L 4 = true := hd _ rfl ⟨4, .data⟩ (by simp) rfl
      obtain rfl := (hV.c4 d4).symm
      refine op_at _ rfl rfl (fun K' hK => ?_)
      conv => arg 2; whnf
      go_wp2_with fail
      exact ⟨nb, gn, cn, z52, z53, z54, .slice (some ⟨g0, 0, none⟩) ls.length vc, .int .i64 kk, .pointer (some ⟨g0, kk * 7, none⟩), z58, z59, z60, z61, z62, z63, ⟨(kl nl), (kq hV.p8_7), (kq hV.p9_7), (kq hV.p10_7), (kq hV.p10_9), (kq hV.p12_10), (kc hV.c0), (kc hV.c1), (kc hV.c2), (kc hV.c3), (kc hV.c4), (fun _ => rfl), (kc hV.c6), (kc hV.c7), (kc hV.c8), (kc hV.c9), (kc hV.c10), (kc hV.c11), hV.fr, (fun h0 => hV.x (kb h0)), (kl nl), (fun h0 => hV.lo (kb h0)), (fun h0 => fun h1 => hV.r9 (kb h0) (kb h1)), (kc hV.r10)⟩, rfl⟩
    · have nl := kf hV.ord hl
      have d5 : L 5 = true := hd _ rfl ⟨5, .data⟩ (by simp) rfl
      obtain rfl := (hV.c5 d5).symm
      refine op_at _ rfl rfl (fun K' hK => ?_)
      conv => arg 2; whnf
      go_wp2_with fail
      exact ⟨nb, gn, cn, z52, z53, z54, z55, z56, .pointer (some ⟨g0, kk * 7, none⟩), .pointer (some ⟨g0, kk * 7, none⟩), z59, z60, z61, z62, z63, ⟨(kl nl), (kq hV.p8_7), (kq hV.p9_7), (kq hV.p10_7), (kq hV.p10_9), (kq hV.p12_10), (kc hV.c0), (kc hV.c1), (kc hV.c2), (kc hV.c3), (kc hV.c4), (kc hV.c5), (fun _ => rfl), (kc hV.c7), (kc hV.c8), (kc hV.c9), (kc hV.c10), (kc hV.c11), hV.fr, (fun h0 => hV.x (kb h0)), (kl nl), (fun h0 => hV.lo (kb h0)), (fun h0 => fun h1 => hV.r9 (kb h0) (kb h1)), (kc hV.r10)⟩, rfl⟩
    · have nl := kf hV.ord hl
      have d6 : L 6 = true := hd _ rfl ⟨6, .data⟩ (by simp) rfl
      obtain rfl := (hV.c6 d6).symm
      have n10 : L 10 = false := by
        cases h : L 10 with
        | false => rfl
        | true => have := hV.p10_7 h; rw [hl] at this; cases this
      have hlc := lns_lab (hV.lo n10) hkl
      rw [HLAB.out] at hlc
      have hgl := World.block_lt_of_cell? _ _ hlc
      refine op_at _ rfl rfl (fun K' hK => ?_)
      conv => arg 2; whnf
      go_wp2_with fail
      exact ⟨nb, gn, cn, z52, z53, z54, z55, z56, z57, .pointer (some ⟨g0, kk * 7, none⟩), .string (strOf lab), z60, z61, z62, z63, ⟨(kl nl), (fun _ => upd_same L 7), (fun _ => upd_same L 7), (fun _ => upd_same L 7), (kq hV.p10_9), (kq hV.p12_10), (kc hV.c0), (kc hV.c1), (kc hV.c2), (kc hV.c3), (kc hV.c4), (kc hV.c5), (kc hV.c6), (fun _ => rfl), (kc hV.c8), (kc hV.c9), (kc hV.c10), (kc hV.c11), hV.fr, (fun h0 => hV.x (kb h0)), (kl nl), (fun h0 => hV.lo (kb h0)), (fun h0 => fun h1 => hV.r9 (kb h0) (kb h1)), (kc hV.r10)⟩, rfl⟩
    · have nl := kf hV.ord hl
      have d7 : L 7 = true := hd _ rfl ⟨7, .data⟩ (by simp) rfl
      obtain rfl := (hV.c7 d7).symm
      refine op_at _ rfl rfl (fun K' hK => ?_)
      conv => arg 2; whnf
      go_wp2_with fail
      exact ⟨nb, gn, cn, z52, z53, z54, z55, z56, z57, z58, .string (strOf lab), .agg #[.string (strOf lab), .int .i64 0, .int .i64 0, .int .i64 0, .int .i64 0, .int .i64 0, .string ⟨#[]⟩], z61, z62, z63, ⟨(kl nl), (kd (d7)), (kq hV.p9_7), (kq hV.p10_7), (kq hV.p10_9), (kq hV.p12_10), (kc hV.c0), (kc hV.c1), (kc hV.c2), (kc hV.c3), (kc hV.c4), (kc hV.c5), (kc hV.c6), (kc hV.c7), (fun _ => rfl), (kc hV.c9), (kc hV.c10), (kc hV.c11), hV.fr, (fun h0 => hV.x (kb h0)), (kl nl), (fun h0 => hV.lo (kb h0)), (fun h0 => fun h1 => hV.r9 (kb h0) (kb h1)), (kc hV.r10)⟩, rfl⟩
    · have nl := kf hV.ord hl
      have d8 : L 8 = true := hd _ rfl ⟨8, .data⟩ (by simp) rfl
      obtain rfl := (hV.c8 d8).symm
      have hal : Below wx.heap.size wx (wx.alloc (.cells #[.string (strOf lab), .int .i64 0, .int .i64 0, .int .i64 0, .int .i64 0, .int .i64 0, .string ⟨#[]⟩] 44)) := (Below.refl _ _).alloc (Nat.le_refl _) _
      have hfs := hV.fr.size
      refine op_at _ rfl rfl (fun K' hK => ?_)
      conv => arg 2; whnf
      go_wp2_with fail
      exact ⟨wx.heap.size, gn, cn, z52, z53, z54, z55, z56, z57, z58, z59, .agg #[.string (strOf lab), .int .i64 0, .int .i64 0, .int .i64 0, .int .i64 0, .int .i64 0, .string ⟨#[]⟩], .slice (some ⟨(wx.heap.size), 0, none⟩) 1 1, z62, z63, ⟨(kl nl), (kq hV.p8_7), (kd (hV.p8_7 d8)), (kq hV.p10_7), (fun _ => upd_same L 9), (kq hV.p12_10), (kc hV.c0), (kc hV.c1), (kc hV.c2), (kc hV.c3), (kc hV.c4), (kc hV.c5), (kc hV.c6), (kc hV.c7), (kc hV.c8), (fun _ => rfl), (kc hV.c10), (kc hV.c11), (Fr3.old (hV.fr) hal), (fun h0 => OwnAt.old (hV.x (kb h0)) hal), (kl nl), (fun h0 => RwOwn.old (hV.lo (kb h0)) hal), (fun _ _ => ⟨OwnAt.new wx (lnCells ⟨lab, zeroI 0⟩) 44, hfs⟩), (kn hV.p10_9 hl)⟩, rfl⟩
    · have nl := kf hV.ord hl
      have d1 : L 1 = true := hd _ rfl ⟨1, .data⟩ (by simp) rfl
      obtain rfl := (hV.c1 d1).symm
      have d9 : L 9 = true := hd _ rfl ⟨9, .data⟩ (by simp) rfl
      obtain rfl := (hV.c9 d9).symm
      have hr8 := hV.r9 d9 hl
      have hlo := hV.lo hl
      have hfs := hV.fr.size
      refine op_at _ rfl rfl (fun K' hK => ?_)
      conv => arg 2; whnf
      refine wp_lnSnoc wx _ _ rfl base ls _ rfl hlo ⟨lab, zeroI 0⟩ nb 1 rfl hr8.1 hll (Nat.le_trans hbase hfs) ?_
      intro g2 cap2 w2 hr2 hg2 ha2 hl2
      go_wp2_with fail
      exact ⟨nb, g2, cap2, z52, .slice (some ⟨g0, 0, none⟩) ls.length vc, z54, z55, z56, z57, z58, z59, z60, .slice (some ⟨nb, 0, none⟩) 1 1, .slice (some ⟨(g2), 0, none⟩) (ls.length + 1) (cap2), z63, ⟨(kl nl), (kq hV.p8_7), (kq hV.p9_7), (kd (hV.p9_7 d9)), (kd (d9)), (fun _ => upd_same L 10), (kc hV.c0), (kc hV.c1), (kc hV.c2), (kc hV.c3), (kc hV.c4), (kc hV.c5), (kc hV.c6), (kc hV.c7), (kc hV.c8), (kc hV.c9), (fun _ => rfl), (kc hV.c11), (hV.fr.grown hg2 (.inl rfl)), (fun _ => (hV.x nl).grow hg2 (fun e => by have e : g0 = X := (by injection e); exact hvX e)), (kl nl), (ks), (fun _ => ks), (fun _ => ⟨hr2, by rcases ha2 with h | h; exact .inl (by injection h); exact .inr (by rw [h]; exact hfs)⟩)⟩, rfl⟩
    · have nl := kf hV.ord hl
      refine op_at _ rfl rfl (fun K' hK => ?_)
      conv => arg 2; whnf
      go_wp2_with fail
      exact ⟨nb, gn, cn, z52, z53, z54, z55, z56, z57, z58, z59, z60, z61, z62, .pointer (some ⟨X, 1, none⟩), ⟨(kl nl), (kq hV.p8_7), (kq hV.p9_7), (kq hV.p10_7), (kq hV.p10_9), (kq hV.p12_10), (kc hV.c0), (kc hV.c1), (kc hV.c2), (kc hV.c3), (kc hV.c4), (kc hV.c5), (kc hV.c6), (kc hV.c7), (kc hV.c8), (kc hV.c9), (kc hV.c10), (fun _ => rfl), hV.fr, (fun h0 => hV.x (kb h0)), (kl nl), (fun h0 => hV.lo (kb h0)), (fun h0 => fun h1 => hV.r9 (kb h0) (kb h1)), (kc hV.r10)⟩, rfl⟩
    · have before : ∀ j, j < 12 → L j = true := fun j hj => by
        have hj : j = 0 ∨ j = 1 ∨ j = 2 ∨ j = 3 ∨ j = 4 ∨ j = 5 ∨ j = 6 ∨ j = 7 ∨ j = 8 ∨ j = 9 ∨ j = 10 ∨ j = 11 := by omega
        rcases hj with rfl | rfl | rfl | rfl | rfl | rfl | rfl | rfl | rfl | rfl | rfl | rfl
        · exact hd _ rfl ⟨0, .phase⟩ (by simp) rfl
        · exact hd _ rfl ⟨1, .phase⟩ (by simp) rfl
        · exact hd _ rfl ⟨2, .phase⟩ (by simp) rfl
        · exact hd _ rfl ⟨3, .phase⟩ (by simp) rfl
        · exact hd _ rfl ⟨4, .phase⟩ (by simp) rfl
        · exact hd _ rfl ⟨5, .phase⟩ (by simp) rfl
        · exact hd _ rfl ⟨6, .phase⟩ (by simp) rfl
        · exact hd _ rfl ⟨7, .phase⟩ (by simp) rfl
        · exact hd _ rfl ⟨8, .phase⟩ (by simp) rfl
        · exact hd _ rfl ⟨9, .phase⟩ (by simp) rfl
        · exact hd _ rfl ⟨10, .data⟩ (by simp) rfl
        · exact hd _ rfl ⟨11, .data⟩ (by simp) rfl
      have d10 : L 10 = true := hd _ rfl ⟨10, .data⟩ (by simp) rfl
      obtain rfl := (hV.c10 d10).symm
      have d11 : L 11 = true := hd _ rfl ⟨11, .data⟩ (by simp) rfl
      obtain rfl := (hV.c11 d11).symm
      have hx := hV.x hl
      have x1 := hx.at 1 _ rfl
      have fx := hx.fz 1
      have hxl := hx.lt
      have hr9 := hV.r10 (before 10 (by decide))
      refine op_at _ rfl rfl (fun K' hK => ?_)
      conv => arg 2; whnf
      go_wp2_with fail
      exact ⟨nb, gn, cn, z52, z53, z54, z55, z56, z57, z58, z59, z60, z61, .slice (some ⟨gn, 0, none⟩) (ls.length + 1) cn, .pointer (some ⟨X, 1, none⟩), ⟨(fun _ j hj => by rw [upd_ne L (show j ≠ 12 by omega)]; exact before j hj), (kq hV.p8_7), (kq hV.p9_7), (kq hV.p10_7), (kq hV.p10_9), (kd (before 10 (by decide))), (kc hV.c0), (kc hV.c1), (kc hV.c2), (kc hV.c3), (kc hV.c4), (kc hV.c5), (kc hV.c6), (kc hV.c7), (kc hV.c8), (kc hV.c9), (kc hV.c10), (kc hV.c11), (hV.fr.set hXl 1 (.slice (some ⟨gn, 0, none⟩) (ls.length + 1) cn)), (ks), (fun _ => hx.set 1 (.slice (some ⟨gn, 0, none⟩) (ls.length + 1) cn)), (fun h => by rw [upd_ne L (show 10 ≠ 12 by decide), before 10 (by decide)] at h; cases h), (fun _ h => by rw [upd_ne L (show 10 ≠ 12 by decide), before 10 (by decide)] at h; cases h), (fun _ => ⟨RwOwn.set hr9.1 (fun e => by have e : gn = X := (by injection e); rcases hr9.2 with h | h; exact hvX (h.trans e); omega) 1 (.slice (some ⟨gn, 0, none⟩) (ls.length + 1) cn), hr9.2⟩)⟩, rfl⟩
  · intro L act wx hI hall
    obtain ⟨nb, gn, cn, z52, z53, z54, z55, z56, z57, z58, z59, z60, z61, z62, z63, hV, rfl⟩ := hI
    obtain rfl := (hV.c0 (hall 0 (by decide))).symm
    obtain rfl := (hV.c1 (hall 1 (by decide))).symm
    obtain rfl := (hV.c2 (hall 2 (by decide))).symm
    obtain rfl := (hV.c3 (hall 3 (by decide))).symm
    obtain rfl := (hV.c4 (hall 4 (by decide))).symm
    obtain rfl := (hV.c5 (hall 5 (by decide))).symm
    obtain rfl := (hV.c6 (hall 6 (by decide))).symm
    obtain rfl := (hV.c7 (hall 7 (by decide))).symm
    obtain rfl := (hV.c8 (hall 8 (by decide))).symm
    obtain rfl := (hV.c9 (hall 9 (by decide))).symm
    obtain rfl := (hV.c10 (hall 10 (by decide))).symm
    obtain rfl := (hV.c11 (hall 11 (by decide))).symm
    exact hM _ _ (Met.intro (hJ _ _ ⟨nb, gn, cn, ⟨hV.fr, hV.x3 (hall 12 (by decide)), hV.r10 (hall 10 (by decide))⟩, rfl⟩))
end Go.Proofs.YtnfkllbkgpmgoaaGreatDoor

namespace Go.Proofs.YtnfkllbkgpmgoaaGreatDoor
open Go.RowKit
set_option maxHeartbeats 4000000
set_option maxRecDepth 100000

def lnD : Ln := ⟨[], zeroI 0⟩
def labsN (l : List Ln) : Nat → List Int
  | 0 => []
  | i + 1 => if (l.getD i lnD).label = [] then labsN l i else labsN l i ++ [(i : Int)]
theorem labs_len (l : List Ln) : ∀ i, (labsN l i).length ≤ i
  | 0 => Nat.le_refl _
  | i + 1 => by
    have := labs_len l i
    unfold labsN
    split
    · omega
    · simp; omega
theorem labs_mem (l : List Ln) : ∀ i z, z ∈ labsN l i → ∃ j : Nat, j < i ∧ z = (j : Int) ∧ (l.getD j lnD).label ≠ []
  | 0, z, h => by cases h
  | i + 1, z, h => by
    unfold labsN at h
    split at h
    · obtain ⟨j, h1, h2⟩ := labs_mem l i z h
      exact ⟨j, by omega, h2⟩
    · rename_i hn
      rcases List.mem_append.1 h with h | h
      · obtain ⟨j, h1, h2⟩ := labs_mem l i z h
        exact ⟨j, by omega, h2⟩
      · exact ⟨i, by omega, List.mem_singleton.1 h, hn⟩
theorem labs_ne (l : List Ln) (j : Nat) (hl : (l.getD j lnD).label ≠ []) : ∀ i, j < i → 0 < (labsN l i).length
  | 0, h => by omega
  | i + 1, h => by
    unfold labsN
    by_cases e : j = i
    · subst e
      rw [if_neg hl]; simp
    · have := labs_ne l j hl i (by omega)
      split
      · exact this
      · simp
theorem getD_is (l : List Ln) (j : Nat) (hj : j < l.length) : l.getD j lnD = l[j] := by rw [List.getD_eq_getElem?_getD, List.getElem?_eq_getElem hj]; rfl
theorem RwAt.pre {α : Type} {cf : α → List Value} {k : Nat} {w : World} {L M : List α} {a : Option Addr} {n cap : Nat} (h : RwAt cf k w (L ++ M) (.slice a n cap)) (cap' : Nat) : RwAt cf k w L (.slice a L.length cap') := by
  obtain ⟨a', cap0, b, off, h1, h2, h3, h4⟩ := h
  cases h1
  rw [List.length_append] at h2 h3
  refine ⟨a, cap', b, off, rfl, ?_, by omega, fun i p hi => h4 i p ?_⟩
  · rcases h2 with h2 | h2
    · exact .inl (by omega)
    · exact .inr h2
  · rw [List.getElem?_append_left (List.getElem?_eq_some_iff.1 hi).1]; exact hi
theorem own_cap {α : Type} {e : TypeId} {cf : α → List Value} {k base : Nat} {w : World} {L : List α} {g n cap : Nat} (h : RwOwn e cf k w base L (.slice (some ⟨g, 0, none⟩) n cap)) : n ≤ cap ∧ cap ≤ 9223372036854775807 := by
  rcases h.2 with ⟨h1, _⟩ | ⟨g', cp, cur, h1, _, _, h3, h4, _⟩
  · cases h1
  · cases h1
    unfold maxLen at h4
    exact ⟨h3, by omega⟩
theorem qtwice_any (raw : List Ln) (v : Value) (which : Int) (hwh : I64 which) (w : World) (h : RawQ w raw v) (hl : ILib w) :
    Calls Tryz.prog 6 #[v, .int .i64 which] w fun e w' => e = .returned (.bool true) ∧ Below w.heap.size w w' := by
  have HR := Lib.hid h; have HL := Lib.hid hl
  have HAW := Lib.hid (fun w hl => qawake_any w hl)
  have HFT := Lib.hid (fun w hr => fit_good raw v w hr)
  have HG := Lib.hid (fitC_good h.ok)
  clear h hl
  generalize fitC raw = c at *
  have hcl : c.lines.length ≤ 41 := HG.out.len
  have hclI : (c.lines.length : Int) ≤ 41 := by omega
  have HPR := Lib.hid (fun va vl w' h hl => codePrint_any c va vl w' h HG.out.short HG.out.alen (fun x hx => (HG.out.wells x hx).2) hl)
  rw [good_print HG.out] at HPR
  dsimp only at HPR
  have hsl := code_len HG.out
  have HCA : Hid (c.arrs = arrs2) := Lib.hid HG.out.arrs
  obtain ⟨j0, hj0, hl0⟩ := HG.out.has
  have hpos : 0 < c.lines.length := by omega
  have hlab0 := labs_ne c.lines j0 (by rw [getD_is c.lines j0 hj0]; exact hl0) c.lines.length hj0
  clear hl0 hj0
  go_enter Tryz.func6, Tryz.ntmps6
  go_wp2_with fail
  refine (HAW.out _ HL.out).mono ?_
  rintro e w1 ⟨rfl, hb1⟩
  have HB1 := Lib.hid hb1
  have HR1 := Lib.hid (HR.out.old hb1)
  clear hb1 HAW
  go_wp2_with fail
  refine (HFT.out _ HR1.out).mono ?_
  rintro e w2 ⟨A, base, al, cl, rfl, hfo, hb2⟩
  obtain ⟨g0, rfl, hgb0, hgl0, _, _⟩ := lns_at hfo.ln hpos
  have hbA : Below w2.heap.size w2 (w2.alloc (.cells #[.slice (some ⟨A, 0, none⟩) 2 2, .slice (some ⟨g0, 0, none⟩) c.lines.length cl] 27)) := (Below.refl _ _).alloc (Nat.le_refl _) _
  have HF2 := Lib.hid (hfo.old hbA)
  have HC2 := Lib.hid ((hfo.code HCA.out (by omega)).old hbA)
  have HO2 := Lib.hid (OwnAt.new w2 [.slice (some ⟨A, 0, none⟩) 2 2, .slice (some ⟨g0, 0, none⟩) c.lines.length cl] 27)
  have hb3 := HB1.out.trans (hb2.mono HB1.out.size)
  have HB2 := Lib.hid (hb3.trans (hbA.mono hb3.size))
  have hs12 := hb3.size
  have hbs := hfo.le
  have hba := hfo.ab
  have hlo1 := hfo.lo
  have hs1 := HB1.out.size
  clear hbA hb2 hb3 hfo HB1 HR1 HFT
  go_wp2_with fail
  obtain ⟨W2, hW2⟩ : ∃ W2, (w2.alloc (.cells #[.slice (some ⟨A, 0, none⟩) 2 2, .slice (some ⟨g0, 0, none⟩) c.lines.length cl] 27)) = W2 := ⟨_, rfl⟩
  have hsz2 : W2.heap.size = w2.heap.size + 1 := by rw [← hW2]; simp
  have HSZ2 := Lib.hid hsz2
  obtain ⟨T6, hT6⟩ : ∃ T6, w2.heap.size = T6 := ⟨_, rfl⟩
  rw [hW2] at HC2 HB2 HO2 HF2 ⊢
  rw [hT6] at HO2 hs12 hbs hgl0 HSZ2 ⊢
  clear hW2 hT6 hsz2
  go_loopw [7, 8] (fun s7 s8 wr => ∃ i : Nat, i ≤ c.lines.length ∧ s8 = .int .i64 i ∧ Hid (NumsOwn wr W2.heap.size (labsN c.lines i) s7) ∧ Hid (Below W2.heap.size W2 wr)) (fun _ s8 _ => c.lines.length - (intOf s8).toNat)
  case atStart => exact ⟨0, Nat.zero_le _, rfl, Lib.hid (RwOwn.zero _ _ _ _ _), Lib.hid (Below.refl _ _)⟩
  case round =>
    obtain ⟨i, hi, rfl, HN, HBR⟩ := hrel
    have HCR := Lib.hid (HC2.out.old HBR.out)
    have HOR := Lib.hid (HO2.out.old HBR.out)
    have x0 := HOR.out.at 0 _ rfl
    have x1 := HOR.out.at 1 _ rfl
    have hxl := HOR.out.lt
    have hll := labs_len c.lines i
    by_cases hlt : i < c.lines.length
    · obtain ⟨b', off', eb, hbl, c0, _⟩ := LnsAt.at HCR.out.2 hlt
      cases eb
      rw [Nat.zero_add] at c0
      have hsn : labsN c.lines (i + 1) = if (c.lines.getD i lnD).label = [] then labsN c.lines i else labsN c.lines i ++ [(i : Int)] := rfl
      rw [getD_is c.lines i hlt] at hsn
      obtain ⟨lb, hlb⟩ : ∃ lb, c.lines[i].label = lb := ⟨_, rfl⟩
      rw [hlb] at c0 hsn
      clear hlb
      obtain ⟨a7, c7, rfl⟩ := RwOwn.shape HN.out
      cases lb with
      | nil =>
        rw [if_pos rfl] at hsn
        have HSN := Lib.hid hsn
        clear hsn
        go_wp2_with fail
        exact ⟨⟨i + 1, hlt, by first | rfl | (simp; done) | go_num, by rw [HSN.out]; exact HN, HBR⟩, by simp [intOf]; omega⟩
      | cons ch lb =>
        rw [if_neg (List.cons_ne_nil _ _)] at hsn
        have HSN := Lib.hid hsn
        have hbI : Below wr.heap.size wr (wr.alloc (.cells #[.int .i64 i] 3)) := (Below.refl _ _).alloc (Nat.le_refl _) _
        have HN6 := Lib.hid (RwOwn.old HN.out hbI)
        have HB6 := Lib.hid (HBR.out.trans (hbI.mono HBR.out.size))
        have HNS := Lib.hid (OwnAt.new wr (intCells (i : Int)) 3)
        have HSW := Lib.hid HB6.out.size
        clear hsn hbI
        go_wp2_with (at_builtin; refine wpList_numSnoc _ rfl _ _ rfl W2.heap.size (labsN c.lines i) _ rfl HN6.out (i : Int) wr.heap.size 1 rfl HNS.out (by omega) HSW.out ?_; intro g2 cg2 w7 how7 hgr7 hat7 hlt7; have HN7 := Lib.hid how7; have HB7 := Lib.hid (below_grow HB6.out hgr7 (fun k e => (RwOwn.lt HN6.out k e).1) HSW.out); clear how7 hgr7 hat7 hlt7)
        exact ⟨⟨i + 1, hlt, by first | rfl | (simp; done) | go_num, by rw [HSN.out]; exact HN7, HB7⟩, by simp [intOf]; omega⟩
    · have he : i = c.lines.length := by omega
      subst he
      have HMEM := Lib.hid (fun z h => labs_mem c.lines c.lines.length z h)
      have HF3 := Lib.hid (HF2.out.old HBR.out)
      have HB3 := Lib.hid (HB2.out.trans (HBR.out.mono HB2.out.size))
      generalize labsN c.lines c.lines.length = L at *
      have hLI : (L.length : Int) ≤ 41 := by omega
      have hL0 : ((L.length : Int) == 0) = false := beq_eq_false_iff_ne.2 (by omega)
      have hL1 : (0 : Int) < (L.length : Int) := by omega
      have HPK := Lib.hid (fun w => qpick_any which L.length hwh hL1 (by omega) w)
      have hq := ipick_range which L.length hL1
      generalize ipick which L.length = q at *
      obtain ⟨hq0, hq1⟩ := hq
      have hqn : q.toNat < L.length := by omega
      obtain ⟨a7, c7, rfl⟩ := RwOwn.shape HN.out
      obtain ⟨bq, oq, eq, hbql, cq⟩ := NumsAt.at (RwOwn.nilv HN.out (by omega) intCells_len) hqn
      subst eq
      obtain ⟨k, hk, hz, hkl⟩ := HMEM.out _ (List.getElem_mem hqn)
      rw [getD_is c.lines k hk] at hkl
      rw [hz] at cq
      obtain ⟨qn, hqe⟩ : ∃ qn : Nat, q = (qn : Int) := ⟨q.toNat, by omega⟩
      subst hqe
      rw [Int.toNat_natCast] at cq hqn
      have hkI : (k : Int) < (c.lines.length : Int) := by omega
      have HKL := Lib.hid hkl
      have hllb := (label_mem (good_label HG.out hk hkl)).2.2
      have HCK := Lib.hid (fun (va vl : Value) (w' : World) (h : CodeAt w' ⟨c.arrs, c.lines ++ [⟨(c.lines[k]'hk).label, zeroI 0⟩]⟩ va vl) (hs : ShortC ⟨c.arrs, c.lines ++ [⟨(c.lines[k]'hk).label, zeroI 0⟩]⟩) => check_any ⟨c.arrs, c.lines ++ [⟨(c.lines[k]'hk).label, zeroI 0⟩]⟩ va vl w' h hs)
      rw [dup_check HG.out hk hkl] at HCK
      dsimp only at HCK
      have HPP := Lib.hid (fun w' hl => codeParse_any (codeT c ++ (c.lines[k].label ++ [58, 10])) (by rw [List.length_append, List.length_append]; show _ + (_ + 2) ≤ _; omega) w' hl)
      rw [dup_parse HG.out hk hkl] at HPP
      dsimp only at HPP
      have HSHX : Hid (ShortC ⟨c.arrs, c.lines ++ [⟨c.lines[k].label, zeroI 0⟩]⟩) := Lib.hid ⟨fun x hx => by
        rcases List.mem_append.1 hx with hx | hx
        · exact HG.out.short.lines x hx
        · rw [List.mem_singleton.1 hx]; exact ⟨by dsimp only; omega, Nat.zero_le _⟩, HG.out.short.arrs⟩
      have HLB : Hid (c.lines[k].label = c.lines[k].label) := Lib.hid rfl
      obtain ⟨lb, hlb⟩ : ∃ lb, c.lines[k].label = lb := ⟨_, rfl⟩
      have HLBE := Lib.hid hlb
      rw [hlb] at HCK HPP HSHX hllb
      clear hlb hkl hz HKL HLB HMEM HF2 HC2 HO2 HB2 HN
      generalize codeT c = s at *
      go_upto_region 13 with (go_at_call 13; refine (HPK.out _).mono ?_; rintro e w7 ⟨rfl, rfl⟩)
      have hgT : g0 ≠ T6 := by omega
      have hsW := HBR.out.size
      refine wp_cut (fun a' w' => RT13 T6 (.slice (some ⟨A, 0, none⟩) 2 2) g0 cl c.lines lb k base wr _ _ _ _ _ _ _ _ _ _ _ _ _ _ _ _ _ _ _ _ _ _ _ _ _ _ _ _ _ _ _ _ _ _ _ _ _ _ _ _ _ _ _ _ _ _ _ _ _ _ _ _ _ _ _ _ _ _ _ _ _ _ _ _ _ _ _ _ _ _ _ _ _ _ _ _ _ _ _ _ _ _ _ _ _ _ _ _ _ _ _ _ _ _ _ _ _ _ _ _ _ _ _ _ _ _ _ a' w') ?rest (fun J K' hJ hM => then_any (reg_T13 T6 (.slice (some ⟨A, 0, none⟩) 2 2) g0 cl c.lines lb k base wr HOR.out HF3.out.ln hgT (by omega) HF3.out.le hk HLBE.out _ _ _ _ _ _ _ _ _ _ _ _ _ _ _ _ _ _ _ _ _ _ _ _ _ _ _ _ _ _ _ _ _ _ _ _ _ _ _ _ _ _ _ _ _ _ _ _ _ _ _ _ _ _ _ _ _ _ _ _ _ _ _ _ _ _ _ _ _ _ _ _ _ _ _ _ _ _ _ _ _ _ _ _ _ _ _ _ _ _ _ _ _ _ _ _ _ _ _ _ _ _ _ _ _ _ _ _ _ _ _ _ _ _ _ _ _ _ _ J K' hJ hM))
      case rest =>
        rintro a' w' ⟨nb, gn, cn, ⟨hfr, hx, hr10⟩, rfl⟩
        have hcp := own_cap hr10.1
        have hcnI : (c.lines.length : Int) ≤ (cn : Int) := by omega
        have hcnI2 : (cn : Int) ≤ 9223372036854775807 := by omega
        have hcn0 : ¬ cn = 0 := by omega
        have hcn1 : ¬ (cn : Int) = 0 := by omega
        have hT6w : w.heap.size ≤ T6 := by omega
        have hAg : A ≠ g0 := by omega
        have hAT : A ≠ T6 := by omega
        have inj : ∀ {g : Nat}, (Value.slice (some ⟨g0, 0, none⟩) c.lines.length cl).ownBlock = some g → g0 = g := fun e => by injection e
        have HA13 : Hid (OwnAt w' A arrC 51) := Lib.hid ((hfr.block A (by have := HF3.out.aa.lt; omega) hAT (fun e => hAg (inj e).symm) (fun e => hAg (inj e).symm)).trans HF3.out.aa)
        have HC13 : Hid (CodeAt w' ⟨c.arrs, c.lines ++ [⟨lb, zeroI 0⟩]⟩ (.slice (some ⟨A, 0, none⟩) 2 2) (.slice (some ⟨gn, 0, none⟩) (c.lines.length + 1) cn)) := Lib.hid ⟨by show ArwAt w' c.arrs _; rw [HCA.out]; exact arr_at HA13.out, by
          have := RwOwn.nilv hr10.1 (by simp; omega) lnCells_len
          exact this⟩
        have hbW : Below w.heap.size wr w' := ⟨hfr.os, hfr.tape, hfr.output, hfr.size, fun k hk => hfr.block k (by omega) (by omega) (fun e => by have := inj e; omega) (fun e => by have := inj e; omega)⟩
        have HB13 := Lib.hid (HB3.out.trans hbW)
        have HX13 := Lib.hid hx
        have HR13 := Lib.hid hr10.1
        have HGT : Hid (gn ≠ T6) := Lib.hid (by rcases hr10.2 with h | h <;> omega)
        clear hfr hx hr10 hbW HF3 HB3 HCR HOR HBR HPK x0 x1 hxl cq hbql
        have x0 := HX13.out.at 0 _ rfl
        have x1 := HX13.out.at 1 _ rfl
        have hxl := HX13.out.lt
        go_wp2_with fail
        refine (HCK.out _ _ _ HC13.out HSHX.out).mono ?_
        rintro e w14 ⟨rfl, hb14⟩
        have HC14 := Lib.hid (HC13.out.old hb14)
        have HX14 := Lib.hid (HX13.out.old hb14)
        have HB14 := Lib.hid (HB13.out.trans (hb14.mono HB13.out.size))
        have HA14 := Lib.hid (HA13.out.old hb14)
        have HR14 := Lib.hid (RwOwn.old HR13.out hb14)
        clear hb14 x0 x1 hxl HC13 HX13 HB13 HA13 HR13 HCK HSHX
        have x0 := HX14.out.at 0 _ rfl
        have x1 := HX14.out.at 1 _ rfl
        have fx := HX14.out.fz 1
        have hxl := HX14.out.lt
        go_wp2_with fail
        have HCAT : Hid (strOf s ++ strOf lb ++ strOf [58, 10] = strOf (s ++ (lb ++ [58, 10]))) := Lib.hid (by rw [bs_app, bs_app, List.append_assoc])
        have hbS : Below w.heap.size w14 (w14.setCell ⟨T6, 1, none⟩ (.slice (some ⟨gn, 0, none⟩) c.lines.length cn)) := zbelow_set (Below.refl _ _) hT6w 1 _
        have HX15 := Lib.hid (HX14.out.set 1 (.slice (some ⟨gn, 0, none⟩) c.lines.length cn))
        have HB15 := Lib.hid (HB14.out.trans hbS)
        have hgnT : gn ≠ T6 := HGT.out
        have HC15 : Hid (CodeAt (w14.setCell ⟨T6, 1, none⟩ (.slice (some ⟨gn, 0, none⟩) c.lines.length cn)) c (.slice (some ⟨A, 0, none⟩) 2 2) (.slice (some ⟨gn, 0, none⟩) c.lines.length cn)) := Lib.hid ⟨by rw [HCA.out]; exact arr_at (HA14.out.other hAT 1 _), RwAt.pre (RwOwn.nilv (RwOwn.set HR14.out (fun e => hgnT (by injection e)) 1 _) (by simp; omega) lnCells_len) cn⟩
        have HL15 := Lib.hid (HL.out.old HB15.out)
        clear hbS HC14 HX14 HB14 x0 x1 fx hxl
        generalize (w14.setCell ⟨T6, 1, none⟩ (.slice (some ⟨gn, 0, none⟩) c.lines.length cn)) = W15 at *
        refine (HPR.out _ _ _ HC15.out HL15.out).mono ?_
        rintro e w16 ⟨rfl, hb16⟩
        have HC16 := Lib.hid (HC15.out.old hb16)
        have HX16 := Lib.hid (HX15.out.old hb16)
        have HB16 := Lib.hid (HB15.out.trans (hb16.mono HB15.out.size))
        have HL16 := Lib.hid (HL.out.old HB16.out)
        clear hb16 HC15 HX15 HB15 HL15 HPR
        have x0 := HX16.out.at 0 _ rfl
        have x1 := HX16.out.at 1 _ rfl
        have hxl := HX16.out.lt
        obtain ⟨b', off', eb, hbl, c0, _⟩ := LnsAt.at HC16.out.2 hk
        cases eb
        rw [Nat.zero_add, HLBE.out] at c0
        have l1 : (9223372036854775807 < s.length + lb.length) = False := eq_false (by omega)
        have l2 : (9223372036854775807 < s.length + lb.length + 2) = False := eq_false (by omega)
        go_wp2_with fail
        rw [show strOf s ++ strOf lb ++ ({ data := #[58, 10] } : ByteArray) = strOf (s ++ (lb ++ [58, 10])) from HCAT.out]
        refine (HPP.out _ HL16.out).mono ?_
        rintro e w17 ⟨d1, d2, rfl, hd, _, hb17⟩
        obtain ⟨e3, f3, rfl⟩ := RwAt.shape hd.1
        obtain ⟨e4, f4, rfl⟩ := RwAt.shape hd.2
        have HX17 := Lib.hid (HX16.out.old hb17)
        have HB17 := Lib.hid (HB16.out.trans (hb17.mono HB16.out.size))
        clear hb17 HX16 HB16 HL16 HC16 hd x0 x1 hxl c0 hbl HPP
        have x0 := HX17.out.at 0 _ rfl
        have x1 := HX17.out.at 1 _ rfl
        have hxl := HX17.out.lt
        have hn3 : ((c.lines.length : Int) + 3 == (c.lines.length : Int) + 2 + 1) = true := by simp; omega
        go_wp2_with fail
        go_ret
        exact ⟨by first | rfl | (simp; done) | (simp; omega), HB17.out.alloc HB17.out.size _⟩
end Go.Proofs.YtnfkllbkgpmgoaaGreatDoor
