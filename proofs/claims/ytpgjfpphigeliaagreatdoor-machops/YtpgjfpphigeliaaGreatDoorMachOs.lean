/-
  MachOps: its code is laid out, in whatever order. Condition: the instruction lies in memory.
  The operators' functions: what arith.Two and One make of two numbers. Condition: the numbers are ints.
  MachOps: instructions of registers make what operators make. Conditions: ints; the library's variables lie in memory.
-/
import Derived.Test.YtpgjfpphigeliaaGreatDoorMachF
import Derived.Test.YtpgjfpphigeliaaGreatDoorMachA
import Derived.Test.YtpgjfpphigeliaaGreatDoorJOs
set_option linter.unusedVariables false
set_option linter.unusedSimpArgs false
namespace Go.Proofs.YtpgjfpphigeliaaGreatDoor
open Go.RowKit
set_option maxHeartbeats 8000000
set_option maxRecDepth 100000

structure VJO6 (T9 : Nat) (a b io ib : Int) (W : World) (L : Nat → Bool) (TL : Nat) (TC : Nat) (z22 z23 z24 z25 z26 z27 z28 z29 z30 z31 z32 z33 z34 z35 z10 : Value) (wx : World) : Prop where
  ord : L 15 = true → ∀ j, j < 15 → L j = true
  p12_2 : L 12 = true → L 2 = true
  p12_5 : L 12 = true → L 5 = true
  p12_7 : L 12 = true → L 7 = true
  p12_9 : L 12 = true → L 9 = true
  p12_11 : L 12 = true → L 11 = true
  p13_12 : L 13 = true → L 12 = true
  p15_12 : L 15 = true → L 12 = true
  p15_14 : L 15 = true → L 14 = true
  c0 : L 0 = true → z22 = .int .i64 a
  c1 : L 1 = true → z23 = .agg #[.int .i64 16, .int .i64 5, .int .i64 0, .int .i64 0, .int .i64 a, .string ⟨#[]⟩]
  c2 : L 2 = true → z24 = .agg #[.string ⟨#[]⟩, .int .i64 16, .int .i64 5, .int .i64 0, .int .i64 0, .int .i64 a, .string ⟨#[]⟩]
  c3 : L 3 = true → z25 = .int .i64 b
  c4 : L 4 = true → z26 = .agg #[.int .i64 16, .int .i64 6, .int .i64 0, .int .i64 0, .int .i64 b, .string ⟨#[]⟩]
  c5 : L 5 = true → z27 = .agg #[.string ⟨#[]⟩, .int .i64 16, .int .i64 6, .int .i64 0, .int .i64 0, .int .i64 b, .string ⟨#[]⟩]
  c6 : L 6 = true → z28 = .agg #[.int .i64 io, .int .i64 10, .int .i64 5, .int .i64 ib, .int .i64 0, .string ⟨#[]⟩]
  c7 : L 7 = true → z29 = .agg #[.string ⟨#[]⟩, .int .i64 io, .int .i64 10, .int .i64 5, .int .i64 ib, .int .i64 0, .string ⟨#[]⟩]
  c8 : L 8 = true → z30 = .agg #[.int .i64 16, .int .i64 17, .int .i64 0, .int .i64 0, .int .i64 3, .string ⟨#[]⟩]
  c9 : L 9 = true → z31 = .agg #[.string ⟨#[]⟩, .int .i64 16, .int .i64 17, .int .i64 0, .int .i64 0, .int .i64 3, .string ⟨#[]⟩]
  c10 : L 10 = true → z32 = .agg #[.int .i64 28, .int .i64 0, .int .i64 0, .int .i64 0, .int .i64 0, .string ⟨#[]⟩]
  c11 : L 11 = true → z33 = .agg #[.string ⟨#[]⟩, .int .i64 28, .int .i64 0, .int .i64 0, .int .i64 0, .int .i64 0, .string ⟨#[]⟩]
  c12 : L 12 = true → z34 = .slice (some ⟨TL, 0, none⟩) 5 5
  c13 : L 13 = true → z35 = .agg #[.slice none 0 0, .slice (some ⟨TL, 0, none⟩) 5 5]
  c14 : L 14 = true → z10 = .pointer (some ⟨TC, 0, none⟩)
  fr : L 15 = false → Below W.heap.size W wx
  bTL : L 12 = true → L 15 = false → OwnAt wx TL [.string ⟨#[]⟩, .int .i64 16, .int .i64 5, .int .i64 0, .int .i64 0, .int .i64 a, .string ⟨#[]⟩, .string ⟨#[]⟩, .int .i64 16, .int .i64 6, .int .i64 0, .int .i64 0, .int .i64 b, .string ⟨#[]⟩, .string ⟨#[]⟩, .int .i64 io, .int .i64 10, .int .i64 5, .int .i64 ib, .int .i64 0, .string ⟨#[]⟩, .string ⟨#[]⟩, .int .i64 16, .int .i64 17, .int .i64 0, .int .i64 0, .int .i64 3, .string ⟨#[]⟩, .string ⟨#[]⟩, .int .i64 28, .int .i64 0, .int .i64 0, .int .i64 0, .int .i64 0, .string ⟨#[]⟩] 41 ∧ W.heap.size ≤ TL
  nTL : L 12 = true → L 14 = true → TL ≠ TC
  bC : L 14 = true → L 15 = false → OwnAt wx TC [.slice none 0 0, .slice none 0 0] 27 ∧ W.heap.size ≤ TC
  up : L 15 = true → Below W.heap.size W wx ∧ OwnAt wx TL [.string ⟨#[]⟩, .int .i64 16, .int .i64 5, .int .i64 0, .int .i64 0, .int .i64 a, .string ⟨#[]⟩, .string ⟨#[]⟩, .int .i64 16, .int .i64 6, .int .i64 0, .int .i64 0, .int .i64 b, .string ⟨#[]⟩, .string ⟨#[]⟩, .int .i64 io, .int .i64 10, .int .i64 5, .int .i64 ib, .int .i64 0, .string ⟨#[]⟩, .string ⟨#[]⟩, .int .i64 16, .int .i64 17, .int .i64 0, .int .i64 0, .int .i64 3, .string ⟨#[]⟩, .string ⟨#[]⟩, .int .i64 28, .int .i64 0, .int .i64 0, .int .i64 0, .int .i64 0, .string ⟨#[]⟩] 41 ∧ OwnAt wx TC [.slice none 0 0, .slice (some ⟨TL, 0, none⟩) 5 5] 27
def IJO6 (T9 : Nat) (a b io ib : Int) (W : World) (q0 q3 q4 q5 q6 q7 q8 q11 q12 q13 q14 q15 q16 q17 q18 q19 q20 q21 q36 q37 q38 q39 q40 q41 q42 q43 q44 q45 q46 q47 q48 q49 q50 q51 q52 q53 q54 q55 q56 q57 q58 q59 q60 q61 q62 q63 q64 q65 q66 q67 q68 q69 q70 q71 q72 q73 q74 q75 q76 q77 q78 q79 q80 q81 q82 q83 q84 q85 q86 q87 q88 : Value) (L : Nat → Bool) (a' : Act) (w' : World) : Prop :=
  ∃ TL : Nat, ∃ TC : Nat, ∃ z22 z23 z24 z25 z26 z27 z28 z29 z30 z31 z32 z33 z34 z35 z10 : Value, VJO6 T9 a b io ib W L TL TC z22 z23 z24 z25 z26 z27 z28 z29 z30 z31 z32 z33 z34 z35 z10 w' ∧ a' = ⟨[q0, .int .i64 a, .int .i64 b, q3, q4, q5, q6, q7, q8, .pointer (some ⟨T9, 0, none⟩), z10, q11, q12, q13, q14, q15, q16, q17, q18, q19, q20, q21, z22, z23, z24, z25, z26, z27, z28, z29, z30, z31, z32, z33, z34, z35, q36, q37, q38, q39, q40, q41, q42, q43, q44, q45, q46, q47, q48, q49, q50, q51, q52, q53, q54, q55, q56, q57, q58, q59, q60, q61, q62, q63, q64, q65, q66, q67, q68, q69, q70, q71, q72, q73, q74, q75, q76, q77, q78, q79, q80, q81, q82, q83, q84, q85, q86, q87, q88].toArray, []⟩
def RJO6 (T9 : Nat) (a b io ib : Int) (W : World) (q0 q3 q4 q5 q6 q7 q8 q11 q12 q13 q14 q15 q16 q17 q18 q19 q20 q21 q36 q37 q38 q39 q40 q41 q42 q43 q44 q45 q46 q47 q48 q49 q50 q51 q52 q53 q54 q55 q56 q57 q58 q59 q60 q61 q62 q63 q64 q65 q66 q67 q68 q69 q70 q71 q72 q73 q74 q75 q76 q77 q78 q79 q80 q81 q82 q83 q84 q85 q86 q87 q88 : Value) (a' : Act) (w' : World) : Prop :=
  ∃ TL : Nat, ∃ TC : Nat, (Below W.heap.size W w' ∧ OwnAt w' TL [.string ⟨#[]⟩, .int .i64 16, .int .i64 5, .int .i64 0, .int .i64 0, .int .i64 a, .string ⟨#[]⟩, .string ⟨#[]⟩, .int .i64 16, .int .i64 6, .int .i64 0, .int .i64 0, .int .i64 b, .string ⟨#[]⟩, .string ⟨#[]⟩, .int .i64 io, .int .i64 10, .int .i64 5, .int .i64 ib, .int .i64 0, .string ⟨#[]⟩, .string ⟨#[]⟩, .int .i64 16, .int .i64 17, .int .i64 0, .int .i64 0, .int .i64 3, .string ⟨#[]⟩, .string ⟨#[]⟩, .int .i64 28, .int .i64 0, .int .i64 0, .int .i64 0, .int .i64 0, .string ⟨#[]⟩] 41 ∧ OwnAt w' TC [.slice none 0 0, .slice (some ⟨TL, 0, none⟩) 5 5] 27) ∧ a' = ⟨[q0, .int .i64 a, .int .i64 b, q3, q4, q5, q6, q7, q8, .pointer (some ⟨T9, 0, none⟩), .pointer (some ⟨TC, 0, none⟩), q11, q12, q13, q14, q15, q16, q17, q18, q19, q20, q21, .int .i64 a, .agg #[.int .i64 16, .int .i64 5, .int .i64 0, .int .i64 0, .int .i64 a, .string ⟨#[]⟩], .agg #[.string ⟨#[]⟩, .int .i64 16, .int .i64 5, .int .i64 0, .int .i64 0, .int .i64 a, .string ⟨#[]⟩], .int .i64 b, .agg #[.int .i64 16, .int .i64 6, .int .i64 0, .int .i64 0, .int .i64 b, .string ⟨#[]⟩], .agg #[.string ⟨#[]⟩, .int .i64 16, .int .i64 6, .int .i64 0, .int .i64 0, .int .i64 b, .string ⟨#[]⟩], .agg #[.int .i64 io, .int .i64 10, .int .i64 5, .int .i64 ib, .int .i64 0, .string ⟨#[]⟩], .agg #[.string ⟨#[]⟩, .int .i64 io, .int .i64 10, .int .i64 5, .int .i64 ib, .int .i64 0, .string ⟨#[]⟩], .agg #[.int .i64 16, .int .i64 17, .int .i64 0, .int .i64 0, .int .i64 3, .string ⟨#[]⟩], .agg #[.string ⟨#[]⟩, .int .i64 16, .int .i64 17, .int .i64 0, .int .i64 0, .int .i64 3, .string ⟨#[]⟩], .agg #[.int .i64 28, .int .i64 0, .int .i64 0, .int .i64 0, .int .i64 0, .string ⟨#[]⟩], .agg #[.string ⟨#[]⟩, .int .i64 28, .int .i64 0, .int .i64 0, .int .i64 0, .int .i64 0, .string ⟨#[]⟩], .slice (some ⟨TL, 0, none⟩) 5 5, .agg #[.slice none 0 0, .slice (some ⟨TL, 0, none⟩) 5 5], q36, q37, q38, q39, q40, q41, q42, q43, q44, q45, q46, q47, q48, q49, q50, q51, q52, q53, q54, q55, q56, q57, q58, q59, q60, q61, q62, q63, q64, q65, q66, q67, q68, q69, q70, q71, q72, q73, q74, q75, q76, q77, q78, q79, q80, q81, q82, q83, q84, q85, q86, q87, q88].toArray, []⟩
theorem reg_JO6 (T9 : Nat) (a b io ib : Int) (W : World) (HX : Hid (OwnAt W T9 [.int .i64 io, .int .i64 10, .int .i64 5, .int .i64 ib, .int .i64 0, .string ⟨#[]⟩] 39)) (q0 q3 q4 q5 q6 q7 q8 q10 q11 q12 q13 q14 q15 q16 q17 q18 q19 q20 q21 q22 q23 q24 q25 q26 q27 q28 q29 q30 q31 q32 q33 q34 q35 q36 q37 q38 q39 q40 q41 q42 q43 q44 q45 q46 q47 q48 q49 q50 q51 q52 q53 q54 q55 q56 q57 q58 q59 q60 q61 q62 q63 q64 q65 q66 q67 q68 q69 q70 q71 q72 q73 q74 q75 q76 q77 q78 q79 q80 q81 q82 q83 q84 q85 q86 q87 q88 : Value) (J K' : Act → World → Prop) (hJ : ∀ a' w', RJO6 T9 a b io ib W q0 q3 q4 q5 q6 q7 q8 q11 q12 q13 q14 q15 q16 q17 q18 q19 q20 q21 q36 q37 q38 q39 q40 q41 q42 q43 q44 q45 q46 q47 q48 q49 q50 q51 q52 q53 q54 q55 q56 q57 q58 q59 q60 q61 q62 q63 q64 q65 q66 q67 q68 q69 q70 q71 q72 q73 q74 q75 q76 q77 q78 q79 q80 q81 q82 q83 q84 q85 q86 q87 q88 a' w' → J a' w') (hM : ∀ a' w', Met J a' w' → K' a' w') :
    Code.wp Tryz.prog ((Tryz.f10.body.bind (regOf 6)).getD .skip) (Exit.then K' (fun _ _ _ => False)) ⟨[q0, .int .i64 a, .int .i64 b, q3, q4, q5, q6, q7, q8, .pointer (some ⟨T9, 0, none⟩), q10, q11, q12, q13, q14, q15, q16, q17, q18, q19, q20, q21, q22, q23, q24, q25, q26, q27, q28, q29, q30, q31, q32, q33, q34, q35, q36, q37, q38, q39, q40, q41, q42, q43, q44, q45, q46, q47, q48, q49, q50, q51, q52, q53, q54, q55, q56, q57, q58, q59, q60, q61, q62, q63, q64, q65, q66, q67, q68, q69, q70, q71, q72, q73, q74, q75, q76, q77, q78, q79, q80, q81, q82, q83, q84, q85, q86, q87, q88].toArray, []⟩ W := by
  conv => arg 2; whnf
  dsimp only
  refine region_by (by kernel_rfl) (by kernel_rfl) (IJO6 T9 a b io ib W q0 q3 q4 q5 q6 q7 q8 q11 q12 q13 q14 q15 q16 q17 q18 q19 q20 q21 q36 q37 q38 q39 q40 q41 q42 q43 q44 q45 q46 q47 q48 q49 q50 q51 q52 q53 q54 q55 q56 q57 q58 q59 q60 q61 q62 q63 q64 q65 q66 q67 q68 q69 q70 q71 q72 q73 q74 q75 q76 q77 q78 q79 q80 q81 q82 q83 q84 q85 q86 q87 q88) ?_ ?_ ?_
  · exact ⟨0, 0, q22, q23, q24, q25, q26, q27, q28, q29, q30, q31, q32, q33, q34, q35, q10, ⟨(fun h => by cases h), (fun h => by cases h), (fun h => by cases h), (fun h => by cases h), (fun h => by cases h), (fun h => by cases h), (fun h => by cases h), (fun h => by cases h), (fun h => by cases h), (fun h => by cases h), (fun h => by cases h), (fun h => by cases h), (fun h => by cases h), (fun h => by cases h), (fun h => by cases h), (fun h => by cases h), (fun h => by cases h), (fun h => by cases h), (fun h => by cases h), (fun h => by cases h), (fun h => by cases h), (fun h => by cases h), (fun h => by cases h), (fun h => by cases h), (fun _ => (Below.refl _ _).drew), (fun h => fun _ => by cases h), (fun h => fun _ => by cases h), (fun h => fun _ => by cases h), (fun h => by cases h)⟩, rfl⟩
  · intro L act wx k hI hk hl hd
    obtain ⟨TL, TC, z22, z23, z24, z25, z26, z27, z28, z29, z30, z31, z32, z33, z34, z35, z10, hV, rfl⟩ := hI
    have hk : k = 0 ∨ k = 1 ∨ k = 2 ∨ k = 3 ∨ k = 4 ∨ k = 5 ∨ k = 6 ∨ k = 7 ∨ k = 8 ∨ k = 9 ∨ k = 10 ∨ k = 11 ∨ k = 12 ∨ k = 13 ∨ k = 14 ∨ k = 15 := by
      have : k < 16 := hk
      omega
    rcases hk with rfl | rfl | rfl | rfl | rfl | rfl | rfl | rfl | rfl | rfl | rfl | rfl | rfl | rfl | rfl | rfl
    · have nl := kf hV.ord hl
      refine op_at _ rfl rfl (fun K' hK => ?_)
      conv => arg 2; whnf
      go_wp2_with fail
      exact ⟨TL, TC, .int .i64 a, z23, z24, z25, z26, z27, z28, z29, z30, z31, z32, z33, z34, z35, z10, ⟨(kl nl), (kq hV.p12_2), (kq hV.p12_5), (kq hV.p12_7), (kq hV.p12_9), (kq hV.p12_11), (kq hV.p13_12), (kq hV.p15_12), (kq hV.p15_14), (fun _ => rfl), (kc hV.c1), (kc hV.c2), (kc hV.c3), (kc hV.c4), (kc hV.c5), (kc hV.c6), (kc hV.c7), (kc hV.c8), (kc hV.c9), (kc hV.c10), (kc hV.c11), (kc hV.c12), (kc hV.c13), (kc hV.c14), (fun h0 => hV.fr (kb h0)), (fun h0 => fun h1 => hV.bTL (kb h0) (kb h1)), (fun h0 => fun h1 => hV.nTL (kb h0) (kb h1)), (fun h0 => fun h1 => hV.bC (kb h0) (kb h1)), (kl nl)⟩, rfl⟩
    · have nl := kf hV.ord hl
      have d0 : L 0 = true := hd _ rfl ⟨0, .data⟩ (by simp) rfl
      obtain rfl := (hV.c0 d0).symm
      refine op_at _ rfl rfl (fun K' hK => ?_)
      conv => arg 2; whnf
      go_wp2_with fail
      exact ⟨TL, TC, .int .i64 a, .agg #[.int .i64 16, .int .i64 5, .int .i64 0, .int .i64 0, .int .i64 a, .string ⟨#[]⟩], z24, z25, z26, z27, z28, z29, z30, z31, z32, z33, z34, z35, z10, ⟨(kl nl), (kq hV.p12_2), (kq hV.p12_5), (kq hV.p12_7), (kq hV.p12_9), (kq hV.p12_11), (kq hV.p13_12), (kq hV.p15_12), (kq hV.p15_14), (kc hV.c0), (fun _ => rfl), (kc hV.c2), (kc hV.c3), (kc hV.c4), (kc hV.c5), (kc hV.c6), (kc hV.c7), (kc hV.c8), (kc hV.c9), (kc hV.c10), (kc hV.c11), (kc hV.c12), (kc hV.c13), (kc hV.c14), (fun h0 => hV.fr (kb h0)), (fun h0 => fun h1 => hV.bTL (kb h0) (kb h1)), (fun h0 => fun h1 => hV.nTL (kb h0) (kb h1)), (fun h0 => fun h1 => hV.bC (kb h0) (kb h1)), (kl nl)⟩, rfl⟩
    · have nl := kf hV.ord hl
      have d1 : L 1 = true := hd _ rfl ⟨1, .data⟩ (by simp) rfl
      obtain rfl := (hV.c1 d1).symm
      refine op_at _ rfl rfl (fun K' hK => ?_)
      conv => arg 2; whnf
      go_wp2_with fail
      refine (mline_any _ _ _ _ _ _ _).mono ?_
      rintro e w7 ⟨rfl, hal⟩
      go_wp2_with fail
      exact ⟨TL, TC, z22, .agg #[.int .i64 16, .int .i64 5, .int .i64 0, .int .i64 0, .int .i64 a, .string ⟨#[]⟩], .agg #[.string ⟨#[]⟩, .int .i64 16, .int .i64 5, .int .i64 0, .int .i64 0, .int .i64 a, .string ⟨#[]⟩], z25, z26, z27, z28, z29, z30, z31, z32, z33, z34, z35, z10, ⟨(kl nl), (fun _ => upd_same L 2), (kq hV.p12_5), (kq hV.p12_7), (kq hV.p12_9), (kq hV.p12_11), (kq hV.p13_12), (kq hV.p15_12), (kq hV.p15_14), (kc hV.c0), (kc hV.c1), (fun _ => rfl), (kc hV.c3), (kc hV.c4), (kc hV.c5), (kc hV.c6), (kc hV.c7), (kc hV.c8), (kc hV.c9), (kc hV.c10), (kc hV.c11), (kc hV.c12), (kc hV.c13), (kc hV.c14), (fun h0 => Below.trans (hV.fr (kb h0)) (Below.mono hal (Below.size (hV.fr (kb h0))))), (kn hV.p12_2 hl), (kn hV.p12_2 hl), (fun h0 => fun h1 => ⟨OwnAt.old (And.left (hV.bC (kb h0) (kb h1))) hal, And.right (hV.bC (kb h0) (kb h1))⟩), (kl nl)⟩, rfl⟩
    · have nl := kf hV.ord hl
      refine op_at _ rfl rfl (fun K' hK => ?_)
      conv => arg 2; whnf
      go_wp2_with fail
      exact ⟨TL, TC, z22, z23, z24, .int .i64 b, z26, z27, z28, z29, z30, z31, z32, z33, z34, z35, z10, ⟨(kl nl), (kq hV.p12_2), (kq hV.p12_5), (kq hV.p12_7), (kq hV.p12_9), (kq hV.p12_11), (kq hV.p13_12), (kq hV.p15_12), (kq hV.p15_14), (kc hV.c0), (kc hV.c1), (kc hV.c2), (fun _ => rfl), (kc hV.c4), (kc hV.c5), (kc hV.c6), (kc hV.c7), (kc hV.c8), (kc hV.c9), (kc hV.c10), (kc hV.c11), (kc hV.c12), (kc hV.c13), (kc hV.c14), (fun h0 => hV.fr (kb h0)), (fun h0 => fun h1 => hV.bTL (kb h0) (kb h1)), (fun h0 => fun h1 => hV.nTL (kb h0) (kb h1)), (fun h0 => fun h1 => hV.bC (kb h0) (kb h1)), (kl nl)⟩, rfl⟩
    · have nl := kf hV.ord hl
      have d3 : L 3 = true := hd _ rfl ⟨3, .data⟩ (by simp) rfl
      obtain rfl := (hV.c3 d3).symm
      refine op_at _ rfl rfl (fun K' hK => ?_)
      conv => arg 2; whnf
      go_wp2_with fail
      exact ⟨TL, TC, z22, z23, z24, .int .i64 b, .agg #[.int .i64 16, .int .i64 6, .int .i64 0, .int .i64 0, .int .i64 b, .string ⟨#[]⟩], z27, z28, z29, z30, z31, z32, z33, z34, z35, z10, ⟨(kl nl), (kq hV.p12_2), (kq hV.p12_5), (kq hV.p12_7), (kq hV.p12_9), (kq hV.p12_11), (kq hV.p13_12), (kq hV.p15_12), (kq hV.p15_14), (kc hV.c0), (kc hV.c1), (kc hV.c2), (kc hV.c3), (fun _ => rfl), (kc hV.c5), (kc hV.c6), (kc hV.c7), (kc hV.c8), (kc hV.c9), (kc hV.c10), (kc hV.c11), (kc hV.c12), (kc hV.c13), (kc hV.c14), (fun h0 => hV.fr (kb h0)), (fun h0 => fun h1 => hV.bTL (kb h0) (kb h1)), (fun h0 => fun h1 => hV.nTL (kb h0) (kb h1)), (fun h0 => fun h1 => hV.bC (kb h0) (kb h1)), (kl nl)⟩, rfl⟩
    · have nl := kf hV.ord hl
      have d2 : L 2 = true := hd _ rfl ⟨2, .chain⟩ (by simp) rfl
      have d4 : L 4 = true := hd _ rfl ⟨4, .data⟩ (by simp) rfl
      obtain rfl := (hV.c4 d4).symm
      refine op_at _ rfl rfl (fun K' hK => ?_)
      conv => arg 2; whnf
      go_wp2_with fail
      refine (mline_any _ _ _ _ _ _ _).mono ?_
      rintro e w7 ⟨rfl, hal⟩
      go_wp2_with fail
      exact ⟨TL, TC, z22, z23, z24, z25, .agg #[.int .i64 16, .int .i64 6, .int .i64 0, .int .i64 0, .int .i64 b, .string ⟨#[]⟩], .agg #[.string ⟨#[]⟩, .int .i64 16, .int .i64 6, .int .i64 0, .int .i64 0, .int .i64 b, .string ⟨#[]⟩], z28, z29, z30, z31, z32, z33, z34, z35, z10, ⟨(kl nl), (kq hV.p12_2), (fun _ => upd_same L 5), (kq hV.p12_7), (kq hV.p12_9), (kq hV.p12_11), (kq hV.p13_12), (kq hV.p15_12), (kq hV.p15_14), (kc hV.c0), (kc hV.c1), (kc hV.c2), (kc hV.c3), (kc hV.c4), (fun _ => rfl), (kc hV.c6), (kc hV.c7), (kc hV.c8), (kc hV.c9), (kc hV.c10), (kc hV.c11), (kc hV.c12), (kc hV.c13), (kc hV.c14), (fun h0 => Below.trans (hV.fr (kb h0)) (Below.mono hal (Below.size (hV.fr (kb h0))))), (kn hV.p12_5 hl), (kn hV.p12_5 hl), (fun h0 => fun h1 => ⟨OwnAt.old (And.left (hV.bC (kb h0) (kb h1))) hal, And.right (hV.bC (kb h0) (kb h1))⟩), (kl nl)⟩, rfl⟩
    · have nl := kf hV.ord hl
      have ho := HX.out.old (hV.fr nl)
      have hxl := ho.lt
      have x0 := ho.at 0 _ rfl
      have x1 := ho.at 1 _ rfl
      have x2 := ho.at 2 _ rfl
      have x3 := ho.at 3 _ rfl
      have x4 := ho.at 4 _ rfl
      have x5 := ho.at 5 _ rfl
      refine op_at _ rfl rfl (fun K' hK => ?_)
      conv => arg 2; whnf
      go_wp2_with fail
      exact ⟨TL, TC, z22, z23, z24, z25, z26, z27, .agg #[.int .i64 io, .int .i64 10, .int .i64 5, .int .i64 ib, .int .i64 0, .string ⟨#[]⟩], z29, z30, z31, z32, z33, z34, z35, z10, ⟨(kl nl), (kq hV.p12_2), (kq hV.p12_5), (kq hV.p12_7), (kq hV.p12_9), (kq hV.p12_11), (kq hV.p13_12), (kq hV.p15_12), (kq hV.p15_14), (kc hV.c0), (kc hV.c1), (kc hV.c2), (kc hV.c3), (kc hV.c4), (kc hV.c5), (fun _ => rfl), (kc hV.c7), (kc hV.c8), (kc hV.c9), (kc hV.c10), (kc hV.c11), (kc hV.c12), (kc hV.c13), (kc hV.c14), (fun h0 => hV.fr (kb h0)), (fun h0 => fun h1 => hV.bTL (kb h0) (kb h1)), (fun h0 => fun h1 => hV.nTL (kb h0) (kb h1)), (fun h0 => fun h1 => hV.bC (kb h0) (kb h1)), (kl nl)⟩, rfl⟩
    · have nl := kf hV.ord hl
      have d5 : L 5 = true := hd _ rfl ⟨5, .chain⟩ (by simp) rfl
      have d6 : L 6 = true := hd _ rfl ⟨6, .data⟩ (by simp) rfl
      obtain rfl := (hV.c6 d6).symm
      refine op_at _ rfl rfl (fun K' hK => ?_)
      conv => arg 2; whnf
      go_wp2_with fail
      refine (mline_any _ _ _ _ _ _ _).mono ?_
      rintro e w7 ⟨rfl, hal⟩
      go_wp2_with fail
      exact ⟨TL, TC, z22, z23, z24, z25, z26, z27, .agg #[.int .i64 io, .int .i64 10, .int .i64 5, .int .i64 ib, .int .i64 0, .string ⟨#[]⟩], .agg #[.string ⟨#[]⟩, .int .i64 io, .int .i64 10, .int .i64 5, .int .i64 ib, .int .i64 0, .string ⟨#[]⟩], z30, z31, z32, z33, z34, z35, z10, ⟨(kl nl), (kq hV.p12_2), (kq hV.p12_5), (fun _ => upd_same L 7), (kq hV.p12_9), (kq hV.p12_11), (kq hV.p13_12), (kq hV.p15_12), (kq hV.p15_14), (kc hV.c0), (kc hV.c1), (kc hV.c2), (kc hV.c3), (kc hV.c4), (kc hV.c5), (kc hV.c6), (fun _ => rfl), (kc hV.c8), (kc hV.c9), (kc hV.c10), (kc hV.c11), (kc hV.c12), (kc hV.c13), (kc hV.c14), (fun h0 => Below.trans (hV.fr (kb h0)) (Below.mono hal (Below.size (hV.fr (kb h0))))), (kn hV.p12_7 hl), (kn hV.p12_7 hl), (fun h0 => fun h1 => ⟨OwnAt.old (And.left (hV.bC (kb h0) (kb h1))) hal, And.right (hV.bC (kb h0) (kb h1))⟩), (kl nl)⟩, rfl⟩
    · have nl := kf hV.ord hl
      refine op_at _ rfl rfl (fun K' hK => ?_)
      conv => arg 2; whnf
      go_wp2_with fail
      exact ⟨TL, TC, z22, z23, z24, z25, z26, z27, z28, z29, .agg #[.int .i64 16, .int .i64 17, .int .i64 0, .int .i64 0, .int .i64 3, .string ⟨#[]⟩], z31, z32, z33, z34, z35, z10, ⟨(kl nl), (kq hV.p12_2), (kq hV.p12_5), (kq hV.p12_7), (kq hV.p12_9), (kq hV.p12_11), (kq hV.p13_12), (kq hV.p15_12), (kq hV.p15_14), (kc hV.c0), (kc hV.c1), (kc hV.c2), (kc hV.c3), (kc hV.c4), (kc hV.c5), (kc hV.c6), (kc hV.c7), (fun _ => rfl), (kc hV.c9), (kc hV.c10), (kc hV.c11), (kc hV.c12), (kc hV.c13), (kc hV.c14), (fun h0 => hV.fr (kb h0)), (fun h0 => fun h1 => hV.bTL (kb h0) (kb h1)), (fun h0 => fun h1 => hV.nTL (kb h0) (kb h1)), (fun h0 => fun h1 => hV.bC (kb h0) (kb h1)), (kl nl)⟩, rfl⟩
    · have nl := kf hV.ord hl
      have d7 : L 7 = true := hd _ rfl ⟨7, .chain⟩ (by simp) rfl
      have d8 : L 8 = true := hd _ rfl ⟨8, .data⟩ (by simp) rfl
      obtain rfl := (hV.c8 d8).symm
      refine op_at _ rfl rfl (fun K' hK => ?_)
      conv => arg 2; whnf
      go_wp2_with fail
      refine (mline_any _ _ _ _ _ _ _).mono ?_
      rintro e w7 ⟨rfl, hal⟩
      go_wp2_with fail
      exact ⟨TL, TC, z22, z23, z24, z25, z26, z27, z28, z29, .agg #[.int .i64 16, .int .i64 17, .int .i64 0, .int .i64 0, .int .i64 3, .string ⟨#[]⟩], .agg #[.string ⟨#[]⟩, .int .i64 16, .int .i64 17, .int .i64 0, .int .i64 0, .int .i64 3, .string ⟨#[]⟩], z32, z33, z34, z35, z10, ⟨(kl nl), (kq hV.p12_2), (kq hV.p12_5), (kq hV.p12_7), (fun _ => upd_same L 9), (kq hV.p12_11), (kq hV.p13_12), (kq hV.p15_12), (kq hV.p15_14), (kc hV.c0), (kc hV.c1), (kc hV.c2), (kc hV.c3), (kc hV.c4), (kc hV.c5), (kc hV.c6), (kc hV.c7), (kc hV.c8), (fun _ => rfl), (kc hV.c10), (kc hV.c11), (kc hV.c12), (kc hV.c13), (kc hV.c14), (fun h0 => Below.trans (hV.fr (kb h0)) (Below.mono hal (Below.size (hV.fr (kb h0))))), (kn hV.p12_9 hl), (kn hV.p12_9 hl), (fun h0 => fun h1 => ⟨OwnAt.old (And.left (hV.bC (kb h0) (kb h1))) hal, And.right (hV.bC (kb h0) (kb h1))⟩), (kl nl)⟩, rfl⟩
    · have nl := kf hV.ord hl
      refine op_at _ rfl rfl (fun K' hK => ?_)
      conv => arg 2; whnf
      go_wp2_with fail
      exact ⟨TL, TC, z22, z23, z24, z25, z26, z27, z28, z29, z30, z31, .agg #[.int .i64 28, .int .i64 0, .int .i64 0, .int .i64 0, .int .i64 0, .string ⟨#[]⟩], z33, z34, z35, z10, ⟨(kl nl), (kq hV.p12_2), (kq hV.p12_5), (kq hV.p12_7), (kq hV.p12_9), (kq hV.p12_11), (kq hV.p13_12), (kq hV.p15_12), (kq hV.p15_14), (kc hV.c0), (kc hV.c1), (kc hV.c2), (kc hV.c3), (kc hV.c4), (kc hV.c5), (kc hV.c6), (kc hV.c7), (kc hV.c8), (kc hV.c9), (fun _ => rfl), (kc hV.c11), (kc hV.c12), (kc hV.c13), (kc hV.c14), (fun h0 => hV.fr (kb h0)), (fun h0 => fun h1 => hV.bTL (kb h0) (kb h1)), (fun h0 => fun h1 => hV.nTL (kb h0) (kb h1)), (fun h0 => fun h1 => hV.bC (kb h0) (kb h1)), (kl nl)⟩, rfl⟩
    · have nl := kf hV.ord hl
      have d9 : L 9 = true := hd _ rfl ⟨9, .chain⟩ (by simp) rfl
      have d10 : L 10 = true := hd _ rfl ⟨10, .data⟩ (by simp) rfl
      obtain rfl := (hV.c10 d10).symm
      refine op_at _ rfl rfl (fun K' hK => ?_)
      conv => arg 2; whnf
      go_wp2_with fail
      refine (mline_any _ _ _ _ _ _ _).mono ?_
      rintro e w7 ⟨rfl, hal⟩
      go_wp2_with fail
      exact ⟨TL, TC, z22, z23, z24, z25, z26, z27, z28, z29, z30, z31, .agg #[.int .i64 28, .int .i64 0, .int .i64 0, .int .i64 0, .int .i64 0, .string ⟨#[]⟩], .agg #[.string ⟨#[]⟩, .int .i64 28, .int .i64 0, .int .i64 0, .int .i64 0, .int .i64 0, .string ⟨#[]⟩], z34, z35, z10, ⟨(kl nl), (kq hV.p12_2), (kq hV.p12_5), (kq hV.p12_7), (kq hV.p12_9), (fun _ => upd_same L 11), (kq hV.p13_12), (kq hV.p15_12), (kq hV.p15_14), (kc hV.c0), (kc hV.c1), (kc hV.c2), (kc hV.c3), (kc hV.c4), (kc hV.c5), (kc hV.c6), (kc hV.c7), (kc hV.c8), (kc hV.c9), (kc hV.c10), (fun _ => rfl), (kc hV.c12), (kc hV.c13), (kc hV.c14), (fun h0 => Below.trans (hV.fr (kb h0)) (Below.mono hal (Below.size (hV.fr (kb h0))))), (kn hV.p12_11 hl), (kn hV.p12_11 hl), (fun h0 => fun h1 => ⟨OwnAt.old (And.left (hV.bC (kb h0) (kb h1))) hal, And.right (hV.bC (kb h0) (kb h1))⟩), (kl nl)⟩, rfl⟩
    · have nl := kf hV.ord hl
      have d2 : L 2 = true := hd _ rfl ⟨2, .data⟩ (by simp) rfl
      obtain rfl := (hV.c2 d2).symm
      have d5 : L 5 = true := hd _ rfl ⟨5, .data⟩ (by simp) rfl
      obtain rfl := (hV.c5 d5).symm
      have d7 : L 7 = true := hd _ rfl ⟨7, .data⟩ (by simp) rfl
      obtain rfl := (hV.c7 d7).symm
      have d9 : L 9 = true := hd _ rfl ⟨9, .data⟩ (by simp) rfl
      obtain rfl := (hV.c9 d9).symm
      have d11 : L 11 = true := hd _ rfl ⟨11, .data⟩ (by simp) rfl
      obtain rfl := (hV.c11 d11).symm
      have hal : Below wx.heap.size wx (wx.alloc (.cells #[.string ⟨#[]⟩, .int .i64 16, .int .i64 5, .int .i64 0, .int .i64 0, .int .i64 a, .string ⟨#[]⟩, .string ⟨#[]⟩, .int .i64 16, .int .i64 6, .int .i64 0, .int .i64 0, .int .i64 b, .string ⟨#[]⟩, .string ⟨#[]⟩, .int .i64 io, .int .i64 10, .int .i64 5, .int .i64 ib, .int .i64 0, .string ⟨#[]⟩, .string ⟨#[]⟩, .int .i64 16, .int .i64 17, .int .i64 0, .int .i64 0, .int .i64 3, .string ⟨#[]⟩, .string ⟨#[]⟩, .int .i64 28, .int .i64 0, .int .i64 0, .int .i64 0, .int .i64 0, .string ⟨#[]⟩] 41)) := (Below.refl _ _).alloc (Nat.le_refl _) _
      have hfs := (hV.fr nl).size
      refine op_at _ rfl rfl (fun K' hK => ?_)
      conv => arg 2; whnf
      go_wp2_with fail
      exact ⟨wx.heap.size, TC, z22, z23, .agg #[.string ⟨#[]⟩, .int .i64 16, .int .i64 5, .int .i64 0, .int .i64 0, .int .i64 a, .string ⟨#[]⟩], z25, z26, .agg #[.string ⟨#[]⟩, .int .i64 16, .int .i64 6, .int .i64 0, .int .i64 0, .int .i64 b, .string ⟨#[]⟩], z28, .agg #[.string ⟨#[]⟩, .int .i64 io, .int .i64 10, .int .i64 5, .int .i64 ib, .int .i64 0, .string ⟨#[]⟩], z30, .agg #[.string ⟨#[]⟩, .int .i64 16, .int .i64 17, .int .i64 0, .int .i64 0, .int .i64 3, .string ⟨#[]⟩], z32, .agg #[.string ⟨#[]⟩, .int .i64 28, .int .i64 0, .int .i64 0, .int .i64 0, .int .i64 0, .string ⟨#[]⟩], .slice (some ⟨(wx.heap.size), 0, none⟩) 5 5, z35, z10, ⟨(kl nl), (kd (d2)), (kd (d5)), (kd (d7)), (kd (d9)), (kd (d11)), (fun _ => upd_same L 12), (fun _ => upd_same L 12), (kq hV.p15_14), (kc hV.c0), (kc hV.c1), (kc hV.c2), (kc hV.c3), (kc hV.c4), (kc hV.c5), (kc hV.c6), (kc hV.c7), (kc hV.c8), (kc hV.c9), (kc hV.c10), (kc hV.c11), (fun _ => rfl), (kn hV.p13_12 hl), (kc hV.c14), (fun h0 => Below.trans (hV.fr (kb h0)) (Below.mono hal (Below.size (hV.fr (kb h0))))), (fun _ _ => ⟨OwnAt.new wx [.string ⟨#[]⟩, .int .i64 16, .int .i64 5, .int .i64 0, .int .i64 0, .int .i64 a, .string ⟨#[]⟩, .string ⟨#[]⟩, .int .i64 16, .int .i64 6, .int .i64 0, .int .i64 0, .int .i64 b, .string ⟨#[]⟩, .string ⟨#[]⟩, .int .i64 io, .int .i64 10, .int .i64 5, .int .i64 ib, .int .i64 0, .string ⟨#[]⟩, .string ⟨#[]⟩, .int .i64 16, .int .i64 17, .int .i64 0, .int .i64 0, .int .i64 3, .string ⟨#[]⟩, .string ⟨#[]⟩, .int .i64 28, .int .i64 0, .int .i64 0, .int .i64 0, .int .i64 0, .string ⟨#[]⟩] 41, hfs⟩), (fun _ hq => by have := (hV.bC (kb hq) nl).1.lt; omega), (fun h0 => fun h1 => ⟨OwnAt.old (And.left (hV.bC (kb h0) (kb h1))) hal, And.right (hV.bC (kb h0) (kb h1))⟩), (kl nl)⟩, rfl⟩
    · have nl := kf hV.ord hl
      have d12 : L 12 = true := hd _ rfl ⟨12, .data⟩ (by simp) rfl
      obtain rfl := (hV.c12 d12).symm
      refine op_at _ rfl rfl (fun K' hK => ?_)
      conv => arg 2; whnf
      go_wp2_with fail
      exact ⟨TL, TC, z22, z23, z24, z25, z26, z27, z28, z29, z30, z31, z32, z33, .slice (some ⟨TL, 0, none⟩) 5 5, .agg #[.slice none 0 0, .slice (some ⟨TL, 0, none⟩) 5 5], z10, ⟨(kl nl), (kq hV.p12_2), (kq hV.p12_5), (kq hV.p12_7), (kq hV.p12_9), (kq hV.p12_11), (kd (d12)), (kq hV.p15_12), (kq hV.p15_14), (kc hV.c0), (kc hV.c1), (kc hV.c2), (kc hV.c3), (kc hV.c4), (kc hV.c5), (kc hV.c6), (kc hV.c7), (kc hV.c8), (kc hV.c9), (kc hV.c10), (kc hV.c11), (kc hV.c12), (fun _ => rfl), (kc hV.c14), (fun h0 => hV.fr (kb h0)), (fun h0 => fun h1 => hV.bTL (kb h0) (kb h1)), (fun h0 => fun h1 => hV.nTL (kb h0) (kb h1)), (fun h0 => fun h1 => hV.bC (kb h0) (kb h1)), (kl nl)⟩, rfl⟩
    · have nl := kf hV.ord hl
      have hal : Below wx.heap.size wx (wx.alloc (.cells #[.slice none 0 0, .slice none 0 0] 27)) := (Below.refl _ _).alloc (Nat.le_refl _) _
      have hfs := (hV.fr nl).size
      refine op_at _ rfl rfl (fun K' hK => ?_)
      conv => arg 2; whnf
      go_wp2_with fail
      exact ⟨TL, wx.heap.size, z22, z23, z24, z25, z26, z27, z28, z29, z30, z31, z32, z33, z34, z35, .pointer (some ⟨(wx.heap.size), 0, none⟩), ⟨(kl nl), (kq hV.p12_2), (kq hV.p12_5), (kq hV.p12_7), (kq hV.p12_9), (kq hV.p12_11), (kq hV.p13_12), (kq hV.p15_12), (fun _ => upd_same L 14), (kc hV.c0), (kc hV.c1), (kc hV.c2), (kc hV.c3), (kc hV.c4), (kc hV.c5), (kc hV.c6), (kc hV.c7), (kc hV.c8), (kc hV.c9), (kc hV.c10), (kc hV.c11), (kc hV.c12), (kc hV.c13), (fun _ => rfl), (fun h0 => Below.trans (hV.fr (kb h0)) (Below.mono hal (Below.size (hV.fr (kb h0))))), (fun h0 => fun h1 => ⟨OwnAt.old (And.left (hV.bTL (kb h0) (kb h1))) hal, And.right (hV.bTL (kb h0) (kb h1))⟩), (fun hq _ => by have := (hV.bTL (kb hq) nl).1.lt; omega), (fun _ _ => ⟨OwnAt.new wx [.slice none 0 0, .slice none 0 0] 27, hfs⟩), (kl nl)⟩, rfl⟩
    · have before : ∀ j, j < 15 → L j = true := fun j hj => by
        have hj : j = 0 ∨ j = 1 ∨ j = 2 ∨ j = 3 ∨ j = 4 ∨ j = 5 ∨ j = 6 ∨ j = 7 ∨ j = 8 ∨ j = 9 ∨ j = 10 ∨ j = 11 ∨ j = 12 ∨ j = 13 ∨ j = 14 := by omega
        rcases hj with rfl | rfl | rfl | rfl | rfl | rfl | rfl | rfl | rfl | rfl | rfl | rfl | rfl | rfl | rfl
        · exact hd _ rfl ⟨0, .phase⟩ (by simp) rfl
        · exact hd _ rfl ⟨1, .phase⟩ (by simp) rfl
        · exact hd _ rfl ⟨2, .phase⟩ (by simp) rfl
        · exact hd _ rfl ⟨3, .phase⟩ (by simp) rfl
        · exact hd _ rfl ⟨4, .phase⟩ (by simp) rfl
        · exact hd _ rfl ⟨5, .phase⟩ (by simp) rfl
        · exact hd _ rfl ⟨6, .phase⟩ (by simp) rfl
        · exact hd _ rfl ⟨7, .phase⟩ (by simp) rfl
        · exact hd _ rfl ⟨8, .phase⟩ (by simp) rfl
        · exact hd _ rfl ⟨9, .phase⟩ (by simp) rfl
        · exact hd _ rfl ⟨10, .phase⟩ (by simp) rfl
        · exact hd _ rfl ⟨11, .chain⟩ (by simp) rfl
        · exact hd _ rfl ⟨12, .phase⟩ (by simp) rfl
        · exact hd _ rfl ⟨13, .data⟩ (by simp) rfl
        · exact hd _ rfl ⟨14, .data⟩ (by simp) rfl
      have d11 : L 11 = true := hd _ rfl ⟨11, .chain⟩ (by simp) rfl
      have d13 : L 13 = true := hd _ rfl ⟨13, .data⟩ (by simp) rfl
      obtain rfl := (hV.c13 d13).symm
      have d14 : L 14 = true := hd _ rfl ⟨14, .data⟩ (by simp) rfl
      obtain rfl := (hV.c14 d14).symm
      have ho := (hV.bC d14 hl).1
      have hxl := ho.lt
      have x0 := ho.at 0 _ rfl
      have x1 := ho.at 1 _ rfl
      have y0 := ho.fz 0
      have y1 := ho.fz 1
      refine op_at _ rfl rfl (fun K' hK => ?_)
      conv => arg 2; whnf
      go_wp2_with fail
      exact ⟨TL, TC, z22, z23, z24, z25, z26, z27, z28, z29, z30, z31, z32, z33, z34, .agg #[.slice none 0 0, .slice (some ⟨TL, 0, none⟩) 5 5], .pointer (some ⟨TC, 0, none⟩), ⟨(fun _ j hj => by rw [upd_ne L (show j ≠ 15 by omega)]; exact before j hj), (kq hV.p12_2), (kq hV.p12_5), (kq hV.p12_7), (kq hV.p12_9), (kq hV.p12_11), (kq hV.p13_12), (kd (before 12 (by decide))), (kd (before 14 (by decide))), (kc hV.c0), (kc hV.c1), (kc hV.c2), (kc hV.c3), (kc hV.c4), (kc hV.c5), (kc hV.c6), (kc hV.c7), (kc hV.c8), (kc hV.c9), (kc hV.c10), (kc hV.c11), (kc hV.c12), (kc hV.c13), (kc hV.c14), (ks), (fun _ => ks), (fun h0 => fun h1 => (hV.nTL (kb h0) (kb h1))), (fun _ => ks), (fun _ => ⟨((zbelow_set (zbelow_set (hV.fr hl) (hV.bC d14 hl).2 0 _) (hV.bC d14 hl).2 1 _)), (((hV.bTL (before 12 (by decide)) hl).1.other (hV.nTL (before 12 (by decide)) d14) 0 _).other (hV.nTL (before 12 (by decide)) d14) 1 _), (((hV.bC d14 hl).1.set 0 _).set 1 _)⟩)⟩, rfl⟩
  · intro L act wx hI hall
    obtain ⟨TL, TC, z22, z23, z24, z25, z26, z27, z28, z29, z30, z31, z32, z33, z34, z35, z10, hV, rfl⟩ := hI
    obtain rfl := (hV.c0 (hall 0 (by decide))).symm
    obtain rfl := (hV.c1 (hall 1 (by decide))).symm
    obtain rfl := (hV.c2 (hall 2 (by decide))).symm
    obtain rfl := (hV.c3 (hall 3 (by decide))).symm
    obtain rfl := (hV.c4 (hall 4 (by decide))).symm
    obtain rfl := (hV.c5 (hall 5 (by decide))).symm
    obtain rfl := (hV.c6 (hall 6 (by decide))).symm
    obtain rfl := (hV.c7 (hall 7 (by decide))).symm
    obtain rfl := (hV.c8 (hall 8 (by decide))).symm
    obtain rfl := (hV.c9 (hall 9 (by decide))).symm
    obtain rfl := (hV.c10 (hall 10 (by decide))).symm
    obtain rfl := (hV.c11 (hall 11 (by decide))).symm
    obtain rfl := (hV.c12 (hall 12 (by decide))).symm
    obtain rfl := (hV.c13 (hall 13 (by decide))).symm
    obtain rfl := (hV.c14 (hall 14 (by decide))).symm
    exact hM _ _ (Met.intro (hJ _ _ ⟨TL, TC, hV.up (hall 15 (by decide)), rfl⟩))
end Go.Proofs.YtpgjfpphigeliaaGreatDoor

namespace Go.Proofs.YtpgjfpphigeliaaGreatDoor
open Go.RowKit
set_option maxHeartbeats 4000000
set_option maxRecDepth 100000

@[go_sem] theorem fun_nil2 (f : FuncId) (w : World) : (binOp .eql 29 (.func (Fn.func f) #[] #[]) .nilFunc).run Tryz.prog w = .ok (.bool false) w := by kernel_rfl
@[go_sem] theorem fun_nil1 (f : FuncId) (w : World) : (binOp .eql 81 (.func (Fn.func f) #[] #[]) .nilFunc).run Tryz.prog w = .ok (.bool false) w := by kernel_rfl
theorem aflag_any (b : Bool) (w : World) :
    Calls Tryz.prog 64 #[.bool b] w fun e w' => e = .returned (.int .i64 (flagZ b)) ∧ w = w' := by
  cases b
  all_goals
    go_enter Tryz.func64, Tryz.ntmps64
    go_wp2_with fail
    go_ret
    exact ⟨rfl, rfl⟩
theorem lit_1 (a b : Int) (ha : I64 a) (hb : I64 b) (w : World) :
    Calls Tryz.prog 55 #[.int .i64 a, .int .i64 b] w fun e w' => e = .returned (.int .i64 (wrap64 (a + b))) ∧ w = w' := by
  obtain ⟨a1, a2⟩ := ha
  obtain ⟨b1, b2⟩ := hb
  go_enter Tryz.func55, Tryz.ntmps55
  go_wp2_with fail
  go_ret
  exact ⟨by first | rfl | (simp; done), rfl⟩
theorem rowOf_1 (w : World) :
    Calls Tryz.prog 38 #[.int .i64 1] w fun e w' => e = .returned (.agg #[.string ⟨#[43]⟩, .int .i64 7, .func (Fn.func 55) #[] #[], .nilFunc]) ∧ Below w.heap.size w w' := by
  have HO := Lib.hid (OwnAt.new w [.string ⟨#[43]⟩, .int .i64 7, .func (Fn.func 55) #[] #[], .nilFunc] 83)
  have HB : Hid (Below w.heap.size w (w.alloc (.cells #[.string ⟨#[43]⟩, .int .i64 7, .func (Fn.func 55) #[] #[], .nilFunc] 83))) := Lib.hid ((Below.refl _ _).alloc (Nat.le_refl _) _)
  go_enter Tryz.func38, Tryz.ntmps38
  go_wp2_with fail
  refine bodyPost_ret (results_cell_row (P := Tryz.prog) rfl _ _ w.heap.size 83 #[.string ⟨#[43]⟩, .int .i64 7, .func (Fn.func 55) #[] #[], .nilFunc] (0, 0) _ rfl HO.out Tryz.underlying83 rfl (by kernel_rfl)) rfl ?_
  exact ⟨rfl, HB.out⟩
theorem two_1 (a b : Int) (ha : I64 a) (hb : I64 b) (w : World) :
    Calls Tryz.prog 25 #[.int .i64 1, .int .i64 a, .int .i64 b] w fun e w' => e = .returned (.tuple #[.int .i64 (wrap64 (a + b)), .bool true]) ∧ Below w.heap.size w w' := by
  have HR := Lib.hid (fun w => rowOf_1 w)
  have HL := Lib.hid (fun w => lit_1 a b ha hb w)
  obtain ⟨z, hz⟩ : ∃ z, (wrap64 (a + b)) = z := ⟨_, rfl⟩
  rw [hz] at HL ⊢
  clear hz
  by_cases hz : b = 0
  all_goals
    first | (obtain rfl := hz) | (have hz2 : (b == 0) = false := beq_eq_false_iff_ne.2 hz)
    go_enter Tryz.func25, Tryz.ntmps25
    go_wp2_with fail
    refine (HR.out _).mono ?_
    rintro e w1 ⟨rfl, hb1⟩
    have HO := Lib.hid (OwnAt.new w1 [.string ⟨#[43]⟩, .int .i64 7, .func (Fn.func 55) #[] #[], .nilFunc] 83)
    have HB : Hid (Below w.heap.size w (w1.alloc (.cells #[.string ⟨#[43]⟩, .int .i64 7, .func (Fn.func 55) #[] #[], .nilFunc] 83))) := Lib.hid (hb1.alloc hb1.size _)
    clear hb1
    go_upto_region 2 with (fail)
    generalize World.alloc w1 _ = W2 at *
    have d2 := HO.out.at 2 _ rfl
    have dl := HO.out.lt
    go_wp2_with fail
    refine (HL.out _).mono ?_
    rintro e w3 ⟨rfl, rfl⟩
    go_wp2_with fail
    go_ret2
    exact ⟨rfl, HB.out⟩
theorem lit_2 (a b : Int) (ha : I64 a) (hb : I64 b) (w : World) :
    Calls Tryz.prog 56 #[.int .i64 a, .int .i64 b] w fun e w' => e = .returned (.int .i64 (wrap64 (a - b))) ∧ w = w' := by
  obtain ⟨a1, a2⟩ := ha
  obtain ⟨b1, b2⟩ := hb
  go_enter Tryz.func56, Tryz.ntmps56
  go_wp2_with fail
  go_ret
  exact ⟨by first | rfl | (simp; done), rfl⟩
theorem rowOf_2 (w : World) :
    Calls Tryz.prog 38 #[.int .i64 2] w fun e w' => e = .returned (.agg #[.string ⟨#[45]⟩, .int .i64 7, .func (Fn.func 56) #[] #[], .nilFunc]) ∧ Below w.heap.size w w' := by
  have HO := Lib.hid (OwnAt.new w [.string ⟨#[45]⟩, .int .i64 7, .func (Fn.func 56) #[] #[], .nilFunc] 83)
  have HB : Hid (Below w.heap.size w (w.alloc (.cells #[.string ⟨#[45]⟩, .int .i64 7, .func (Fn.func 56) #[] #[], .nilFunc] 83))) := Lib.hid ((Below.refl _ _).alloc (Nat.le_refl _) _)
  go_enter Tryz.func38, Tryz.ntmps38
  go_wp2_with fail
  refine bodyPost_ret (results_cell_row (P := Tryz.prog) rfl _ _ w.heap.size 83 #[.string ⟨#[45]⟩, .int .i64 7, .func (Fn.func 56) #[] #[], .nilFunc] (0, 0) _ rfl HO.out Tryz.underlying83 rfl (by kernel_rfl)) rfl ?_
  exact ⟨rfl, HB.out⟩
theorem two_2 (a b : Int) (ha : I64 a) (hb : I64 b) (w : World) :
    Calls Tryz.prog 25 #[.int .i64 2, .int .i64 a, .int .i64 b] w fun e w' => e = .returned (.tuple #[.int .i64 (wrap64 (a - b)), .bool true]) ∧ Below w.heap.size w w' := by
  have HR := Lib.hid (fun w => rowOf_2 w)
  have HL := Lib.hid (fun w => lit_2 a b ha hb w)
  obtain ⟨z, hz⟩ : ∃ z, (wrap64 (a - b)) = z := ⟨_, rfl⟩
  rw [hz] at HL ⊢
  clear hz
  by_cases hz : b = 0
  all_goals
    first | (obtain rfl := hz) | (have hz2 : (b == 0) = false := beq_eq_false_iff_ne.2 hz)
    go_enter Tryz.func25, Tryz.ntmps25
    go_wp2_with fail
    refine (HR.out _).mono ?_
    rintro e w1 ⟨rfl, hb1⟩
    have HO := Lib.hid (OwnAt.new w1 [.string ⟨#[45]⟩, .int .i64 7, .func (Fn.func 56) #[] #[], .nilFunc] 83)
    have HB : Hid (Below w.heap.size w (w1.alloc (.cells #[.string ⟨#[45]⟩, .int .i64 7, .func (Fn.func 56) #[] #[], .nilFunc] 83))) := Lib.hid (hb1.alloc hb1.size _)
    clear hb1
    go_upto_region 2 with (fail)
    generalize World.alloc w1 _ = W2 at *
    have d2 := HO.out.at 2 _ rfl
    have dl := HO.out.lt
    go_wp2_with fail
    refine (HL.out _).mono ?_
    rintro e w3 ⟨rfl, rfl⟩
    go_wp2_with fail
    go_ret2
    exact ⟨rfl, HB.out⟩
theorem lit_3 (a b : Int) (ha : I64 a) (hb : I64 b) (w : World) :
    Calls Tryz.prog 57 #[.int .i64 a, .int .i64 b] w fun e w' => e = .returned (.int .i64 (wrap64 (a * b))) ∧ w = w' := by
  obtain ⟨a1, a2⟩ := ha
  obtain ⟨b1, b2⟩ := hb
  go_enter Tryz.func57, Tryz.ntmps57
  go_wp2_with fail
  go_ret
  exact ⟨by first | rfl | (simp; done), rfl⟩
theorem rowOf_3 (w : World) :
    Calls Tryz.prog 38 #[.int .i64 3] w fun e w' => e = .returned (.agg #[.string ⟨#[42]⟩, .int .i64 8, .func (Fn.func 57) #[] #[], .nilFunc]) ∧ Below w.heap.size w w' := by
  have HO := Lib.hid (OwnAt.new w [.string ⟨#[42]⟩, .int .i64 8, .func (Fn.func 57) #[] #[], .nilFunc] 83)
  have HB : Hid (Below w.heap.size w (w.alloc (.cells #[.string ⟨#[42]⟩, .int .i64 8, .func (Fn.func 57) #[] #[], .nilFunc] 83))) := Lib.hid ((Below.refl _ _).alloc (Nat.le_refl _) _)
  go_enter Tryz.func38, Tryz.ntmps38
  go_wp2_with fail
  refine bodyPost_ret (results_cell_row (P := Tryz.prog) rfl _ _ w.heap.size 83 #[.string ⟨#[42]⟩, .int .i64 8, .func (Fn.func 57) #[] #[], .nilFunc] (0, 0) _ rfl HO.out Tryz.underlying83 rfl (by kernel_rfl)) rfl ?_
  exact ⟨rfl, HB.out⟩
theorem two_3 (a b : Int) (ha : I64 a) (hb : I64 b) (w : World) :
    Calls Tryz.prog 25 #[.int .i64 3, .int .i64 a, .int .i64 b] w fun e w' => e = .returned (.tuple #[.int .i64 (wrap64 (a * b)), .bool true]) ∧ Below w.heap.size w w' := by
  have HR := Lib.hid (fun w => rowOf_3 w)
  have HL := Lib.hid (fun w => lit_3 a b ha hb w)
  obtain ⟨z, hz⟩ : ∃ z, (wrap64 (a * b)) = z := ⟨_, rfl⟩
  rw [hz] at HL ⊢
  clear hz
  by_cases hz : b = 0
  all_goals
    first | (obtain rfl := hz) | (have hz2 : (b == 0) = false := beq_eq_false_iff_ne.2 hz)
    go_enter Tryz.func25, Tryz.ntmps25
    go_wp2_with fail
    refine (HR.out _).mono ?_
    rintro e w1 ⟨rfl, hb1⟩
    have HO := Lib.hid (OwnAt.new w1 [.string ⟨#[42]⟩, .int .i64 8, .func (Fn.func 57) #[] #[], .nilFunc] 83)
    have HB : Hid (Below w.heap.size w (w1.alloc (.cells #[.string ⟨#[42]⟩, .int .i64 8, .func (Fn.func 57) #[] #[], .nilFunc] 83))) := Lib.hid (hb1.alloc hb1.size _)
    clear hb1
    go_upto_region 2 with (fail)
    generalize World.alloc w1 _ = W2 at *
    have d2 := HO.out.at 2 _ rfl
    have dl := HO.out.lt
    go_wp2_with fail
    refine (HL.out _).mono ?_
    rintro e w3 ⟨rfl, rfl⟩
    go_wp2_with fail
    go_ret2
    exact ⟨rfl, HB.out⟩
theorem lit_6 (a b : Int) (ha : I64 a) (hb : I64 b) (w : World) :
    Calls Tryz.prog 58 #[.int .i64 a, .int .i64 b] w fun e w' => e = .returned (.int .i64 (andZ a b)) ∧ w = w' := by
  obtain ⟨a1, a2⟩ := ha
  obtain ⟨b1, b2⟩ := hb
  go_enter Tryz.func58, Tryz.ntmps58
  go_wp2_with fail
  go_ret
  exact ⟨by first | rfl | (simp; done), rfl⟩
theorem rowOf_6 (w : World) :
    Calls Tryz.prog 38 #[.int .i64 6] w fun e w' => e = .returned (.agg #[.string ⟨#[38]⟩, .int .i64 3, .func (Fn.func 58) #[] #[], .nilFunc]) ∧ Below w.heap.size w w' := by
  have HO := Lib.hid (OwnAt.new w [.string ⟨#[38]⟩, .int .i64 3, .func (Fn.func 58) #[] #[], .nilFunc] 83)
  have HB : Hid (Below w.heap.size w (w.alloc (.cells #[.string ⟨#[38]⟩, .int .i64 3, .func (Fn.func 58) #[] #[], .nilFunc] 83))) := Lib.hid ((Below.refl _ _).alloc (Nat.le_refl _) _)
  go_enter Tryz.func38, Tryz.ntmps38
  go_wp2_with fail
  refine bodyPost_ret (results_cell_row (P := Tryz.prog) rfl _ _ w.heap.size 83 #[.string ⟨#[38]⟩, .int .i64 3, .func (Fn.func 58) #[] #[], .nilFunc] (0, 0) _ rfl HO.out Tryz.underlying83 rfl (by kernel_rfl)) rfl ?_
  exact ⟨rfl, HB.out⟩
theorem two_6 (a b : Int) (ha : I64 a) (hb : I64 b) (w : World) :
    Calls Tryz.prog 25 #[.int .i64 6, .int .i64 a, .int .i64 b] w fun e w' => e = .returned (.tuple #[.int .i64 (andZ a b), .bool true]) ∧ Below w.heap.size w w' := by
  have HR := Lib.hid (fun w => rowOf_6 w)
  have HL := Lib.hid (fun w => lit_6 a b ha hb w)
  obtain ⟨z, hz⟩ : ∃ z, (andZ a b) = z := ⟨_, rfl⟩
  rw [hz] at HL ⊢
  clear hz
  by_cases hz : b = 0
  all_goals
    first | (obtain rfl := hz) | (have hz2 : (b == 0) = false := beq_eq_false_iff_ne.2 hz)
    go_enter Tryz.func25, Tryz.ntmps25
    go_wp2_with fail
    refine (HR.out _).mono ?_
    rintro e w1 ⟨rfl, hb1⟩
    have HO := Lib.hid (OwnAt.new w1 [.string ⟨#[38]⟩, .int .i64 3, .func (Fn.func 58) #[] #[], .nilFunc] 83)
    have HB : Hid (Below w.heap.size w (w1.alloc (.cells #[.string ⟨#[38]⟩, .int .i64 3, .func (Fn.func 58) #[] #[], .nilFunc] 83))) := Lib.hid (hb1.alloc hb1.size _)
    clear hb1
    go_upto_region 2 with (fail)
    generalize World.alloc w1 _ = W2 at *
    have d2 := HO.out.at 2 _ rfl
    have dl := HO.out.lt
    go_wp2_with fail
    refine (HL.out _).mono ?_
    rintro e w3 ⟨rfl, rfl⟩
    go_wp2_with fail
    go_ret2
    exact ⟨rfl, HB.out⟩
theorem lit_7 (a b : Int) (ha : I64 a) (hb : I64 b) (w : World) :
    Calls Tryz.prog 59 #[.int .i64 a, .int .i64 b] w fun e w' => e = .returned (.int .i64 (orZ a b)) ∧ w = w' := by
  obtain ⟨a1, a2⟩ := ha
  obtain ⟨b1, b2⟩ := hb
  go_enter Tryz.func59, Tryz.ntmps59
  go_wp2_with fail
  go_ret
  exact ⟨by first | rfl | (simp; done), rfl⟩
theorem rowOf_7 (w : World) :
    Calls Tryz.prog 38 #[.int .i64 7] w fun e w' => e = .returned (.agg #[.string ⟨#[124]⟩, .int .i64 1, .func (Fn.func 59) #[] #[], .nilFunc]) ∧ Below w.heap.size w w' := by
  have HO := Lib.hid (OwnAt.new w [.string ⟨#[124]⟩, .int .i64 1, .func (Fn.func 59) #[] #[], .nilFunc] 83)
  have HB : Hid (Below w.heap.size w (w.alloc (.cells #[.string ⟨#[124]⟩, .int .i64 1, .func (Fn.func 59) #[] #[], .nilFunc] 83))) := Lib.hid ((Below.refl _ _).alloc (Nat.le_refl _) _)
  go_enter Tryz.func38, Tryz.ntmps38
  go_wp2_with fail
  refine bodyPost_ret (results_cell_row (P := Tryz.prog) rfl _ _ w.heap.size 83 #[.string ⟨#[124]⟩, .int .i64 1, .func (Fn.func 59) #[] #[], .nilFunc] (0, 0) _ rfl HO.out Tryz.underlying83 rfl (by kernel_rfl)) rfl ?_
  exact ⟨rfl, HB.out⟩
theorem two_7 (a b : Int) (ha : I64 a) (hb : I64 b) (w : World) :
    Calls Tryz.prog 25 #[.int .i64 7, .int .i64 a, .int .i64 b] w fun e w' => e = .returned (.tuple #[.int .i64 (orZ a b), .bool true]) ∧ Below w.heap.size w w' := by
  have HR := Lib.hid (fun w => rowOf_7 w)
  have HL := Lib.hid (fun w => lit_7 a b ha hb w)
  obtain ⟨z, hz⟩ : ∃ z, (orZ a b) = z := ⟨_, rfl⟩
  rw [hz] at HL ⊢
  clear hz
  by_cases hz : b = 0
  all_goals
    first | (obtain rfl := hz) | (have hz2 : (b == 0) = false := beq_eq_false_iff_ne.2 hz)
    go_enter Tryz.func25, Tryz.ntmps25
    go_wp2_with fail
    refine (HR.out _).mono ?_
    rintro e w1 ⟨rfl, hb1⟩
    have HO := Lib.hid (OwnAt.new w1 [.string ⟨#[124]⟩, .int .i64 1, .func (Fn.func 59) #[] #[], .nilFunc] 83)
    have HB : Hid (Below w.heap.size w (w1.alloc (.cells #[.string ⟨#[124]⟩, .int .i64 1, .func (Fn.func 59) #[] #[], .nilFunc] 83))) := Lib.hid (hb1.alloc hb1.size _)
    clear hb1
    go_upto_region 2 with (fail)
    generalize World.alloc w1 _ = W2 at *
    have d2 := HO.out.at 2 _ rfl
    have dl := HO.out.lt
    go_wp2_with fail
    refine (HL.out _).mono ?_
    rintro e w3 ⟨rfl, rfl⟩
    go_wp2_with fail
    go_ret2
    exact ⟨rfl, HB.out⟩
theorem lit_8 (a b : Int) (ha : I64 a) (hb : I64 b) (w : World) :
    Calls Tryz.prog 60 #[.int .i64 a, .int .i64 b] w fun e w' => e = .returned (.int .i64 (xorZ a b)) ∧ w = w' := by
  obtain ⟨a1, a2⟩ := ha
  obtain ⟨b1, b2⟩ := hb
  go_enter Tryz.func60, Tryz.ntmps60
  go_wp2_with fail
  go_ret
  exact ⟨by first | rfl | (simp; done), rfl⟩
theorem rowOf_8 (w : World) :
    Calls Tryz.prog 38 #[.int .i64 8] w fun e w' => e = .returned (.agg #[.string ⟨#[94]⟩, .int .i64 2, .func (Fn.func 60) #[] #[], .nilFunc]) ∧ Below w.heap.size w w' := by
  have HO := Lib.hid (OwnAt.new w [.string ⟨#[94]⟩, .int .i64 2, .func (Fn.func 60) #[] #[], .nilFunc] 83)
  have HB : Hid (Below w.heap.size w (w.alloc (.cells #[.string ⟨#[94]⟩, .int .i64 2, .func (Fn.func 60) #[] #[], .nilFunc] 83))) := Lib.hid ((Below.refl _ _).alloc (Nat.le_refl _) _)
  go_enter Tryz.func38, Tryz.ntmps38
  go_wp2_with fail
  refine bodyPost_ret (results_cell_row (P := Tryz.prog) rfl _ _ w.heap.size 83 #[.string ⟨#[94]⟩, .int .i64 2, .func (Fn.func 60) #[] #[], .nilFunc] (0, 0) _ rfl HO.out Tryz.underlying83 rfl (by kernel_rfl)) rfl ?_
  exact ⟨rfl, HB.out⟩
theorem two_8 (a b : Int) (ha : I64 a) (hb : I64 b) (w : World) :
    Calls Tryz.prog 25 #[.int .i64 8, .int .i64 a, .int .i64 b] w fun e w' => e = .returned (.tuple #[.int .i64 (xorZ a b), .bool true]) ∧ Below w.heap.size w w' := by
  have HR := Lib.hid (fun w => rowOf_8 w)
  have HL := Lib.hid (fun w => lit_8 a b ha hb w)
  obtain ⟨z, hz⟩ : ∃ z, (xorZ a b) = z := ⟨_, rfl⟩
  rw [hz] at HL ⊢
  clear hz
  by_cases hz : b = 0
  all_goals
    first | (obtain rfl := hz) | (have hz2 : (b == 0) = false := beq_eq_false_iff_ne.2 hz)
    go_enter Tryz.func25, Tryz.ntmps25
    go_wp2_with fail
    refine (HR.out _).mono ?_
    rintro e w1 ⟨rfl, hb1⟩
    have HO := Lib.hid (OwnAt.new w1 [.string ⟨#[94]⟩, .int .i64 2, .func (Fn.func 60) #[] #[], .nilFunc] 83)
    have HB : Hid (Below w.heap.size w (w1.alloc (.cells #[.string ⟨#[94]⟩, .int .i64 2, .func (Fn.func 60) #[] #[], .nilFunc] 83))) := Lib.hid (hb1.alloc hb1.size _)
    clear hb1
    go_upto_region 2 with (fail)
    generalize World.alloc w1 _ = W2 at *
    have d2 := HO.out.at 2 _ rfl
    have dl := HO.out.lt
    go_wp2_with fail
    refine (HL.out _).mono ?_
    rintro e w3 ⟨rfl, rfl⟩
    go_wp2_with fail
    go_ret2
    exact ⟨rfl, HB.out⟩
theorem lit_9 (a b : Int) (ha : I64 a) (hb : I64 b) (w : World) :
    Calls Tryz.prog 61 #[.int .i64 a, .int .i64 b] w fun e w' => e = .returned (.int .i64 (shlZ a b)) ∧ w = w' := by
  obtain ⟨a1, a2⟩ := ha
  obtain ⟨b1, b2⟩ := hb
  have hsh := fun w => run_shl a b w
  go_enter Tryz.func61, Tryz.ntmps61
  go_wp2_with fail
  go_ret
  exact ⟨by first | rfl | (simp; done), rfl⟩
theorem rowOf_9 (w : World) :
    Calls Tryz.prog 38 #[.int .i64 9] w fun e w' => e = .returned (.agg #[.string ⟨#[60, 60]⟩, .int .i64 6, .func (Fn.func 61) #[] #[], .nilFunc]) ∧ Below w.heap.size w w' := by
  have HO := Lib.hid (OwnAt.new w [.string ⟨#[60, 60]⟩, .int .i64 6, .func (Fn.func 61) #[] #[], .nilFunc] 83)
  have HB : Hid (Below w.heap.size w (w.alloc (.cells #[.string ⟨#[60, 60]⟩, .int .i64 6, .func (Fn.func 61) #[] #[], .nilFunc] 83))) := Lib.hid ((Below.refl _ _).alloc (Nat.le_refl _) _)
  go_enter Tryz.func38, Tryz.ntmps38
  go_wp2_with fail
  refine bodyPost_ret (results_cell_row (P := Tryz.prog) rfl _ _ w.heap.size 83 #[.string ⟨#[60, 60]⟩, .int .i64 6, .func (Fn.func 61) #[] #[], .nilFunc] (0, 0) _ rfl HO.out Tryz.underlying83 rfl (by kernel_rfl)) rfl ?_
  exact ⟨rfl, HB.out⟩
theorem two_9 (a b : Int) (ha : I64 a) (hb : I64 b) (w : World) :
    Calls Tryz.prog 25 #[.int .i64 9, .int .i64 a, .int .i64 b] w fun e w' => e = .returned (.tuple #[.int .i64 (shlZ a b), .bool true]) ∧ Below w.heap.size w w' := by
  have HR := Lib.hid (fun w => rowOf_9 w)
  have HL := Lib.hid (fun w => lit_9 a b ha hb w)
  obtain ⟨z, hz⟩ : ∃ z, (shlZ a b) = z := ⟨_, rfl⟩
  rw [hz] at HL ⊢
  clear hz
  by_cases hz : b = 0
  all_goals
    first | (obtain rfl := hz) | (have hz2 : (b == 0) = false := beq_eq_false_iff_ne.2 hz)
    go_enter Tryz.func25, Tryz.ntmps25
    go_wp2_with fail
    refine (HR.out _).mono ?_
    rintro e w1 ⟨rfl, hb1⟩
    have HO := Lib.hid (OwnAt.new w1 [.string ⟨#[60, 60]⟩, .int .i64 6, .func (Fn.func 61) #[] #[], .nilFunc] 83)
    have HB : Hid (Below w.heap.size w (w1.alloc (.cells #[.string ⟨#[60, 60]⟩, .int .i64 6, .func (Fn.func 61) #[] #[], .nilFunc] 83))) := Lib.hid (hb1.alloc hb1.size _)
    clear hb1
    go_upto_region 2 with (fail)
    generalize World.alloc w1 _ = W2 at *
    have d2 := HO.out.at 2 _ rfl
    have dl := HO.out.lt
    go_wp2_with fail
    refine (HL.out _).mono ?_
    rintro e w3 ⟨rfl, rfl⟩
    go_wp2_with fail
    go_ret2
    exact ⟨rfl, HB.out⟩
theorem lit_10 (a b : Int) (ha : I64 a) (hb : I64 b) (w : World) :
    Calls Tryz.prog 62 #[.int .i64 a, .int .i64 b] w fun e w' => e = .returned (.int .i64 (shrZ a b)) ∧ w = w' := by
  obtain ⟨a1, a2⟩ := ha
  obtain ⟨b1, b2⟩ := hb
  have hsh := fun w => run_shr a b w
  go_enter Tryz.func62, Tryz.ntmps62
  go_wp2_with fail
  go_ret
  exact ⟨by first | rfl | (simp; done), rfl⟩
theorem rowOf_10 (w : World) :
    Calls Tryz.prog 38 #[.int .i64 10] w fun e w' => e = .returned (.agg #[.string ⟨#[62, 62]⟩, .int .i64 6, .func (Fn.func 62) #[] #[], .nilFunc]) ∧ Below w.heap.size w w' := by
  have HO := Lib.hid (OwnAt.new w [.string ⟨#[62, 62]⟩, .int .i64 6, .func (Fn.func 62) #[] #[], .nilFunc] 83)
  have HB : Hid (Below w.heap.size w (w.alloc (.cells #[.string ⟨#[62, 62]⟩, .int .i64 6, .func (Fn.func 62) #[] #[], .nilFunc] 83))) := Lib.hid ((Below.refl _ _).alloc (Nat.le_refl _) _)
  go_enter Tryz.func38, Tryz.ntmps38
  go_wp2_with fail
  refine bodyPost_ret (results_cell_row (P := Tryz.prog) rfl _ _ w.heap.size 83 #[.string ⟨#[62, 62]⟩, .int .i64 6, .func (Fn.func 62) #[] #[], .nilFunc] (0, 0) _ rfl HO.out Tryz.underlying83 rfl (by kernel_rfl)) rfl ?_
  exact ⟨rfl, HB.out⟩
theorem two_10 (a b : Int) (ha : I64 a) (hb : I64 b) (w : World) :
    Calls Tryz.prog 25 #[.int .i64 10, .int .i64 a, .int .i64 b] w fun e w' => e = .returned (.tuple #[.int .i64 (shrZ a b), .bool true]) ∧ Below w.heap.size w w' := by
  have HR := Lib.hid (fun w => rowOf_10 w)
  have HL := Lib.hid (fun w => lit_10 a b ha hb w)
  obtain ⟨z, hz⟩ : ∃ z, (shrZ a b) = z := ⟨_, rfl⟩
  rw [hz] at HL ⊢
  clear hz
  by_cases hz : b = 0
  all_goals
    first | (obtain rfl := hz) | (have hz2 : (b == 0) = false := beq_eq_false_iff_ne.2 hz)
    go_enter Tryz.func25, Tryz.ntmps25
    go_wp2_with fail
    refine (HR.out _).mono ?_
    rintro e w1 ⟨rfl, hb1⟩
    have HO := Lib.hid (OwnAt.new w1 [.string ⟨#[62, 62]⟩, .int .i64 6, .func (Fn.func 62) #[] #[], .nilFunc] 83)
    have HB : Hid (Below w.heap.size w (w1.alloc (.cells #[.string ⟨#[62, 62]⟩, .int .i64 6, .func (Fn.func 62) #[] #[], .nilFunc] 83))) := Lib.hid (hb1.alloc hb1.size _)
    clear hb1
    go_upto_region 2 with (fail)
    generalize World.alloc w1 _ = W2 at *
    have d2 := HO.out.at 2 _ rfl
    have dl := HO.out.lt
    go_wp2_with fail
    refine (HL.out _).mono ?_
    rintro e w3 ⟨rfl, rfl⟩
    go_wp2_with fail
    go_ret2
    exact ⟨rfl, HB.out⟩
theorem lit_11 (a b : Int) (ha : I64 a) (hb : I64 b) (w : World) :
    Calls Tryz.prog 63 #[.int .i64 a, .int .i64 b] w fun e w' => e = .returned (.int .i64 (flagZ (decide (a < b)))) ∧ w = w' := by
  obtain ⟨a1, a2⟩ := ha
  obtain ⟨b1, b2⟩ := hb
  go_enter Tryz.func63, Tryz.ntmps63
  go_wp2_with fail
  refine (aflag_any _ _).mono ?_
  rintro e w1 ⟨rfl, rfl⟩
  go_wp2_with fail
  go_ret
  exact ⟨by first | rfl | (simp; done), rfl⟩
theorem rowOf_11 (w : World) :
    Calls Tryz.prog 38 #[.int .i64 11] w fun e w' => e = .returned (.agg #[.string ⟨#[60]⟩, .int .i64 5, .func (Fn.func 63) #[] #[], .nilFunc]) ∧ Below w.heap.size w w' := by
  have HO := Lib.hid (OwnAt.new w [.string ⟨#[60]⟩, .int .i64 5, .func (Fn.func 63) #[] #[], .nilFunc] 83)
  have HB : Hid (Below w.heap.size w (w.alloc (.cells #[.string ⟨#[60]⟩, .int .i64 5, .func (Fn.func 63) #[] #[], .nilFunc] 83))) := Lib.hid ((Below.refl _ _).alloc (Nat.le_refl _) _)
  go_enter Tryz.func38, Tryz.ntmps38
  go_wp2_with fail
  refine bodyPost_ret (results_cell_row (P := Tryz.prog) rfl _ _ w.heap.size 83 #[.string ⟨#[60]⟩, .int .i64 5, .func (Fn.func 63) #[] #[], .nilFunc] (0, 0) _ rfl HO.out Tryz.underlying83 rfl (by kernel_rfl)) rfl ?_
  exact ⟨rfl, HB.out⟩
theorem two_11 (a b : Int) (ha : I64 a) (hb : I64 b) (w : World) :
    Calls Tryz.prog 25 #[.int .i64 11, .int .i64 a, .int .i64 b] w fun e w' => e = .returned (.tuple #[.int .i64 (flagZ (decide (a < b))), .bool true]) ∧ Below w.heap.size w w' := by
  have HR := Lib.hid (fun w => rowOf_11 w)
  have HL := Lib.hid (fun w => lit_11 a b ha hb w)
  obtain ⟨z, hz⟩ : ∃ z, (flagZ (decide (a < b))) = z := ⟨_, rfl⟩
  rw [hz] at HL ⊢
  clear hz
  by_cases hz : b = 0
  all_goals
    first | (obtain rfl := hz) | (have hz2 : (b == 0) = false := beq_eq_false_iff_ne.2 hz)
    go_enter Tryz.func25, Tryz.ntmps25
    go_wp2_with fail
    refine (HR.out _).mono ?_
    rintro e w1 ⟨rfl, hb1⟩
    have HO := Lib.hid (OwnAt.new w1 [.string ⟨#[60]⟩, .int .i64 5, .func (Fn.func 63) #[] #[], .nilFunc] 83)
    have HB : Hid (Below w.heap.size w (w1.alloc (.cells #[.string ⟨#[60]⟩, .int .i64 5, .func (Fn.func 63) #[] #[], .nilFunc] 83))) := Lib.hid (hb1.alloc hb1.size _)
    clear hb1
    go_upto_region 2 with (fail)
    generalize World.alloc w1 _ = W2 at *
    have d2 := HO.out.at 2 _ rfl
    have dl := HO.out.lt
    go_wp2_with fail
    refine (HL.out _).mono ?_
    rintro e w3 ⟨rfl, rfl⟩
    go_wp2_with fail
    go_ret2
    exact ⟨rfl, HB.out⟩
theorem lit_16 (a b : Int) (ha : I64 a) (hb : I64 b) (w : World) :
    Calls Tryz.prog 69 #[.int .i64 a, .int .i64 b] w fun e w' => e = .returned (.int .i64 (flagZ (a != b))) ∧ w = w' := by
  obtain ⟨a1, a2⟩ := ha
  obtain ⟨b1, b2⟩ := hb
  have hx : (a != b) = !(a == b) := rfl
  go_enter Tryz.func69, Tryz.ntmps69
  go_wp2_with fail
  refine (aflag_any _ _).mono ?_
  rintro e w1 ⟨rfl, rfl⟩
  go_wp2_with fail
  go_ret
  exact ⟨by first | rfl | (simp; done), rfl⟩
theorem rowOf_16 (w : World) :
    Calls Tryz.prog 38 #[.int .i64 16] w fun e w' => e = .returned (.agg #[.string ⟨#[33, 61]⟩, .int .i64 4, .func (Fn.func 69) #[] #[], .nilFunc]) ∧ Below w.heap.size w w' := by
  have HO := Lib.hid (OwnAt.new w [.string ⟨#[33, 61]⟩, .int .i64 4, .func (Fn.func 69) #[] #[], .nilFunc] 83)
  have HB : Hid (Below w.heap.size w (w.alloc (.cells #[.string ⟨#[33, 61]⟩, .int .i64 4, .func (Fn.func 69) #[] #[], .nilFunc] 83))) := Lib.hid ((Below.refl _ _).alloc (Nat.le_refl _) _)
  go_enter Tryz.func38, Tryz.ntmps38
  go_wp2_with fail
  refine bodyPost_ret (results_cell_row (P := Tryz.prog) rfl _ _ w.heap.size 83 #[.string ⟨#[33, 61]⟩, .int .i64 4, .func (Fn.func 69) #[] #[], .nilFunc] (0, 0) _ rfl HO.out Tryz.underlying83 rfl (by kernel_rfl)) rfl ?_
  exact ⟨rfl, HB.out⟩
theorem two_16 (a b : Int) (ha : I64 a) (hb : I64 b) (w : World) :
    Calls Tryz.prog 25 #[.int .i64 16, .int .i64 a, .int .i64 b] w fun e w' => e = .returned (.tuple #[.int .i64 (flagZ (a != b)), .bool true]) ∧ Below w.heap.size w w' := by
  have HR := Lib.hid (fun w => rowOf_16 w)
  have HL := Lib.hid (fun w => lit_16 a b ha hb w)
  obtain ⟨z, hz⟩ : ∃ z, (flagZ (a != b)) = z := ⟨_, rfl⟩
  rw [hz] at HL ⊢
  clear hz
  by_cases hz : b = 0
  all_goals
    first | (obtain rfl := hz) | (have hz2 : (b == 0) = false := beq_eq_false_iff_ne.2 hz)
    go_enter Tryz.func25, Tryz.ntmps25
    go_wp2_with fail
    refine (HR.out _).mono ?_
    rintro e w1 ⟨rfl, hb1⟩
    have HO := Lib.hid (OwnAt.new w1 [.string ⟨#[33, 61]⟩, .int .i64 4, .func (Fn.func 69) #[] #[], .nilFunc] 83)
    have HB : Hid (Below w.heap.size w (w1.alloc (.cells #[.string ⟨#[33, 61]⟩, .int .i64 4, .func (Fn.func 69) #[] #[], .nilFunc] 83))) := Lib.hid (hb1.alloc hb1.size _)
    clear hb1
    go_upto_region 2 with (fail)
    generalize World.alloc w1 _ = W2 at *
    have d2 := HO.out.at 2 _ rfl
    have dl := HO.out.lt
    go_wp2_with fail
    refine (HL.out _).mono ?_
    rintro e w3 ⟨rfl, rfl⟩
    go_wp2_with fail
    go_ret2
    exact ⟨rfl, HB.out⟩
theorem lit_18 (a : Int) (ha : I64 a) (w : World) :
    Calls Tryz.prog 71 #[.int .i64 a] w fun e w' => e = .returned (.int .i64 (flagZ (a == 0))) ∧ w = w' := by
  obtain ⟨a1, a2⟩ := ha
  go_enter Tryz.func71, Tryz.ntmps71
  go_wp2_with fail
  refine (aflag_any _ _).mono ?_
  rintro e w1 ⟨rfl, rfl⟩
  go_wp2_with fail
  go_ret
  exact ⟨by first | rfl | (simp; done), rfl⟩
theorem rowOf_18 (w : World) :
    Calls Tryz.prog 38 #[.int .i64 18] w fun e w' => e = .returned (.agg #[.string ⟨#[33]⟩, .int .i64 0, .nilFunc, .func (Fn.func 71) #[] #[]]) ∧ Below w.heap.size w w' := by
  have HO := Lib.hid (OwnAt.new w [.string ⟨#[33]⟩, .int .i64 0, .nilFunc, .func (Fn.func 71) #[] #[]] 83)
  have HB : Hid (Below w.heap.size w (w.alloc (.cells #[.string ⟨#[33]⟩, .int .i64 0, .nilFunc, .func (Fn.func 71) #[] #[]] 83))) := Lib.hid ((Below.refl _ _).alloc (Nat.le_refl _) _)
  go_enter Tryz.func38, Tryz.ntmps38
  go_wp2_with fail
  refine bodyPost_ret (results_cell_row (P := Tryz.prog) rfl _ _ w.heap.size 83 #[.string ⟨#[33]⟩, .int .i64 0, .nilFunc, .func (Fn.func 71) #[] #[]] (0, 0) _ rfl HO.out Tryz.underlying83 rfl (by kernel_rfl)) rfl ?_
  exact ⟨rfl, HB.out⟩
theorem one_18 (a : Int) (ha : I64 a) (w : World) :
    Calls Tryz.prog 24 #[.int .i64 18, .int .i64 a] w fun e w' => e = .returned (.tuple #[.int .i64 (flagZ (a == 0)), .bool true]) ∧ Below w.heap.size w w' := by
  have HR := Lib.hid (fun w => rowOf_18 w)
  have HL := Lib.hid (fun w => lit_18 a ha w)
  go_enter Tryz.func24, Tryz.ntmps24
  go_wp2_with fail
  refine (HR.out _).mono ?_
  rintro e w1 ⟨rfl, hb1⟩
  have HO := Lib.hid (OwnAt.new w1 [.string ⟨#[33]⟩, .int .i64 0, .nilFunc, .func (Fn.func 71) #[] #[]] 83)
  have HB : Hid (Below w.heap.size w (w1.alloc (.cells #[.string ⟨#[33]⟩, .int .i64 0, .nilFunc, .func (Fn.func 71) #[] #[]] 83))) := Lib.hid (hb1.alloc hb1.size _)
  clear hb1
  go_upto_region 2 with (fail)
  generalize World.alloc w1 _ = W2 at *
  have d3 := HO.out.at 3 _ rfl
  have dl := HO.out.lt
  go_wp2_with fail
  refine (HL.out _).mono ?_
  rintro e w3 ⟨rfl, rfl⟩
  go_wp2_with fail
  go_ret2
  exact ⟨rfl, HB.out⟩
end Go.Proofs.YtpgjfpphigeliaaGreatDoor

namespace Go.Proofs.YtpgjfpphigeliaaGreatDoor
open Go.RowKit
set_option maxHeartbeats 4000000
set_option maxRecDepth 100000

theorem mo_1 (o a b : Int) (ho : I64 o) (ha : I64 a) (hb : I64 b) (hk : ipick o 15 = 0) (w : World) (hl : ILib w) :
    Calls Tryz.prog 10 #[.int .i64 o, .int .i64 a, .int .i64 b] w fun e w' => e = .returned (.bool true) ∧ Below w.heap.size w w' := by
  obtain ⟨hf, hr⟩ := op_1 a b ha hb
  have HAW := Lib.hid (jawake_any w hl)
  have HPK := Lib.hid (fun w => jpick_any o 15 ho (by decide) (by decide) w)
  rw [hk] at HPK
  have HOP := Lib.hid (fun w => two_1 a b ha hb w)
  obtain ⟨z, hz⟩ : ∃ z, (wrap64 (a + b)) = z := ⟨_, rfl⟩
  rw [hz] at HOP hr
  clear hz
  have HRUN := Lib.hid (fun va vl w hc => run_tells (opC a b ⟨1, 10, 5, 6, 0, []⟩) hf.1.2 hf.2 [] (fun z hz => by cases hz) 9 (by decide) (by decide) 1 z 5 [] hr va vl _ w hc (inp_nil w))
  have HS := Lib.hid (fun v1 v2 w h1 h2 => jsame_eq 1 z 5 [] v1 v2 w h1 h2)
  obtain ⟨ha1, ha2⟩ := ha
  obtain ⟨hb1, hb2⟩ := hb
  clear hl hr hk hf
  go_enter Tryz.func10, Tryz.ntmps10
  go_wp2_with fail
  refine (HAW.out).mono ?_
  rintro e w1 ⟨rfl, hb1'⟩
  have HB := Lib.hid hb1'
  clear hb1' HAW
  go_wp2_with fail
  refine (HPK.out _).mono ?_
  rintro e w3 ⟨rfl, rfl⟩
  clear HPK
  go_upto_region 4 with (fail)
  have hlo : w.heap.size ≤ w1.heap.size := HB.out.size
  have hbX1 : Below w1.heap.size w1 (w1.alloc (.cells #[.int .i64 1, .int .i64 10, .int .i64 5, .int .i64 6, .int .i64 0, .string ⟨#[]⟩] 39)) := (Below.refl _ _).alloc (Nat.le_refl _) _
  have hoX := OwnAt.new w1 [.int .i64 1, .int .i64 10, .int .i64 5, .int .i64 6, .int .i64 0, .string ⟨#[]⟩] 39
  obtain ⟨WI, hWX⟩ : ∃ WI, w1.alloc (.cells #[.int .i64 1, .int .i64 10, .int .i64 5, .int .i64 6, .int .i64 0, .string ⟨#[]⟩] 39) = WI := ⟨_, rfl⟩
  rw [hWX] at hbX1 hoX ⊢
  replace HB := Lib.hid (HB.out.trans (hbX1.mono HB.out.size))
  have HX := Lib.hid hoX
  clear hbX1 hWX hoX
  have c0 := HX.out.at 0 _ rfl
  have c1 := HX.out.at 1 _ rfl
  have c2 := HX.out.at 2 _ rfl
  have c3 := HX.out.at 3 _ rfl
  have c4 := HX.out.at 4 _ rfl
  have c5 := HX.out.at 5 _ rfl
  have c3f := HX.out.fz 3
  have cl := HX.out.lt
  go_upto_region 6 with (fail)
  clear c0 c1 c2 c3 c4 c5 c3f cl hlo
  refine wp_cut (fun a' w' => RJO6 w1.heap.size a b 1 6 WI _ _ _ _ _ _ _ _ _ _ _ _ _ _ _ _ _ _ _ _ _ _ _ _ _ _ _ _ _ _ _ _ _ _ _ _ _ _ _ _ _ _ _ _ _ _ _ _ _ _ _ _ _ _ _ _ _ _ _ _ _ _ _ _ _ _ _ _ _ _ _ a' w') ?rest (fun J K' hJ hM => then_any (reg_JO6 w1.heap.size a b 1 6 WI HX _ _ _ _ _ _ _ _ _ _ _ _ _ _ _ _ _ _ _ _ _ _ _ _ _ _ _ _ _ _ _ _ _ _ _ _ _ _ _ _ _ _ _ _ _ _ _ _ _ _ _ _ _ _ _ _ _ _ _ _ _ _ _ _ _ _ _ _ _ _ _ _ _ _ _ _ _ _ _ _ _ _ _ _ _ _ J K' hJ hM))
  case rest =>
  rintro a' w' ⟨TL, TC, ⟨hfr, hol, hoc⟩, rfl⟩
  dsimp only
  obtain ⟨WC, hWC⟩ : ∃ WC, w' = WC := ⟨_, rfl⟩
  rw [hWC] at hfr hol hoc ⊢
  clear hWC w'
  replace HB := Lib.hid (HB.out.trans (hfr.mono HB.out.size))
  replace HX := Lib.hid (HX.out.old hfr)
  clear hfr
  have HC : Hid (CodeAt WC (opC a b ⟨1, 10, 5, 6, 0, []⟩) (.slice none 0 0) (.slice (some ⟨TL, 0, none⟩) 5 5)) := Lib.hid ⟨RwAt.nil _ _ _, lns_block (L := opL a b ⟨1, 10, 5, 6, 0, []⟩) hol (of_decide_eq_true rfl)⟩
  have HO := Lib.hid hoc
  clear hol hoc
  generalize opC a b ⟨1, 10, 5, 6, 0, []⟩ = C at *
  have c0 := HX.out.at 0 _ rfl
  have c1 := HX.out.at 1 _ rfl
  have c2 := HX.out.at 2 _ rfl
  have c3 := HX.out.at 3 _ rfl
  have c4 := HX.out.at 4 _ rfl
  have c5 := HX.out.at 5 _ rfl
  have cl := HX.out.lt
  have e0 := HO.out.at 0 _ rfl
  have e1 := HO.out.at 1 _ rfl
  go_wp2_with fail
  generalize hWX : World.alloc WC _ = WT
  have hbX2 : Below WC.heap.size WC WT := by rw [← hWX]; exact (Below.refl _ _).alloc (Nat.le_refl _) _
  replace HB := Lib.hid (HB.out.trans (hbX2.mono HB.out.size))
  replace HX := Lib.hid (HX.out.old hbX2)
  replace HC := Lib.hid (HC.out.old hbX2)
  replace HO := Lib.hid (HO.out.old hbX2)
  clear hbX2 hWX
  refine (HOP.out _).mono ?_
  rintro e w4 ⟨rfl, hb4⟩
  replace HB := Lib.hid (HB.out.trans (hb4.mono HB.out.size))
  replace HX := Lib.hid (HX.out.old hb4)
  replace HC := Lib.hid (HC.out.old hb4)
  replace HO := Lib.hid (HO.out.old hb4)
  clear hb4 HOP
  clear c0 c1 c2 c3 c4 c5 cl e0 e1 HX
  have e0 := HO.out.at 0 _ rfl
  have e1 := HO.out.at 1 _ rfl
  go_wp2_with fail
  refine (HRUN.out _ _ _ HC.out).mono ?_
  rintro e wr ⟨ra, rc, rfl, hn1', hbr⟩
  replace HB := Lib.hid (HB.out.trans (hbr.mono HB.out.size))
  replace HC := Lib.hid (HC.out.old hbr)
  replace HO := Lib.hid (HO.out.old hbr)
  clear hbr
  have HN := Lib.hid (RwOwn.nilv hn1' (of_decide_eq_true rfl) intCells_len)
  clear hn1' e0 e1 HRUN
  go_wp2_with fail
  refine (HS.out _ _ _ HN.out (RwAt.nil _ _ _)).mono ?_
  rintro e ws ⟨rfl, hbs⟩
  replace HB := Lib.hid (HB.out.trans (hbs.mono HB.out.size))
  replace HC := Lib.hid (HC.out.old hbs)
  replace HO := Lib.hid (HO.out.old hbs)
  replace HN := Lib.hid (HN.out.old hbs)
  clear hbs
  go_wp2_with fail
  go_ret
  exact ⟨rfl, HB.out⟩
theorem mo_2 (o a b : Int) (ho : I64 o) (ha : I64 a) (hb : I64 b) (hk : ipick o 15 = 1) (w : World) (hl : ILib w) :
    Calls Tryz.prog 10 #[.int .i64 o, .int .i64 a, .int .i64 b] w fun e w' => e = .returned (.bool true) ∧ Below w.heap.size w w' := by
  obtain ⟨hf, hr⟩ := op_2 a b ha hb
  have HAW := Lib.hid (jawake_any w hl)
  have HPK := Lib.hid (fun w => jpick_any o 15 ho (by decide) (by decide) w)
  rw [hk] at HPK
  have HOP := Lib.hid (fun w => two_2 a b ha hb w)
  obtain ⟨z, hz⟩ : ∃ z, (wrap64 (a - b)) = z := ⟨_, rfl⟩
  rw [hz] at HOP hr
  clear hz
  have HRUN := Lib.hid (fun va vl w hc => run_tells (opC a b ⟨2, 10, 5, 6, 0, []⟩) hf.1.2 hf.2 [] (fun z hz => by cases hz) 9 (by decide) (by decide) 1 z 5 [] hr va vl _ w hc (inp_nil w))
  have HS := Lib.hid (fun v1 v2 w h1 h2 => jsame_eq 1 z 5 [] v1 v2 w h1 h2)
  obtain ⟨ha1, ha2⟩ := ha
  obtain ⟨hb1, hb2⟩ := hb
  clear hl hr hk hf
  go_enter Tryz.func10, Tryz.ntmps10
  go_wp2_with fail
  refine (HAW.out).mono ?_
  rintro e w1 ⟨rfl, hb1'⟩
  have HB := Lib.hid hb1'
  clear hb1' HAW
  go_wp2_with fail
  refine (HPK.out _).mono ?_
  rintro e w3 ⟨rfl, rfl⟩
  clear HPK
  go_upto_region 4 with (fail)
  have hlo : w.heap.size ≤ w1.heap.size := HB.out.size
  have hbX1 : Below w1.heap.size w1 (w1.alloc (.cells #[.int .i64 2, .int .i64 10, .int .i64 5, .int .i64 6, .int .i64 0, .string ⟨#[]⟩] 39)) := (Below.refl _ _).alloc (Nat.le_refl _) _
  have hoX := OwnAt.new w1 [.int .i64 2, .int .i64 10, .int .i64 5, .int .i64 6, .int .i64 0, .string ⟨#[]⟩] 39
  obtain ⟨WI, hWX⟩ : ∃ WI, w1.alloc (.cells #[.int .i64 2, .int .i64 10, .int .i64 5, .int .i64 6, .int .i64 0, .string ⟨#[]⟩] 39) = WI := ⟨_, rfl⟩
  rw [hWX] at hbX1 hoX ⊢
  replace HB := Lib.hid (HB.out.trans (hbX1.mono HB.out.size))
  have HX := Lib.hid hoX
  clear hbX1 hWX hoX
  have c0 := HX.out.at 0 _ rfl
  have c1 := HX.out.at 1 _ rfl
  have c2 := HX.out.at 2 _ rfl
  have c3 := HX.out.at 3 _ rfl
  have c4 := HX.out.at 4 _ rfl
  have c5 := HX.out.at 5 _ rfl
  have c3f := HX.out.fz 3
  have cl := HX.out.lt
  go_upto_region 6 with (fail)
  clear c0 c1 c2 c3 c4 c5 c3f cl hlo
  refine wp_cut (fun a' w' => RJO6 w1.heap.size a b 2 6 WI _ _ _ _ _ _ _ _ _ _ _ _ _ _ _ _ _ _ _ _ _ _ _ _ _ _ _ _ _ _ _ _ _ _ _ _ _ _ _ _ _ _ _ _ _ _ _ _ _ _ _ _ _ _ _ _ _ _ _ _ _ _ _ _ _ _ _ _ _ _ _ a' w') ?rest (fun J K' hJ hM => then_any (reg_JO6 w1.heap.size a b 2 6 WI HX _ _ _ _ _ _ _ _ _ _ _ _ _ _ _ _ _ _ _ _ _ _ _ _ _ _ _ _ _ _ _ _ _ _ _ _ _ _ _ _ _ _ _ _ _ _ _ _ _ _ _ _ _ _ _ _ _ _ _ _ _ _ _ _ _ _ _ _ _ _ _ _ _ _ _ _ _ _ _ _ _ _ _ _ _ _ J K' hJ hM))
  case rest =>
  rintro a' w' ⟨TL, TC, ⟨hfr, hol, hoc⟩, rfl⟩
  dsimp only
  obtain ⟨WC, hWC⟩ : ∃ WC, w' = WC := ⟨_, rfl⟩
  rw [hWC] at hfr hol hoc ⊢
  clear hWC w'
  replace HB := Lib.hid (HB.out.trans (hfr.mono HB.out.size))
  replace HX := Lib.hid (HX.out.old hfr)
  clear hfr
  have HC : Hid (CodeAt WC (opC a b ⟨2, 10, 5, 6, 0, []⟩) (.slice none 0 0) (.slice (some ⟨TL, 0, none⟩) 5 5)) := Lib.hid ⟨RwAt.nil _ _ _, lns_block (L := opL a b ⟨2, 10, 5, 6, 0, []⟩) hol (of_decide_eq_true rfl)⟩
  have HO := Lib.hid hoc
  clear hol hoc
  generalize opC a b ⟨2, 10, 5, 6, 0, []⟩ = C at *
  have c0 := HX.out.at 0 _ rfl
  have c1 := HX.out.at 1 _ rfl
  have c2 := HX.out.at 2 _ rfl
  have c3 := HX.out.at 3 _ rfl
  have c4 := HX.out.at 4 _ rfl
  have c5 := HX.out.at 5 _ rfl
  have cl := HX.out.lt
  have e0 := HO.out.at 0 _ rfl
  have e1 := HO.out.at 1 _ rfl
  go_wp2_with fail
  generalize hWX : World.alloc WC _ = WT
  have hbX2 : Below WC.heap.size WC WT := by rw [← hWX]; exact (Below.refl _ _).alloc (Nat.le_refl _) _
  replace HB := Lib.hid (HB.out.trans (hbX2.mono HB.out.size))
  replace HX := Lib.hid (HX.out.old hbX2)
  replace HC := Lib.hid (HC.out.old hbX2)
  replace HO := Lib.hid (HO.out.old hbX2)
  clear hbX2 hWX
  refine (HOP.out _).mono ?_
  rintro e w4 ⟨rfl, hb4⟩
  replace HB := Lib.hid (HB.out.trans (hb4.mono HB.out.size))
  replace HX := Lib.hid (HX.out.old hb4)
  replace HC := Lib.hid (HC.out.old hb4)
  replace HO := Lib.hid (HO.out.old hb4)
  clear hb4 HOP
  clear c0 c1 c2 c3 c4 c5 cl e0 e1 HX
  have e0 := HO.out.at 0 _ rfl
  have e1 := HO.out.at 1 _ rfl
  go_wp2_with fail
  refine (HRUN.out _ _ _ HC.out).mono ?_
  rintro e wr ⟨ra, rc, rfl, hn1', hbr⟩
  replace HB := Lib.hid (HB.out.trans (hbr.mono HB.out.size))
  replace HC := Lib.hid (HC.out.old hbr)
  replace HO := Lib.hid (HO.out.old hbr)
  clear hbr
  have HN := Lib.hid (RwOwn.nilv hn1' (of_decide_eq_true rfl) intCells_len)
  clear hn1' e0 e1 HRUN
  go_wp2_with fail
  refine (HS.out _ _ _ HN.out (RwAt.nil _ _ _)).mono ?_
  rintro e ws ⟨rfl, hbs⟩
  replace HB := Lib.hid (HB.out.trans (hbs.mono HB.out.size))
  replace HC := Lib.hid (HC.out.old hbs)
  replace HO := Lib.hid (HO.out.old hbs)
  replace HN := Lib.hid (HN.out.old hbs)
  clear hbs
  go_wp2_with fail
  go_ret
  exact ⟨rfl, HB.out⟩
theorem mo_3 (o a b : Int) (ho : I64 o) (ha : I64 a) (hb : I64 b) (hk : ipick o 15 = 2) (w : World) (hl : ILib w) :
    Calls Tryz.prog 10 #[.int .i64 o, .int .i64 a, .int .i64 b] w fun e w' => e = .returned (.bool true) ∧ Below w.heap.size w w' := by
  obtain ⟨hf, hr⟩ := op_3 a b ha hb
  have HAW := Lib.hid (jawake_any w hl)
  have HPK := Lib.hid (fun w => jpick_any o 15 ho (by decide) (by decide) w)
  rw [hk] at HPK
  have HOP := Lib.hid (fun w => two_3 a b ha hb w)
  obtain ⟨z, hz⟩ : ∃ z, (wrap64 (a * b)) = z := ⟨_, rfl⟩
  rw [hz] at HOP hr
  clear hz
  have HRUN := Lib.hid (fun va vl w hc => run_tells (opC a b ⟨3, 10, 5, 6, 0, []⟩) hf.1.2 hf.2 [] (fun z hz => by cases hz) 9 (by decide) (by decide) 1 z 5 [] hr va vl _ w hc (inp_nil w))
  have HS := Lib.hid (fun v1 v2 w h1 h2 => jsame_eq 1 z 5 [] v1 v2 w h1 h2)
  obtain ⟨ha1, ha2⟩ := ha
  obtain ⟨hb1, hb2⟩ := hb
  clear hl hr hk hf
  go_enter Tryz.func10, Tryz.ntmps10
  go_wp2_with fail
  refine (HAW.out).mono ?_
  rintro e w1 ⟨rfl, hb1'⟩
  have HB := Lib.hid hb1'
  clear hb1' HAW
  go_wp2_with fail
  refine (HPK.out _).mono ?_
  rintro e w3 ⟨rfl, rfl⟩
  clear HPK
  go_upto_region 4 with (fail)
  have hlo : w.heap.size ≤ w1.heap.size := HB.out.size
  have hbX1 : Below w1.heap.size w1 (w1.alloc (.cells #[.int .i64 3, .int .i64 10, .int .i64 5, .int .i64 6, .int .i64 0, .string ⟨#[]⟩] 39)) := (Below.refl _ _).alloc (Nat.le_refl _) _
  have hoX := OwnAt.new w1 [.int .i64 3, .int .i64 10, .int .i64 5, .int .i64 6, .int .i64 0, .string ⟨#[]⟩] 39
  obtain ⟨WI, hWX⟩ : ∃ WI, w1.alloc (.cells #[.int .i64 3, .int .i64 10, .int .i64 5, .int .i64 6, .int .i64 0, .string ⟨#[]⟩] 39) = WI := ⟨_, rfl⟩
  rw [hWX] at hbX1 hoX ⊢
  replace HB := Lib.hid (HB.out.trans (hbX1.mono HB.out.size))
  have HX := Lib.hid hoX
  clear hbX1 hWX hoX
  have c0 := HX.out.at 0 _ rfl
  have c1 := HX.out.at 1 _ rfl
  have c2 := HX.out.at 2 _ rfl
  have c3 := HX.out.at 3 _ rfl
  have c4 := HX.out.at 4 _ rfl
  have c5 := HX.out.at 5 _ rfl
  have c3f := HX.out.fz 3
  have cl := HX.out.lt
  go_upto_region 6 with (fail)
  clear c0 c1 c2 c3 c4 c5 c3f cl hlo
  refine wp_cut (fun a' w' => RJO6 w1.heap.size a b 3 6 WI _ _ _ _ _ _ _ _ _ _ _ _ _ _ _ _ _ _ _ _ _ _ _ _ _ _ _ _ _ _ _ _ _ _ _ _ _ _ _ _ _ _ _ _ _ _ _ _ _ _ _ _ _ _ _ _ _ _ _ _ _ _ _ _ _ _ _ _ _ _ _ a' w') ?rest (fun J K' hJ hM => then_any (reg_JO6 w1.heap.size a b 3 6 WI HX _ _ _ _ _ _ _ _ _ _ _ _ _ _ _ _ _ _ _ _ _ _ _ _ _ _ _ _ _ _ _ _ _ _ _ _ _ _ _ _ _ _ _ _ _ _ _ _ _ _ _ _ _ _ _ _ _ _ _ _ _ _ _ _ _ _ _ _ _ _ _ _ _ _ _ _ _ _ _ _ _ _ _ _ _ _ J K' hJ hM))
  case rest =>
  rintro a' w' ⟨TL, TC, ⟨hfr, hol, hoc⟩, rfl⟩
  dsimp only
  obtain ⟨WC, hWC⟩ : ∃ WC, w' = WC := ⟨_, rfl⟩
  rw [hWC] at hfr hol hoc ⊢
  clear hWC w'
  replace HB := Lib.hid (HB.out.trans (hfr.mono HB.out.size))
  replace HX := Lib.hid (HX.out.old hfr)
  clear hfr
  have HC : Hid (CodeAt WC (opC a b ⟨3, 10, 5, 6, 0, []⟩) (.slice none 0 0) (.slice (some ⟨TL, 0, none⟩) 5 5)) := Lib.hid ⟨RwAt.nil _ _ _, lns_block (L := opL a b ⟨3, 10, 5, 6, 0, []⟩) hol (of_decide_eq_true rfl)⟩
  have HO := Lib.hid hoc
  clear hol hoc
  generalize opC a b ⟨3, 10, 5, 6, 0, []⟩ = C at *
  have c0 := HX.out.at 0 _ rfl
  have c1 := HX.out.at 1 _ rfl
  have c2 := HX.out.at 2 _ rfl
  have c3 := HX.out.at 3 _ rfl
  have c4 := HX.out.at 4 _ rfl
  have c5 := HX.out.at 5 _ rfl
  have cl := HX.out.lt
  have e0 := HO.out.at 0 _ rfl
  have e1 := HO.out.at 1 _ rfl
  go_wp2_with fail
  generalize hWX : World.alloc WC _ = WT
  have hbX2 : Below WC.heap.size WC WT := by rw [← hWX]; exact (Below.refl _ _).alloc (Nat.le_refl _) _
  replace HB := Lib.hid (HB.out.trans (hbX2.mono HB.out.size))
  replace HX := Lib.hid (HX.out.old hbX2)
  replace HC := Lib.hid (HC.out.old hbX2)
  replace HO := Lib.hid (HO.out.old hbX2)
  clear hbX2 hWX
  refine (HOP.out _).mono ?_
  rintro e w4 ⟨rfl, hb4⟩
  replace HB := Lib.hid (HB.out.trans (hb4.mono HB.out.size))
  replace HX := Lib.hid (HX.out.old hb4)
  replace HC := Lib.hid (HC.out.old hb4)
  replace HO := Lib.hid (HO.out.old hb4)
  clear hb4 HOP
  clear c0 c1 c2 c3 c4 c5 cl e0 e1 HX
  have e0 := HO.out.at 0 _ rfl
  have e1 := HO.out.at 1 _ rfl
  go_wp2_with fail
  refine (HRUN.out _ _ _ HC.out).mono ?_
  rintro e wr ⟨ra, rc, rfl, hn1', hbr⟩
  replace HB := Lib.hid (HB.out.trans (hbr.mono HB.out.size))
  replace HC := Lib.hid (HC.out.old hbr)
  replace HO := Lib.hid (HO.out.old hbr)
  clear hbr
  have HN := Lib.hid (RwOwn.nilv hn1' (of_decide_eq_true rfl) intCells_len)
  clear hn1' e0 e1 HRUN
  go_wp2_with fail
  refine (HS.out _ _ _ HN.out (RwAt.nil _ _ _)).mono ?_
  rintro e ws ⟨rfl, hbs⟩
  replace HB := Lib.hid (HB.out.trans (hbs.mono HB.out.size))
  replace HC := Lib.hid (HC.out.old hbs)
  replace HO := Lib.hid (HO.out.old hbs)
  replace HN := Lib.hid (HN.out.old hbs)
  clear hbs
  go_wp2_with fail
  go_ret
  exact ⟨rfl, HB.out⟩
theorem mo_4 (o a b : Int) (ho : I64 o) (ha : I64 a) (hb : I64 b) (hk : ipick o 15 = 3) (w : World) (hl : ILib w) :
    Calls Tryz.prog 10 #[.int .i64 o, .int .i64 a, .int .i64 b] w fun e w' => e = .returned (.bool true) ∧ Below w.heap.size w w' := by
  obtain ⟨hf, hr⟩ := op_4 a b ha hb
  have HAW := Lib.hid (jawake_any w hl)
  have HPK := Lib.hid (fun w => jpick_any o 15 ho (by decide) (by decide) w)
  rw [hk] at HPK
  have HOP := Lib.hid (fun w => div_any a b w)
  obtain ⟨z, hz⟩ : ∃ z, (divZ a b) = z := ⟨_, rfl⟩
  rw [hz] at HOP hr
  clear hz
  have HRUN := Lib.hid (fun va vl w hc => run_tells (opC a b ⟨4, 10, 5, 6, 0, []⟩) hf.1.2 hf.2 [] (fun z hz => by cases hz) 9 (by decide) (by decide) 1 z 5 [] hr va vl _ w hc (inp_nil w))
  have HS := Lib.hid (fun v1 v2 w h1 h2 => jsame_eq 1 z 5 [] v1 v2 w h1 h2)
  obtain ⟨ha1, ha2⟩ := ha
  obtain ⟨hb1, hb2⟩ := hb
  clear hl hr hk hf
  go_enter Tryz.func10, Tryz.ntmps10
  go_wp2_with fail
  refine (HAW.out).mono ?_
  rintro e w1 ⟨rfl, hb1'⟩
  have HB := Lib.hid hb1'
  clear hb1' HAW
  go_wp2_with fail
  refine (HPK.out _).mono ?_
  rintro e w3 ⟨rfl, rfl⟩
  clear HPK
  go_upto_region 4 with (fail)
  have hlo : w.heap.size ≤ w1.heap.size := HB.out.size
  have hbX1 : Below w1.heap.size w1 (w1.alloc (.cells #[.int .i64 4, .int .i64 10, .int .i64 5, .int .i64 6, .int .i64 0, .string ⟨#[]⟩] 39)) := (Below.refl _ _).alloc (Nat.le_refl _) _
  have hoX := OwnAt.new w1 [.int .i64 4, .int .i64 10, .int .i64 5, .int .i64 6, .int .i64 0, .string ⟨#[]⟩] 39
  obtain ⟨WI, hWX⟩ : ∃ WI, w1.alloc (.cells #[.int .i64 4, .int .i64 10, .int .i64 5, .int .i64 6, .int .i64 0, .string ⟨#[]⟩] 39) = WI := ⟨_, rfl⟩
  rw [hWX] at hbX1 hoX ⊢
  replace HB := Lib.hid (HB.out.trans (hbX1.mono HB.out.size))
  have HX := Lib.hid hoX
  clear hbX1 hWX hoX
  have c0 := HX.out.at 0 _ rfl
  have c1 := HX.out.at 1 _ rfl
  have c2 := HX.out.at 2 _ rfl
  have c3 := HX.out.at 3 _ rfl
  have c4 := HX.out.at 4 _ rfl
  have c5 := HX.out.at 5 _ rfl
  have c3f := HX.out.fz 3
  have cl := HX.out.lt
  go_upto_region 6 with (fail)
  clear c0 c1 c2 c3 c4 c5 c3f cl hlo
  refine wp_cut (fun a' w' => RJO6 w1.heap.size a b 4 6 WI _ _ _ _ _ _ _ _ _ _ _ _ _ _ _ _ _ _ _ _ _ _ _ _ _ _ _ _ _ _ _ _ _ _ _ _ _ _ _ _ _ _ _ _ _ _ _ _ _ _ _ _ _ _ _ _ _ _ _ _ _ _ _ _ _ _ _ _ _ _ _ a' w') ?rest (fun J K' hJ hM => then_any (reg_JO6 w1.heap.size a b 4 6 WI HX _ _ _ _ _ _ _ _ _ _ _ _ _ _ _ _ _ _ _ _ _ _ _ _ _ _ _ _ _ _ _ _ _ _ _ _ _ _ _ _ _ _ _ _ _ _ _ _ _ _ _ _ _ _ _ _ _ _ _ _ _ _ _ _ _ _ _ _ _ _ _ _ _ _ _ _ _ _ _ _ _ _ _ _ _ _ J K' hJ hM))
  case rest =>
  rintro a' w' ⟨TL, TC, ⟨hfr, hol, hoc⟩, rfl⟩
  dsimp only
  obtain ⟨WC, hWC⟩ : ∃ WC, w' = WC := ⟨_, rfl⟩
  rw [hWC] at hfr hol hoc ⊢
  clear hWC w'
  replace HB := Lib.hid (HB.out.trans (hfr.mono HB.out.size))
  replace HX := Lib.hid (HX.out.old hfr)
  clear hfr
  have HC : Hid (CodeAt WC (opC a b ⟨4, 10, 5, 6, 0, []⟩) (.slice none 0 0) (.slice (some ⟨TL, 0, none⟩) 5 5)) := Lib.hid ⟨RwAt.nil _ _ _, lns_block (L := opL a b ⟨4, 10, 5, 6, 0, []⟩) hol (of_decide_eq_true rfl)⟩
  have HO := Lib.hid hoc
  clear hol hoc
  generalize opC a b ⟨4, 10, 5, 6, 0, []⟩ = C at *
  have c0 := HX.out.at 0 _ rfl
  have c1 := HX.out.at 1 _ rfl
  have c2 := HX.out.at 2 _ rfl
  have c3 := HX.out.at 3 _ rfl
  have c4 := HX.out.at 4 _ rfl
  have c5 := HX.out.at 5 _ rfl
  have cl := HX.out.lt
  have e0 := HO.out.at 0 _ rfl
  have e1 := HO.out.at 1 _ rfl
  go_wp2_with fail
  refine (HOP.out _).mono ?_
  rintro e w4 ⟨rfl, rfl⟩
  clear c0 c1 c2 c3 c4 c5 cl e0 e1 HX
  have e0 := HO.out.at 0 _ rfl
  have e1 := HO.out.at 1 _ rfl
  go_wp2_with fail
  refine (HRUN.out _ _ _ HC.out).mono ?_
  rintro e wr ⟨ra, rc, rfl, hn1', hbr⟩
  replace HB := Lib.hid (HB.out.trans (hbr.mono HB.out.size))
  replace HC := Lib.hid (HC.out.old hbr)
  replace HO := Lib.hid (HO.out.old hbr)
  clear hbr
  have HN := Lib.hid (RwOwn.nilv hn1' (of_decide_eq_true rfl) intCells_len)
  clear hn1' e0 e1 HRUN
  go_wp2_with fail
  refine (HS.out _ _ _ HN.out (RwAt.nil _ _ _)).mono ?_
  rintro e ws ⟨rfl, hbs⟩
  replace HB := Lib.hid (HB.out.trans (hbs.mono HB.out.size))
  replace HC := Lib.hid (HC.out.old hbs)
  replace HO := Lib.hid (HO.out.old hbs)
  replace HN := Lib.hid (HN.out.old hbs)
  clear hbs
  go_wp2_with fail
  go_ret
  exact ⟨rfl, HB.out⟩
theorem mo_5 (o a b : Int) (ho : I64 o) (ha : I64 a) (hb : I64 b) (hk : ipick o 15 = 4) (w : World) (hl : ILib w) :
    Calls Tryz.prog 10 #[.int .i64 o, .int .i64 a, .int .i64 b] w fun e w' => e = .returned (.bool true) ∧ Below w.heap.size w w' := by
  obtain ⟨hf, hr⟩ := op_5 a b ha hb
  have HAW := Lib.hid (jawake_any w hl)
  have HPK := Lib.hid (fun w => jpick_any o 15 ho (by decide) (by decide) w)
  rw [hk] at HPK
  have HOP := Lib.hid (fun w => rem_any a b w)
  obtain ⟨z, hz⟩ : ∃ z, (remZ a b) = z := ⟨_, rfl⟩
  rw [hz] at HOP hr
  clear hz
  have HRUN := Lib.hid (fun va vl w hc => run_tells (opC a b ⟨5, 10, 5, 6, 0, []⟩) hf.1.2 hf.2 [] (fun z hz => by cases hz) 9 (by decide) (by decide) 1 z 5 [] hr va vl _ w hc (inp_nil w))
  have HS := Lib.hid (fun v1 v2 w h1 h2 => jsame_eq 1 z 5 [] v1 v2 w h1 h2)
  obtain ⟨ha1, ha2⟩ := ha
  obtain ⟨hb1, hb2⟩ := hb
  clear hl hr hk hf
  go_enter Tryz.func10, Tryz.ntmps10
  go_wp2_with fail
  refine (HAW.out).mono ?_
  rintro e w1 ⟨rfl, hb1'⟩
  have HB := Lib.hid hb1'
  clear hb1' HAW
  go_wp2_with fail
  refine (HPK.out _).mono ?_
  rintro e w3 ⟨rfl, rfl⟩
  clear HPK
  go_upto_region 4 with (fail)
  have hlo : w.heap.size ≤ w1.heap.size := HB.out.size
  have hbX1 : Below w1.heap.size w1 (w1.alloc (.cells #[.int .i64 5, .int .i64 10, .int .i64 5, .int .i64 6, .int .i64 0, .string ⟨#[]⟩] 39)) := (Below.refl _ _).alloc (Nat.le_refl _) _
  have hoX := OwnAt.new w1 [.int .i64 5, .int .i64 10, .int .i64 5, .int .i64 6, .int .i64 0, .string ⟨#[]⟩] 39
  obtain ⟨WI, hWX⟩ : ∃ WI, w1.alloc (.cells #[.int .i64 5, .int .i64 10, .int .i64 5, .int .i64 6, .int .i64 0, .string ⟨#[]⟩] 39) = WI := ⟨_, rfl⟩
  rw [hWX] at hbX1 hoX ⊢
  replace HB := Lib.hid (HB.out.trans (hbX1.mono HB.out.size))
  have HX := Lib.hid hoX
  clear hbX1 hWX hoX
  have c0 := HX.out.at 0 _ rfl
  have c1 := HX.out.at 1 _ rfl
  have c2 := HX.out.at 2 _ rfl
  have c3 := HX.out.at 3 _ rfl
  have c4 := HX.out.at 4 _ rfl
  have c5 := HX.out.at 5 _ rfl
  have c3f := HX.out.fz 3
  have cl := HX.out.lt
  go_upto_region 6 with (fail)
  clear c0 c1 c2 c3 c4 c5 c3f cl hlo
  refine wp_cut (fun a' w' => RJO6 w1.heap.size a b 5 6 WI _ _ _ _ _ _ _ _ _ _ _ _ _ _ _ _ _ _ _ _ _ _ _ _ _ _ _ _ _ _ _ _ _ _ _ _ _ _ _ _ _ _ _ _ _ _ _ _ _ _ _ _ _ _ _ _ _ _ _ _ _ _ _ _ _ _ _ _ _ _ _ a' w') ?rest (fun J K' hJ hM => then_any (reg_JO6 w1.heap.size a b 5 6 WI HX _ _ _ _ _ _ _ _ _ _ _ _ _ _ _ _ _ _ _ _ _ _ _ _ _ _ _ _ _ _ _ _ _ _ _ _ _ _ _ _ _ _ _ _ _ _ _ _ _ _ _ _ _ _ _ _ _ _ _ _ _ _ _ _ _ _ _ _ _ _ _ _ _ _ _ _ _ _ _ _ _ _ _ _ _ _ J K' hJ hM))
  case rest =>
  rintro a' w' ⟨TL, TC, ⟨hfr, hol, hoc⟩, rfl⟩
  dsimp only
  obtain ⟨WC, hWC⟩ : ∃ WC, w' = WC := ⟨_, rfl⟩
  rw [hWC] at hfr hol hoc ⊢
  clear hWC w'
  replace HB := Lib.hid (HB.out.trans (hfr.mono HB.out.size))
  replace HX := Lib.hid (HX.out.old hfr)
  clear hfr
  have HC : Hid (CodeAt WC (opC a b ⟨5, 10, 5, 6, 0, []⟩) (.slice none 0 0) (.slice (some ⟨TL, 0, none⟩) 5 5)) := Lib.hid ⟨RwAt.nil _ _ _, lns_block (L := opL a b ⟨5, 10, 5, 6, 0, []⟩) hol (of_decide_eq_true rfl)⟩
  have HO := Lib.hid hoc
  clear hol hoc
  generalize opC a b ⟨5, 10, 5, 6, 0, []⟩ = C at *
  have c0 := HX.out.at 0 _ rfl
  have c1 := HX.out.at 1 _ rfl
  have c2 := HX.out.at 2 _ rfl
  have c3 := HX.out.at 3 _ rfl
  have c4 := HX.out.at 4 _ rfl
  have c5 := HX.out.at 5 _ rfl
  have cl := HX.out.lt
  have e0 := HO.out.at 0 _ rfl
  have e1 := HO.out.at 1 _ rfl
  go_wp2_with fail
  refine (HOP.out _).mono ?_
  rintro e w4 ⟨rfl, rfl⟩
  clear c0 c1 c2 c3 c4 c5 cl e0 e1 HX
  have e0 := HO.out.at 0 _ rfl
  have e1 := HO.out.at 1 _ rfl
  go_wp2_with fail
  refine (HRUN.out _ _ _ HC.out).mono ?_
  rintro e wr ⟨ra, rc, rfl, hn1', hbr⟩
  replace HB := Lib.hid (HB.out.trans (hbr.mono HB.out.size))
  replace HC := Lib.hid (HC.out.old hbr)
  replace HO := Lib.hid (HO.out.old hbr)
  clear hbr
  have HN := Lib.hid (RwOwn.nilv hn1' (of_decide_eq_true rfl) intCells_len)
  clear hn1' e0 e1 HRUN
  go_wp2_with fail
  refine (HS.out _ _ _ HN.out (RwAt.nil _ _ _)).mono ?_
  rintro e ws ⟨rfl, hbs⟩
  replace HB := Lib.hid (HB.out.trans (hbs.mono HB.out.size))
  replace HC := Lib.hid (HC.out.old hbs)
  replace HO := Lib.hid (HO.out.old hbs)
  replace HN := Lib.hid (HN.out.old hbs)
  clear hbs
  go_wp2_with fail
  go_ret
  exact ⟨rfl, HB.out⟩
theorem mo_6 (o a b : Int) (ho : I64 o) (ha : I64 a) (hb : I64 b) (hk : ipick o 15 = 5) (w : World) (hl : ILib w) :
    Calls Tryz.prog 10 #[.int .i64 o, .int .i64 a, .int .i64 b] w fun e w' => e = .returned (.bool true) ∧ Below w.heap.size w w' := by
  obtain ⟨hf, hr⟩ := op_6 a b ha hb
  have HAW := Lib.hid (jawake_any w hl)
  have HPK := Lib.hid (fun w => jpick_any o 15 ho (by decide) (by decide) w)
  rw [hk] at HPK
  have HOP := Lib.hid (fun w => two_6 a b ha hb w)
  obtain ⟨z, hz⟩ : ∃ z, (andZ a b) = z := ⟨_, rfl⟩
  rw [hz] at HOP hr
  clear hz
  have HRUN := Lib.hid (fun va vl w hc => run_tells (opC a b ⟨6, 10, 5, 6, 0, []⟩) hf.1.2 hf.2 [] (fun z hz => by cases hz) 9 (by decide) (by decide) 1 z 5 [] hr va vl _ w hc (inp_nil w))
  have HS := Lib.hid (fun v1 v2 w h1 h2 => jsame_eq 1 z 5 [] v1 v2 w h1 h2)
  obtain ⟨ha1, ha2⟩ := ha
  obtain ⟨hb1, hb2⟩ := hb
  clear hl hr hk hf
  go_enter Tryz.func10, Tryz.ntmps10
  go_wp2_with fail
  refine (HAW.out).mono ?_
  rintro e w1 ⟨rfl, hb1'⟩
  have HB := Lib.hid hb1'
  clear hb1' HAW
  go_wp2_with fail
  refine (HPK.out _).mono ?_
  rintro e w3 ⟨rfl, rfl⟩
  clear HPK
  go_upto_region 4 with (fail)
  have hlo : w.heap.size ≤ w1.heap.size := HB.out.size
  have hbX1 : Below w1.heap.size w1 (w1.alloc (.cells #[.int .i64 6, .int .i64 10, .int .i64 5, .int .i64 6, .int .i64 0, .string ⟨#[]⟩] 39)) := (Below.refl _ _).alloc (Nat.le_refl _) _
  have hoX := OwnAt.new w1 [.int .i64 6, .int .i64 10, .int .i64 5, .int .i64 6, .int .i64 0, .string ⟨#[]⟩] 39
  obtain ⟨WI, hWX⟩ : ∃ WI, w1.alloc (.cells #[.int .i64 6, .int .i64 10, .int .i64 5, .int .i64 6, .int .i64 0, .string ⟨#[]⟩] 39) = WI := ⟨_, rfl⟩
  rw [hWX] at hbX1 hoX ⊢
  replace HB := Lib.hid (HB.out.trans (hbX1.mono HB.out.size))
  have HX := Lib.hid hoX
  clear hbX1 hWX hoX
  have c0 := HX.out.at 0 _ rfl
  have c1 := HX.out.at 1 _ rfl
  have c2 := HX.out.at 2 _ rfl
  have c3 := HX.out.at 3 _ rfl
  have c4 := HX.out.at 4 _ rfl
  have c5 := HX.out.at 5 _ rfl
  have c3f := HX.out.fz 3
  have cl := HX.out.lt
  go_upto_region 6 with (fail)
  clear c0 c1 c2 c3 c4 c5 c3f cl hlo
  refine wp_cut (fun a' w' => RJO6 w1.heap.size a b 6 6 WI _ _ _ _ _ _ _ _ _ _ _ _ _ _ _ _ _ _ _ _ _ _ _ _ _ _ _ _ _ _ _ _ _ _ _ _ _ _ _ _ _ _ _ _ _ _ _ _ _ _ _ _ _ _ _ _ _ _ _ _ _ _ _ _ _ _ _ _ _ _ _ a' w') ?rest (fun J K' hJ hM => then_any (reg_JO6 w1.heap.size a b 6 6 WI HX _ _ _ _ _ _ _ _ _ _ _ _ _ _ _ _ _ _ _ _ _ _ _ _ _ _ _ _ _ _ _ _ _ _ _ _ _ _ _ _ _ _ _ _ _ _ _ _ _ _ _ _ _ _ _ _ _ _ _ _ _ _ _ _ _ _ _ _ _ _ _ _ _ _ _ _ _ _ _ _ _ _ _ _ _ _ J K' hJ hM))
  case rest =>
  rintro a' w' ⟨TL, TC, ⟨hfr, hol, hoc⟩, rfl⟩
  dsimp only
  obtain ⟨WC, hWC⟩ : ∃ WC, w' = WC := ⟨_, rfl⟩
  rw [hWC] at hfr hol hoc ⊢
  clear hWC w'
  replace HB := Lib.hid (HB.out.trans (hfr.mono HB.out.size))
  replace HX := Lib.hid (HX.out.old hfr)
  clear hfr
  have HC : Hid (CodeAt WC (opC a b ⟨6, 10, 5, 6, 0, []⟩) (.slice none 0 0) (.slice (some ⟨TL, 0, none⟩) 5 5)) := Lib.hid ⟨RwAt.nil _ _ _, lns_block (L := opL a b ⟨6, 10, 5, 6, 0, []⟩) hol (of_decide_eq_true rfl)⟩
  have HO := Lib.hid hoc
  clear hol hoc
  generalize opC a b ⟨6, 10, 5, 6, 0, []⟩ = C at *
  have c0 := HX.out.at 0 _ rfl
  have c1 := HX.out.at 1 _ rfl
  have c2 := HX.out.at 2 _ rfl
  have c3 := HX.out.at 3 _ rfl
  have c4 := HX.out.at 4 _ rfl
  have c5 := HX.out.at 5 _ rfl
  have cl := HX.out.lt
  have e0 := HO.out.at 0 _ rfl
  have e1 := HO.out.at 1 _ rfl
  go_wp2_with fail
  generalize hWX : World.alloc WC _ = WT
  have hbX2 : Below WC.heap.size WC WT := by rw [← hWX]; exact (Below.refl _ _).alloc (Nat.le_refl _) _
  replace HB := Lib.hid (HB.out.trans (hbX2.mono HB.out.size))
  replace HX := Lib.hid (HX.out.old hbX2)
  replace HC := Lib.hid (HC.out.old hbX2)
  replace HO := Lib.hid (HO.out.old hbX2)
  clear hbX2 hWX
  refine (HOP.out _).mono ?_
  rintro e w4 ⟨rfl, hb4⟩
  replace HB := Lib.hid (HB.out.trans (hb4.mono HB.out.size))
  replace HX := Lib.hid (HX.out.old hb4)
  replace HC := Lib.hid (HC.out.old hb4)
  replace HO := Lib.hid (HO.out.old hb4)
  clear hb4 HOP
  clear c0 c1 c2 c3 c4 c5 cl e0 e1 HX
  have e0 := HO.out.at 0 _ rfl
  have e1 := HO.out.at 1 _ rfl
  go_wp2_with fail
  refine (HRUN.out _ _ _ HC.out).mono ?_
  rintro e wr ⟨ra, rc, rfl, hn1', hbr⟩
  replace HB := Lib.hid (HB.out.trans (hbr.mono HB.out.size))
  replace HC := Lib.hid (HC.out.old hbr)
  replace HO := Lib.hid (HO.out.old hbr)
  clear hbr
  have HN := Lib.hid (RwOwn.nilv hn1' (of_decide_eq_true rfl) intCells_len)
  clear hn1' e0 e1 HRUN
  go_wp2_with fail
  refine (HS.out _ _ _ HN.out (RwAt.nil _ _ _)).mono ?_
  rintro e ws ⟨rfl, hbs⟩
  replace HB := Lib.hid (HB.out.trans (hbs.mono HB.out.size))
  replace HC := Lib.hid (HC.out.old hbs)
  replace HO := Lib.hid (HO.out.old hbs)
  replace HN := Lib.hid (HN.out.old hbs)
  clear hbs
  go_wp2_with fail
  go_ret
  exact ⟨rfl, HB.out⟩
theorem mo_7 (o a b : Int) (ho : I64 o) (ha : I64 a) (hb : I64 b) (hk : ipick o 15 = 6) (w : World) (hl : ILib w) :
    Calls Tryz.prog 10 #[.int .i64 o, .int .i64 a, .int .i64 b] w fun e w' => e = .returned (.bool true) ∧ Below w.heap.size w w' := by
  obtain ⟨hf, hr⟩ := op_7 a b ha hb
  have HAW := Lib.hid (jawake_any w hl)
  have HPK := Lib.hid (fun w => jpick_any o 15 ho (by decide) (by decide) w)
  rw [hk] at HPK
  have HOP := Lib.hid (fun w => two_7 a b ha hb w)
  obtain ⟨z, hz⟩ : ∃ z, (orZ a b) = z := ⟨_, rfl⟩
  rw [hz] at HOP hr
  clear hz
  have HRUN := Lib.hid (fun va vl w hc => run_tells (opC a b ⟨7, 10, 5, 6, 0, []⟩) hf.1.2 hf.2 [] (fun z hz => by cases hz) 9 (by decide) (by decide) 1 z 5 [] hr va vl _ w hc (inp_nil w))
  have HS := Lib.hid (fun v1 v2 w h1 h2 => jsame_eq 1 z 5 [] v1 v2 w h1 h2)
  obtain ⟨ha1, ha2⟩ := ha
  obtain ⟨hb1, hb2⟩ := hb
  clear hl hr hk hf
  go_enter Tryz.func10, Tryz.ntmps10
  go_wp2_with fail
  refine (HAW.out).mono ?_
  rintro e w1 ⟨rfl, hb1'⟩
  have HB := Lib.hid hb1'
  clear hb1' HAW
  go_wp2_with fail
  refine (HPK.out _).mono ?_
  rintro e w3 ⟨rfl, rfl⟩
  clear HPK
  go_upto_region 4 with (fail)
  have hlo : w.heap.size ≤ w1.heap.size := HB.out.size
  have hbX1 : Below w1.heap.size w1 (w1.alloc (.cells #[.int .i64 7, .int .i64 10, .int .i64 5, .int .i64 6, .int .i64 0, .string ⟨#[]⟩] 39)) := (Below.refl _ _).alloc (Nat.le_refl _) _
  have hoX := OwnAt.new w1 [.int .i64 7, .int .i64 10, .int .i64 5, .int .i64 6, .int .i64 0, .string ⟨#[]⟩] 39
  obtain ⟨WI, hWX⟩ : ∃ WI, w1.alloc (.cells #[.int .i64 7, .int .i64 10, .int .i64 5, .int .i64 6, .int .i64 0, .string ⟨#[]⟩] 39) = WI := ⟨_, rfl⟩
  rw [hWX] at hbX1 hoX ⊢
  replace HB := Lib.hid (HB.out.trans (hbX1.mono HB.out.size))
  have HX := Lib.hid hoX
  clear hbX1 hWX hoX
  have c0 := HX.out.at 0 _ rfl
  have c1 := HX.out.at 1 _ rfl
  have c2 := HX.out.at 2 _ rfl
  have c3 := HX.out.at 3 _ rfl
  have c4 := HX.out.at 4 _ rfl
  have c5 := HX.out.at 5 _ rfl
  have c3f := HX.out.fz 3
  have cl := HX.out.lt
  go_upto_region 6 with (fail)
  clear c0 c1 c2 c3 c4 c5 c3f cl hlo
  refine wp_cut (fun a' w' => RJO6 w1.heap.size a b 7 6 WI _ _ _ _ _ _ _ _ _ _ _ _ _ _ _ _ _ _ _ _ _ _ _ _ _ _ _ _ _ _ _ _ _ _ _ _ _ _ _ _ _ _ _ _ _ _ _ _ _ _ _ _ _ _ _ _ _ _ _ _ _ _ _ _ _ _ _ _ _ _ _ a' w') ?rest (fun J K' hJ hM => then_any (reg_JO6 w1.heap.size a b 7 6 WI HX _ _ _ _ _ _ _ _ _ _ _ _ _ _ _ _ _ _ _ _ _ _ _ _ _ _ _ _ _ _ _ _ _ _ _ _ _ _ _ _ _ _ _ _ _ _ _ _ _ _ _ _ _ _ _ _ _ _ _ _ _ _ _ _ _ _ _ _ _ _ _ _ _ _ _ _ _ _ _ _ _ _ _ _ _ _ J K' hJ hM))
  case rest =>
  rintro a' w' ⟨TL, TC, ⟨hfr, hol, hoc⟩, rfl⟩
  dsimp only
  obtain ⟨WC, hWC⟩ : ∃ WC, w' = WC := ⟨_, rfl⟩
  rw [hWC] at hfr hol hoc ⊢
  clear hWC w'
  replace HB := Lib.hid (HB.out.trans (hfr.mono HB.out.size))
  replace HX := Lib.hid (HX.out.old hfr)
  clear hfr
  have HC : Hid (CodeAt WC (opC a b ⟨7, 10, 5, 6, 0, []⟩) (.slice none 0 0) (.slice (some ⟨TL, 0, none⟩) 5 5)) := Lib.hid ⟨RwAt.nil _ _ _, lns_block (L := opL a b ⟨7, 10, 5, 6, 0, []⟩) hol (of_decide_eq_true rfl)⟩
  have HO := Lib.hid hoc
  clear hol hoc
  generalize opC a b ⟨7, 10, 5, 6, 0, []⟩ = C at *
  have c0 := HX.out.at 0 _ rfl
  have c1 := HX.out.at 1 _ rfl
  have c2 := HX.out.at 2 _ rfl
  have c3 := HX.out.at 3 _ rfl
  have c4 := HX.out.at 4 _ rfl
  have c5 := HX.out.at 5 _ rfl
  have cl := HX.out.lt
  have e0 := HO.out.at 0 _ rfl
  have e1 := HO.out.at 1 _ rfl
  go_wp2_with fail
  generalize hWX : World.alloc WC _ = WT
  have hbX2 : Below WC.heap.size WC WT := by rw [← hWX]; exact (Below.refl _ _).alloc (Nat.le_refl _) _
  replace HB := Lib.hid (HB.out.trans (hbX2.mono HB.out.size))
  replace HX := Lib.hid (HX.out.old hbX2)
  replace HC := Lib.hid (HC.out.old hbX2)
  replace HO := Lib.hid (HO.out.old hbX2)
  clear hbX2 hWX
  refine (HOP.out _).mono ?_
  rintro e w4 ⟨rfl, hb4⟩
  replace HB := Lib.hid (HB.out.trans (hb4.mono HB.out.size))
  replace HX := Lib.hid (HX.out.old hb4)
  replace HC := Lib.hid (HC.out.old hb4)
  replace HO := Lib.hid (HO.out.old hb4)
  clear hb4 HOP
  clear c0 c1 c2 c3 c4 c5 cl e0 e1 HX
  have e0 := HO.out.at 0 _ rfl
  have e1 := HO.out.at 1 _ rfl
  go_wp2_with fail
  refine (HRUN.out _ _ _ HC.out).mono ?_
  rintro e wr ⟨ra, rc, rfl, hn1', hbr⟩
  replace HB := Lib.hid (HB.out.trans (hbr.mono HB.out.size))
  replace HC := Lib.hid (HC.out.old hbr)
  replace HO := Lib.hid (HO.out.old hbr)
  clear hbr
  have HN := Lib.hid (RwOwn.nilv hn1' (of_decide_eq_true rfl) intCells_len)
  clear hn1' e0 e1 HRUN
  go_wp2_with fail
  refine (HS.out _ _ _ HN.out (RwAt.nil _ _ _)).mono ?_
  rintro e ws ⟨rfl, hbs⟩
  replace HB := Lib.hid (HB.out.trans (hbs.mono HB.out.size))
  replace HC := Lib.hid (HC.out.old hbs)
  replace HO := Lib.hid (HO.out.old hbs)
  replace HN := Lib.hid (HN.out.old hbs)
  clear hbs
  go_wp2_with fail
  go_ret
  exact ⟨rfl, HB.out⟩
theorem mo_8 (o a b : Int) (ho : I64 o) (ha : I64 a) (hb : I64 b) (hk : ipick o 15 = 7) (w : World) (hl : ILib w) :
    Calls Tryz.prog 10 #[.int .i64 o, .int .i64 a, .int .i64 b] w fun e w' => e = .returned (.bool true) ∧ Below w.heap.size w w' := by
  obtain ⟨hf, hr⟩ := op_8 a b ha hb
  have HAW := Lib.hid (jawake_any w hl)
  have HPK := Lib.hid (fun w => jpick_any o 15 ho (by decide) (by decide) w)
  rw [hk] at HPK
  have HOP := Lib.hid (fun w => two_8 a b ha hb w)
  obtain ⟨z, hz⟩ : ∃ z, (xorZ a b) = z := ⟨_, rfl⟩
  rw [hz] at HOP hr
  clear hz
  have HRUN := Lib.hid (fun va vl w hc => run_tells (opC a b ⟨8, 10, 5, 6, 0, []⟩) hf.1.2 hf.2 [] (fun z hz => by cases hz) 9 (by decide) (by decide) 1 z 5 [] hr va vl _ w hc (inp_nil w))
  have HS := Lib.hid (fun v1 v2 w h1 h2 => jsame_eq 1 z 5 [] v1 v2 w h1 h2)
  obtain ⟨ha1, ha2⟩ := ha
  obtain ⟨hb1, hb2⟩ := hb
  clear hl hr hk hf
  go_enter Tryz.func10, Tryz.ntmps10
  go_wp2_with fail
  refine (HAW.out).mono ?_
  rintro e w1 ⟨rfl, hb1'⟩
  have HB := Lib.hid hb1'
  clear hb1' HAW
  go_wp2_with fail
  refine (HPK.out _).mono ?_
  rintro e w3 ⟨rfl, rfl⟩
  clear HPK
  go_upto_region 4 with (fail)
  have hlo : w.heap.size ≤ w1.heap.size := HB.out.size
  have hbX1 : Below w1.heap.size w1 (w1.alloc (.cells #[.int .i64 8, .int .i64 10, .int .i64 5, .int .i64 6, .int .i64 0, .string ⟨#[]⟩] 39)) := (Below.refl _ _).alloc (Nat.le_refl _) _
  have hoX := OwnAt.new w1 [.int .i64 8, .int .i64 10, .int .i64 5, .int .i64 6, .int .i64 0, .string ⟨#[]⟩] 39
  obtain ⟨WI, hWX⟩ : ∃ WI, w1.alloc (.cells #[.int .i64 8, .int .i64 10, .int .i64 5, .int .i64 6, .int .i64 0, .string ⟨#[]⟩] 39) = WI := ⟨_, rfl⟩
  rw [hWX] at hbX1 hoX ⊢
  replace HB := Lib.hid (HB.out.trans (hbX1.mono HB.out.size))
  have HX := Lib.hid hoX
  clear hbX1 hWX hoX
  have c0 := HX.out.at 0 _ rfl
  have c1 := HX.out.at 1 _ rfl
  have c2 := HX.out.at 2 _ rfl
  have c3 := HX.out.at 3 _ rfl
  have c4 := HX.out.at 4 _ rfl
  have c5 := HX.out.at 5 _ rfl
  have c3f := HX.out.fz 3
  have cl := HX.out.lt
  go_upto_region 6 with (fail)
  clear c0 c1 c2 c3 c4 c5 c3f cl hlo
  refine wp_cut (fun a' w' => RJO6 w1.heap.size a b 8 6 WI _ _ _ _ _ _ _ _ _ _ _ _ _ _ _ _ _ _ _ _ _ _ _ _ _ _ _ _ _ _ _ _ _ _ _ _ _ _ _ _ _ _ _ _ _ _ _ _ _ _ _ _ _ _ _ _ _ _ _ _ _ _ _ _ _ _ _ _ _ _ _ a' w') ?rest (fun J K' hJ hM => then_any (reg_JO6 w1.heap.size a b 8 6 WI HX _ _ _ _ _ _ _ _ _ _ _ _ _ _ _ _ _ _ _ _ _ _ _ _ _ _ _ _ _ _ _ _ _ _ _ _ _ _ _ _ _ _ _ _ _ _ _ _ _ _ _ _ _ _ _ _ _ _ _ _ _ _ _ _ _ _ _ _ _ _ _ _ _ _ _ _ _ _ _ _ _ _ _ _ _ _ J K' hJ hM))
  case rest =>
  rintro a' w' ⟨TL, TC, ⟨hfr, hol, hoc⟩, rfl⟩
  dsimp only
  obtain ⟨WC, hWC⟩ : ∃ WC, w' = WC := ⟨_, rfl⟩
  rw [hWC] at hfr hol hoc ⊢
  clear hWC w'
  replace HB := Lib.hid (HB.out.trans (hfr.mono HB.out.size))
  replace HX := Lib.hid (HX.out.old hfr)
  clear hfr
  have HC : Hid (CodeAt WC (opC a b ⟨8, 10, 5, 6, 0, []⟩) (.slice none 0 0) (.slice (some ⟨TL, 0, none⟩) 5 5)) := Lib.hid ⟨RwAt.nil _ _ _, lns_block (L := opL a b ⟨8, 10, 5, 6, 0, []⟩) hol (of_decide_eq_true rfl)⟩
  have HO := Lib.hid hoc
  clear hol hoc
  generalize opC a b ⟨8, 10, 5, 6, 0, []⟩ = C at *
  have c0 := HX.out.at 0 _ rfl
  have c1 := HX.out.at 1 _ rfl
  have c2 := HX.out.at 2 _ rfl
  have c3 := HX.out.at 3 _ rfl
  have c4 := HX.out.at 4 _ rfl
  have c5 := HX.out.at 5 _ rfl
  have cl := HX.out.lt
  have e0 := HO.out.at 0 _ rfl
  have e1 := HO.out.at 1 _ rfl
  go_wp2_with fail
  generalize hWX : World.alloc WC _ = WT
  have hbX2 : Below WC.heap.size WC WT := by rw [← hWX]; exact (Below.refl _ _).alloc (Nat.le_refl _) _
  replace HB := Lib.hid (HB.out.trans (hbX2.mono HB.out.size))
  replace HX := Lib.hid (HX.out.old hbX2)
  replace HC := Lib.hid (HC.out.old hbX2)
  replace HO := Lib.hid (HO.out.old hbX2)
  clear hbX2 hWX
  refine (HOP.out _).mono ?_
  rintro e w4 ⟨rfl, hb4⟩
  replace HB := Lib.hid (HB.out.trans (hb4.mono HB.out.size))
  replace HX := Lib.hid (HX.out.old hb4)
  replace HC := Lib.hid (HC.out.old hb4)
  replace HO := Lib.hid (HO.out.old hb4)
  clear hb4 HOP
  clear c0 c1 c2 c3 c4 c5 cl e0 e1 HX
  have e0 := HO.out.at 0 _ rfl
  have e1 := HO.out.at 1 _ rfl
  go_wp2_with fail
  refine (HRUN.out _ _ _ HC.out).mono ?_
  rintro e wr ⟨ra, rc, rfl, hn1', hbr⟩
  replace HB := Lib.hid (HB.out.trans (hbr.mono HB.out.size))
  replace HC := Lib.hid (HC.out.old hbr)
  replace HO := Lib.hid (HO.out.old hbr)
  clear hbr
  have HN := Lib.hid (RwOwn.nilv hn1' (of_decide_eq_true rfl) intCells_len)
  clear hn1' e0 e1 HRUN
  go_wp2_with fail
  refine (HS.out _ _ _ HN.out (RwAt.nil _ _ _)).mono ?_
  rintro e ws ⟨rfl, hbs⟩
  replace HB := Lib.hid (HB.out.trans (hbs.mono HB.out.size))
  replace HC := Lib.hid (HC.out.old hbs)
  replace HO := Lib.hid (HO.out.old hbs)
  replace HN := Lib.hid (HN.out.old hbs)
  clear hbs
  go_wp2_with fail
  go_ret
  exact ⟨rfl, HB.out⟩
theorem mo_9 (o a b : Int) (ho : I64 o) (ha : I64 a) (hb : I64 b) (hk : ipick o 15 = 8) (w : World) (hl : ILib w) :
    Calls Tryz.prog 10 #[.int .i64 o, .int .i64 a, .int .i64 b] w fun e w' => e = .returned (.bool true) ∧ Below w.heap.size w w' := by
  obtain ⟨hf, hr⟩ := op_9 a b ha hb
  have HAW := Lib.hid (jawake_any w hl)
  have HPK := Lib.hid (fun w => jpick_any o 15 ho (by decide) (by decide) w)
  rw [hk] at HPK
  have HOP := Lib.hid (fun w => two_9 a b ha hb w)
  obtain ⟨z, hz⟩ : ∃ z, (shlZ a b) = z := ⟨_, rfl⟩
  rw [hz] at HOP hr
  clear hz
  have HRUN := Lib.hid (fun va vl w hc => run_tells (opC a b ⟨9, 10, 5, 6, 0, []⟩) hf.1.2 hf.2 [] (fun z hz => by cases hz) 9 (by decide) (by decide) 1 z 5 [] hr va vl _ w hc (inp_nil w))
  have HS := Lib.hid (fun v1 v2 w h1 h2 => jsame_eq 1 z 5 [] v1 v2 w h1 h2)
  obtain ⟨ha1, ha2⟩ := ha
  obtain ⟨hb1, hb2⟩ := hb
  clear hl hr hk hf
  go_enter Tryz.func10, Tryz.ntmps10
  go_wp2_with fail
  refine (HAW.out).mono ?_
  rintro e w1 ⟨rfl, hb1'⟩
  have HB := Lib.hid hb1'
  clear hb1' HAW
  go_wp2_with fail
  refine (HPK.out _).mono ?_
  rintro e w3 ⟨rfl, rfl⟩
  clear HPK
  go_upto_region 4 with (fail)
  have hlo : w.heap.size ≤ w1.heap.size := HB.out.size
  have hbX1 : Below w1.heap.size w1 (w1.alloc (.cells #[.int .i64 9, .int .i64 10, .int .i64 5, .int .i64 6, .int .i64 0, .string ⟨#[]⟩] 39)) := (Below.refl _ _).alloc (Nat.le_refl _) _
  have hoX := OwnAt.new w1 [.int .i64 9, .int .i64 10, .int .i64 5, .int .i64 6, .int .i64 0, .string ⟨#[]⟩] 39
  obtain ⟨WI, hWX⟩ : ∃ WI, w1.alloc (.cells #[.int .i64 9, .int .i64 10, .int .i64 5, .int .i64 6, .int .i64 0, .string ⟨#[]⟩] 39) = WI := ⟨_, rfl⟩
  rw [hWX] at hbX1 hoX ⊢
  replace HB := Lib.hid (HB.out.trans (hbX1.mono HB.out.size))
  have HX := Lib.hid hoX
  clear hbX1 hWX hoX
  have c0 := HX.out.at 0 _ rfl
  have c1 := HX.out.at 1 _ rfl
  have c2 := HX.out.at 2 _ rfl
  have c3 := HX.out.at 3 _ rfl
  have c4 := HX.out.at 4 _ rfl
  have c5 := HX.out.at 5 _ rfl
  have c3f := HX.out.fz 3
  have cl := HX.out.lt
  go_upto_region 6 with (fail)
  clear c0 c1 c2 c3 c4 c5 c3f cl hlo
  refine wp_cut (fun a' w' => RJO6 w1.heap.size a b 9 6 WI _ _ _ _ _ _ _ _ _ _ _ _ _ _ _ _ _ _ _ _ _ _ _ _ _ _ _ _ _ _ _ _ _ _ _ _ _ _ _ _ _ _ _ _ _ _ _ _ _ _ _ _ _ _ _ _ _ _ _ _ _ _ _ _ _ _ _ _ _ _ _ a' w') ?rest (fun J K' hJ hM => then_any (reg_JO6 w1.heap.size a b 9 6 WI HX _ _ _ _ _ _ _ _ _ _ _ _ _ _ _ _ _ _ _ _ _ _ _ _ _ _ _ _ _ _ _ _ _ _ _ _ _ _ _ _ _ _ _ _ _ _ _ _ _ _ _ _ _ _ _ _ _ _ _ _ _ _ _ _ _ _ _ _ _ _ _ _ _ _ _ _ _ _ _ _ _ _ _ _ _ _ J K' hJ hM))
  case rest =>
  rintro a' w' ⟨TL, TC, ⟨hfr, hol, hoc⟩, rfl⟩
  dsimp only
  obtain ⟨WC, hWC⟩ : ∃ WC, w' = WC := ⟨_, rfl⟩
  rw [hWC] at hfr hol hoc ⊢
  clear hWC w'
  replace HB := Lib.hid (HB.out.trans (hfr.mono HB.out.size))
  replace HX := Lib.hid (HX.out.old hfr)
  clear hfr
  have HC : Hid (CodeAt WC (opC a b ⟨9, 10, 5, 6, 0, []⟩) (.slice none 0 0) (.slice (some ⟨TL, 0, none⟩) 5 5)) := Lib.hid ⟨RwAt.nil _ _ _, lns_block (L := opL a b ⟨9, 10, 5, 6, 0, []⟩) hol (of_decide_eq_true rfl)⟩
  have HO := Lib.hid hoc
  clear hol hoc
  generalize opC a b ⟨9, 10, 5, 6, 0, []⟩ = C at *
  have c0 := HX.out.at 0 _ rfl
  have c1 := HX.out.at 1 _ rfl
  have c2 := HX.out.at 2 _ rfl
  have c3 := HX.out.at 3 _ rfl
  have c4 := HX.out.at 4 _ rfl
  have c5 := HX.out.at 5 _ rfl
  have cl := HX.out.lt
  have e0 := HO.out.at 0 _ rfl
  have e1 := HO.out.at 1 _ rfl
  go_wp2_with fail
  generalize hWX : World.alloc WC _ = WT
  have hbX2 : Below WC.heap.size WC WT := by rw [← hWX]; exact (Below.refl _ _).alloc (Nat.le_refl _) _
  replace HB := Lib.hid (HB.out.trans (hbX2.mono HB.out.size))
  replace HX := Lib.hid (HX.out.old hbX2)
  replace HC := Lib.hid (HC.out.old hbX2)
  replace HO := Lib.hid (HO.out.old hbX2)
  clear hbX2 hWX
  refine (HOP.out _).mono ?_
  rintro e w4 ⟨rfl, hb4⟩
  replace HB := Lib.hid (HB.out.trans (hb4.mono HB.out.size))
  replace HX := Lib.hid (HX.out.old hb4)
  replace HC := Lib.hid (HC.out.old hb4)
  replace HO := Lib.hid (HO.out.old hb4)
  clear hb4 HOP
  clear c0 c1 c2 c3 c4 c5 cl e0 e1 HX
  have e0 := HO.out.at 0 _ rfl
  have e1 := HO.out.at 1 _ rfl
  go_wp2_with fail
  refine (HRUN.out _ _ _ HC.out).mono ?_
  rintro e wr ⟨ra, rc, rfl, hn1', hbr⟩
  replace HB := Lib.hid (HB.out.trans (hbr.mono HB.out.size))
  replace HC := Lib.hid (HC.out.old hbr)
  replace HO := Lib.hid (HO.out.old hbr)
  clear hbr
  have HN := Lib.hid (RwOwn.nilv hn1' (of_decide_eq_true rfl) intCells_len)
  clear hn1' e0 e1 HRUN
  go_wp2_with fail
  refine (HS.out _ _ _ HN.out (RwAt.nil _ _ _)).mono ?_
  rintro e ws ⟨rfl, hbs⟩
  replace HB := Lib.hid (HB.out.trans (hbs.mono HB.out.size))
  replace HC := Lib.hid (HC.out.old hbs)
  replace HO := Lib.hid (HO.out.old hbs)
  replace HN := Lib.hid (HN.out.old hbs)
  clear hbs
  go_wp2_with fail
  go_ret
  exact ⟨rfl, HB.out⟩
theorem mo_10 (o a b : Int) (ho : I64 o) (ha : I64 a) (hb : I64 b) (hk : ipick o 15 = 9) (w : World) (hl : ILib w) :
    Calls Tryz.prog 10 #[.int .i64 o, .int .i64 a, .int .i64 b] w fun e w' => e = .returned (.bool true) ∧ Below w.heap.size w w' := by
  obtain ⟨hf, hr⟩ := op_10 a b ha hb
  have HAW := Lib.hid (jawake_any w hl)
  have HPK := Lib.hid (fun w => jpick_any o 15 ho (by decide) (by decide) w)
  rw [hk] at HPK
  have HOP := Lib.hid (fun w => two_10 a b ha hb w)
  obtain ⟨z, hz⟩ : ∃ z, (shrZ a b) = z := ⟨_, rfl⟩
  rw [hz] at HOP hr
  clear hz
  have HRUN := Lib.hid (fun va vl w hc => run_tells (opC a b ⟨10, 10, 5, 6, 0, []⟩) hf.1.2 hf.2 [] (fun z hz => by cases hz) 9 (by decide) (by decide) 1 z 5 [] hr va vl _ w hc (inp_nil w))
  have HS := Lib.hid (fun v1 v2 w h1 h2 => jsame_eq 1 z 5 [] v1 v2 w h1 h2)
  obtain ⟨ha1, ha2⟩ := ha
  obtain ⟨hb1, hb2⟩ := hb
  clear hl hr hk hf
  go_enter Tryz.func10, Tryz.ntmps10
  go_wp2_with fail
  refine (HAW.out).mono ?_
  rintro e w1 ⟨rfl, hb1'⟩
  have HB := Lib.hid hb1'
  clear hb1' HAW
  go_wp2_with fail
  refine (HPK.out _).mono ?_
  rintro e w3 ⟨rfl, rfl⟩
  clear HPK
  go_upto_region 4 with (fail)
  have hlo : w.heap.size ≤ w1.heap.size := HB.out.size
  have hbX1 : Below w1.heap.size w1 (w1.alloc (.cells #[.int .i64 10, .int .i64 10, .int .i64 5, .int .i64 6, .int .i64 0, .string ⟨#[]⟩] 39)) := (Below.refl _ _).alloc (Nat.le_refl _) _
  have hoX := OwnAt.new w1 [.int .i64 10, .int .i64 10, .int .i64 5, .int .i64 6, .int .i64 0, .string ⟨#[]⟩] 39
  obtain ⟨WI, hWX⟩ : ∃ WI, w1.alloc (.cells #[.int .i64 10, .int .i64 10, .int .i64 5, .int .i64 6, .int .i64 0, .string ⟨#[]⟩] 39) = WI := ⟨_, rfl⟩
  rw [hWX] at hbX1 hoX ⊢
  replace HB := Lib.hid (HB.out.trans (hbX1.mono HB.out.size))
  have HX := Lib.hid hoX
  clear hbX1 hWX hoX
  have c0 := HX.out.at 0 _ rfl
  have c1 := HX.out.at 1 _ rfl
  have c2 := HX.out.at 2 _ rfl
  have c3 := HX.out.at 3 _ rfl
  have c4 := HX.out.at 4 _ rfl
  have c5 := HX.out.at 5 _ rfl
  have c3f := HX.out.fz 3
  have cl := HX.out.lt
  go_upto_region 6 with (fail)
  clear c0 c1 c2 c3 c4 c5 c3f cl hlo
  refine wp_cut (fun a' w' => RJO6 w1.heap.size a b 10 6 WI _ _ _ _ _ _ _ _ _ _ _ _ _ _ _ _ _ _ _ _ _ _ _ _ _ _ _ _ _ _ _ _ _ _ _ _ _ _ _ _ _ _ _ _ _ _ _ _ _ _ _ _ _ _ _ _ _ _ _ _ _ _ _ _ _ _ _ _ _ _ _ a' w') ?rest (fun J K' hJ hM => then_any (reg_JO6 w1.heap.size a b 10 6 WI HX _ _ _ _ _ _ _ _ _ _ _ _ _ _ _ _ _ _ _ _ _ _ _ _ _ _ _ _ _ _ _ _ _ _ _ _ _ _ _ _ _ _ _ _ _ _ _ _ _ _ _ _ _ _ _ _ _ _ _ _ _ _ _ _ _ _ _ _ _ _ _ _ _ _ _ _ _ _ _ _ _ _ _ _ _ _ J K' hJ hM))
  case rest =>
  rintro a' w' ⟨TL, TC, ⟨hfr, hol, hoc⟩, rfl⟩
  dsimp only
  obtain ⟨WC, hWC⟩ : ∃ WC, w' = WC := ⟨_, rfl⟩
  rw [hWC] at hfr hol hoc ⊢
  clear hWC w'
  replace HB := Lib.hid (HB.out.trans (hfr.mono HB.out.size))
  replace HX := Lib.hid (HX.out.old hfr)
  clear hfr
  have HC : Hid (CodeAt WC (opC a b ⟨10, 10, 5, 6, 0, []⟩) (.slice none 0 0) (.slice (some ⟨TL, 0, none⟩) 5 5)) := Lib.hid ⟨RwAt.nil _ _ _, lns_block (L := opL a b ⟨10, 10, 5, 6, 0, []⟩) hol (of_decide_eq_true rfl)⟩
  have HO := Lib.hid hoc
  clear hol hoc
  generalize opC a b ⟨10, 10, 5, 6, 0, []⟩ = C at *
  have c0 := HX.out.at 0 _ rfl
  have c1 := HX.out.at 1 _ rfl
  have c2 := HX.out.at 2 _ rfl
  have c3 := HX.out.at 3 _ rfl
  have c4 := HX.out.at 4 _ rfl
  have c5 := HX.out.at 5 _ rfl
  have cl := HX.out.lt
  have e0 := HO.out.at 0 _ rfl
  have e1 := HO.out.at 1 _ rfl
  go_wp2_with fail
  generalize hWX : World.alloc WC _ = WT
  have hbX2 : Below WC.heap.size WC WT := by rw [← hWX]; exact (Below.refl _ _).alloc (Nat.le_refl _) _
  replace HB := Lib.hid (HB.out.trans (hbX2.mono HB.out.size))
  replace HX := Lib.hid (HX.out.old hbX2)
  replace HC := Lib.hid (HC.out.old hbX2)
  replace HO := Lib.hid (HO.out.old hbX2)
  clear hbX2 hWX
  refine (HOP.out _).mono ?_
  rintro e w4 ⟨rfl, hb4⟩
  replace HB := Lib.hid (HB.out.trans (hb4.mono HB.out.size))
  replace HX := Lib.hid (HX.out.old hb4)
  replace HC := Lib.hid (HC.out.old hb4)
  replace HO := Lib.hid (HO.out.old hb4)
  clear hb4 HOP
  clear c0 c1 c2 c3 c4 c5 cl e0 e1 HX
  have e0 := HO.out.at 0 _ rfl
  have e1 := HO.out.at 1 _ rfl
  go_wp2_with fail
  refine (HRUN.out _ _ _ HC.out).mono ?_
  rintro e wr ⟨ra, rc, rfl, hn1', hbr⟩
  replace HB := Lib.hid (HB.out.trans (hbr.mono HB.out.size))
  replace HC := Lib.hid (HC.out.old hbr)
  replace HO := Lib.hid (HO.out.old hbr)
  clear hbr
  have HN := Lib.hid (RwOwn.nilv hn1' (of_decide_eq_true rfl) intCells_len)
  clear hn1' e0 e1 HRUN
  go_wp2_with fail
  refine (HS.out _ _ _ HN.out (RwAt.nil _ _ _)).mono ?_
  rintro e ws ⟨rfl, hbs⟩
  replace HB := Lib.hid (HB.out.trans (hbs.mono HB.out.size))
  replace HC := Lib.hid (HC.out.old hbs)
  replace HO := Lib.hid (HO.out.old hbs)
  replace HN := Lib.hid (HN.out.old hbs)
  clear hbs
  go_wp2_with fail
  go_ret
  exact ⟨rfl, HB.out⟩
theorem mo_11 (o a b : Int) (ho : I64 o) (ha : I64 a) (hb : I64 b) (hk : ipick o 15 = 10) (w : World) (hl : ILib w) :
    Calls Tryz.prog 10 #[.int .i64 o, .int .i64 a, .int .i64 b] w fun e w' => e = .returned (.bool true) ∧ Below w.heap.size w w' := by
  obtain ⟨hf, hr⟩ := op_11 a b ha hb
  have HAW := Lib.hid (jawake_any w hl)
  have HPK := Lib.hid (fun w => jpick_any o 15 ho (by decide) (by decide) w)
  rw [hk] at HPK
  have HOP := Lib.hid (fun w => two_11 a b ha hb w)
  obtain ⟨z, hz⟩ : ∃ z, (flagZ (decide (a < b))) = z := ⟨_, rfl⟩
  rw [hz] at HOP hr
  clear hz
  have HRUN := Lib.hid (fun va vl w hc => run_tells (opC a b ⟨11, 10, 5, 6, 0, []⟩) hf.1.2 hf.2 [] (fun z hz => by cases hz) 9 (by decide) (by decide) 1 z 5 [] hr va vl _ w hc (inp_nil w))
  have HS := Lib.hid (fun v1 v2 w h1 h2 => jsame_eq 1 z 5 [] v1 v2 w h1 h2)
  obtain ⟨ha1, ha2⟩ := ha
  obtain ⟨hb1, hb2⟩ := hb
  clear hl hr hk hf
  go_enter Tryz.func10, Tryz.ntmps10
  go_wp2_with fail
  refine (HAW.out).mono ?_
  rintro e w1 ⟨rfl, hb1'⟩
  have HB := Lib.hid hb1'
  clear hb1' HAW
  go_wp2_with fail
  refine (HPK.out _).mono ?_
  rintro e w3 ⟨rfl, rfl⟩
  clear HPK
  go_upto_region 4 with (fail)
  have hlo : w.heap.size ≤ w1.heap.size := HB.out.size
  have hbX1 : Below w1.heap.size w1 (w1.alloc (.cells #[.int .i64 11, .int .i64 10, .int .i64 5, .int .i64 6, .int .i64 0, .string ⟨#[]⟩] 39)) := (Below.refl _ _).alloc (Nat.le_refl _) _
  have hoX := OwnAt.new w1 [.int .i64 11, .int .i64 10, .int .i64 5, .int .i64 6, .int .i64 0, .string ⟨#[]⟩] 39
  obtain ⟨WI, hWX⟩ : ∃ WI, w1.alloc (.cells #[.int .i64 11, .int .i64 10, .int .i64 5, .int .i64 6, .int .i64 0, .string ⟨#[]⟩] 39) = WI := ⟨_, rfl⟩
  rw [hWX] at hbX1 hoX ⊢
  replace HB := Lib.hid (HB.out.trans (hbX1.mono HB.out.size))
  have HX := Lib.hid hoX
  clear hbX1 hWX hoX
  have c0 := HX.out.at 0 _ rfl
  have c1 := HX.out.at 1 _ rfl
  have c2 := HX.out.at 2 _ rfl
  have c3 := HX.out.at 3 _ rfl
  have c4 := HX.out.at 4 _ rfl
  have c5 := HX.out.at 5 _ rfl
  have c3f := HX.out.fz 3
  have cl := HX.out.lt
  go_upto_region 6 with (fail)
  clear c0 c1 c2 c3 c4 c5 c3f cl hlo
  refine wp_cut (fun a' w' => RJO6 w1.heap.size a b 11 6 WI _ _ _ _ _ _ _ _ _ _ _ _ _ _ _ _ _ _ _ _ _ _ _ _ _ _ _ _ _ _ _ _ _ _ _ _ _ _ _ _ _ _ _ _ _ _ _ _ _ _ _ _ _ _ _ _ _ _ _ _ _ _ _ _ _ _ _ _ _ _ _ a' w') ?rest (fun J K' hJ hM => then_any (reg_JO6 w1.heap.size a b 11 6 WI HX _ _ _ _ _ _ _ _ _ _ _ _ _ _ _ _ _ _ _ _ _ _ _ _ _ _ _ _ _ _ _ _ _ _ _ _ _ _ _ _ _ _ _ _ _ _ _ _ _ _ _ _ _ _ _ _ _ _ _ _ _ _ _ _ _ _ _ _ _ _ _ _ _ _ _ _ _ _ _ _ _ _ _ _ _ _ J K' hJ hM))
  case rest =>
  rintro a' w' ⟨TL, TC, ⟨hfr, hol, hoc⟩, rfl⟩
  dsimp only
  obtain ⟨WC, hWC⟩ : ∃ WC, w' = WC := ⟨_, rfl⟩
  rw [hWC] at hfr hol hoc ⊢
  clear hWC w'
  replace HB := Lib.hid (HB.out.trans (hfr.mono HB.out.size))
  replace HX := Lib.hid (HX.out.old hfr)
  clear hfr
  have HC : Hid (CodeAt WC (opC a b ⟨11, 10, 5, 6, 0, []⟩) (.slice none 0 0) (.slice (some ⟨TL, 0, none⟩) 5 5)) := Lib.hid ⟨RwAt.nil _ _ _, lns_block (L := opL a b ⟨11, 10, 5, 6, 0, []⟩) hol (of_decide_eq_true rfl)⟩
  have HO := Lib.hid hoc
  clear hol hoc
  generalize opC a b ⟨11, 10, 5, 6, 0, []⟩ = C at *
  have c0 := HX.out.at 0 _ rfl
  have c1 := HX.out.at 1 _ rfl
  have c2 := HX.out.at 2 _ rfl
  have c3 := HX.out.at 3 _ rfl
  have c4 := HX.out.at 4 _ rfl
  have c5 := HX.out.at 5 _ rfl
  have cl := HX.out.lt
  have e0 := HO.out.at 0 _ rfl
  have e1 := HO.out.at 1 _ rfl
  go_wp2_with fail
  generalize hWX : World.alloc WC _ = WT
  have hbX2 : Below WC.heap.size WC WT := by rw [← hWX]; exact (Below.refl _ _).alloc (Nat.le_refl _) _
  replace HB := Lib.hid (HB.out.trans (hbX2.mono HB.out.size))
  replace HX := Lib.hid (HX.out.old hbX2)
  replace HC := Lib.hid (HC.out.old hbX2)
  replace HO := Lib.hid (HO.out.old hbX2)
  clear hbX2 hWX
  refine (HOP.out _).mono ?_
  rintro e w4 ⟨rfl, hb4⟩
  replace HB := Lib.hid (HB.out.trans (hb4.mono HB.out.size))
  replace HX := Lib.hid (HX.out.old hb4)
  replace HC := Lib.hid (HC.out.old hb4)
  replace HO := Lib.hid (HO.out.old hb4)
  clear hb4 HOP
  clear c0 c1 c2 c3 c4 c5 cl e0 e1 HX
  have e0 := HO.out.at 0 _ rfl
  have e1 := HO.out.at 1 _ rfl
  go_wp2_with fail
  refine (HRUN.out _ _ _ HC.out).mono ?_
  rintro e wr ⟨ra, rc, rfl, hn1', hbr⟩
  replace HB := Lib.hid (HB.out.trans (hbr.mono HB.out.size))
  replace HC := Lib.hid (HC.out.old hbr)
  replace HO := Lib.hid (HO.out.old hbr)
  clear hbr
  have HN := Lib.hid (RwOwn.nilv hn1' (of_decide_eq_true rfl) intCells_len)
  clear hn1' e0 e1 HRUN
  go_wp2_with fail
  refine (HS.out _ _ _ HN.out (RwAt.nil _ _ _)).mono ?_
  rintro e ws ⟨rfl, hbs⟩
  replace HB := Lib.hid (HB.out.trans (hbs.mono HB.out.size))
  replace HC := Lib.hid (HC.out.old hbs)
  replace HO := Lib.hid (HO.out.old hbs)
  replace HN := Lib.hid (HN.out.old hbs)
  clear hbs
  go_wp2_with fail
  go_ret
  exact ⟨rfl, HB.out⟩
theorem mo_12 (o a b : Int) (ho : I64 o) (ha : I64 a) (hb : I64 b) (hk : ipick o 15 = 11) (w : World) (hl : ILib w) :
    Calls Tryz.prog 10 #[.int .i64 o, .int .i64 a, .int .i64 b] w fun e w' => e = .returned (.bool true) ∧ Below w.heap.size w w' := by
  obtain ⟨hf, hr⟩ := op_12 a b ha hb
  have HAW := Lib.hid (jawake_any w hl)
  have HPK := Lib.hid (fun w => jpick_any o 15 ho (by decide) (by decide) w)
  rw [hk] at HPK
  have HOP := Lib.hid (fun w => less_any a b w)
  obtain ⟨lb, hlb⟩ : ∃ lb, lessZ a b = lb := ⟨_, rfl⟩
  rw [hlb] at HOP hr
  clear hlb
  have HRUN := Lib.hid (fun va vl w hc => run_tells (opC a b ⟨12, 10, 5, 6, 0, []⟩) hf.1.2 hf.2 [] (fun z hz => by cases hz) 9 (by decide) (by decide) 1 (flagZ lb) 5 [] hr va vl _ w hc (inp_nil w))
  have HS := Lib.hid (fun v1 v2 w h1 h2 => jsame_eq 1 (flagZ lb) 5 [] v1 v2 w h1 h2)
  obtain ⟨ha1, ha2⟩ := ha
  obtain ⟨hb1, hb2⟩ := hb
  clear hl hr hk hf
  cases lb
  all_goals
    go_enter Tryz.func10, Tryz.ntmps10
    first | rw [show flagZ true = 1 from rfl] at HRUN HS | rw [show flagZ false = 0 from rfl] at HRUN HS
    go_wp2_with fail
    refine (HAW.out).mono ?_
    rintro e w1 ⟨rfl, hb1'⟩
    have HB := Lib.hid hb1'
    clear hb1' HAW
    go_wp2_with fail
    refine (HPK.out _).mono ?_
    rintro e w3 ⟨rfl, rfl⟩
    clear HPK
    go_upto_region 4 with (fail)
    have hlo : w.heap.size ≤ w1.heap.size := HB.out.size
    have hbX1 : Below w1.heap.size w1 (w1.alloc (.cells #[.int .i64 12, .int .i64 10, .int .i64 5, .int .i64 6, .int .i64 0, .string ⟨#[]⟩] 39)) := (Below.refl _ _).alloc (Nat.le_refl _) _
    have hoX := OwnAt.new w1 [.int .i64 12, .int .i64 10, .int .i64 5, .int .i64 6, .int .i64 0, .string ⟨#[]⟩] 39
    obtain ⟨WI, hWX⟩ : ∃ WI, w1.alloc (.cells #[.int .i64 12, .int .i64 10, .int .i64 5, .int .i64 6, .int .i64 0, .string ⟨#[]⟩] 39) = WI := ⟨_, rfl⟩
    rw [hWX] at hbX1 hoX ⊢
    replace HB := Lib.hid (HB.out.trans (hbX1.mono HB.out.size))
    have HX := Lib.hid hoX
    clear hbX1 hWX hoX
    have c0 := HX.out.at 0 _ rfl
    have c1 := HX.out.at 1 _ rfl
    have c2 := HX.out.at 2 _ rfl
    have c3 := HX.out.at 3 _ rfl
    have c4 := HX.out.at 4 _ rfl
    have c5 := HX.out.at 5 _ rfl
    have c3f := HX.out.fz 3
    have cl := HX.out.lt
    go_upto_region 6 with (fail)
    clear c0 c1 c2 c3 c4 c5 c3f cl hlo
    refine wp_cut (fun a' w' => RJO6 w1.heap.size a b 12 6 WI _ _ _ _ _ _ _ _ _ _ _ _ _ _ _ _ _ _ _ _ _ _ _ _ _ _ _ _ _ _ _ _ _ _ _ _ _ _ _ _ _ _ _ _ _ _ _ _ _ _ _ _ _ _ _ _ _ _ _ _ _ _ _ _ _ _ _ _ _ _ _ a' w') ?rest (fun J K' hJ hM => then_any (reg_JO6 w1.heap.size a b 12 6 WI HX _ _ _ _ _ _ _ _ _ _ _ _ _ _ _ _ _ _ _ _ _ _ _ _ _ _ _ _ _ _ _ _ _ _ _ _ _ _ _ _ _ _ _ _ _ _ _ _ _ _ _ _ _ _ _ _ _ _ _ _ _ _ _ _ _ _ _ _ _ _ _ _ _ _ _ _ _ _ _ _ _ _ _ _ _ _ J K' hJ hM))
    case rest =>
    rintro a' w' ⟨TL, TC, ⟨hfr, hol, hoc⟩, rfl⟩
    dsimp only
    obtain ⟨WC, hWC⟩ : ∃ WC, w' = WC := ⟨_, rfl⟩
    rw [hWC] at hfr hol hoc ⊢
    clear hWC w'
    replace HB := Lib.hid (HB.out.trans (hfr.mono HB.out.size))
    replace HX := Lib.hid (HX.out.old hfr)
    clear hfr
    have HC : Hid (CodeAt WC (opC a b ⟨12, 10, 5, 6, 0, []⟩) (.slice none 0 0) (.slice (some ⟨TL, 0, none⟩) 5 5)) := Lib.hid ⟨RwAt.nil _ _ _, lns_block (L := opL a b ⟨12, 10, 5, 6, 0, []⟩) hol (of_decide_eq_true rfl)⟩
    have HO := Lib.hid hoc
    clear hol hoc
    generalize opC a b ⟨12, 10, 5, 6, 0, []⟩ = C at *
    have c0 := HX.out.at 0 _ rfl
    have c1 := HX.out.at 1 _ rfl
    have c2 := HX.out.at 2 _ rfl
    have c3 := HX.out.at 3 _ rfl
    have c4 := HX.out.at 4 _ rfl
    have c5 := HX.out.at 5 _ rfl
    have cl := HX.out.lt
    have e0 := HO.out.at 0 _ rfl
    have e1 := HO.out.at 1 _ rfl
    go_wp2_with fail
    refine (HOP.out _).mono ?_
    rintro e w4 ⟨rfl, rfl⟩
    clear c0 c1 c2 c3 c4 c5 cl e0 e1 HX
    have e0 := HO.out.at 0 _ rfl
    have e1 := HO.out.at 1 _ rfl
    go_wp2_with fail
    refine (HRUN.out _ _ _ HC.out).mono ?_
    rintro e wr ⟨ra, rc, rfl, hn1', hbr⟩
    replace HB := Lib.hid (HB.out.trans (hbr.mono HB.out.size))
    replace HC := Lib.hid (HC.out.old hbr)
    replace HO := Lib.hid (HO.out.old hbr)
    clear hbr
    have HN := Lib.hid (RwOwn.nilv hn1' (of_decide_eq_true rfl) intCells_len)
    clear hn1' e0 e1 HRUN
    go_wp2_with fail
    refine (HS.out _ _ _ HN.out (RwAt.nil _ _ _)).mono ?_
    rintro e ws ⟨rfl, hbs⟩
    replace HB := Lib.hid (HB.out.trans (hbs.mono HB.out.size))
    replace HC := Lib.hid (HC.out.old hbs)
    replace HO := Lib.hid (HO.out.old hbs)
    replace HN := Lib.hid (HN.out.old hbs)
    clear hbs
    go_wp2_with fail
    go_ret
    exact ⟨rfl, HB.out⟩
theorem mo_13 (o a b : Int) (ho : I64 o) (ha : I64 a) (hb : I64 b) (hk : ipick o 15 = 12) (w : World) (hl : ILib w) :
    Calls Tryz.prog 10 #[.int .i64 o, .int .i64 a, .int .i64 b] w fun e w' => e = .returned (.bool true) ∧ Below w.heap.size w w' := by
  obtain ⟨hf, hr⟩ := op_13 a b ha hb
  have HAW := Lib.hid (jawake_any w hl)
  have HPK := Lib.hid (fun w => jpick_any o 15 ho (by decide) (by decide) w)
  rw [hk] at HPK
  have HOP := Lib.hid (fun w => one_18 a ha w)
  obtain ⟨z, hz⟩ : ∃ z, (flagZ (a == 0)) = z := ⟨_, rfl⟩
  rw [hz] at HOP hr
  clear hz
  have HRUN := Lib.hid (fun va vl w hc => run_tells (opC a b ⟨13, 10, 5, 0, 0, []⟩) hf.1.2 hf.2 [] (fun z hz => by cases hz) 9 (by decide) (by decide) 1 z 5 [] hr va vl _ w hc (inp_nil w))
  have HS := Lib.hid (fun v1 v2 w h1 h2 => jsame_eq 1 z 5 [] v1 v2 w h1 h2)
  obtain ⟨ha1, ha2⟩ := ha
  obtain ⟨hb1, hb2⟩ := hb
  clear hl hr hk hf
  go_enter Tryz.func10, Tryz.ntmps10
  go_wp2_with fail
  refine (HAW.out).mono ?_
  rintro e w1 ⟨rfl, hb1'⟩
  have HB := Lib.hid hb1'
  clear hb1' HAW
  go_wp2_with fail
  refine (HPK.out _).mono ?_
  rintro e w3 ⟨rfl, rfl⟩
  clear HPK
  go_upto_region 4 with (fail)
  have hlo : w.heap.size ≤ w1.heap.size := HB.out.size
  have hbX1 : Below w1.heap.size w1 (w1.alloc (.cells #[.int .i64 13, .int .i64 10, .int .i64 5, .int .i64 6, .int .i64 0, .string ⟨#[]⟩] 39)) := (Below.refl _ _).alloc (Nat.le_refl _) _
  have hoX := OwnAt.new w1 [.int .i64 13, .int .i64 10, .int .i64 5, .int .i64 6, .int .i64 0, .string ⟨#[]⟩] 39
  obtain ⟨WI, hWX⟩ : ∃ WI, w1.alloc (.cells #[.int .i64 13, .int .i64 10, .int .i64 5, .int .i64 6, .int .i64 0, .string ⟨#[]⟩] 39) = WI := ⟨_, rfl⟩
  rw [hWX] at hbX1 hoX ⊢
  replace HB := Lib.hid (HB.out.trans (hbX1.mono HB.out.size))
  have HX := Lib.hid hoX
  clear hbX1 hWX hoX
  have c0 := HX.out.at 0 _ rfl
  have c1 := HX.out.at 1 _ rfl
  have c2 := HX.out.at 2 _ rfl
  have c3 := HX.out.at 3 _ rfl
  have c4 := HX.out.at 4 _ rfl
  have c5 := HX.out.at 5 _ rfl
  have c3f := HX.out.fz 3
  have cl := HX.out.lt
  go_upto_region 6 with (fail)
  obtain ⟨WJ, hWJ⟩ : ∃ WJ, WI.setCell ⟨w1.heap.size, 3, none⟩ (.int .i64 0) = WJ := ⟨_, rfl⟩
  replace HB := Lib.hid (by have := zbelow_set HB.out hlo 3 (.int .i64 0); rw [hWJ] at this; exact this)
  replace HX : Hid (OwnAt WJ w1.heap.size [.int .i64 13, .int .i64 10, .int .i64 5, .int .i64 0, .int .i64 0, .string ⟨#[]⟩] 39) := Lib.hid (by rw [← hWJ]; exact HX.out.set 3 _)
  rw [hWJ]
  clear hWJ
  clear c0 c1 c2 c3 c4 c5 c3f cl hlo
  refine wp_cut (fun a' w' => RJO6 w1.heap.size a b 13 0 WJ _ _ _ _ _ _ _ _ _ _ _ _ _ _ _ _ _ _ _ _ _ _ _ _ _ _ _ _ _ _ _ _ _ _ _ _ _ _ _ _ _ _ _ _ _ _ _ _ _ _ _ _ _ _ _ _ _ _ _ _ _ _ _ _ _ _ _ _ _ _ _ a' w') ?rest (fun J K' hJ hM => then_any (reg_JO6 w1.heap.size a b 13 0 WJ HX _ _ _ _ _ _ _ _ _ _ _ _ _ _ _ _ _ _ _ _ _ _ _ _ _ _ _ _ _ _ _ _ _ _ _ _ _ _ _ _ _ _ _ _ _ _ _ _ _ _ _ _ _ _ _ _ _ _ _ _ _ _ _ _ _ _ _ _ _ _ _ _ _ _ _ _ _ _ _ _ _ _ _ _ _ _ J K' hJ hM))
  case rest =>
  rintro a' w' ⟨TL, TC, ⟨hfr, hol, hoc⟩, rfl⟩
  dsimp only
  obtain ⟨WC, hWC⟩ : ∃ WC, w' = WC := ⟨_, rfl⟩
  rw [hWC] at hfr hol hoc ⊢
  clear hWC w'
  replace HB := Lib.hid (HB.out.trans (hfr.mono HB.out.size))
  replace HX := Lib.hid (HX.out.old hfr)
  clear hfr
  have HC : Hid (CodeAt WC (opC a b ⟨13, 10, 5, 0, 0, []⟩) (.slice none 0 0) (.slice (some ⟨TL, 0, none⟩) 5 5)) := Lib.hid ⟨RwAt.nil _ _ _, lns_block (L := opL a b ⟨13, 10, 5, 0, 0, []⟩) hol (of_decide_eq_true rfl)⟩
  have HO := Lib.hid hoc
  clear hol hoc
  generalize opC a b ⟨13, 10, 5, 0, 0, []⟩ = C at *
  have c0 := HX.out.at 0 _ rfl
  have c1 := HX.out.at 1 _ rfl
  have c2 := HX.out.at 2 _ rfl
  have c3 := HX.out.at 3 _ rfl
  have c4 := HX.out.at 4 _ rfl
  have c5 := HX.out.at 5 _ rfl
  have cl := HX.out.lt
  have e0 := HO.out.at 0 _ rfl
  have e1 := HO.out.at 1 _ rfl
  go_wp2_with fail
  refine (HOP.out _).mono ?_
  rintro e w4 ⟨rfl, hb4⟩
  replace HB := Lib.hid (HB.out.trans (hb4.mono HB.out.size))
  replace HX := Lib.hid (HX.out.old hb4)
  replace HC := Lib.hid (HC.out.old hb4)
  replace HO := Lib.hid (HO.out.old hb4)
  clear hb4
  clear c0 c1 c2 c3 c4 c5 cl e0 e1 HX
  have e0 := HO.out.at 0 _ rfl
  have e1 := HO.out.at 1 _ rfl
  go_wp2_with fail
  refine (HRUN.out _ _ _ HC.out).mono ?_
  rintro e wr ⟨ra, rc, rfl, hn1', hbr⟩
  replace HB := Lib.hid (HB.out.trans (hbr.mono HB.out.size))
  replace HC := Lib.hid (HC.out.old hbr)
  replace HO := Lib.hid (HO.out.old hbr)
  clear hbr
  have HN := Lib.hid (RwOwn.nilv hn1' (of_decide_eq_true rfl) intCells_len)
  clear hn1' e0 e1 HRUN
  go_wp2_with fail
  refine (HS.out _ _ _ HN.out (RwAt.nil _ _ _)).mono ?_
  rintro e ws ⟨rfl, hbs⟩
  replace HB := Lib.hid (HB.out.trans (hbs.mono HB.out.size))
  replace HC := Lib.hid (HC.out.old hbs)
  replace HO := Lib.hid (HO.out.old hbs)
  replace HN := Lib.hid (HN.out.old hbs)
  clear hbs
  go_wp2_with fail
  go_ret
  exact ⟨rfl, HB.out⟩
theorem mo_14 (o a b : Int) (ho : I64 o) (ha : I64 a) (hb : I64 b) (hk : ipick o 15 = 13) (w : World) (hl : ILib w) :
    Calls Tryz.prog 10 #[.int .i64 o, .int .i64 a, .int .i64 b] w fun e w' => e = .returned (.bool true) ∧ Below w.heap.size w w' := by
  obtain ⟨hf, hr⟩ := op_14 a b ha hb
  have HAW := Lib.hid (jawake_any w hl)
  have HPK := Lib.hid (fun w => jpick_any o 15 ho (by decide) (by decide) w)
  rw [hk] at HPK
  have HOP := Lib.hid (fun w => two_16 a 0 ha ⟨by decide, by decide⟩ w)
  obtain ⟨z, hz⟩ : ∃ z, (flagZ (a != 0)) = z := ⟨_, rfl⟩
  rw [hz] at HOP hr
  clear hz
  have HRUN := Lib.hid (fun va vl w hc => run_tells (opC a b ⟨14, 10, 5, 0, 0, []⟩) hf.1.2 hf.2 [] (fun z hz => by cases hz) 9 (by decide) (by decide) 1 z 5 [] hr va vl _ w hc (inp_nil w))
  have HS := Lib.hid (fun v1 v2 w h1 h2 => jsame_eq 1 z 5 [] v1 v2 w h1 h2)
  obtain ⟨ha1, ha2⟩ := ha
  obtain ⟨hb1, hb2⟩ := hb
  clear hl hr hk hf
  go_enter Tryz.func10, Tryz.ntmps10
  go_wp2_with fail
  refine (HAW.out).mono ?_
  rintro e w1 ⟨rfl, hb1'⟩
  have HB := Lib.hid hb1'
  clear hb1' HAW
  go_wp2_with fail
  refine (HPK.out _).mono ?_
  rintro e w3 ⟨rfl, rfl⟩
  clear HPK
  go_upto_region 4 with (fail)
  have hlo : w.heap.size ≤ w1.heap.size := HB.out.size
  have hbX1 : Below w1.heap.size w1 (w1.alloc (.cells #[.int .i64 14, .int .i64 10, .int .i64 5, .int .i64 6, .int .i64 0, .string ⟨#[]⟩] 39)) := (Below.refl _ _).alloc (Nat.le_refl _) _
  have hoX := OwnAt.new w1 [.int .i64 14, .int .i64 10, .int .i64 5, .int .i64 6, .int .i64 0, .string ⟨#[]⟩] 39
  obtain ⟨WI, hWX⟩ : ∃ WI, w1.alloc (.cells #[.int .i64 14, .int .i64 10, .int .i64 5, .int .i64 6, .int .i64 0, .string ⟨#[]⟩] 39) = WI := ⟨_, rfl⟩
  rw [hWX] at hbX1 hoX ⊢
  replace HB := Lib.hid (HB.out.trans (hbX1.mono HB.out.size))
  have HX := Lib.hid hoX
  clear hbX1 hWX hoX
  have c0 := HX.out.at 0 _ rfl
  have c1 := HX.out.at 1 _ rfl
  have c2 := HX.out.at 2 _ rfl
  have c3 := HX.out.at 3 _ rfl
  have c4 := HX.out.at 4 _ rfl
  have c5 := HX.out.at 5 _ rfl
  have c3f := HX.out.fz 3
  have cl := HX.out.lt
  go_upto_region 6 with (fail)
  obtain ⟨WJ, hWJ⟩ : ∃ WJ, WI.setCell ⟨w1.heap.size, 3, none⟩ (.int .i64 0) = WJ := ⟨_, rfl⟩
  replace HB := Lib.hid (by have := zbelow_set HB.out hlo 3 (.int .i64 0); rw [hWJ] at this; exact this)
  replace HX : Hid (OwnAt WJ w1.heap.size [.int .i64 14, .int .i64 10, .int .i64 5, .int .i64 0, .int .i64 0, .string ⟨#[]⟩] 39) := Lib.hid (by rw [← hWJ]; exact HX.out.set 3 _)
  rw [hWJ]
  clear hWJ
  clear c0 c1 c2 c3 c4 c5 c3f cl hlo
  refine wp_cut (fun a' w' => RJO6 w1.heap.size a b 14 0 WJ _ _ _ _ _ _ _ _ _ _ _ _ _ _ _ _ _ _ _ _ _ _ _ _ _ _ _ _ _ _ _ _ _ _ _ _ _ _ _ _ _ _ _ _ _ _ _ _ _ _ _ _ _ _ _ _ _ _ _ _ _ _ _ _ _ _ _ _ _ _ _ a' w') ?rest (fun J K' hJ hM => then_any (reg_JO6 w1.heap.size a b 14 0 WJ HX _ _ _ _ _ _ _ _ _ _ _ _ _ _ _ _ _ _ _ _ _ _ _ _ _ _ _ _ _ _ _ _ _ _ _ _ _ _ _ _ _ _ _ _ _ _ _ _ _ _ _ _ _ _ _ _ _ _ _ _ _ _ _ _ _ _ _ _ _ _ _ _ _ _ _ _ _ _ _ _ _ _ _ _ _ _ J K' hJ hM))
  case rest =>
  rintro a' w' ⟨TL, TC, ⟨hfr, hol, hoc⟩, rfl⟩
  dsimp only
  obtain ⟨WC, hWC⟩ : ∃ WC, w' = WC := ⟨_, rfl⟩
  rw [hWC] at hfr hol hoc ⊢
  clear hWC w'
  replace HB := Lib.hid (HB.out.trans (hfr.mono HB.out.size))
  replace HX := Lib.hid (HX.out.old hfr)
  clear hfr
  have HC : Hid (CodeAt WC (opC a b ⟨14, 10, 5, 0, 0, []⟩) (.slice none 0 0) (.slice (some ⟨TL, 0, none⟩) 5 5)) := Lib.hid ⟨RwAt.nil _ _ _, lns_block (L := opL a b ⟨14, 10, 5, 0, 0, []⟩) hol (of_decide_eq_true rfl)⟩
  have HO := Lib.hid hoc
  clear hol hoc
  generalize opC a b ⟨14, 10, 5, 0, 0, []⟩ = C at *
  have c0 := HX.out.at 0 _ rfl
  have c1 := HX.out.at 1 _ rfl
  have c2 := HX.out.at 2 _ rfl
  have c3 := HX.out.at 3 _ rfl
  have c4 := HX.out.at 4 _ rfl
  have c5 := HX.out.at 5 _ rfl
  have cl := HX.out.lt
  have e0 := HO.out.at 0 _ rfl
  have e1 := HO.out.at 1 _ rfl
  go_wp2_with fail
  refine (HOP.out _).mono ?_
  rintro e w4 ⟨rfl, hb4⟩
  replace HB := Lib.hid (HB.out.trans (hb4.mono HB.out.size))
  replace HX := Lib.hid (HX.out.old hb4)
  replace HC := Lib.hid (HC.out.old hb4)
  replace HO := Lib.hid (HO.out.old hb4)
  clear hb4
  clear c0 c1 c2 c3 c4 c5 cl e0 e1 HX
  have e0 := HO.out.at 0 _ rfl
  have e1 := HO.out.at 1 _ rfl
  go_wp2_with fail
  refine (HRUN.out _ _ _ HC.out).mono ?_
  rintro e wr ⟨ra, rc, rfl, hn1', hbr⟩
  replace HB := Lib.hid (HB.out.trans (hbr.mono HB.out.size))
  replace HC := Lib.hid (HC.out.old hbr)
  replace HO := Lib.hid (HO.out.old hbr)
  clear hbr
  have HN := Lib.hid (RwOwn.nilv hn1' (of_decide_eq_true rfl) intCells_len)
  clear hn1' e0 e1 HRUN
  go_wp2_with fail
  refine (HS.out _ _ _ HN.out (RwAt.nil _ _ _)).mono ?_
  rintro e ws ⟨rfl, hbs⟩
  replace HB := Lib.hid (HB.out.trans (hbs.mono HB.out.size))
  replace HC := Lib.hid (HC.out.old hbs)
  replace HO := Lib.hid (HO.out.old hbs)
  replace HN := Lib.hid (HN.out.old hbs)
  clear hbs
  go_wp2_with fail
  go_ret
  exact ⟨rfl, HB.out⟩
theorem mo_15 (o a b : Int) (ho : I64 o) (ha : I64 a) (hb : I64 b) (hk : ipick o 15 = 14) (w : World) (hl : ILib w) :
    Calls Tryz.prog 10 #[.int .i64 o, .int .i64 a, .int .i64 b] w fun e w' => e = .returned (.bool true) ∧ Below w.heap.size w w' := by
  obtain ⟨hf, hr⟩ := op_15 a b ha hb
  have HAW := Lib.hid (jawake_any w hl)
  have HPK := Lib.hid (fun w => jpick_any o 15 ho (by decide) (by decide) w)
  rw [hk] at HPK
  have HRUN := Lib.hid (fun va vl w hc => run_tells (opC a b ⟨15, 10, 5, 0, 0, []⟩) hf.1.2 hf.2 [] (fun z hz => by cases hz) 9 (by decide) (by decide) 1 a 5 [] hr va vl _ w hc (inp_nil w))
  have HS := Lib.hid (fun v1 v2 w h1 h2 => jsame_eq 1 a 5 [] v1 v2 w h1 h2)
  obtain ⟨ha1, ha2⟩ := ha
  obtain ⟨hb1, hb2⟩ := hb
  clear hl hr hk hf
  go_enter Tryz.func10, Tryz.ntmps10
  go_wp2_with fail
  refine (HAW.out).mono ?_
  rintro e w1 ⟨rfl, hb1'⟩
  have HB := Lib.hid hb1'
  clear hb1' HAW
  go_wp2_with fail
  refine (HPK.out _).mono ?_
  rintro e w3 ⟨rfl, rfl⟩
  clear HPK
  go_upto_region 4 with (fail)
  have hlo : w.heap.size ≤ w1.heap.size := HB.out.size
  have hbX1 : Below w1.heap.size w1 (w1.alloc (.cells #[.int .i64 15, .int .i64 10, .int .i64 5, .int .i64 6, .int .i64 0, .string ⟨#[]⟩] 39)) := (Below.refl _ _).alloc (Nat.le_refl _) _
  have hoX := OwnAt.new w1 [.int .i64 15, .int .i64 10, .int .i64 5, .int .i64 6, .int .i64 0, .string ⟨#[]⟩] 39
  obtain ⟨WI, hWX⟩ : ∃ WI, w1.alloc (.cells #[.int .i64 15, .int .i64 10, .int .i64 5, .int .i64 6, .int .i64 0, .string ⟨#[]⟩] 39) = WI := ⟨_, rfl⟩
  rw [hWX] at hbX1 hoX ⊢
  replace HB := Lib.hid (HB.out.trans (hbX1.mono HB.out.size))
  have HX := Lib.hid hoX
  clear hbX1 hWX hoX
  have c0 := HX.out.at 0 _ rfl
  have c1 := HX.out.at 1 _ rfl
  have c2 := HX.out.at 2 _ rfl
  have c3 := HX.out.at 3 _ rfl
  have c4 := HX.out.at 4 _ rfl
  have c5 := HX.out.at 5 _ rfl
  have c3f := HX.out.fz 3
  have cl := HX.out.lt
  go_upto_region 6 with (fail)
  obtain ⟨WJ, hWJ⟩ : ∃ WJ, WI.setCell ⟨w1.heap.size, 3, none⟩ (.int .i64 0) = WJ := ⟨_, rfl⟩
  replace HB := Lib.hid (by have := zbelow_set HB.out hlo 3 (.int .i64 0); rw [hWJ] at this; exact this)
  replace HX : Hid (OwnAt WJ w1.heap.size [.int .i64 15, .int .i64 10, .int .i64 5, .int .i64 0, .int .i64 0, .string ⟨#[]⟩] 39) := Lib.hid (by rw [← hWJ]; exact HX.out.set 3 _)
  rw [hWJ]
  clear hWJ
  clear c0 c1 c2 c3 c4 c5 c3f cl hlo
  refine wp_cut (fun a' w' => RJO6 w1.heap.size a b 15 0 WJ _ _ _ _ _ _ _ _ _ _ _ _ _ _ _ _ _ _ _ _ _ _ _ _ _ _ _ _ _ _ _ _ _ _ _ _ _ _ _ _ _ _ _ _ _ _ _ _ _ _ _ _ _ _ _ _ _ _ _ _ _ _ _ _ _ _ _ _ _ _ _ a' w') ?rest (fun J K' hJ hM => then_any (reg_JO6 w1.heap.size a b 15 0 WJ HX _ _ _ _ _ _ _ _ _ _ _ _ _ _ _ _ _ _ _ _ _ _ _ _ _ _ _ _ _ _ _ _ _ _ _ _ _ _ _ _ _ _ _ _ _ _ _ _ _ _ _ _ _ _ _ _ _ _ _ _ _ _ _ _ _ _ _ _ _ _ _ _ _ _ _ _ _ _ _ _ _ _ _ _ _ _ J K' hJ hM))
  case rest =>
  rintro a' w' ⟨TL, TC, ⟨hfr, hol, hoc⟩, rfl⟩
  dsimp only
  obtain ⟨WC, hWC⟩ : ∃ WC, w' = WC := ⟨_, rfl⟩
  rw [hWC] at hfr hol hoc ⊢
  clear hWC w'
  replace HB := Lib.hid (HB.out.trans (hfr.mono HB.out.size))
  replace HX := Lib.hid (HX.out.old hfr)
  clear hfr
  have HC : Hid (CodeAt WC (opC a b ⟨15, 10, 5, 0, 0, []⟩) (.slice none 0 0) (.slice (some ⟨TL, 0, none⟩) 5 5)) := Lib.hid ⟨RwAt.nil _ _ _, lns_block (L := opL a b ⟨15, 10, 5, 0, 0, []⟩) hol (of_decide_eq_true rfl)⟩
  have HO := Lib.hid hoc
  clear hol hoc
  generalize opC a b ⟨15, 10, 5, 0, 0, []⟩ = C at *
  have c0 := HX.out.at 0 _ rfl
  have c1 := HX.out.at 1 _ rfl
  have c2 := HX.out.at 2 _ rfl
  have c3 := HX.out.at 3 _ rfl
  have c4 := HX.out.at 4 _ rfl
  have c5 := HX.out.at 5 _ rfl
  have cl := HX.out.lt
  have e0 := HO.out.at 0 _ rfl
  have e1 := HO.out.at 1 _ rfl
  go_wp2_with fail
  refine (HRUN.out _ _ _ HC.out).mono ?_
  rintro e wr ⟨ra, rc, rfl, hn1', hbr⟩
  replace HB := Lib.hid (HB.out.trans (hbr.mono HB.out.size))
  replace HX := Lib.hid (HX.out.old hbr)
  replace HC := Lib.hid (HC.out.old hbr)
  replace HO := Lib.hid (HO.out.old hbr)
  clear hbr
  have HN := Lib.hid (RwOwn.nilv hn1' (of_decide_eq_true rfl) intCells_len)
  clear hn1' e0 e1 HRUN
  go_wp2_with fail
  refine (HS.out _ _ _ HN.out (RwAt.nil _ _ _)).mono ?_
  rintro e ws ⟨rfl, hbs⟩
  replace HB := Lib.hid (HB.out.trans (hbs.mono HB.out.size))
  replace HX := Lib.hid (HX.out.old hbs)
  replace HC := Lib.hid (HC.out.old hbs)
  replace HO := Lib.hid (HO.out.old hbs)
  replace HN := Lib.hid (HN.out.old hbs)
  clear hbs
  go_wp2_with fail
  go_ret
  exact ⟨rfl, HB.out⟩
theorem mops_any (o a b : Int) (ho : I64 o) (ha : I64 a) (hb : I64 b) (w : World) (hl : ILib w) :
    Calls Tryz.prog 10 #[.int .i64 o, .int .i64 a, .int .i64 b] w fun e w' => e = .returned (.bool true) ∧ Below w.heap.size w w' := by
  have h15 : ipick o 15 = 0 ∨ ipick o 15 = 1 ∨ ipick o 15 = 2 ∨ ipick o 15 = 3 ∨ ipick o 15 = 4 ∨ ipick o 15 = 5 ∨ ipick o 15 = 6 ∨ ipick o 15 = 7 ∨ ipick o 15 = 8 ∨ ipick o 15 = 9 ∨ ipick o 15 = 10 ∨ ipick o 15 = 11 ∨ ipick o 15 = 12 ∨ ipick o 15 = 13 ∨ ipick o 15 = 14 := by
    have := ipick_range o 15 (by decide)
    omega
  rcases h15 with h | h | h | h | h | h | h | h | h | h | h | h | h | h | h
  · exact mo_1 o a b ho ha hb h w hl
  · exact mo_2 o a b ho ha hb h w hl
  · exact mo_3 o a b ho ha hb h w hl
  · exact mo_4 o a b ho ha hb h w hl
  · exact mo_5 o a b ho ha hb h w hl
  · exact mo_6 o a b ho ha hb h w hl
  · exact mo_7 o a b ho ha hb h w hl
  · exact mo_8 o a b ho ha hb h w hl
  · exact mo_9 o a b ho ha hb h w hl
  · exact mo_10 o a b ho ha hb h w hl
  · exact mo_11 o a b ho ha hb h w hl
  · exact mo_12 o a b ho ha hb h w hl
  · exact mo_13 o a b ho ha hb h w hl
  · exact mo_14 o a b ho ha hb h w hl
  · exact mo_15 o a b ho ha hb h w hl
end Go.Proofs.YtpgjfpphigeliaaGreatDoor
