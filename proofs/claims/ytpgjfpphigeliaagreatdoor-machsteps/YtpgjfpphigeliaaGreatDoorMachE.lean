/-
  Run: the machine is made, in whatever order. Condition: the code lies in memory.
  Run: where an array begins is noted, in whatever order. Condition: the machine lies in memory.
  The machine of code that may be: its registers, places and numbers are as they must be. Plain functions alone.
  Runs, plain: with more steps a run goes on as it did; what it has not read makes no difference. Plain functions alone.
  Run: runs code for so many steps. Conditions: the code may be, lies in memory, has numbers of 64 bits; what may be read lies in memory; the steps are at most a million.
-/
import Derived.Test.YtpgjfpphigeliaaGreatDoorMachD
import Derived.Carry
import Derived.Test.YtpgjfpphigeliaaGreatDoorMachA
import Derived.Test.YtpgjfpphigeliaaGreatDoorAsmE
import Derived.Test.YtpgjfpphigeliaaGreatDoorAsmI
import Derived.Test.YtpgjfpphigeliaaGreatDoorMachB
set_option linter.unusedVariables false
set_option linter.unusedSimpArgs false
namespace Go.Proofs.YtpgjfpphigeliaaGreatDoor
open Go.RowKit
set_option maxHeartbeats 8000000
set_option maxRecDepth 100000

structure VJR3 (T3 : Nat) (va vl : Value) (ia : Option Addr) (il ic : Nat) (ar : Int) (W : World) (L : Nat → Bool) (Bw : Nat) (Bs : Nat) (M : Nat) (z14 z15 z16 z17 z18 z19 z20 z21 z7 : Value) (wx : World) : Prop where
  p6_2 : L 6 = true → L 2 = true
  p6_3 : L 6 = true → L 3 = true
  p6_4 : L 6 = true → L 4 = true
  p7_2 : L 7 = true → L 2 = true
  p7_3 : L 7 = true → L 3 = true
  p7_4 : L 7 = true → L 4 = true
  p8_7 : L 8 = true → L 7 = true
  c0 : L 0 = true → z14 = .agg #[va, vl]
  c1 : L 1 = true → z15 = .agg #[va, vl]
  c2 : L 2 = true → z16 = .int .i64 ar
  c3 : L 3 = true → z17 = .map (some Bw)
  c4 : L 4 = true → z18 = .map (some Bs)
  c5 : L 5 = true → z19 = .slice ia il ic
  c6 : L 6 = true → z20 = .agg #[va, vl, .slice none 0 0, .slice none 0 0, .int .i64 0, .int .i64 0, .int .i64 0, .int .i64 0, .int .i64 0, .int .i64 0, .int .i64 0, .int .i64 0, .int .i64 0, .int .i64 0, .int .i64 0, .int .i64 0, .int .i64 0, .int .i64 0, .int .i64 0, .int .i64 0, .int .i64 0, .int .i64 0, .int .i64 0, .int .i64 0, .int .i64 0, .int .i64 0, .int .i64 0, .int .i64 0, .int .i64 0, .int .i64 0, .int .i64 0, .int .i64 0, .int .i64 0, .int .i64 0, .int .i64 0, .int .i64 0, .int .i64 ar, .map (some Bw), .map (some Bs), .slice ia il ic, .int .i64 0, .int .i64 0, .int .i64 0, .slice none 0 0, .int .i64 0]
  c7 : L 7 = true → z21 = .pointer (some ⟨M, 0, none⟩)
  c8 : L 8 = true → z7 = .pointer (some ⟨M, 0, none⟩)
  fr : Below W.heap.size W wx
  b3 : L 3 = true → ZMapIs wx Bw 0 (fun _ => none) ∧ W.heap.size ≤ Bw
  b4 : L 4 = true → MapIs wx Bs 0 (fun _ => none) ∧ W.heap.size ≤ Bs
  ne : L 3 = true → L 4 = true → Bw ≠ Bs
  b7 : L 7 = true → OwnAt wx M [va, vl, .slice none 0 0, .slice none 0 0, .int .i64 0, .int .i64 0, .int .i64 0, .int .i64 0, .int .i64 0, .int .i64 0, .int .i64 0, .int .i64 0, .int .i64 0, .int .i64 0, .int .i64 0, .int .i64 0, .int .i64 0, .int .i64 0, .int .i64 0, .int .i64 0, .int .i64 0, .int .i64 0, .int .i64 0, .int .i64 0, .int .i64 0, .int .i64 0, .int .i64 0, .int .i64 0, .int .i64 0, .int .i64 0, .int .i64 0, .int .i64 0, .int .i64 0, .int .i64 0, .int .i64 0, .int .i64 0, .int .i64 ar, .map (some Bw), .map (some Bs), .slice ia il ic, .int .i64 0, .int .i64 0, .int .i64 0, .slice none 0 0, .int .i64 0] 67 ∧ (W.heap.size ≤ M ∧ Bw < M ∧ Bs < M)
def IJR3 (T3 : Nat) (va vl : Value) (ia : Option Addr) (il ic : Nat) (ar : Int) (W : World) (q0 q2 q4 q5 q6 q8 q9 q10 q11 q12 q13 q22 q23 q24 q25 q26 q27 q28 q29 q30 q31 q32 q33 q34 q35 q36 q37 q38 q39 q40 q41 q42 q43 q44 q45 q46 q47 q48 q49 q50 q51 q52 q53 q54 q55 q56 q57 q58 q59 q60 q61 q62 q63 q64 q65 q66 q67 q68 q69 q70 q71 q72 q73 q74 q75 q76 q77 q78 q79 q80 q81 q82 q83 q84 q85 q86 q87 q88 q89 q90 q91 q92 q93 q94 q95 q96 q97 q98 q99 q100 q101 q102 q103 q104 : Value) (L : Nat → Bool) (a' : Act) (w' : World) : Prop :=
  ∃ Bw : Nat, ∃ Bs : Nat, ∃ M : Nat, ∃ z14 z15 z16 z17 z18 z19 z20 z21 z7 : Value, VJR3 T3 va vl ia il ic ar W L Bw Bs M z14 z15 z16 z17 z18 z19 z20 z21 z7 w' ∧ a' = ⟨[q0, .slice ia il ic, q2, .pointer (some ⟨T3, 0, none⟩), q4, q5, q6, z7, q8, q9, q10, q11, q12, q13, z14, z15, z16, z17, z18, z19, z20, z21, q22, q23, q24, q25, q26, q27, q28, q29, q30, q31, q32, q33, q34, q35, q36, q37, q38, q39, q40, q41, q42, q43, q44, q45, q46, q47, q48, q49, q50, q51, q52, q53, q54, q55, q56, q57, q58, q59, q60, q61, q62, q63, q64, q65, q66, q67, q68, q69, q70, q71, q72, q73, q74, q75, q76, q77, q78, q79, q80, q81, q82, q83, q84, q85, q86, q87, q88, q89, q90, q91, q92, q93, q94, q95, q96, q97, q98, q99, q100, q101, q102, q103, q104].toArray, []⟩
def RJR3 (T3 : Nat) (va vl : Value) (ia : Option Addr) (il ic : Nat) (ar : Int) (W : World) (q0 q2 q4 q5 q6 q8 q9 q10 q11 q12 q13 q22 q23 q24 q25 q26 q27 q28 q29 q30 q31 q32 q33 q34 q35 q36 q37 q38 q39 q40 q41 q42 q43 q44 q45 q46 q47 q48 q49 q50 q51 q52 q53 q54 q55 q56 q57 q58 q59 q60 q61 q62 q63 q64 q65 q66 q67 q68 q69 q70 q71 q72 q73 q74 q75 q76 q77 q78 q79 q80 q81 q82 q83 q84 q85 q86 q87 q88 q89 q90 q91 q92 q93 q94 q95 q96 q97 q98 q99 q100 q101 q102 q103 q104 : Value) (a' : Act) (w' : World) : Prop :=
  ∃ Bw : Nat, ∃ Bs : Nat, ∃ M : Nat, ((Below W.heap.size W w') ∧ (ZMapIs w' Bw 0 (fun _ => none) ∧ W.heap.size ≤ Bw) ∧ (MapIs w' Bs 0 (fun _ => none) ∧ W.heap.size ≤ Bs) ∧ (Bw ≠ Bs) ∧ (OwnAt w' M [va, vl, .slice none 0 0, .slice none 0 0, .int .i64 0, .int .i64 0, .int .i64 0, .int .i64 0, .int .i64 0, .int .i64 0, .int .i64 0, .int .i64 0, .int .i64 0, .int .i64 0, .int .i64 0, .int .i64 0, .int .i64 0, .int .i64 0, .int .i64 0, .int .i64 0, .int .i64 0, .int .i64 0, .int .i64 0, .int .i64 0, .int .i64 0, .int .i64 0, .int .i64 0, .int .i64 0, .int .i64 0, .int .i64 0, .int .i64 0, .int .i64 0, .int .i64 0, .int .i64 0, .int .i64 0, .int .i64 0, .int .i64 ar, .map (some Bw), .map (some Bs), .slice ia il ic, .int .i64 0, .int .i64 0, .int .i64 0, .slice none 0 0, .int .i64 0] 67 ∧ (W.heap.size ≤ M ∧ Bw < M ∧ Bs < M))) ∧ a' = ⟨[q0, .slice ia il ic, q2, .pointer (some ⟨T3, 0, none⟩), q4, q5, q6, .pointer (some ⟨M, 0, none⟩), q8, q9, q10, q11, q12, q13, .agg #[va, vl], .agg #[va, vl], .int .i64 ar, .map (some Bw), .map (some Bs), .slice ia il ic, .agg #[va, vl, .slice none 0 0, .slice none 0 0, .int .i64 0, .int .i64 0, .int .i64 0, .int .i64 0, .int .i64 0, .int .i64 0, .int .i64 0, .int .i64 0, .int .i64 0, .int .i64 0, .int .i64 0, .int .i64 0, .int .i64 0, .int .i64 0, .int .i64 0, .int .i64 0, .int .i64 0, .int .i64 0, .int .i64 0, .int .i64 0, .int .i64 0, .int .i64 0, .int .i64 0, .int .i64 0, .int .i64 0, .int .i64 0, .int .i64 0, .int .i64 0, .int .i64 0, .int .i64 0, .int .i64 0, .int .i64 0, .int .i64 ar, .map (some Bw), .map (some Bs), .slice ia il ic, .int .i64 0, .int .i64 0, .int .i64 0, .slice none 0 0, .int .i64 0], .pointer (some ⟨M, 0, none⟩), q22, q23, q24, q25, q26, q27, q28, q29, q30, q31, q32, q33, q34, q35, q36, q37, q38, q39, q40, q41, q42, q43, q44, q45, q46, q47, q48, q49, q50, q51, q52, q53, q54, q55, q56, q57, q58, q59, q60, q61, q62, q63, q64, q65, q66, q67, q68, q69, q70, q71, q72, q73, q74, q75, q76, q77, q78, q79, q80, q81, q82, q83, q84, q85, q86, q87, q88, q89, q90, q91, q92, q93, q94, q95, q96, q97, q98, q99, q100, q101, q102, q103, q104].toArray, []⟩
theorem reg_JR3 (T3 : Nat) (va vl : Value) (ia : Option Addr) (il ic : Nat) (ar : Int) (W : World) (HX : Hid (OwnAt W T3 [va, vl] 27)) (HSZ : Hid (∀ w, Below W.heap.size W w → Calls Tryz.prog 28 #[.agg #[va, vl]] w fun e w' => e = .returned (.int .i64 ar) ∧ Below w.heap.size w w')) (q0 q2 q4 q5 q6 q7 q8 q9 q10 q11 q12 q13 q14 q15 q16 q17 q18 q19 q20 q21 q22 q23 q24 q25 q26 q27 q28 q29 q30 q31 q32 q33 q34 q35 q36 q37 q38 q39 q40 q41 q42 q43 q44 q45 q46 q47 q48 q49 q50 q51 q52 q53 q54 q55 q56 q57 q58 q59 q60 q61 q62 q63 q64 q65 q66 q67 q68 q69 q70 q71 q72 q73 q74 q75 q76 q77 q78 q79 q80 q81 q82 q83 q84 q85 q86 q87 q88 q89 q90 q91 q92 q93 q94 q95 q96 q97 q98 q99 q100 q101 q102 q103 q104 : Value) (J K' : Act → World → Prop) (hJ : ∀ a' w', RJR3 T3 va vl ia il ic ar W q0 q2 q4 q5 q6 q8 q9 q10 q11 q12 q13 q22 q23 q24 q25 q26 q27 q28 q29 q30 q31 q32 q33 q34 q35 q36 q37 q38 q39 q40 q41 q42 q43 q44 q45 q46 q47 q48 q49 q50 q51 q52 q53 q54 q55 q56 q57 q58 q59 q60 q61 q62 q63 q64 q65 q66 q67 q68 q69 q70 q71 q72 q73 q74 q75 q76 q77 q78 q79 q80 q81 q82 q83 q84 q85 q86 q87 q88 q89 q90 q91 q92 q93 q94 q95 q96 q97 q98 q99 q100 q101 q102 q103 q104 a' w' → J a' w') (hM : ∀ a' w', Met J a' w' → K' a' w') :
    Code.wp Tryz.prog ((Tryz.f14.body.bind (regOf 3)).getD .skip) (Exit.then K' (fun _ _ _ => False)) ⟨[q0, .slice ia il ic, q2, .pointer (some ⟨T3, 0, none⟩), q4, q5, q6, q7, q8, q9, q10, q11, q12, q13, q14, q15, q16, q17, q18, q19, q20, q21, q22, q23, q24, q25, q26, q27, q28, q29, q30, q31, q32, q33, q34, q35, q36, q37, q38, q39, q40, q41, q42, q43, q44, q45, q46, q47, q48, q49, q50, q51, q52, q53, q54, q55, q56, q57, q58, q59, q60, q61, q62, q63, q64, q65, q66, q67, q68, q69, q70, q71, q72, q73, q74, q75, q76, q77, q78, q79, q80, q81, q82, q83, q84, q85, q86, q87, q88, q89, q90, q91, q92, q93, q94, q95, q96, q97, q98, q99, q100, q101, q102, q103, q104].toArray, []⟩ W := by
  conv => arg 2; whnf
  dsimp only
  refine region_by (by kernel_rfl) (by kernel_rfl) (IJR3 T3 va vl ia il ic ar W q0 q2 q4 q5 q6 q8 q9 q10 q11 q12 q13 q22 q23 q24 q25 q26 q27 q28 q29 q30 q31 q32 q33 q34 q35 q36 q37 q38 q39 q40 q41 q42 q43 q44 q45 q46 q47 q48 q49 q50 q51 q52 q53 q54 q55 q56 q57 q58 q59 q60 q61 q62 q63 q64 q65 q66 q67 q68 q69 q70 q71 q72 q73 q74 q75 q76 q77 q78 q79 q80 q81 q82 q83 q84 q85 q86 q87 q88 q89 q90 q91 q92 q93 q94 q95 q96 q97 q98 q99 q100 q101 q102 q103 q104) ?_ ?_ ?_
  · exact ⟨0, 0, 0, q14, q15, q16, q17, q18, q19, q20, q21, q7, ⟨(fun h => by cases h), (fun h => by cases h), (fun h => by cases h), (fun h => by cases h), (fun h => by cases h), (fun h => by cases h), (fun h => by cases h), (fun h => by cases h), (fun h => by cases h), (fun h => by cases h), (fun h => by cases h), (fun h => by cases h), (fun h => by cases h), (fun h => by cases h), (fun h => by cases h), (fun h => by cases h), ((Below.refl _ _).drew), (fun h => by cases h), (fun h => by cases h), (fun h => fun _ => by cases h), (fun h => by cases h)⟩, rfl⟩
  · intro L act wx k hI hk hl hd
    obtain ⟨Bw, Bs, M, z14, z15, z16, z17, z18, z19, z20, z21, z7, hV, rfl⟩ := hI
    have hk : k = 0 ∨ k = 1 ∨ k = 2 ∨ k = 3 ∨ k = 4 ∨ k = 5 ∨ k = 6 ∨ k = 7 ∨ k = 8 := by
      have : k < 9 := hk
      omega
    rcases hk with rfl | rfl | rfl | rfl | rfl | rfl | rfl | rfl | rfl
    · have ho := HX.out.old hV.fr
      have x0 := ho.at 0 _ rfl
      have x1 := ho.at 1 _ rfl
      have hxl := ho.lt
      refine op_at _ rfl rfl (fun K' hK => ?_)
      conv => arg 2; whnf
      go_wp2_with fail
      exact ⟨Bw, Bs, M, .agg #[va, vl], z15, z16, z17, z18, z19, z20, z21, z7, ⟨(kq hV.p6_2), (kq hV.p6_3), (kq hV.p6_4), (kq hV.p7_2), (kq hV.p7_3), (kq hV.p7_4), (kq hV.p8_7), (fun _ => rfl), (kc hV.c1), (kc hV.c2), (kc hV.c3), (kc hV.c4), (kc hV.c5), (kc hV.c6), (kc hV.c7), (kc hV.c8), hV.fr, (kc hV.b3), (kc hV.b4), (fun h0 => fun h1 => hV.ne (kb h0) (kb h1)), (kc hV.b7)⟩, rfl⟩
    · have ho := HX.out.old hV.fr
      have x0 := ho.at 0 _ rfl
      have x1 := ho.at 1 _ rfl
      have hxl := ho.lt
      refine op_at _ rfl rfl (fun K' hK => ?_)
      conv => arg 2; whnf
      go_wp2_with fail
      exact ⟨Bw, Bs, M, z14, .agg #[va, vl], z16, z17, z18, z19, z20, z21, z7, ⟨(kq hV.p6_2), (kq hV.p6_3), (kq hV.p6_4), (kq hV.p7_2), (kq hV.p7_3), (kq hV.p7_4), (kq hV.p8_7), (kc hV.c0), (fun _ => rfl), (kc hV.c2), (kc hV.c3), (kc hV.c4), (kc hV.c5), (kc hV.c6), (kc hV.c7), (kc hV.c8), hV.fr, (kc hV.b3), (kc hV.b4), (fun h0 => fun h1 => hV.ne (kb h0) (kb h1)), (kc hV.b7)⟩, rfl⟩
    · have d1 : L 1 = true := hd _ rfl ⟨1, .data⟩ (by simp) rfl
      obtain rfl := (hV.c1 d1).symm
      refine op_at _ rfl rfl (fun K' hK => ?_)
      conv => arg 2; whnf
      go_wp2_with fail
      refine (HSZ.out _ hV.fr).mono ?_
      rintro e w7 ⟨rfl, hal⟩
      go_wp2_with fail
      exact ⟨Bw, Bs, M, z14, .agg #[va, vl], .int .i64 ar, z17, z18, z19, z20, z21, z7, ⟨(fun _ => upd_same L 2), (kq hV.p6_3), (kq hV.p6_4), (fun _ => upd_same L 2), (kq hV.p7_3), (kq hV.p7_4), (kq hV.p8_7), (kc hV.c0), (kc hV.c1), (fun _ => rfl), (kc hV.c3), (kc hV.c4), (kc hV.c5), (kc hV.c6), (kc hV.c7), (kc hV.c8), (Below.trans (hV.fr) (Below.mono hal (Below.size (hV.fr)))), (fun h0 => ⟨ZMapIs.old (And.left (hV.b3 (kb h0))) hal, And.right (hV.b3 (kb h0))⟩), (fun h0 => ⟨MapIs.old (And.left (hV.b4 (kb h0))) hal, And.right (hV.b4 (kb h0))⟩), (fun h0 => fun h1 => (hV.ne (kb h0) (kb h1))), (kn hV.p7_2 hl)⟩, rfl⟩
    · have hal : Below wx.heap.size wx (wx.alloc (.map #[] 0)) := (Below.refl _ _).alloc (Nat.le_refl _) _
      have hfs := hV.fr.size
      have hmm := @run_makeMap Tryz.prog
      refine op_at _ rfl rfl (fun K' hK => ?_)
      conv => arg 2; whnf
      go_wp2_with fail
      exact ⟨wx.heap.size, Bs, M, z14, z15, z16, .map (some (wx.heap.size)), z18, z19, z20, z21, z7, ⟨(kq hV.p6_2), (fun _ => upd_same L 3), (kq hV.p6_4), (kq hV.p7_2), (fun _ => upd_same L 3), (kq hV.p7_4), (kq hV.p8_7), (kc hV.c0), (kc hV.c1), (kc hV.c2), (fun _ => rfl), (kc hV.c4), (kc hV.c5), (kn hV.p6_3 hl), (kc hV.c7), (kc hV.c8), (Below.trans (hV.fr) (Below.mono hal (Below.size (hV.fr)))), (fun _ => ⟨ZMapIs.made wx, hfs⟩), (fun h0 => ⟨MapIs.old (And.left (hV.b4 (kb h0))) hal, And.right (hV.b4 (kb h0))⟩), (fun _ h4 => by have := (hV.b4 (kb h4)).1.lt; omega), (kn hV.p7_3 hl)⟩, rfl⟩
    · have hal : Below wx.heap.size wx (wx.alloc (.map #[] 0)) := (Below.refl _ _).alloc (Nat.le_refl _) _
      have hfs := hV.fr.size
      have hmm := @run_makeMap Tryz.prog
      refine op_at _ rfl rfl (fun K' hK => ?_)
      conv => arg 2; whnf
      go_wp2_with fail
      exact ⟨Bw, wx.heap.size, M, z14, z15, z16, z17, .map (some (wx.heap.size)), z19, z20, z21, z7, ⟨(kq hV.p6_2), (kq hV.p6_3), (fun _ => upd_same L 4), (kq hV.p7_2), (kq hV.p7_3), (fun _ => upd_same L 4), (kq hV.p8_7), (kc hV.c0), (kc hV.c1), (kc hV.c2), (kc hV.c3), (fun _ => rfl), (kc hV.c5), (kn hV.p6_4 hl), (kc hV.c7), (kc hV.c8), (Below.trans (hV.fr) (Below.mono hal (Below.size (hV.fr)))), (fun h0 => ⟨ZMapIs.old (And.left (hV.b3 (kb h0))) hal, And.right (hV.b3 (kb h0))⟩), (fun _ => ⟨MapIs.made wx, hfs⟩), (fun h3 _ => by have := (hV.b3 (kb h3)).1.lt; omega), (kn hV.p7_4 hl)⟩, rfl⟩
    · refine op_at _ rfl rfl (fun K' hK => ?_)
      conv => arg 2; whnf
      go_wp2_with fail
      exact ⟨Bw, Bs, M, z14, z15, z16, z17, z18, .slice ia il ic, z20, z21, z7, ⟨(kq hV.p6_2), (kq hV.p6_3), (kq hV.p6_4), (kq hV.p7_2), (kq hV.p7_3), (kq hV.p7_4), (kq hV.p8_7), (kc hV.c0), (kc hV.c1), (kc hV.c2), (kc hV.c3), (kc hV.c4), (fun _ => rfl), (kc hV.c6), (kc hV.c7), (kc hV.c8), hV.fr, (kc hV.b3), (kc hV.b4), (fun h0 => fun h1 => hV.ne (kb h0) (kb h1)), (kc hV.b7)⟩, rfl⟩
    · have d0 : L 0 = true := hd _ rfl ⟨0, .data⟩ (by simp) rfl
      obtain rfl := (hV.c0 d0).symm
      have d2 : L 2 = true := hd _ rfl ⟨2, .data⟩ (by simp) rfl
      obtain rfl := (hV.c2 d2).symm
      have d3 : L 3 = true := hd _ rfl ⟨3, .data⟩ (by simp) rfl
      obtain rfl := (hV.c3 d3).symm
      have d4 : L 4 = true := hd _ rfl ⟨4, .data⟩ (by simp) rfl
      obtain rfl := (hV.c4 d4).symm
      have d5 : L 5 = true := hd _ rfl ⟨5, .data⟩ (by simp) rfl
      obtain rfl := (hV.c5 d5).symm
      refine op_at _ rfl rfl (fun K' hK => ?_)
      conv => arg 2; whnf
      go_wp2_with fail
      exact ⟨Bw, Bs, M, .agg #[va, vl], z15, .int .i64 ar, .map (some Bw), .map (some Bs), .slice ia il ic, .agg #[va, vl, .slice none 0 0, .slice none 0 0, .int .i64 0, .int .i64 0, .int .i64 0, .int .i64 0, .int .i64 0, .int .i64 0, .int .i64 0, .int .i64 0, .int .i64 0, .int .i64 0, .int .i64 0, .int .i64 0, .int .i64 0, .int .i64 0, .int .i64 0, .int .i64 0, .int .i64 0, .int .i64 0, .int .i64 0, .int .i64 0, .int .i64 0, .int .i64 0, .int .i64 0, .int .i64 0, .int .i64 0, .int .i64 0, .int .i64 0, .int .i64 0, .int .i64 0, .int .i64 0, .int .i64 0, .int .i64 0, .int .i64 ar, .map (some Bw), .map (some Bs), .slice ia il ic, .int .i64 0, .int .i64 0, .int .i64 0, .slice none 0 0, .int .i64 0], z21, z7, ⟨(kd (d2)), (kd (d3)), (kd (d4)), (kq hV.p7_2), (kq hV.p7_3), (kq hV.p7_4), (kq hV.p8_7), (kc hV.c0), (kc hV.c1), (kc hV.c2), (kc hV.c3), (kc hV.c4), (kc hV.c5), (fun _ => rfl), (kc hV.c7), (kc hV.c8), hV.fr, (kc hV.b3), (kc hV.b4), (fun h0 => fun h1 => hV.ne (kb h0) (kb h1)), (kc hV.b7)⟩, rfl⟩
    · have d6 : L 6 = true := hd _ rfl ⟨6, .data⟩ (by simp) rfl
      obtain rfl := (hV.c6 d6).symm
      have hal : Below wx.heap.size wx (wx.alloc (.cells #[va, vl, .slice none 0 0, .slice none 0 0, .int .i64 0, .int .i64 0, .int .i64 0, .int .i64 0, .int .i64 0, .int .i64 0, .int .i64 0, .int .i64 0, .int .i64 0, .int .i64 0, .int .i64 0, .int .i64 0, .int .i64 0, .int .i64 0, .int .i64 0, .int .i64 0, .int .i64 0, .int .i64 0, .int .i64 0, .int .i64 0, .int .i64 0, .int .i64 0, .int .i64 0, .int .i64 0, .int .i64 0, .int .i64 0, .int .i64 0, .int .i64 0, .int .i64 0, .int .i64 0, .int .i64 0, .int .i64 0, .int .i64 ar, .map (some Bw), .map (some Bs), .slice ia il ic, .int .i64 0, .int .i64 0, .int .i64 0, .slice none 0 0, .int .i64 0] 67)) := (Below.refl _ _).alloc (Nat.le_refl _) _
      have hfs := hV.fr.size
      have g3 := (hV.b3 (hV.p6_3 d6)).1.lt
      have g4 := (hV.b4 (hV.p6_4 d6)).1.lt
      refine op_at _ rfl rfl (fun K' hK => ?_)
      conv => arg 2; whnf
      go_wp2_with fail
      exact ⟨Bw, Bs, wx.heap.size, z14, z15, z16, z17, z18, z19, .agg #[va, vl, .slice none 0 0, .slice none 0 0, .int .i64 0, .int .i64 0, .int .i64 0, .int .i64 0, .int .i64 0, .int .i64 0, .int .i64 0, .int .i64 0, .int .i64 0, .int .i64 0, .int .i64 0, .int .i64 0, .int .i64 0, .int .i64 0, .int .i64 0, .int .i64 0, .int .i64 0, .int .i64 0, .int .i64 0, .int .i64 0, .int .i64 0, .int .i64 0, .int .i64 0, .int .i64 0, .int .i64 0, .int .i64 0, .int .i64 0, .int .i64 0, .int .i64 0, .int .i64 0, .int .i64 0, .int .i64 0, .int .i64 ar, .map (some Bw), .map (some Bs), .slice ia il ic, .int .i64 0, .int .i64 0, .int .i64 0, .slice none 0 0, .int .i64 0], .pointer (some ⟨(wx.heap.size), 0, none⟩), z7, ⟨(kq hV.p6_2), (kq hV.p6_3), (kq hV.p6_4), (kd (hV.p6_2 d6)), (kd (hV.p6_3 d6)), (kd (hV.p6_4 d6)), (fun _ => upd_same L 7), (kc hV.c0), (kc hV.c1), (kc hV.c2), (kc hV.c3), (kc hV.c4), (kc hV.c5), (kc hV.c6), (fun _ => rfl), (kn hV.p8_7 hl), (Below.trans (hV.fr) (Below.mono hal (Below.size (hV.fr)))), (fun h0 => ⟨ZMapIs.old (And.left (hV.b3 (kb h0))) hal, And.right (hV.b3 (kb h0))⟩), (fun h0 => ⟨MapIs.old (And.left (hV.b4 (kb h0))) hal, And.right (hV.b4 (kb h0))⟩), (fun h0 => fun h1 => (hV.ne (kb h0) (kb h1))), (fun _ => ⟨OwnAt.new wx [va, vl, .slice none 0 0, .slice none 0 0, .int .i64 0, .int .i64 0, .int .i64 0, .int .i64 0, .int .i64 0, .int .i64 0, .int .i64 0, .int .i64 0, .int .i64 0, .int .i64 0, .int .i64 0, .int .i64 0, .int .i64 0, .int .i64 0, .int .i64 0, .int .i64 0, .int .i64 0, .int .i64 0, .int .i64 0, .int .i64 0, .int .i64 0, .int .i64 0, .int .i64 0, .int .i64 0, .int .i64 0, .int .i64 0, .int .i64 0, .int .i64 0, .int .i64 0, .int .i64 0, .int .i64 0, .int .i64 0, .int .i64 ar, .map (some Bw), .map (some Bs), .slice ia il ic, .int .i64 0, .int .i64 0, .int .i64 0, .slice none 0 0, .int .i64 0] 67, hfs, g3, g4⟩)⟩, rfl⟩
    · have d2 : L 2 = true := hd _ rfl ⟨2, .chain⟩ (by simp) rfl
      have d7 : L 7 = true := hd _ rfl ⟨7, .data⟩ (by simp) rfl
      obtain rfl := (hV.c7 d7).symm
      refine op_at _ rfl rfl (fun K' hK => ?_)
      conv => arg 2; whnf
      go_wp2_with fail
      exact ⟨Bw, Bs, M, z14, z15, z16, z17, z18, z19, z20, .pointer (some ⟨M, 0, none⟩), .pointer (some ⟨M, 0, none⟩), ⟨(kq hV.p6_2), (kq hV.p6_3), (kq hV.p6_4), (kq hV.p7_2), (kq hV.p7_3), (kq hV.p7_4), (kd (d7)), (kc hV.c0), (kc hV.c1), (kc hV.c2), (kc hV.c3), (kc hV.c4), (kc hV.c5), (kc hV.c6), (kc hV.c7), (fun _ => rfl), hV.fr, (kc hV.b3), (kc hV.b4), (fun h0 => fun h1 => hV.ne (kb h0) (kb h1)), (kc hV.b7)⟩, rfl⟩
  · intro L act wx hI hall
    obtain ⟨Bw, Bs, M, z14, z15, z16, z17, z18, z19, z20, z21, z7, hV, rfl⟩ := hI
    obtain rfl := (hV.c0 (hall 0 (by decide))).symm
    obtain rfl := (hV.c1 (hall 1 (by decide))).symm
    obtain rfl := (hV.c2 (hall 2 (by decide))).symm
    obtain rfl := (hV.c3 (hall 3 (by decide))).symm
    obtain rfl := (hV.c4 (hall 4 (by decide))).symm
    obtain rfl := (hV.c5 (hall 5 (by decide))).symm
    obtain rfl := (hV.c6 (hall 6 (by decide))).symm
    obtain rfl := (hV.c7 (hall 7 (by decide))).symm
    obtain rfl := (hV.c8 (hall 8 (by decide))).symm
    exact hM _ _ (Met.intro (hJ _ _ ⟨Bw, Bs, M, ⟨hV.fr, hV.b3 (hall 3 (by decide)), hV.b4 (hall 4 (by decide)), hV.ne (hall 3 (by decide)) (hall 4 (by decide)), hV.b7 (hall 7 (by decide))⟩, rfl⟩))
end Go.Proofs.YtpgjfpphigeliaaGreatDoor

namespace Go.Proofs.YtpgjfpphigeliaaGreatDoor
open Go.RowKit
set_option maxHeartbeats 8000000
set_option maxRecDepth 100000

structure VJR9 (T3 M A9 B n : Nat) (va vl : Value) (nm : List UInt8) (ad : Int) (f : List UInt8 → Option Int) (W : World) (L : Nat → Bool) (z44 z45 z46 z47 z48 z49 z50 z51 z52 z53 : Value) (wx : World) : Prop where
  ord : L 10 = true → ∀ j, j < 10 → L j = true
  c0 : L 0 = true → z44 = .pointer (some ⟨M, 0, none⟩)
  c1 : L 1 = true → z45 = .pointer (some ⟨M, 0, none⟩)
  c2 : L 2 = true → z46 = .pointer (some ⟨M, 38, none⟩)
  c3 : L 3 = true → z47 = .map (some B)
  c4 : L 4 = true → z48 = .pointer (some ⟨A9, 0, none⟩)
  c5 : L 5 = true → z49 = .string (strOf nm)
  c6 : L 6 = true → z50 = .agg #[va, vl]
  c7 : L 7 = true → z51 = .pointer (some ⟨A9, 0, none⟩)
  c8 : L 8 = true → z52 = .string (strOf nm)
  c9 : L 9 = true → z53 = .int .i64 ad
  fr : L 10 = false → Below W.heap.size W wx
  up : L 10 = true → MapIs wx B (n + 1) (putF f nm ad) ∧ ∃ w0, Below W.heap.size W w0 ∧ w0.grownBy wx (some B)
def IJR9 (T3 M A9 B n : Nat) (va vl : Value) (nm : List UInt8) (ad : Int) (f : List UInt8 → Option Int) (W : World) (q0 q1 q2 q4 q5 q6 q8 q10 q11 q12 q13 q14 q15 q16 q17 q18 q19 q20 q21 q22 q23 q24 q25 q26 q27 q28 q29 q30 q31 q32 q33 q34 q35 q36 q37 q38 q39 q40 q41 q42 q43 q54 q55 q56 q57 q58 q59 q60 q61 q62 q63 q64 q65 q66 q67 q68 q69 q70 q71 q72 q73 q74 q75 q76 q77 q78 q79 q80 q81 q82 q83 q84 q85 q86 q87 q88 q89 q90 q91 q92 q93 q94 q95 q96 q97 q98 q99 q100 q101 q102 q103 q104 : Value) (L : Nat → Bool) (a' : Act) (w' : World) : Prop :=
  ∃ z44 z45 z46 z47 z48 z49 z50 z51 z52 z53 : Value, VJR9 T3 M A9 B n va vl nm ad f W L z44 z45 z46 z47 z48 z49 z50 z51 z52 z53 w' ∧ a' = ⟨[q0, q1, q2, .pointer (some ⟨T3, 0, none⟩), q4, q5, q6, .pointer (some ⟨M, 0, none⟩), q8, .pointer (some ⟨A9, 0, none⟩), q10, q11, q12, q13, q14, q15, q16, q17, q18, q19, q20, q21, q22, q23, q24, q25, q26, q27, q28, q29, q30, q31, q32, q33, q34, q35, q36, q37, q38, q39, q40, q41, q42, q43, z44, z45, z46, z47, z48, z49, z50, z51, z52, z53, q54, q55, q56, q57, q58, q59, q60, q61, q62, q63, q64, q65, q66, q67, q68, q69, q70, q71, q72, q73, q74, q75, q76, q77, q78, q79, q80, q81, q82, q83, q84, q85, q86, q87, q88, q89, q90, q91, q92, q93, q94, q95, q96, q97, q98, q99, q100, q101, q102, q103, q104].toArray, []⟩
def RJR9 (T3 M A9 B n : Nat) (va vl : Value) (nm : List UInt8) (ad : Int) (f : List UInt8 → Option Int) (W : World) (q0 q1 q2 q4 q5 q6 q8 q10 q11 q12 q13 q14 q15 q16 q17 q18 q19 q20 q21 q22 q23 q24 q25 q26 q27 q28 q29 q30 q31 q32 q33 q34 q35 q36 q37 q38 q39 q40 q41 q42 q43 q54 q55 q56 q57 q58 q59 q60 q61 q62 q63 q64 q65 q66 q67 q68 q69 q70 q71 q72 q73 q74 q75 q76 q77 q78 q79 q80 q81 q82 q83 q84 q85 q86 q87 q88 q89 q90 q91 q92 q93 q94 q95 q96 q97 q98 q99 q100 q101 q102 q103 q104 : Value) (a' : Act) (w' : World) : Prop :=
  (MapIs w' B (n + 1) (putF f nm ad) ∧ ∃ w0, Below W.heap.size W w0 ∧ w0.grownBy w' (some B)) ∧ a' = ⟨[q0, q1, q2, .pointer (some ⟨T3, 0, none⟩), q4, q5, q6, .pointer (some ⟨M, 0, none⟩), q8, .pointer (some ⟨A9, 0, none⟩), q10, q11, q12, q13, q14, q15, q16, q17, q18, q19, q20, q21, q22, q23, q24, q25, q26, q27, q28, q29, q30, q31, q32, q33, q34, q35, q36, q37, q38, q39, q40, q41, q42, q43, .pointer (some ⟨M, 0, none⟩), .pointer (some ⟨M, 0, none⟩), .pointer (some ⟨M, 38, none⟩), .map (some B), .pointer (some ⟨A9, 0, none⟩), .string (strOf nm), .agg #[va, vl], .pointer (some ⟨A9, 0, none⟩), .string (strOf nm), .int .i64 ad, q54, q55, q56, q57, q58, q59, q60, q61, q62, q63, q64, q65, q66, q67, q68, q69, q70, q71, q72, q73, q74, q75, q76, q77, q78, q79, q80, q81, q82, q83, q84, q85, q86, q87, q88, q89, q90, q91, q92, q93, q94, q95, q96, q97, q98, q99, q100, q101, q102, q103, q104].toArray, []⟩
theorem reg_JR9 (T3 M A9 B n : Nat) (va vl : Value) (nm : List UInt8) (ad : Int) (f : List UInt8 → Option Int) (W : World) (HX : Hid (OwnAt W T3 [va, vl] 27)) (c38 : W.cell? ⟨M, 38, none⟩ = some (.map (some B))) (cnm : W.cell? ⟨A9, 0, none⟩ = some (.string (strOf nm))) (hnm : nm.length ≤ 40) (hn : n < 100000) (had : I64 ad) (HMP : Hid (MapIs W B n f)) (HAD : Hid (∀ w, Below W.heap.size W w → Calls Tryz.prog 19 #[.agg #[va, vl], .string (strOf nm)] w fun e w' => e = .returned (.int .i64 ad) ∧ Below w.heap.size w w')) (q0 q1 q2 q4 q5 q6 q8 q10 q11 q12 q13 q14 q15 q16 q17 q18 q19 q20 q21 q22 q23 q24 q25 q26 q27 q28 q29 q30 q31 q32 q33 q34 q35 q36 q37 q38 q39 q40 q41 q42 q43 q44 q45 q46 q47 q48 q49 q50 q51 q52 q53 q54 q55 q56 q57 q58 q59 q60 q61 q62 q63 q64 q65 q66 q67 q68 q69 q70 q71 q72 q73 q74 q75 q76 q77 q78 q79 q80 q81 q82 q83 q84 q85 q86 q87 q88 q89 q90 q91 q92 q93 q94 q95 q96 q97 q98 q99 q100 q101 q102 q103 q104 : Value) (J K' : Act → World → Prop) (hJ : ∀ a' w', RJR9 T3 M A9 B n va vl nm ad f W q0 q1 q2 q4 q5 q6 q8 q10 q11 q12 q13 q14 q15 q16 q17 q18 q19 q20 q21 q22 q23 q24 q25 q26 q27 q28 q29 q30 q31 q32 q33 q34 q35 q36 q37 q38 q39 q40 q41 q42 q43 q54 q55 q56 q57 q58 q59 q60 q61 q62 q63 q64 q65 q66 q67 q68 q69 q70 q71 q72 q73 q74 q75 q76 q77 q78 q79 q80 q81 q82 q83 q84 q85 q86 q87 q88 q89 q90 q91 q92 q93 q94 q95 q96 q97 q98 q99 q100 q101 q102 q103 q104 a' w' → J a' w') (hM : ∀ a' w', Met J a' w' → K' a' w') :
    Code.wp Tryz.prog ((Tryz.f14.body.bind (regOf 9)).getD .skip) (Exit.then K' (fun _ _ _ => False)) ⟨[q0, q1, q2, .pointer (some ⟨T3, 0, none⟩), q4, q5, q6, .pointer (some ⟨M, 0, none⟩), q8, .pointer (some ⟨A9, 0, none⟩), q10, q11, q12, q13, q14, q15, q16, q17, q18, q19, q20, q21, q22, q23, q24, q25, q26, q27, q28, q29, q30, q31, q32, q33, q34, q35, q36, q37, q38, q39, q40, q41, q42, q43, q44, q45, q46, q47, q48, q49, q50, q51, q52, q53, q54, q55, q56, q57, q58, q59, q60, q61, q62, q63, q64, q65, q66, q67, q68, q69, q70, q71, q72, q73, q74, q75, q76, q77, q78, q79, q80, q81, q82, q83, q84, q85, q86, q87, q88, q89, q90, q91, q92, q93, q94, q95, q96, q97, q98, q99, q100, q101, q102, q103, q104].toArray, []⟩ W := by
  conv => arg 2; whnf
  dsimp only
  refine region_by (by kernel_rfl) (by kernel_rfl) (IJR9 T3 M A9 B n va vl nm ad f W q0 q1 q2 q4 q5 q6 q8 q10 q11 q12 q13 q14 q15 q16 q17 q18 q19 q20 q21 q22 q23 q24 q25 q26 q27 q28 q29 q30 q31 q32 q33 q34 q35 q36 q37 q38 q39 q40 q41 q42 q43 q54 q55 q56 q57 q58 q59 q60 q61 q62 q63 q64 q65 q66 q67 q68 q69 q70 q71 q72 q73 q74 q75 q76 q77 q78 q79 q80 q81 q82 q83 q84 q85 q86 q87 q88 q89 q90 q91 q92 q93 q94 q95 q96 q97 q98 q99 q100 q101 q102 q103 q104) ?_ ?_ ?_
  · exact ⟨q44, q45, q46, q47, q48, q49, q50, q51, q52, q53, ⟨(fun h => by cases h), (fun h => by cases h), (fun h => by cases h), (fun h => by cases h), (fun h => by cases h), (fun h => by cases h), (fun h => by cases h), (fun h => by cases h), (fun h => by cases h), (fun h => by cases h), (fun h => by cases h), (fun _ => (Below.refl _ _).drew), (fun h => by cases h)⟩, rfl⟩
  · intro L act wx k hI hk hl hd
    obtain ⟨z44, z45, z46, z47, z48, z49, z50, z51, z52, z53, hV, rfl⟩ := hI
    have hk : k = 0 ∨ k = 1 ∨ k = 2 ∨ k = 3 ∨ k = 4 ∨ k = 5 ∨ k = 6 ∨ k = 7 ∨ k = 8 ∨ k = 9 ∨ k = 10 := by
      have : k < 11 := hk
      omega
    rcases hk with rfl | rfl | rfl | rfl | rfl | rfl | rfl | rfl | rfl | rfl | rfl
    · have nl := kf hV.ord hl
      refine op_at _ rfl rfl (fun K' hK => ?_)
      conv => arg 2; whnf
      go_wp2_with fail
      exact ⟨.pointer (some ⟨M, 0, none⟩), z45, z46, z47, z48, z49, z50, z51, z52, z53, ⟨(kl nl), (fun _ => rfl), (kc hV.c1), (kc hV.c2), (kc hV.c3), (kc hV.c4), (kc hV.c5), (kc hV.c6), (kc hV.c7), (kc hV.c8), (kc hV.c9), (fun h0 => hV.fr (kb h0)), (kl nl)⟩, rfl⟩
    · have nl := kf hV.ord hl
      have d0 : L 0 = true := hd _ rfl ⟨0, .data⟩ (by simp) rfl
      obtain rfl := (hV.c0 d0).symm
      refine op_at _ rfl rfl (fun K' hK => ?_)
      conv => arg 2; whnf
      go_wp2_with fail
      exact ⟨.pointer (some ⟨M, 0, none⟩), .pointer (some ⟨M, 0, none⟩), z46, z47, z48, z49, z50, z51, z52, z53, ⟨(kl nl), (kc hV.c0), (fun _ => rfl), (kc hV.c2), (kc hV.c3), (kc hV.c4), (kc hV.c5), (kc hV.c6), (kc hV.c7), (kc hV.c8), (kc hV.c9), (fun h0 => hV.fr (kb h0)), (kl nl)⟩, rfl⟩
    · have nl := kf hV.ord hl
      have d1 : L 1 = true := hd _ rfl ⟨1, .data⟩ (by simp) rfl
      obtain rfl := (hV.c1 d1).symm
      refine op_at _ rfl rfl (fun K' hK => ?_)
      conv => arg 2; whnf
      go_wp2_with fail
      exact ⟨z44, .pointer (some ⟨M, 0, none⟩), .pointer (some ⟨M, 38, none⟩), z47, z48, z49, z50, z51, z52, z53, ⟨(kl nl), (kc hV.c0), (kc hV.c1), (fun _ => rfl), (kc hV.c3), (kc hV.c4), (kc hV.c5), (kc hV.c6), (kc hV.c7), (kc hV.c8), (kc hV.c9), (fun h0 => hV.fr (kb h0)), (kl nl)⟩, rfl⟩
    · have nl := kf hV.ord hl
      have d2 : L 2 = true := hd _ rfl ⟨2, .data⟩ (by simp) rfl
      obtain rfl := (hV.c2 d2).symm
      have hfr := hV.fr nl
      have d0 := below_keeps hfr c38
      have hdl := World.block_lt_of_cell? _ _ d0
      refine op_at _ rfl rfl (fun K' hK => ?_)
      conv => arg 2; whnf
      go_wp2_with fail
      exact ⟨z44, z45, .pointer (some ⟨M, 38, none⟩), .map (some B), z48, z49, z50, z51, z52, z53, ⟨(kl nl), (kc hV.c0), (kc hV.c1), (kc hV.c2), (fun _ => rfl), (kc hV.c4), (kc hV.c5), (kc hV.c6), (kc hV.c7), (kc hV.c8), (kc hV.c9), (fun h0 => hV.fr (kb h0)), (kl nl)⟩, rfl⟩
    · have nl := kf hV.ord hl
      refine op_at _ rfl rfl (fun K' hK => ?_)
      conv => arg 2; whnf
      go_wp2_with fail
      exact ⟨z44, z45, z46, z47, .pointer (some ⟨A9, 0, none⟩), z49, z50, z51, z52, z53, ⟨(kl nl), (kc hV.c0), (kc hV.c1), (kc hV.c2), (kc hV.c3), (fun _ => rfl), (kc hV.c5), (kc hV.c6), (kc hV.c7), (kc hV.c8), (kc hV.c9), (fun h0 => hV.fr (kb h0)), (kl nl)⟩, rfl⟩
    · have nl := kf hV.ord hl
      have d4 : L 4 = true := hd _ rfl ⟨4, .data⟩ (by simp) rfl
      obtain rfl := (hV.c4 d4).symm
      have hfr := hV.fr nl
      have d0 := below_keeps hfr cnm
      have hdl := World.block_lt_of_cell? _ _ d0
      refine op_at _ rfl rfl (fun K' hK => ?_)
      conv => arg 2; whnf
      go_wp2_with fail
      exact ⟨z44, z45, z46, z47, .pointer (some ⟨A9, 0, none⟩), .string (strOf nm), z50, z51, z52, z53, ⟨(kl nl), (kc hV.c0), (kc hV.c1), (kc hV.c2), (kc hV.c3), (kc hV.c4), (fun _ => rfl), (kc hV.c6), (kc hV.c7), (kc hV.c8), (kc hV.c9), (fun h0 => hV.fr (kb h0)), (kl nl)⟩, rfl⟩
    · have nl := kf hV.ord hl
      have hfr := hV.fr nl
      have ho := HX.out.old hfr
      have x0 := ho.at 0 _ rfl
      have x1 := ho.at 1 _ rfl
      have hxl := ho.lt
      refine op_at _ rfl rfl (fun K' hK => ?_)
      conv => arg 2; whnf
      go_wp2_with fail
      exact ⟨z44, z45, z46, z47, z48, z49, .agg #[va, vl], z51, z52, z53, ⟨(kl nl), (kc hV.c0), (kc hV.c1), (kc hV.c2), (kc hV.c3), (kc hV.c4), (kc hV.c5), (fun _ => rfl), (kc hV.c7), (kc hV.c8), (kc hV.c9), (fun h0 => hV.fr (kb h0)), (kl nl)⟩, rfl⟩
    · have nl := kf hV.ord hl
      refine op_at _ rfl rfl (fun K' hK => ?_)
      conv => arg 2; whnf
      go_wp2_with fail
      exact ⟨z44, z45, z46, z47, z48, z49, z50, .pointer (some ⟨A9, 0, none⟩), z52, z53, ⟨(kl nl), (kc hV.c0), (kc hV.c1), (kc hV.c2), (kc hV.c3), (kc hV.c4), (kc hV.c5), (kc hV.c6), (fun _ => rfl), (kc hV.c8), (kc hV.c9), (fun h0 => hV.fr (kb h0)), (kl nl)⟩, rfl⟩
    · have nl := kf hV.ord hl
      have d7 : L 7 = true := hd _ rfl ⟨7, .data⟩ (by simp) rfl
      obtain rfl := (hV.c7 d7).symm
      have hfr := hV.fr nl
      have d0 := below_keeps hfr cnm
      have hdl := World.block_lt_of_cell? _ _ d0
      refine op_at _ rfl rfl (fun K' hK => ?_)
      conv => arg 2; whnf
      go_wp2_with fail
      exact ⟨z44, z45, z46, z47, z48, z49, z50, .pointer (some ⟨A9, 0, none⟩), .string (strOf nm), z53, ⟨(kl nl), (kc hV.c0), (kc hV.c1), (kc hV.c2), (kc hV.c3), (kc hV.c4), (kc hV.c5), (kc hV.c6), (kc hV.c7), (fun _ => rfl), (kc hV.c9), (fun h0 => hV.fr (kb h0)), (kl nl)⟩, rfl⟩
    · have nl := kf hV.ord hl
      have d6 : L 6 = true := hd _ rfl ⟨6, .data⟩ (by simp) rfl
      obtain rfl := (hV.c6 d6).symm
      have d8 : L 8 = true := hd _ rfl ⟨8, .data⟩ (by simp) rfl
      obtain rfl := (hV.c8 d8).symm
      have hfr := hV.fr nl
      refine op_at _ rfl rfl (fun K' hK => ?_)
      conv => arg 2; whnf
      go_wp2_with fail
      refine (HAD.out _ hfr).mono ?_
      rintro e w7 ⟨rfl, hal⟩
      go_wp2_with fail
      exact ⟨z44, z45, z46, z47, z48, z49, .agg #[va, vl], z51, .string (strOf nm), .int .i64 ad, ⟨(kl nl), (kc hV.c0), (kc hV.c1), (kc hV.c2), (kc hV.c3), (kc hV.c4), (kc hV.c5), (kc hV.c6), (kc hV.c7), (kc hV.c8), (fun _ => rfl), (fun h0 => Below.trans (hV.fr (kb h0)) (Below.mono hal (Below.size (hV.fr (kb h0))))), (kl nl)⟩, rfl⟩
    · have before : ∀ j, j < 10 → L j = true := fun j hj => by
        have hj : j = 0 ∨ j = 1 ∨ j = 2 ∨ j = 3 ∨ j = 4 ∨ j = 5 ∨ j = 6 ∨ j = 7 ∨ j = 8 ∨ j = 9 := by omega
        rcases hj with rfl | rfl | rfl | rfl | rfl | rfl | rfl | rfl | rfl | rfl
        · exact hd _ rfl ⟨0, .phase⟩ (by simp) rfl
        · exact hd _ rfl ⟨1, .phase⟩ (by simp) rfl
        · exact hd _ rfl ⟨2, .phase⟩ (by simp) rfl
        · exact hd _ rfl ⟨3, .data⟩ (by simp) rfl
        · exact hd _ rfl ⟨4, .phase⟩ (by simp) rfl
        · exact hd _ rfl ⟨5, .data⟩ (by simp) rfl
        · exact hd _ rfl ⟨6, .phase⟩ (by simp) rfl
        · exact hd _ rfl ⟨7, .phase⟩ (by simp) rfl
        · exact hd _ rfl ⟨8, .phase⟩ (by simp) rfl
        · exact hd _ rfl ⟨9, .data⟩ (by simp) rfl
      have d3 : L 3 = true := hd _ rfl ⟨3, .data⟩ (by simp) rfl
      obtain rfl := (hV.c3 d3).symm
      have d5 : L 5 = true := hd _ rfl ⟨5, .data⟩ (by simp) rfl
      obtain rfl := (hV.c5 d5).symm
      have d9 : L 9 = true := hd _ rfl ⟨9, .data⟩ (by simp) rfl
      obtain rfl := (hV.c9 d9).symm
      have hfr := hV.fr hl
      obtain ⟨w', hrun, hm', hg'⟩ := (HMP.out.old hfr).put (by omega) nm (by omega) ad had
      refine op_at _ rfl rfl (fun K' hK => ?_)
      conv => arg 2; whnf
      go_wp2_with fail
      exact ⟨z44, z45, z46, .map (some B), z48, .string (strOf nm), z50, z51, z52, .int .i64 ad, ⟨(fun _ j hj => by rw [upd_ne L (show j ≠ 10 by omega)]; exact before j hj), (kc hV.c0), (kc hV.c1), (kc hV.c2), (kc hV.c3), (kc hV.c4), (kc hV.c5), (kc hV.c6), (kc hV.c7), (kc hV.c8), (kc hV.c9), (ks), (fun _ => ⟨hm', wx, hfr, hg'⟩)⟩, rfl⟩
  · intro L act wx hI hall
    obtain ⟨z44, z45, z46, z47, z48, z49, z50, z51, z52, z53, hV, rfl⟩ := hI
    obtain rfl := (hV.c0 (hall 0 (by decide))).symm
    obtain rfl := (hV.c1 (hall 1 (by decide))).symm
    obtain rfl := (hV.c2 (hall 2 (by decide))).symm
    obtain rfl := (hV.c3 (hall 3 (by decide))).symm
    obtain rfl := (hV.c4 (hall 4 (by decide))).symm
    obtain rfl := (hV.c5 (hall 5 (by decide))).symm
    obtain rfl := (hV.c6 (hall 6 (by decide))).symm
    obtain rfl := (hV.c7 (hall 7 (by decide))).symm
    obtain rfl := (hV.c8 (hall 8 (by decide))).symm
    obtain rfl := (hV.c9 (hall 9 (by decide))).symm
    exact hM _ _ (Met.intro (hJ _ _ ⟨hV.up (hall 10 (by decide)), rfl⟩))
end Go.Proofs.YtpgjfpphigeliaaGreatDoor

namespace Go.Proofs.YtpgjfpphigeliaaGreatDoor
open Go.RowKit (wrap64)
set_option maxRecDepth 100000
set_option maxHeartbeats 4000000

theorem mayJ {v : Int} {c : UInt8} (h : mayI v c = true) (h1 : c ≠ 78) (h2 : c ≠ 83) : 0 ≤ v ∧ v < 32 := by
  unfold mayI at h
  rw [if_neg h1, if_neg h2] at h
  exact of_decide_eq_true h
theorem right_regs {x : Ins} (h : rightI x = true) : (0 ≤ x.d ∧ x.d < 32) ∧ (0 ≤ x.a ∧ x.a < 32) ∧ (0 ≤ x.b ∧ x.b < 32) := by
  obtain ⟨g1, g2⟩ := (foldR_spec x _ _ _).1 (right_open h).1
  refine ⟨?_, ?_, ?_⟩
  · have e := congrArg Ins.d g2
    dsimp only at e
    by_cases hm : (68 : UInt8) ∈ (rowI x.op).2
    · exact mayJ (g1 68 hm (by decide) x.d rfl) (by decide) (by decide)
    · rw [if_neg hm] at e
      rw [e]; exact ⟨Int.le_refl 0, (show (0 : Int) < 32 by decide)⟩
  · have e := congrArg Ins.a g2
    dsimp only at e
    by_cases hm : (65 : UInt8) ∈ (rowI x.op).2
    · exact mayJ (g1 65 hm (by decide) x.a rfl) (by decide) (by decide)
    · rw [if_neg hm] at e
      rw [e]; exact ⟨Int.le_refl 0, (show (0 : Int) < 32 by decide)⟩
  · have e := congrArg Ins.b g2
    dsimp only at e
    by_cases hm : (66 : UInt8) ∈ (rowI x.op).2
    · exact mayJ (g1 66 hm (by decide) x.b rfl) (by decide) (by decide)
    · rw [if_neg hm] at e
      rw [e]; exact ⟨Int.le_refl 0, (show (0 : Int) < 32 by decide)⟩
/-- What leads somewhere bears a name. -/
theorem right_named {x : Ins} (h : rightI x = true) (h1 : 21 ≤ x.op) (h2 : x.op ≤ 26) : x.name ≠ [] := by
  intro e
  have hm := (right_open h).2.2
  rw [e] at hm
  have h76 : (76 : UInt8) ∈ (rowI x.op).2 := by
    have : x.op = 21 ∨ x.op = 22 ∨ x.op = 23 ∨ x.op = 24 ∨ x.op = 25 ∨ x.op = 26 := by omega
    rcases this with e | e | e | e | e | e <;> rw [e] <;> decide
  exact absurd (hm.1 h76) (by decide)
theorem startZ_in {l : List Ar} (h : ∀ a, a ∈ l → 1 ≤ a.size ∧ a.size ≤ 1048576) : ∀ (p : Int) (s : Bs) (q : Int), startZ l p s = some q → p ≤ q ∧ q ≤ p + 8 * sizeZ l := by
  induction l with
  | nil => intro p s q hq; cases hq
  | cons a l ih =>
    intro p s q hq
    have ha := h a List.mem_cons_self
    have hl := sizeZ_le (l := l) (fun b hb => h b (List.mem_cons_of_mem _ hb))
    unfold startZ at hq
    unfold sizeZ
    split at hq
    · injection hq with hq; omega
    · have := ih (fun b hb => h b (List.mem_cons_of_mem _ hb)) _ _ _ hq
      omega
theorem startZ_none {l : List Ar} : ∀ (p : Int) (s : Bs), startZ l p s = none ↔ l.any (fun a => a.name == s) = false := by
  induction l with
  | nil => intro p s; exact ⟨fun _ => rfl, fun _ => rfl⟩
  | cons a l ih =>
    intro p s
    unfold startZ
    rw [List.any_cons]
    split
    · rename_i e
      rw [e]; simp
    · rename_i e
      have : (a.name == s) = false := by simpa using e
      rw [ih, this]; simp
theorem FineC.flat {c : Cd} (h : FineC c) : flatA c = (insL c.lines, (insL c.lines).map (toA c)) := by
  unfold flatA
  rw [if_pos h.check]
theorem FineC.wells {c : Cd} (h : FineC c) : ∀ x, x ∈ c.lines → wellB x = true := by
  intro x hx
  obtain ⟨j, hj, e⟩ := List.getElem_of_mem hx
  have := (lineE_zero.1 ((checkC_open h.check).2.2 j hj)).1
  rwa [e] at this
theorem insL_from {l : List Ln} {i : Ins} (h : i ∈ insL l) : ∃ x, x ∈ l ∧ x.label = [] ∧ x.ins = i := by
  unfold insL at h
  obtain ⟨x, hx, e⟩ := List.mem_map.1 h
  obtain ⟨h1, h2⟩ := List.mem_filter.1 hx
  exact ⟨x, h1, by simpa using h2, e⟩
theorem FineC.rights {c : Cd} (h : FineC c) {i : Ins} (hi : i ∈ insL c.lines) : rightI i = true := by
  obtain ⟨x, hx, hl, e⟩ := insL_from hi
  have := h.wells x hx
  unfold wellB at this
  rw [if_pos hl, e] at this
  exact this
theorem start_in {c : Cd} (h : FineC c) (s : Bs) : I64 ((startZ c.arrs 65536 s).getD 0) ∧ I64 (addrZ c s) := by
  have ht := h.total
  unfold addrZ I64
  cases e : startZ c.arrs 65536 s with
  | none => exact ⟨⟨by decide, by decide⟩, ⟨by decide, by decide⟩⟩
  | some q =>
    have := startZ_in (fun a ha => ⟨(h.each a ha).1, (h.each a ha).2.1⟩) _ _ _ e
    simp only [Option.getD_some]
    omega
theorem place_lt {l : List Ln} {s : Bs} {i : Nat} (h : place l s = some i) : i < l.length := (place_some h).2.1
theorem machC_cok {c : Cd} (h : FineC c) (hn : ∀ x, x ∈ c.lines → I64 x.ins.n) : COk (machC c) := by
  have hl := (checkC_open h.check).1
  have e1 : (machC c).list = insL c.lines := by unfold machC; dsimp only; rw [h.flat]
  have e2 : (machC c).tos = (insL c.lines).map (toA c) := by unfold machC; dsimp only; rw [h.flat]
  refine ⟨?_, ?_, ?_, ?_, fun s => (start_in h s).1, ?_⟩
  · rw [e1]; have := insL_len c.lines; omega
  · rw [e1, e2, List.length_map]
  · intro i hi
    rw [e1] at hi
    have hr := h.rights hi
    obtain ⟨h1, h2, h3⟩ := right_regs hr
    refine ⟨h1, h2, h3, ?_, right_name hr⟩
    obtain ⟨x, hx, _, e⟩ := insL_from hi
    rw [← e]; exact hn x hx
  · have ht := h.total
    show 0 ≤ sizeZ c.arrs ∧ sizeZ c.arrs ≤ 1099511627776
    omega
  · intro k h1 h2
    unfold insZ toZ at *
    rw [e1] at h1 h2
    rw [e2, List.getElem?_map]
    cases e : (insL c.lines)[k.toNat]? with
    | none =>
      rw [e] at h1
      exact absurd h1 (by decide)
    | some i =>
      rw [e] at h1 h2
      have h1 : 21 ≤ i.op := h1
      have h2 : i.op ≤ 26 := h2
      have hne := right_named (h.rights (List.mem_of_getElem? e)) h1 h2
      show 0 ≤ toA c i ∧ toA c i ≤ 40000
      unfold toA
      rw [if_pos ⟨by omega, hne⟩]
      have ha := ahead_le c.lines ((place c.lines i.name).getD 0)
      have hp : (place c.lines i.name).getD 0 ≤ c.lines.length := by
        cases ep : place c.lines i.name with
        | none => exact Nat.zero_le _
        | some j => exact Nat.le_of_lt (place_lt ep)
      omega
/-- Where arrays begin, the first k noted. -/
def startsF (c : Cd) (k : Nat) : Bs → Option Int := fun s => if (c.arrs.take k).any (fun a => a.name == s) = true then some (addrZ c s) else none
theorem startsF_zero (c : Cd) (s : Bs) : startsF c 0 s = none := rfl
theorem startsF_next (c : Cd) (k : Nat) (hk : k < c.arrs.length) (s : Bs) : startsF c (k + 1) s = putF (startsF c k) c.arrs[k].name (addrZ c c.arrs[k].name) s := by
  unfold startsF putF
  rw [take_next c.arrs k hk, List.any_append]
  by_cases e : s = c.arrs[k].name
  · subst e
    simp
  · have e2 : (c.arrs[k].name == s) = false := by simpa using fun h => e h.symm
    rw [if_neg e]
    simp [e2]
theorem startsF_all (c : Cd) (s : Bs) : (startsF c c.arrs.length s).getD 0 = (machC c).starts s := by
  show _ = (startZ c.arrs 65536 s).getD 0
  unfold startsF addrZ
  rw [List.take_length]
  cases e : startZ c.arrs 65536 s with
  | none =>
    rw [(startZ_none _ _).1 e, if_neg (by decide)]
  | some q =>
    have : c.arrs.any (fun a => a.name == s) = true := by
      cases h : c.arrs.any (fun a => a.name == s) with
      | true => rfl
      | false => rw [(startZ_none 65536 s).2 h] at e; cases e
    rw [if_pos this]; rfl
theorem startS_ok {inp : List Int} (h : ∀ z, z ∈ inp → I64 z) : MOk (startS inp) := by
  refine ⟨fun r => ?_, fun _ => i64_0, h⟩
  show I64 (if r = 2 then 1073741824 else 0)
  split
  · exact ⟨by decide, by decide⟩
  · exact i64_0
end Go.Proofs.YtpgjfpphigeliaaGreatDoor

namespace Go.Proofs.YtpgjfpphigeliaaGreatDoor
open Go.RowKit (wrap64)
set_option maxRecDepth 100000
set_option maxHeartbeats 4000000

def runR (C : MC) (n : Int) (s : MS) : MS := runZ C n ((n - s.steps).toNat + 1) s
theorem runC_is (c : Cd) (inp : List Int) (n : Int) : runC c inp n = runR (machC c) n (startS inp) := by
  unfold runC runR
  rw [show (n - (startS inp).steps).toNat = n.toNat by show (n - 0).toNat = _; rw [Int.sub_zero]]
def nextZ (C : MC) (s : MS) : MS := stepZ C { s with steps := s.steps + 1 }
theorem nextZ_steps (C : MC) (s : MS) : (nextZ C s).steps = s.steps + 1 := stepZ_steps C _
theorem runR_eq (C : MC) (n : Int) (s : MS) : runR C n s = if s.st ≠ 0 then s else if (C.list.length : Int) ≤ s.pl then s.done 6 0 else if n ≤ s.steps then s else runR C n (nextZ C s) := by
  unfold runR
  conv => lhs; unfold runZ
  split
  · rfl
  · split
    · rfl
    · split
      · rfl
      · rename_i h
        rw [show (n - s.steps).toNat = (n - (nextZ C s).steps).toNat + 1 by rw [nextZ_steps]; omega]
        rfl
theorem runR_st {C : MC} {n : Int} {s : MS} (h : s.st ≠ 0) : runR C n s = s := by rw [runR_eq, if_pos h]
theorem runR_end {C : MC} {n : Int} {s : MS} (h : s.st = 0) (hp : (C.list.length : Int) ≤ s.pl) : runR C n s = s.done 6 0 := by
  rw [runR_eq, if_neg (fun e => e h), if_pos hp]
theorem runR_stop {C : MC} {n : Int} {s : MS} (h : s.st = 0) (hp : s.pl < C.list.length) (hn : n ≤ s.steps) : runR C n s = s := by
  rw [runR_eq, if_neg (fun e => e h), if_neg (by omega), if_pos hn]
theorem runR_step {C : MC} {n : Int} {s : MS} (h : s.st = 0) (hp : s.pl < C.list.length) (hn : s.steps < n) : runR C n s = runR C n (nextZ C s) := by
  rw [runR_eq, if_neg (fun e => e h), if_neg (by omega), if_neg (by omega)]
/-- One after another. -/
theorem run_ind {C : MC} {n : Int} {P : MS → MS → Prop} (h1 : ∀ s : MS, s.st ≠ 0 → P s s) (h2 : ∀ s : MS, s.st = 0 → (C.list.length : Int) ≤ s.pl → P s (s.done 6 0)) (h3 : ∀ s : MS, s.st = 0 → s.pl < (C.list.length : Int) → n ≤ s.steps → P s s)
    (h4 : ∀ s r : MS, s.st = 0 → s.pl < (C.list.length : Int) → s.steps < n → P (nextZ C s) r → P s r) : ∀ s : MS, P s (runR C n s) := by
  have key : ∀ (k : Nat) (s : MS), (n - s.steps).toNat = k → P s (runR C n s) := by
    intro k
    induction k with
    | zero =>
      intro s hk
      by_cases hs : s.st = 0
      · by_cases hp : s.pl < C.list.length
        · rw [runR_stop hs hp (by omega)]; exact h3 s hs hp (by omega)
        · rw [runR_end hs (by omega)]; exact h2 s hs (by omega)
      · rw [runR_st hs]; exact h1 s hs
    | succ k ih =>
      intro s hk
      by_cases hs : s.st = 0
      · by_cases hp : s.pl < C.list.length
        · rw [runR_step hs hp (by omega)]
          exact h4 s _ hs hp (by omega) (ih _ (by rw [nextZ_steps]; omega))
        · rw [runR_end hs (by omega)]; exact h2 s hs (by omega)
      · rw [runR_st hs]; exact h1 s hs
  exact fun s => key _ s rfl
theorem run_more {C : MC} {n N : Int} (h : n ≤ N) (s : MS) : runR C N (runR C n s) = runR C N s := by
  refine run_ind (C := C) (n := n) (P := fun s r => runR C N r = runR C N s) (fun _ _ => rfl) ?_ (fun _ _ _ _ => rfl) ?_ s
  · intro s hs hp
    rw [runR_end hs hp, runR_st (by show (6 : Int) ≠ 0; decide)]
  · intro s r hs hp hn ih
    rw [ih, ← runR_step hs hp (by omega)]
/-- What is told stays told. -/
theorem goZ_out (C : MC) (s : MS) (i : Ins) (t : Int) : ∃ m, (goZ C s i t).out = s.out ++ m ∧ m.length ≤ 1 := by
  unfold goZ memZ backZ ecallZ
  repeat' split
  all_goals first
    | exact ⟨[], (List.append_nil _).symm, by decide⟩
    | exact ⟨[_], rfl, Nat.le_refl _⟩
theorem nextZ_out (C : MC) (s : MS) : ∃ m, (nextZ C s).out = s.out ++ m ∧ m.length ≤ 1 := by
  obtain ⟨m, hm, hl⟩ := goZ_out C (afterZ C { s with steps := s.steps + 1, pl := s.pl + 1 } (insZ C s.pl)) (insZ C s.pl) (toZ C s.pl)
  refine ⟨m, ?_, hl⟩
  rw [(after_rest _ _ _).2.1] at hm
  exact hm
theorem run_out (C : MC) (n : Int) (s : MS) : ∃ m, (runR C n s).out = s.out ++ m := by
  refine run_ind (C := C) (n := n) (P := fun s r => ∃ m, r.out = s.out ++ m) (fun _ _ => ⟨[], (List.append_nil _).symm⟩) (fun _ _ _ => ⟨[], (List.append_nil _).symm⟩) (fun _ _ _ _ => ⟨[], (List.append_nil _).symm⟩) ?_ s
  rintro s r _ _ _ ⟨m, hm⟩
  obtain ⟨m2, hm2, _⟩ := nextZ_out C s
  exact ⟨m2 ++ m, by rw [hm, hm2, List.append_assoc]⟩
theorem run_steps (C : MC) (n : Int) (s : MS) : s.steps ≤ (runR C n s).steps ∧ (s.steps ≤ n → (runR C n s).steps ≤ n) := by
  refine run_ind (C := C) (n := n) (P := fun s r => s.steps ≤ r.steps ∧ (s.steps ≤ n → r.steps ≤ n)) (fun _ _ => ⟨Int.le_refl _, id⟩) (fun _ _ _ => ⟨Int.le_refl _, id⟩) (fun _ _ _ _ => ⟨Int.le_refl _, id⟩) ?_ s
  rintro s r _ _ hn ⟨h1, h2⟩
  rw [nextZ_steps] at h1 h2
  exact ⟨by omega, fun _ => h2 (by omega)⟩
theorem run_told (C : MC) (n : Int) (s : MS) (h0 : s.steps ≤ n) (ho : (s.out.length : Int) ≤ s.steps) : ((runR C n s).out.length : Int) ≤ (runR C n s).steps := by
  revert ho
  refine run_ind (C := C) (n := n) (P := fun s r => (s.out.length : Int) ≤ s.steps → (r.out.length : Int) ≤ r.steps) (fun _ _ h => h) (fun _ _ _ h => h) (fun _ _ _ _ h => h) ?_ s
  intro s r _ _ _ ih ho
  obtain ⟨m, hm, hl⟩ := nextZ_out C s
  refine ih ?_
  rw [hm, nextZ_steps, List.length_append]; omega
/-- What goes on has no code yet. -/
theorem goZ_code {C : MC} {s : MS} {i : Ins} {t : Int} (h : s.st = 0 → s.code = 0) : (goZ C s i t).st = 0 → (goZ C s i t).code = 0 := by
  unfold goZ memZ backZ ecallZ
  repeat' split
  all_goals first
    | exact h
    | (intro e; revert e; show (1 : Int) = 0 → _; intro e; omega)
    | (intro e; revert e; show (5 : Int) = 0 → _; intro e; omega)
    | (intro e; revert e; show (6 : Int) = 0 → _; intro e; omega)
    | (intro _; rfl)
theorem nextZ_code {C : MC} {s : MS} (h : s.st = 0 → s.code = 0) : (nextZ C s).st = 0 → (nextZ C s).code = 0 := by
  refine goZ_code (C := C) (s := afterZ C { s with steps := s.steps + 1, pl := s.pl + 1 } (insZ C s.pl)) (i := insZ C s.pl) (t := toZ C s.pl) ?_
  obtain ⟨_, _, h3, h4, _⟩ := after_rest C { s with steps := s.steps + 1, pl := s.pl + 1 } (insZ C s.pl)
  rw [h3, h4]; exact h
theorem run_going (C : MC) (n : Int) (s : MS) (hc : s.st = 0 → s.code = 0) : (runR C n s).st = 0 → (runR C n s).code = 0 ∧ n ≤ (runR C n s).steps := by
  revert hc
  refine run_ind (C := C) (n := n) (P := fun s r => (s.st = 0 → s.code = 0) → r.st = 0 → r.code = 0 ∧ n ≤ r.steps) (fun s hs _ h => absurd h hs) (fun s _ _ _ h => ?_) (fun s hs _ hn hc _ => ⟨hc hs, hn⟩) (fun s r _ _ _ ih hc => ih (nextZ_code hc)) s
  exact absurd h (by show (6 : Int) ≠ 0; decide)

/-! ### What is not read -/
def padS (j : Nat) (s : MS) : MS := { s with inp := s.inp ++ (List.replicate j (-1) ++ [5]) }
theorem after_pad (C : MC) (j : Nat) (s : MS) (i : Ins) : afterZ C (padS j s) i = padS j (afterZ C s i) := by
  unfold afterZ
  rw [show plainZ C (padS j s) i = plainZ C s i from rfl]
  split <;> rfl
theorem goZ_pad (C : MC) (j : Nat) (s : MS) (i : Ins) (t : Int) : ∃ k, (j ≤ k ∧ goZ C (padS (j + 1) s) i t = padS (k + 1) (goZ C s i t)) ∨ j = k ∧ goZ C (padS (j + 1) s) i t = padS k (goZ C s i t) := by
  unfold goZ
  split
  · refine ⟨j, .inl ⟨Nat.le_refl _, ?_⟩⟩
    unfold memZ
    rw [show (padS (j + 1) s).reg = s.reg from rfl]
    repeat' split
    all_goals rfl
  · split
    · refine ⟨j, .inl ⟨Nat.le_refl _, ?_⟩⟩
      rw [show goesZ (padS (j + 1) s) i = goesZ s i from rfl]
      split <;> rfl
    · split
      · exact ⟨j, .inl ⟨Nat.le_refl _, rfl⟩⟩
      · split
        · refine ⟨j, .inl ⟨Nat.le_refl _, ?_⟩⟩
          unfold backZ
          rw [show (padS (j + 1) s).reg = s.reg from rfl]
          split <;> rfl
        · split
          · unfold ecallZ
            rw [show (padS (j + 1) s).reg = s.reg from rfl]
            split
            · exact ⟨j, .inl ⟨Nat.le_refl _, rfl⟩⟩
            · split
              · cases e : s.inp with
                | nil =>
                  refine ⟨j, .inr ⟨rfl, ?_⟩⟩
                  unfold padS MS.setX
                  simp [e, List.replicate_succ]
                | cons z l =>
                  refine ⟨j, .inl ⟨Nat.le_refl _, ?_⟩⟩
                  unfold padS MS.setX
                  simp [e]
              · refine ⟨j, .inl ⟨Nat.le_refl _, ?_⟩⟩
                repeat' split
                all_goals rfl
          · exact ⟨j, .inl ⟨Nat.le_refl _, rfl⟩⟩
theorem next_pad (C : MC) (j : Nat) (s : MS) : ∃ k, j ≤ k ∧ nextZ C (padS (j + 1) s) = padS k (nextZ C s) := by
  obtain ⟨k, hk⟩ := goZ_pad C j (afterZ C { s with steps := s.steps + 1, pl := s.pl + 1 } (insZ C s.pl)) (insZ C s.pl) (toZ C s.pl)
  have e : nextZ C (padS (j + 1) s) = (goZ C (padS (j + 1) (afterZ C { s with steps := s.steps + 1, pl := s.pl + 1 } (insZ C s.pl))) (insZ C s.pl) (toZ C s.pl)).setX 0 0 := by
    rw [← after_pad]; rfl
  rcases hk with ⟨h1, h2⟩ | ⟨h1, h2⟩
  · exact ⟨k + 1, by omega, by rw [e, h2]; rfl⟩
  · exact ⟨k, by omega, by rw [e, h2]; rfl⟩
theorem run_pad {C : MC} {n : Int} (s : MS) (j : Nat) (hj : n ≤ s.steps + j) : ∃ k, runR C n (padS j s) = padS k (runR C n s) := by
  revert j
  refine run_ind (C := C) (n := n) (P := fun s r => ∀ j : Nat, n ≤ s.steps + j → ∃ k, runR C n (padS j s) = padS k r) ?_ ?_ ?_ ?_ s
  · exact fun s hs j _ => ⟨j, runR_st (s := padS j s) hs⟩
  · exact fun s hs hp j _ => ⟨j, runR_end (s := padS j s) hs hp⟩
  · exact fun s hs hp hn j _ => ⟨j, runR_stop (s := padS j s) hs hp hn⟩
  · intro s r hs hp hn ih j hj
    rw [runR_step (s := padS j s) hs hp hn]
    obtain ⟨j, rfl⟩ : ∃ j', j = j' + 1 := ⟨j - 1, by omega⟩
    obtain ⟨k, hk, e⟩ := next_pad C j s
    rw [e]
    exact ih k (by rw [nextZ_steps]; omega)
end Go.Proofs.YtpgjfpphigeliaaGreatDoor

namespace Go.Proofs.YtpgjfpphigeliaaGreatDoor
open Go.RowKit
set_option maxHeartbeats 8000000
set_option maxRecDepth 100000

def spX : Nat → Int := fun r => if r = 2 then 1073741824 else 0
/-- While Run makes its machine. -/
structure RunIn (w : World) (T3 T6 M Bw Bs base : Nat) (va vl vL vT vin : Value) (c : Cd) (k : Nat) (wr : World) : Prop where
  t3 : OwnAt wr T3 [va, vl] 27
  t6 : OwnAt wr T6 [.int .i64 0, .int .i64 0, .slice none 0 0, .int .i64 0] 31
  m : OwnAt wr M (mCells va vl vL vT spX (sizeZ c.arrs) Bw Bs vin 0 0 0 (.slice none 0 0) 0) 67
  list : InsOwn wr base (machC c).list vL
  tos : NumsOwn wr base (machC c).tos vT
  words : ZMapIs wr Bw 0 (fun _ => none)
  starts : MapIs wr Bs k (startsF c k)
  code : CodeAt wr c va vl
  be : Below w.heap.size w wr
  r3 : w.heap.size ≤ T3
  r6 : T3 < T6
  rw' : T6 < Bw
  rs : T6 < Bs
  ne : Bw ≠ Bs
  wm : Bw < M
  sm : Bs < M
  mb : M < base
  b1 : base ≤ wr.heap.size
theorem RunIn.old {w : World} {T3 T6 M Bw Bs base : Nat} {va vl vL vT vin : Value} {c : Cd} {k : Nat} {wr w' : World} (h : RunIn w T3 T6 M Bw Bs base va vl vL vT vin c k wr) (hb : Below wr.heap.size wr w') : RunIn w T3 T6 M Bw Bs base va vl vL vT vin c k w' :=
  ⟨h.t3.old hb, h.t6.old hb, h.m.old hb, RwOwn.old h.list hb, RwOwn.old h.tos hb, h.words.old hb, h.starts.old hb, h.code.old hb, h.be.trans (hb.mono h.be.size), h.r3, h.r6, h.rw', h.rs, h.ne, h.wm, h.sm, h.mb, Nat.le_trans h.b1 hb.size⟩
theorem RunIn.put {w : World} {T3 T6 M Bw Bs base : Nat} {va vl vL vT vin : Value} {c : Cd} {k : Nat} {wr w' : World} (h : RunIn w T3 T6 M Bw Bs base va vl vL vT vin c k wr) (hg : wr.grownBy w' (some Bs)) (hk : k < c.arrs.length) (hm : MapIs w' Bs (k + 1) (putF (startsF c k) c.arrs[k].name (addrZ c c.arrs[k].name))) (hcode : CodeAt w c va vl) : RunIn w T3 T6 M Bw Bs base va vl vL vT vin c (k + 1) w' := by
  have hne : ∀ {v : Value} {α : Type} {e : TypeId} {cf : α → List Value} {n : Nat} {L : List α}, RwOwn e cf n wr base L v → v.ownBlock = none ∨ v.ownBlock ≠ some Bs := fun {v} _ _ _ _ _ hv => by
    cases e : v.ownBlock with
    | none => exact .inl rfl
    | some g => exact .inr (fun e2 => by have e3 : g = Bs := (by injection e2); have := (RwOwn.lt hv g e).1; have := h.sm; have := h.mb; omega)
  have hbe : Below w.heap.size w w' := ⟨hg.os.trans h.be.os, hg.tape.trans h.be.tape, hg.output.trans h.be.output, Nat.le_trans h.be.size hg.size, fun j hj => (hg.block j (Nat.lt_of_lt_of_le hj h.be.size) (fun e => by have e3 : j = Bs := (by injection e); have := h.rs; have := h.r6; have := h.r3; omega)).trans (h.be.block j hj)⟩
  exact ⟨h.t3.grown hg (by have := h.rs; have := h.r6; omega), h.t6.grown hg (by have := h.rs; omega), h.m.grown hg (by have := h.sm; omega), RwOwn.grown h.list hg (hne h.list), RwOwn.grown h.tos hg (hne h.tos),
    h.words.same (hg.block Bw h.words.lt (fun e => by have e3 : Bw = Bs := (by injection e); exact h.ne e3)), hm.ext (fun s => startsF_next c k hk s), hcode.old hbe, hbe, h.r3, h.r6, h.rw', h.rs, h.ne, h.wm, h.sm, h.mb, Nat.le_trans h.b1 hg.size⟩
/-- How many steps are left. -/
def leftS (n : Int) (M : Nat) (w : World) : Nat := match w.cell? ⟨M, 44, none⟩ with
  | some (.int _ z) => (n - z).toNat
  | _ => 0
theorem leftS_at {n : Int} {K : MKon} {k : Nat} {s : MS} {w : World} (h : MAt K k s w) : leftS n K.M w = (n - s.steps).toNat := by
  unfold leftS
  rw [h.csteps]
structure RunK (K : MKon) (w : World) (c : Cd) (inp : List Int) (T6 : Nat) (wr : World) : Prop where
  fix : MFix K
  at' : MAt K 0 (startS inp) wr
  w0 : K.W0 = w
  c : K.C = machC c
  t6 : OwnAt K.W1 T6 [.int .i64 0, .int .i64 0, .slice none 0 0, .int .i64 0] 31
  tm : T6 < K.M
  tw : T6 < K.Bw
  lo : w.heap.size ≤ T6
theorem runR_start (c : Cd) (inp : List Int) (n : Int) : runR (machC c) n (startS inp) = runC c inp n := (runC_is c inp n).symm
theorem RunIn.mach {w : World} {T3 T6 M Bw Bs base : Nat} {va vl vL vT vin : Value} {c : Cd} {wr : World} (h : RunIn w T3 T6 M Bw Bs base va vl vL vT vin c c.arrs.length wr) (hf : FineC c) (hn : ∀ x, x ∈ c.lines → I64 x.ins.n) (inp : List Int) (hi : InpAt w inp vin) : ∃ K : MKon, M = K.M ∧ vL = K.vL ∧ RunK K w c inp T6 wr := by
  have h1 := h.r3; have h2 := h.r6; have h3 := h.rw'; have h4 := h.rs; have h5 := h.wm; have h6 := h.sm; have h7 := h.mb
  refine ⟨⟨w, wr, M, Bw, Bs, base, va, vl, vL, vT, machC c⟩, rfl, rfl, ⟨h.list, h.tos, ⟨_, _, h.starts, startsF_all c⟩, ?_, ?_, ?_, ?_, ?_, h.b1, ?_, ?_, h.ne, h.be, machC_cok hf hn⟩, ⟨⟨vin, .slice none 0 0, h.m, hi, RwOwn.zero _ _ _ _ _⟩, ⟨fun _ => none, 0, Nat.le_refl _, h.words, fun j => rfl⟩, MFr.refl _, Nat.le_refl _⟩, rfl, rfl, h.t6, ?_, ?_, ?_⟩
  all_goals first | omega | (dsimp only; omega)
theorem MFr.own {K : MKon} {w : World} (h : MFr K w) {b : Nat} {cs : List Value} {T : TypeId} (ho : OwnAt K.W1 b cs T) (h1 : b ≠ K.M) (h2 : b ≠ K.Bw) : OwnAt w b cs T := (h.block b ho.lt h1 h2).trans ho
theorem mdrewN {B : Nat} {a w : World} (h : Below B a w) (n : Nat) : Below B a (w.drewN n) := ⟨h.os, h.tape, h.output, h.size, h.block⟩
theorem run_close (K : MKon) (w : World) (c : Cd) (inp : List Int) (n : Int) (T6 : Nat) (W1 : World) (h : RunK K w c inp T6 W1) (k : Nat) (s : MS) (wx : World) (ha : MAt K k s wx) (he : runR K.C n (startS inp) = s) (vout : Value) (hv : wx.cell? ⟨K.M, 43, none⟩ = some vout) (w' : World)
    (hw : (((wx.setCell ⟨T6, 0, none⟩ (.int .i64 s.st)).setCell ⟨T6, 1, none⟩ (.int .i64 s.code)).setCell ⟨T6, 2, none⟩ vout).setCell ⟨T6, 3, none⟩ (.int .i64 s.steps) = w') :
    OwnAt w' T6 [.int .i64 s.st, .int .i64 s.code, vout, .int .i64 s.steps] 31 ∧ ∃ vout', Value.agg #[.int .i64 s.st, .int .i64 s.code, vout, .int .i64 s.steps] = (.agg #[.int .i64 (runC c inp n).st, .int .i64 (runC c inp n).code, vout', .int .i64 (runC c inp n).steps]) ∧ NumsOwn w' w.heap.size (runC c inp n).out vout' ∧ Below w.heap.size w w' := by
  have e : runC c inp n = s := by rw [← runR_start, ← h.c]; exact he
  obtain ⟨vin, vo, h1, h2, h3⟩ := ha.m
  have h43 := h1.at 43 _ (mc_tail _ _ _ _ _ _ _ _ _ _ _ _ _ _ 7)
  have hvo : vo = vout := Option.some.inj (h43.symm.trans hv)
  subst hvo
  have ht := ha.fr.own h.t6 (show T6 ≠ K.M by have := h.tm; omega) (show T6 ≠ K.Bw by have := h.tw; omega)
  have hlt := h.t6.lt
  have hlo := h.lo
  have hbe := ha.fr.below h.fix
  have h0 := h.fix.m0
  rw [h.w0] at hbe h0
  refine ⟨?_, vo, by rw [e], ?_, ?_⟩
  · rw [← hw]; exact (((ht.set 0 _).set 1 _).set 2 _).set 3 _
  · rw [← hw, e]
    have hold : w.heap.size ≤ K.W1.heap.size := by omega
    exact RwOwn.base (row_set (row_set (row_set (row_set h3 hlt 0 _) hlt 1 _) hlt 2 _) hlt 3 _) hold
  · rw [← hw]; exact zbelow_set (zbelow_set (zbelow_set (zbelow_set hbe hlo 0 _) hlo 1 _) hlo 2 _) hlo 3 _
theorem run_any (c : Cd) (h : FineC c) (hn : ∀ x, x ∈ c.lines → I64 x.ins.n) (inp : List Int) (hin : ∀ z, z ∈ inp → I64 z) (n : Int) (hnn : n ≤ 100000) (hn0 : I64 n) (va vl vin : Value) (w : World) (hc : CodeAt w c va vl) (hi : InpAt w inp vin) :
    Calls Tryz.prog 14 #[.agg #[va, vl], vin, .int .i64 n] w fun e w' => ∃ vout, e = .returned (.agg #[.int .i64 (runC c inp n).st, .int .i64 (runC c inp n).code, vout, .int .i64 (runC c inp n).steps]) ∧ NumsOwn w' w.heap.size (runC c inp n).out vout ∧ Below w.heap.size w w' := by
  obtain ⟨ia, il, ic, hvin, hic1, hic2⟩ := hi.cap
  obtain ⟨aa, ca, rfl⟩ := RwAt.shape hc.1
  obtain ⟨al, cl, rfl⟩ := RwAt.shape hc.2
  have hla := h.alen
  have hlaI : (c.arrs.length : Int) ≤ 1000 := by omega
  have HFC := Lib.hid h; have HNN := Lib.hid hn; have HIN := Lib.hid hin; have HC := Lib.hid hc; have HI := Lib.hid hi
  obtain ⟨hn1, hn2⟩ := hn0
  have hA1 : Below w.heap.size w (w.alloc (.cells #[.slice aa c.arrs.length ca, .slice al c.lines.length cl] 27)) := (Below.refl _ _).alloc (Nat.le_refl _) _
  have ho3 := OwnAt.new w [.slice aa c.arrs.length ca, .slice al c.lines.length cl] 27
  obtain ⟨W1, hW1⟩ : ∃ W1, w.alloc (.cells #[.slice aa c.arrs.length ca, .slice al c.lines.length cl] 27) = W1 := ⟨_, rfl⟩
  rw [hW1] at hA1 ho3
  have hs1 : W1.heap.size = w.heap.size + 1 := by rw [← hW1]; simp
  have hA2 : Below W1.heap.size W1 (W1.alloc (.cells #[.int .i64 0, .int .i64 0, .slice none 0 0, .int .i64 0] 31)) := (Below.refl _ _).alloc (Nat.le_refl _) _
  have ho6 := OwnAt.new W1 [.int .i64 0, .int .i64 0, .slice none 0 0, .int .i64 0] 31
  have HO3 := Lib.hid (ho3.old hA2)
  have HO6 := Lib.hid ho6
  rw [hs1] at HO6
  have HB := Lib.hid (hA1.trans (hA2.mono hA1.size))
  have HW1 := Lib.hid hW1
  clear hW1 hA1 ho3 hA2 ho6 hs1 h hn hin hc hi
  subst hvin
  go_enter Tryz.func14, Tryz.ntmps14
  go_upto_region 1 with (fail)
  rw [HW1.out]
  obtain ⟨W2, hW2⟩ : ∃ W2, W1.alloc (.cells #[.int .i64 0, .int .i64 0, .slice none 0 0, .int .i64 0] 31) = W2 := ⟨_, rfl⟩
  rw [hW2] at HO3 HO6 HB ⊢
  clear hW2 HW1
  have HC2 := Lib.hid (HC.out.old HB.out)
  have d0 := HO3.out.at 0 _ rfl
  have d1 := HO3.out.at 1 _ rfl
  have HR := Lib.hid (mright_any c _ _ W2 HC2.out HFC.out.short)
  rw [HFC.out.check] at HR
  go_upto_region 3 with (go_at_call 27; refine (HR.out).mono ?_; rintro e w3 ⟨rfl, hb3⟩)
  clear HR d0 d1
  have HO33 := Lib.hid (HO3.out.old hb3)
  have HO63 := Lib.hid (HO6.out.old hb3)
  have HB3 := Lib.hid (HB.out.trans (hb3.mono HB.out.size))
  have hs2 : w.heap.size + 1 < w3.heap.size := Nat.lt_of_lt_of_le HO6.out.lt hb3.size
  clear hb3 HO3 HO6 HB HC2
  have HSZ : Hid (∀ w4, Below w3.heap.size w3 w4 → Calls Tryz.prog 28 #[.agg #[.slice aa c.arrs.length ca, .slice al c.lines.length cl]] w4 fun e w' => e = .returned (.int .i64 (sizeZ c.arrs)) ∧ Below w4.heap.size w4 w') := Lib.hid fun w4 h4 => size_any c HFC.out _ _ w4 ((HC.out.old HB3.out).old h4)
  refine wp_cut (fun a' w' => RJR3 (w.heap.size) (.slice aa c.arrs.length ca) (.slice al c.lines.length cl) ia il ic (sizeZ c.arrs) w3 _ _ _ _ _ _ _ _ _ _ _ _ _ _ _ _ _ _ _ _ _ _ _ _ _ _ _ _ _ _ _ _ _ _ _ _ _ _ _ _ _ _ _ _ _ _ _ _ _ _ _ _ _ _ _ _ _ _ _ _ _ _ _ _ _ _ _ _ _ _ _ _ _ _ _ _ _ _ _ _ _ _ _ _ _ _ _ _ _ _ _ _ _ _ a' w') ?rest (fun J K' hJ hM => then_any (reg_JR3 (w.heap.size) (.slice aa c.arrs.length ca) (.slice al c.lines.length cl) ia il ic (sizeZ c.arrs) w3 HO33 HSZ _ _ _ _ _ _ _ _ _ _ _ _ _ _ _ _ _ _ _ _ _ _ _ _ _ _ _ _ _ _ _ _ _ _ _ _ _ _ _ _ _ _ _ _ _ _ _ _ _ _ _ _ _ _ _ _ _ _ _ _ _ _ _ _ _ _ _ _ _ _ _ _ _ _ _ _ _ _ _ _ _ _ _ _ _ _ _ _ _ _ _ _ _ _ _ _ _ _ _ _ _ _ _ J K' hJ hM))
  case rest =>
  rintro a' w' ⟨Bw, Bs, M, ⟨hfr, ⟨hb3, hbw⟩, ⟨hb4, hbs⟩, hne, hom, hm1, hm2, hm3⟩, rfl⟩
  dsimp only
  obtain ⟨W5, hW5⟩ : ∃ W5, w' = W5 := ⟨_, rfl⟩
  rw [hW5] at hfr hb3 hb4 hom ⊢
  clear hW5 w'
  have HM5 : Hid (OwnAt W5 M (mCells (.slice aa c.arrs.length ca) (.slice al c.lines.length cl) (.slice none 0 0) (.slice none 0 0) (fun _ => 0) (sizeZ c.arrs) Bw Bs (.slice ia il ic) 0 0 0 (.slice none 0 0) 0) 67) := Lib.hid hom
  have HO35 := Lib.hid (HO33.out.old hfr)
  have HO65 := Lib.hid (HO63.out.old hfr)
  have HB5 := Lib.hid (HB3.out.trans (hfr.mono HB3.out.size))
  have HWZ := Lib.hid hb3
  have HST := Lib.hid hb4
  have hs35 : w3.heap.size ≤ W5.heap.size := hfr.size
  have hml := hom.lt
  clear hfr hb3 hb4 hom HO33 HO63 HB3 HSZ
  have d0 := HO35.out.at 0 _ rfl
  have d1 := HO35.out.at 1 _ rfl
  have HFL := Lib.hid (flat_own c _ _ W5 (HC.out.old HB5.out) HFC.out.short)
  have e2 := HM5.out.at 2 _ rfl
  have e3 := HM5.out.at 3 _ rfl
  have f2 := HM5.out.fz 2
  have f3 := HM5.out.fz 3
  go_upto_region 5 with (go_at_call 29; refine (HFL.out).mono ?_; rintro e w7 ⟨vL, vT, rfl, hli, hto, hb7⟩; obtain ⟨La, Lc, hvL⟩ := RwOwn.shape hli; obtain ⟨Ta, Tc, hvT⟩ := RwOwn.shape hto; subst hvL; subst hvT; have HLI := Lib.hid hli; have HTO := Lib.hid hto; have HB7 := Lib.hid hb7; have HM7 := Lib.hid (HM5.out.old hb7); have k2 := HM7.out.at 2 _ rfl; have k3 := HM7.out.at 3 _ rfl; have g2 := HM7.out.fz 2; have g3 := HM7.out.fz 3; have hml7 := HM7.out.lt; clear hli hto hb7)
  have k6 := HM7.out.at 6 _ rfl
  have g6 := HM7.out.fz 6
  have hB7s := HB7.out.size
  go_upto_region 6 with (fail)
  obtain ⟨W8, hW8⟩ : ∃ W8, ((w7.setCell ⟨M, 2, none⟩ (.slice La (flatA c).1.length Lc)).setCell ⟨M, 3, none⟩ (.slice Ta (flatA c).2.length Tc)).setCell ⟨M, 6, none⟩ (.int .i64 1073741824) = W8 := ⟨_, rfl⟩
  have hm5 := HM5.out.lt
  have HRI : Hid (RunIn w w.heap.size (w.heap.size + 1) M Bw Bs W5.heap.size (.slice aa c.arrs.length ca) (.slice al c.lines.length cl) (.slice La (flatA c).1.length Lc) (.slice Ta (flatA c).2.length Tc) (.slice ia il ic) c 0 W8) := Lib.hid (by
    have hO3 := HO35.out.old HB7.out
    have hO6 := HO65.out.old HB7.out
    have hbe := HB5.out.trans (HB7.out.mono HB5.out.size)
    have hbe8 : Below w.heap.size w W8 := by rw [← hW8]; exact zbelow_set (zbelow_set (zbelow_set hbe (by omega) 2 _) (by omega) 3 _) (by omega) 6 _
    refine ⟨?_, ?_, ?_, ?_, ?_, ?_, ?_, HC.out.old hbe8, hbe8, Nat.le_refl _, by omega, by omega, by omega, hne, by omega, by omega, hm5, ?_⟩
    · rw [← hW8]; exact ((hO3.other (by omega) 2 _).other (by omega) 3 _).other (by omega) 6 _
    · rw [← hW8]; exact ((hO6.other (by omega) 2 _).other (by omega) 3 _).other (by omega) 6 _
    · rw [← hW8]; exact ((HM7.out.set 2 _).set 3 _).set 6 _
    · rw [← hW8]; exact row_set (row_set (row_set HLI.out hm5 2 _) hm5 3 _) hm5 6 _
    · rw [← hW8]; exact row_set (row_set (row_set HTO.out hm5 2 _) hm5 3 _) hm5 6 _
    · rw [← hW8]; exact (((HWZ.out.old HB7.out).set (by omega) 2 _).set (by omega) 3 _).set (by omega) 6 _
    · rw [← hW8]; exact ((((HST.out.old HB7.out).set (by omega) 2 _).set (by omega) 3 _).set (by omega) 6 _).ext (fun s => startsF_zero c s)
    · have := HB7.out.size; rw [← hW8]; simpa using this)
  rw [hW8]
  clear hW8 d0 d1 e2 e3 f2 f3 k2 k3 g2 g3 k6 g6 hml hml7 hB7s HM7 HTO HLI HB7 HFL HO35 HO65 HM5 HWZ HST HB5
  clear hm5
  have d0 := HRI.out.t3.at 0 _ rfl
  have d1 := HRI.out.t3.at 1 _ rfl
  have dl := HRI.out.t3.lt
  go_upto_region 7 with (fail)
  have hcI : 0 ≤ (c.arrs.length : Int) := by omega
  clear d0 d1 dl
  go_loopw [40] (fun s40 wr => ∃ k : Nat, k ≤ c.arrs.length ∧ s40 = .int .i64 k ∧ Hid (RunIn w w.heap.size (w.heap.size + 1) M Bw Bs W5.heap.size (.slice aa c.arrs.length ca) (.slice al c.lines.length cl) (.slice La (flatA c).1.length Lc) (.slice Ta (flatA c).2.length Tc) (.slice ia il ic) c k wr)) (fun s40 _ => c.arrs.length - (intOf s40).toNat)
  case atStart => exact ⟨0, Nat.zero_le _, rfl, HRI⟩
  case round =>
    clear HRI
    obtain ⟨k, hk, rfl, HRI⟩ := hrel
    by_cases hlt : k < c.arrs.length
    · obtain ⟨b, off, rfl, hbl, c0, c1⟩ := ArwAt.at HRI.out.code.1 hlt
      have hne := HFC.out.each _ (List.getElem_mem hlt)
      have hnm : c.arrs[k].name.length ≤ 40 := hne.2.2.1
      have HNX := Lib.hid (fun (wx w' : World) (hx : RunIn w w.heap.size (w.heap.size + 1) M Bw Bs W5.heap.size (.slice (some ⟨b, off, none⟩) c.arrs.length ca) (.slice al c.lines.length cl) (.slice La (flatA c).1.length Lc) (.slice Ta (flatA c).2.length Tc) (.slice ia il ic) c k wx) (hg : wx.grownBy w' (some Bs)) (hm : MapIs w' Bs (k + 1) (putF (startsF c k) c.arrs[k].name (addrZ c c.arrs[k].name))) => RunIn.put hx hg hlt hm HC.out)
      have had := (start_in HFC.out c.arrs[k].name).2
      obtain ⟨x, hx⟩ : ∃ x, c.arrs[k] = x := ⟨_, rfl⟩
      rw [hx] at c0 c1 hnm HNX had
      clear hx hne
      obtain ⟨nm, sz⟩ := x
      dsimp only at c0 c1 hnm HNX had
      have HRX := Lib.hid (HRI.out.old ((Below.refl _ _).alloc (Nat.le_refl _) (.cells #[.string (strOf nm), .int .i64 sz] 37)))
      have HA9 := Lib.hid (OwnAt.new wr [.string (strOf nm), .int .i64 sz] 37)
      go_upto_region 9 with (fail)
      obtain ⟨W9, hW9⟩ : ∃ W9, wr.alloc (.cells #[.string (strOf nm), .int .i64 sz] 37) = W9 := ⟨_, rfl⟩
      rw [hW9] at HRX HA9 ⊢
      clear hW9 c0 c1 hbl
      have HAD : Hid (∀ w4, Below W9.heap.size W9 w4 → Calls Tryz.prog 19 #[.agg #[.slice (some ⟨b, off, none⟩) c.arrs.length ca, .slice al c.lines.length cl], .string (strOf nm)] w4 fun e w' => e = .returned (.int .i64 (addrZ c nm)) ∧ Below w4.heap.size w4 w') := Lib.hid fun w4 h4 => addr_any c HFC.out _ _ nm (by omega) w4 (HRX.out.code.old h4)
      have hm38 := HRX.out.m.at 38 _ rfl
      refine wp_mono (reg_JR9 w.heap.size M wr.heap.size Bs k (.slice (some ⟨b, off, none⟩) c.arrs.length ca) (.slice al c.lines.length cl) nm (addrZ c nm) (startsF c k) W9 (Lib.hid HRX.out.t3) hm38 (HA9.out.at 0 _ rfl) hnm (by omega) had (Lib.hid HRX.out.starts) HAD _ _ _ _ _ _ _ _ _ _ _ _ _ _ _ _ _ _ _ _ _ _ _ _ _ _ _ _ _ _ _ _ _ _ _ _ _ _ _ _ _ _ _ _ _ _ _ _ _ _ _ _ _ _ _ _ _ _ _ _ _ _ _ _ _ _ _ _ _ _ _ _ _ _ _ _ _ _ _ _ _ _ _ _ _ _ _ _ _ _ _ _ _ _ _ _ _ _ _ _ _ _ (RJR9 w.heap.size M wr.heap.size Bs k (.slice (some ⟨b, off, none⟩) c.arrs.length ca) (.slice al c.lines.length cl) nm (addrZ c nm) (startsF c k) W9 _ _ _ _ _ _ _ _ _ _ _ _ _ _ _ _ _ _ _ _ _ _ _ _ _ _ _ _ _ _ _ _ _ _ _ _ _ _ _ _ _ _ _ _ _ _ _ _ _ _ _ _ _ _ _ _ _ _ _ _ _ _ _ _ _ _ _ _ _ _ _ _ _ _ _ _ _ _ _ _ _ _ _ _ _ _ _ _ _ _ _ _) (RJR9 w.heap.size M wr.heap.size Bs k (.slice (some ⟨b, off, none⟩) c.arrs.length ca) (.slice al c.lines.length cl) nm (addrZ c nm) (startsF c k) W9 _ _ _ _ _ _ _ _ _ _ _ _ _ _ _ _ _ _ _ _ _ _ _ _ _ _ _ _ _ _ _ _ _ _ _ _ _ _ _ _ _ _ _ _ _ _ _ _ _ _ _ _ _ _ _ _ _ _ _ _ _ _ _ _ _ _ _ _ _ _ _ _ _ _ _ _ _ _ _ _ _ _ _ _ _ _ _ _ _ _ _ _) (fun _ _ q => q) (fun _ _ q => q)) ?_
      intro e a' w' hq
      cases e with
      | normal =>
        obtain ⟨⟨hmm, w0, hw0, hg0⟩, rfl⟩ := hq
        have HR1 := Lib.hid (HNX.out w0 w' (HRX.out.old hw0) hg0 hmm)
        clear hmm hw0 hg0 hm38 HAD HRX HA9 HNX HRI
        go_wp2_with fail
        exact ⟨⟨k + 1, hlt, by first | rfl | (simp; done) | go_num, HR1⟩, by simp [intOf]; omega⟩
      | _ => exact False.elim hq
    · have he : k = c.arrs.length := by omega
      subst he
      go_wp2_with fail
      obtain ⟨K, rfl, hvL, hRK⟩ := HRI.out.mach HFC.out HNN.out inp HI.out
      have HK := Lib.hid hRK
      clear hRK hvL
      go_loopw [61] (fun s61 wx => ∃ (k : Nat) (s : MS), Hid (MAt K k s wx) ∧ Hid (MOk s) ∧ Hid (runR K.C n s = runR K.C n (startS inp)) ∧ 0 ≤ s.pl ∧ s.pl ≤ 40000 ∧ s.steps = k ∧ k ≤ 100000) (fun s61 wx => leftS n K.M wx)
      case atStart => exact ⟨0, startS inp, Lib.hid HK.out.at', Lib.hid (startS_ok HIN.out), Lib.hid rfl, Int.le_refl _, (show (0 : Int) ≤ 40000 by decide), rfl, by omega⟩
      case round =>
        clear HRI
        obtain ⟨k, s, HA, HOK, HEQ, hp0, hp1, hst, hk⟩ := hrel
        obtain ⟨vin, vout, g1, g2, g3⟩ := HA.out.m
        obtain ⟨oa, oc, hvo⟩ := RwOwn.shape g3
        rw [hvo] at g1
        have cst := HA.out.cst
        have ccd := HA.out.ccode
        have cpl := HA.out.cpl
        have csp := HA.out.csteps
        have cvo := g1.at 43 _ (mc_tail _ _ _ _ _ _ _ _ _ _ _ _ _ _ 7)
        have cL := HA.out.cL
        obtain ⟨xa, xc, hxL⟩ := RwOwn.shape HK.out.fix.list
        rw [hxL] at cL
        have hlen := HK.out.fix.ok.len
        have hlenI : (K.C.list.length : Int) ≤ 40000 := by omega
        have hml := HA.out.lt
        have ht6 := HA.out.fr.own HK.out.t6 (by have := HK.out.tm; omega) (by have := HK.out.tw; omega)
        have ft0 := ht6.fz 0
        have ft1 := ht6.fz 1
        have ft2 := ht6.fz 2
        have ft3 := ht6.fz 3
        have ct0 := ht6.at 0 _ rfl
        have ct1 := ht6.at 1 _ rfl
        have ct2 := ht6.at 2 _ rfl
        have ct3 := ht6.at 3 _ rfl
        have htl := ht6.lt
        have htM : w.heap.size + 1 ≠ K.M := by have := HK.out.tm; omega
        have fm44 := HA.out.fz 44
        clear g1 g2 g3 hvo hxL ht6
        by_cases hs0 : s.st = 0
        · have hs0b : (s.st == 0) = true := by simpa using hs0
          go_upto_region 12 with (fail)
          go_quiet (fail)
          clear cst ccd cpl csp cvo cL hml ft0 ft1 ft2 ft3 ct0 ct1 ct2 ct3 htl htM fm44 hlen hlenI
          have HA2 : Hid (MAt K k s (wr.drewN nq)) := Lib.hid (HA.out.old (mdrewN (Below.refl _ _) nq))
          obtain ⟨W2, hW2⟩ : ∃ W2, wr.drewN nq = W2 := ⟨_, rfl⟩
          rw [hW2] at HA2 ⊢
          have hcr : leftS n K.M wr = (n - k).toNat := by rw [leftS_at HA.out, hst]
          clear hW2 HA
          obtain ⟨vin, vout, g1, g2, g3⟩ := HA2.out.m
          obtain ⟨oa, oc, hvo⟩ := RwOwn.shape g3
          rw [hvo] at g1
          have cst := HA2.out.cst
          have ccd := HA2.out.ccode
          have cpl := HA2.out.cpl
          have csp := HA2.out.csteps
          have cvo := g1.at 43 _ (mc_tail _ _ _ _ _ _ _ _ _ _ _ _ _ _ 7)
          have cL := HA2.out.cL
          obtain ⟨xa, xc, hxL⟩ := RwOwn.shape HK.out.fix.list
          rw [hxL] at cL
          have hlen := HK.out.fix.ok.len
          have hlenI : (K.C.list.length : Int) ≤ 40000 := by omega
          have hml := HA2.out.lt
          have ht6 := HA2.out.fr.own HK.out.t6 (by have := HK.out.tm; omega) (by have := HK.out.tw; omega)
          have ft0 := ht6.fz 0
          have ft1 := ht6.fz 1
          have ft2 := ht6.fz 2
          have ft3 := ht6.fz 3
          have ct0 := ht6.at 0 _ rfl
          have ct1 := ht6.at 1 _ rfl
          have ct2 := ht6.at 2 _ rfl
          have ct3 := ht6.at 3 _ rfl
          have htl := ht6.lt
          have htM : w.heap.size + 1 ≠ K.M := by have := HK.out.tm; omega
          have fm44 := HA2.out.fz 44
          clear g1 g2 g3 hvo hxL ht6
          by_cases hlt : s.pl < (K.C.list.length : Int)
          · by_cases hsn : n ≤ (k : Int)
            · go_wp2_with fail
              have HCL := run_close K w c inp n _ _ HK.out k s _ HA2.out (by rw [← HEQ.out, runR_stop hs0 hlt (by rw [hst]; exact hsn)]) _ cvo _ rfl
              rw [hst, hs0] at HCL
              obtain ⟨HX, HY⟩ := HCL
              refine bodyPost_ret (results_cell_row (P := Tryz.prog) rfl _ _ (w.heap.size + 1) 31 #[.int .i64 0, .int .i64 s.code, .slice oa s.out.length oc, .int .i64 k] (0, 0) _ rfl HX Tryz.underlying31 rfl (by kernel_rfl)) rfl ?_
              obtain ⟨vo, e1, e2, e3⟩ := HY
              exact ⟨vo, congrArg Ending.returned e1, e2, e3⟩
            · have hkI : (k : Int) < n := by omega
              have HA4 : Hid (MAt K k { s with steps := (k : Int) + 1 } (W2.setCell ⟨K.M, 44, none⟩ (.int .i64 ((k : Int) + 1)))) := Lib.hid (HA2.out.setSteps HK.out.fix ((k : Int) + 1))
              have HNZ : Hid (stepZ K.C { s with steps := (k : Int) + 1 } = nextZ K.C s) := Lib.hid (by unfold nextZ; rw [hst])
              have hnp := stepZ_pl HK.out.fix.ok (s := { s with steps := (k : Int) + 1 }) ⟨hp0, hlt⟩
              have hno := stepZ_ok HK.out.fix.ok (s := { s with steps := (k : Int) + 1 }) ⟨HOK.out.x, HOK.out.mem, HOK.out.inp⟩ ⟨hp0, hp1⟩
              rw [HNZ.out] at hnp hno
              have HNO := Lib.hid hno
              have HS4 := Lib.hid (step_any K HK.out.fix k { s with steps := (k : Int) + 1 } ⟨HOK.out.x, HOK.out.mem, HOK.out.inp⟩ (by omega) hp0 hlt _ HA4.out)
              rw [HNZ.out] at HS4
              have HEQ2 : Hid (runR K.C n (nextZ K.C s) = runR K.C n (startS inp)) := Lib.hid (by rw [← HEQ.out]; exact (runR_step hs0 hlt (by rw [hst]; exact hkI)).symm)
              have hns : (nextZ K.C s).steps = ((k + 1 : Nat) : Int) := by rw [nextZ_steps, hst]; rfl
              obtain ⟨hnp0, hnp1⟩ := hnp
              clear hno HNZ HA4
              go_wp2_with fail
              refine (HS4.out).mono ?_
              rintro e w6 ⟨rfl, ha6⟩
              have HA6 := Lib.hid ha6
              clear ha6 HS4 HA2 cst ccd cpl csp cvo cL hml ft0 ft1 ft2 ft3 ct0 ct1 ct2 ct3 htl htM fm44 
              go_wp2_with fail
              refine ⟨⟨k + 1, nextZ K.C s, HA6, HNO, HEQ2, hnp0, hnp1, hns, by omega⟩, ?_⟩
              rw [hcr, leftS_at HA6.out, hns]
              omega
          · have HA3 := Lib.hid (end_any K HK.out.fix k s 6 0 W2 HA2.out)
            have HEQ3 : Hid (runR K.C n (startS inp) = s.done 6 0) := Lib.hid (by rw [← HEQ.out, runR_end hs0 (by omega)])
            have hst3 : (s.done 6 0).steps = k := hst
            go_upto_region 14 with (go_at_call 30; refine (HA3.out).mono ?_; rintro e w5 ⟨rfl, ha5⟩)
            clear cst ccd cpl csp cvo cL hml ft0 ft1 ft2 ft3 ct0 ct1 ct2 ct3 htl htM fm44 hlen hlenI
            have HA5 := Lib.hid ha5
            clear ha5 HA3 HA2
            obtain ⟨s', hs'⟩ : ∃ s', s.done 6 0 = s' := ⟨_, rfl⟩
            rw [hs'] at HA5 HEQ3 hst3
            clear hs'
            obtain ⟨vin, vout, g1, g2, g3⟩ := HA5.out.m
            obtain ⟨oa, oc, hvo⟩ := RwOwn.shape g3
            rw [hvo] at g1
            have cst := HA5.out.cst
            have ccd := HA5.out.ccode
            have cpl := HA5.out.cpl
            have csp := HA5.out.csteps
            have cvo := g1.at 43 _ (mc_tail _ _ _ _ _ _ _ _ _ _ _ _ _ _ 7)
            have cL := HA5.out.cL
            obtain ⟨xa, xc, hxL⟩ := RwOwn.shape HK.out.fix.list
            rw [hxL] at cL
            have hlen := HK.out.fix.ok.len
            have hlenI : (K.C.list.length : Int) ≤ 40000 := by omega
            have hml := HA5.out.lt
            have ht6 := HA5.out.fr.own HK.out.t6 (by have := HK.out.tm; omega) (by have := HK.out.tw; omega)
            have ft0 := ht6.fz 0
            have ft1 := ht6.fz 1
            have ft2 := ht6.fz 2
            have ft3 := ht6.fz 3
            have ct0 := ht6.at 0 _ rfl
            have ct1 := ht6.at 1 _ rfl
            have ct2 := ht6.at 2 _ rfl
            have ct3 := ht6.at 3 _ rfl
            have htl := ht6.lt
            have htM : w.heap.size + 1 ≠ K.M := by have := HK.out.tm; omega
            have fm44 := HA5.out.fz 44
            clear g1 g2 g3 hvo hxL ht6
            go_wp2_with fail
            have HCL := run_close K w c inp n _ _ HK.out k s' _ HA5.out HEQ3.out _ cvo _ rfl
            rw [hst3] at HCL
            obtain ⟨HX, HY⟩ := HCL
            refine bodyPost_ret (results_cell_row (P := Tryz.prog) rfl _ _ (w.heap.size + 1) 31 #[.int .i64 s'.st, .int .i64 s'.code, .slice oa s'.out.length oc, .int .i64 k] (0, 0) _ rfl HX Tryz.underlying31 rfl (by kernel_rfl)) rfl ?_
            obtain ⟨vo, e1, e2, e3⟩ := HY
            exact ⟨vo, congrArg Ending.returned e1, e2, e3⟩
        · have hs0b : (s.st == 0) = false := by simpa using hs0
          go_wp2_with fail
          have HCL := run_close K w c inp n _ _ HK.out k s _ HA.out (by rw [← HEQ.out, runR_st hs0]) _ cvo _ rfl
          rw [hst] at HCL
          obtain ⟨HX, HY⟩ := HCL
          refine bodyPost_ret (results_cell_row (P := Tryz.prog) rfl _ _ (w.heap.size + 1) 31 #[.int .i64 s.st, .int .i64 s.code, .slice oa s.out.length oc, .int .i64 k] (0, 0) _ rfl HX Tryz.underlying31 rfl (by kernel_rfl)) rfl ?_
          obtain ⟨vo, e1, e2, e3⟩ := HY
          exact ⟨vo, congrArg Ending.returned e1, e2, e3⟩
end Go.Proofs.YtpgjfpphigeliaaGreatDoor
