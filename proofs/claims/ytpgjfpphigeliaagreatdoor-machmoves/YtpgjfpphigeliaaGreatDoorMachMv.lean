/-
  Moves: the code of MachMoves, and what becomes of it. Plain functions alone.
  MachMoves: instructions that move a number do not change it. Conditions: ints; the library's variables lie in memory.
-/
import Derived.Test.YtpgjfpphigeliaaGreatDoorMachF
set_option linter.unusedVariables false
set_option linter.unusedSimpArgs false
namespace Go.Proofs.YtpgjfpphigeliaaGreatDoor
open Go.RowKit
set_option maxHeartbeats 4000000
set_option maxRecDepth 100000

def mvL (n a b k s k2 : Int) : List Ln := [lnI ⟨17, 5, 0, 0, 0, [97]⟩, lnI ⟨16, a, 0, 0, n, []⟩, lnI ⟨15, b, a, 0, 0, []⟩, lnI ⟨16, a, 0, 0, 3, []⟩, lnI ⟨20, 0, 5, b, k, []⟩, lnI ⟨19, a, 5, 0, k, []⟩, lnI ⟨20, 0, 2, a, s, []⟩, lnI ⟨19, 10, 2, 0, s, []⟩, lnI ⟨16, 17, 0, 0, 1, []⟩, lnI (zeroI 28), lnI ⟨19, 10, 5, 0, k2, []⟩, lnI (zeroI 28), lnI ⟨19, 10, 2, 0, s - 8, []⟩, lnI ⟨16, 17, 0, 0, 3, []⟩, lnI (zeroI 28)]
def mvC (n a b k s k2 : Int) : Cd := faC (mvL n a b k s k2)
theorem mv_ok (n a b k s k2 : Int) (hn : I64 n) (ha : 0 ≤ a ∧ a < 32) (hb : 0 ≤ b ∧ b < 32) (hk : 0 ≤ k ∧ k ≤ 72) (hs : -1600 ≤ s ∧ s ≤ -8) (hk2 : 0 ≤ k2 ∧ k2 ≤ 72) : (checkC (mvC n a b k s k2) = (0, 0) ∧ FineC (mvC n a b k s k2)) ∧ ∀ x, x ∈ (mvC n a b k s k2).lines → I64 x.ins.n := by
  refine ⟨fine_of (by decide) (by decide) (by decide) (of_decide_eq_true rfl) (fun x hx => ?_), fun x hx => ?_⟩
  · simp only [mvL, List.mem_cons, List.not_mem_nil, or_false] at hx
    have h5 : (0 : Int) ≤ 5 ∧ (5 : Int) < 32 := by decide
    have h2 : (0 : Int) ≤ 2 ∧ (2 : Int) < 32 := by decide
    have h10 : (0 : Int) ≤ 10 ∧ (10 : Int) < 32 := by decide
    have h17 : (0 : Int) ≤ 17 ∧ (17 : Int) < 32 := by decide
    rcases hx with rfl | rfl | rfl | rfl | rfl | rfl | rfl | rfl | rfl | rfl | rfl | rfl | rfl | rfl | rfl
    · exact ⟨rfl, right_la h5 (by decide), known_a (o := 17)⟩
    · exact ⟨rfl, right_li ha, known_none (of_decide_eq_true rfl) rfl⟩
    · exact ⟨rfl, right_mv hb ha, known_none (of_decide_eq_true rfl) rfl⟩
    · exact ⟨rfl, right_li ha, known_none (of_decide_eq_true rfl) rfl⟩
    · exact ⟨rfl, right_sd hb h5 ⟨by omega, by omega⟩, known_none (of_decide_eq_true rfl) rfl⟩
    · exact ⟨rfl, right_ld ha h5 ⟨by omega, by omega⟩, known_none (of_decide_eq_true rfl) rfl⟩
    · exact ⟨rfl, right_sd ha h2 ⟨by omega, by omega⟩, known_none (of_decide_eq_true rfl) rfl⟩
    · exact ⟨rfl, right_ld h10 h2 ⟨by omega, by omega⟩, known_none (of_decide_eq_true rfl) rfl⟩
    · exact ⟨rfl, right_li h17, known_none (of_decide_eq_true rfl) rfl⟩
    · exact ⟨rfl, right_call, known_none (of_decide_eq_true rfl) rfl⟩
    · exact ⟨rfl, right_ld h10 h5 ⟨by omega, by omega⟩, known_none (of_decide_eq_true rfl) rfl⟩
    · exact ⟨rfl, right_call, known_none (of_decide_eq_true rfl) rfl⟩
    · exact ⟨rfl, right_ld h10 h2 ⟨by omega, by omega⟩, known_none (of_decide_eq_true rfl) rfl⟩
    · exact ⟨rfl, right_li h17, known_none (of_decide_eq_true rfl) rfl⟩
    · exact ⟨rfl, right_call, known_none (of_decide_eq_true rfl) rfl⟩
  · obtain ⟨hn1, hn2⟩ := hn
    simp only [mvC, mvL, faC, List.mem_cons, List.not_mem_nil, or_false] at hx
    rcases hx with rfl | rfl | rfl | rfl | rfl | rfl | rfl | rfl | rfl | rfl | rfl | rfl | rfl | rfl | rfl <;> (unfold I64 lnI; (try unfold zeroI); dsimp only; omega)
theorem num_arr {j : Int} (h0 : 0 ≤ j) (h1 : j < 10) : numberZ (wrap64 (65536 + 8 * j)) 10 = j := by
  rw [wrap_small (by omega) (by omega)]
  unfold numberZ
  rw [if_neg (by omega), if_pos (by omega)]; omega
theorem num_stk {j : Int} (h0 : 1 ≤ j) (h1 : j ≤ 4096) : numberZ (wrap64 (1073741824 + -8 * j)) 10 = 4106 - j := by
  rw [wrap_small (by omega) (by omega)]
  unfold numberZ
  rw [if_neg (by omega), if_neg (by omega), if_pos (by omega)]; omega
/-- What is where: a number that goes from register to register, to a word and back. -/
theorem mv_run (n : Int) (a b : Nat) (ha : 18 ≤ a ∧ a ≤ 24) (hb : 25 ≤ b ∧ b ≤ 31) (j d : Int) (hj : 0 ≤ j ∧ j < 10) (hd : 1 ≤ d ∧ d ≤ 200) (hn : I64 n) : (runC (mvC n a b (8 * j) (-8 * d) ((8 * j + 8) % 80)) [] 99).tells = (1, 0, [n, 0], 15) := by
  have hok := (mv_ok n a b (8 * j) (-8 * d) ((8 * j + 8) % 80) hn (by omega) (by omega) (by omega) (by omega) (by omega)).1.1
  have hk2 : (8 * j + 8) % 80 = 8 * ((j + 1) % 10) := by omega
  rw [hk2] at hok ⊢
  rw [runC_ok hok, startS_is]
  obtain ⟨x1, hx1⟩ : ∃ x1, putX spX 5 65536 = x1 := ⟨_, rfl⟩
  obtain ⟨x2, hx2⟩ : ∃ x2, putX x1 a n = x2 := ⟨_, rfl⟩
  obtain ⟨x3, hx3⟩ : ∃ x3, putX x2 b n = x3 := ⟨_, rfl⟩
  obtain ⟨x4, hx4⟩ : ∃ x4, putX x3 a 3 = x4 := ⟨_, rfl⟩
  obtain ⟨x5, hx5⟩ : ∃ x5, putX x4 a n = x5 := ⟨_, rfl⟩
  obtain ⟨x6, hx6⟩ : ∃ x6, putX x5 10 n = x6 := ⟨_, rfl⟩
  obtain ⟨x7, hx7⟩ : ∃ x7, putX x6 17 1 = x7 := ⟨_, rfl⟩
  obtain ⟨x8, hx8⟩ : ∃ x8, putX x7 10 0 = x8 := ⟨_, rfl⟩
  obtain ⟨x9, hx9⟩ : ∃ x9, putX x8 10 0 = x9 := ⟨_, rfl⟩
  obtain ⟨x10, hx10⟩ : ∃ x10, putX x9 17 3 = x10 := ⟨_, rfl⟩
  have z2 : x2 a = n := by rw [← hx2]; exact putX_same _ _ (by omega)
  have z4b : x4 b = n := by rw [← hx4, putX_ne _ _ (by omega) (by omega), ← hx3]; exact putX_same _ _ (by omega)
  have z4_5 : x4 5 = 65536 := by rw [← hx4, putX_ne _ _ (by omega) (by omega), ← hx3, putX_ne _ _ (by omega) (by omega), ← hx2, putX_ne _ _ (by omega) (by omega), ← hx1]; rfl
  have z4_2 : x4 2 = 1073741824 := by rw [← hx4, putX_ne _ _ (by omega) (by omega), ← hx3, putX_ne _ _ (by omega) (by omega), ← hx2, putX_ne _ _ (by omega) (by omega), ← hx1]; rfl
  have z4_0 : x4 0 = 0 := by rw [← hx4]; exact putX_zero _ _ _
  have z5a : x5 a = n := by rw [← hx5]; exact putX_same _ _ (by omega)
  have z5_2 : x5 2 = 1073741824 := by rw [← hx5, putX_ne _ _ (by omega) (by omega)]; exact z4_2
  have z5_5 : x5 5 = 65536 := by rw [← hx5, putX_ne _ _ (by omega) (by omega)]; exact z4_5
  have z5_0 : x5 0 = 0 := by rw [← hx5]; exact putX_zero _ _ _
  have z7_10 : x7 10 = n := by rw [← hx7, putX_ne _ _ (by omega) (by omega), ← hx6]; exact putX_same _ _ (by omega)
  have z7_17 : x7 17 = 1 := by rw [← hx7]; exact putX_same _ _ (by omega)
  have z7_5 : x7 5 = 65536 := by rw [← hx7, putX_ne _ _ (by omega) (by omega), ← hx6, putX_ne _ _ (by omega) (by omega)]; exact z5_5
  have z7_2 : x7 2 = 1073741824 := by rw [← hx7, putX_ne _ _ (by omega) (by omega), ← hx6, putX_ne _ _ (by omega) (by omega)]; exact z5_2
  have z7_0 : x7 0 = 0 := by rw [← hx7]; exact putX_zero _ _ _
  have z8_17 : x8 17 = 1 := by rw [← hx8, putX_ne _ _ (by omega) (by omega)]; exact z7_17
  have z8_10 : x8 10 = 0 := by rw [← hx8]; exact putX_same _ _ (by omega)
  have z8_2 : x8 2 = 1073741824 := by rw [← hx8, putX_ne _ _ (by omega) (by omega)]; exact z7_2
  have z8_0 : x8 0 = 0 := by rw [← hx8]; exact putX_zero _ _ _
  have z10_17 : x10 17 = 3 := by rw [← hx10]; exact putX_same _ _ (by omega)
  have z10_10 : x10 10 = 0 := by rw [← hx10, putX_ne _ _ (by omega) (by omega), ← hx9]; exact putX_same _ _ (by omega)
  have n1 : numberZ (wrap64 (x4 5 + 8 * j)) 10 = j := by rw [z4_5]; exact num_arr hj.1 hj.2
  have n2 : numberZ (wrap64 (x5 2 + -8 * d)) 10 = 4106 - d := by rw [z5_2]; exact num_stk (by omega) (by omega)
  have n3 : numberZ (wrap64 (x7 5 + 8 * ((j + 1) % 10))) 10 = (j + 1) % 10 := by rw [z7_5]; exact num_arr (by omega) (by omega)
  have n4 : numberZ (wrap64 (x8 2 + (-8 * d - 8))) 10 = 4105 - d := by
    rw [z8_2, show (1073741824 : Int) + (-8 * d - 8) = 1073741824 + -8 * (d + 1) by omega, num_stk (by omega) (by omega)]; omega
  obtain ⟨m1, hm1⟩ : ∃ m1, updZ zeroM j n = m1 := ⟨_, rfl⟩
  obtain ⟨m2, hm2⟩ : ∃ m2, updZ m1 (4106 - d) n = m2 := ⟨_, rfl⟩
  have y1 : m1 j = n := by rw [← hm1]; exact updZ_same _ _ _
  have y2 : m2 (4106 - d) = n := by rw [← hm2]; exact updZ_same _ _ _
  have y3 : m2 ((j + 1) % 10) = 0 := by rw [← hm2, updZ_ne _ (by omega), ← hm1, updZ_ne _ (by omega)]; rfl
  have y4 : m2 (4105 - d) = 0 := by rw [← hm2, updZ_ne _ (by omega), ← hm1, updZ_ne _ (by omega)]; rfl
  rw [run_next (t := ⟨x1, zeroM, [], ((1 : Nat) : Int), 0, 0, [], 1⟩) rfl (show (0 : Int) < 15 by decide) (of_decide_eq_true rfl) (by rw [nx_reg (pn := 0) (i := ⟨17, 5, 0, 0, 0, [97]⟩) (t := -1) rfl rfl (of_decide_eq_true rfl) 65536 rfl, ← hx1]; rfl)]
  rw [run_next (t := ⟨x2, zeroM, [], ((2 : Nat) : Int), 0, 0, [], 2⟩) rfl (show (1 : Int) < 15 by decide) (of_decide_eq_true rfl) (by rw [nx_reg (pn := 1) (i := ⟨16, a, 0, 0, n, []⟩) (t := -1) rfl rfl (of_decide_eq_true rfl) n rfl, ← hx2]; rfl)]
  rw [run_next (t := ⟨x3, zeroM, [], ((3 : Nat) : Int), 0, 0, [], 3⟩) rfl (show (2 : Int) < 15 by decide) (of_decide_eq_true rfl) (by rw [nx_reg (pn := 2) (i := ⟨15, b, a, 0, 0, []⟩) (t := -1) rfl rfl (of_decide_eq_true rfl) n (by show some (x2 a) = some n; rw [z2]), ← hx3]; rfl)]
  rw [run_next (t := ⟨x4, zeroM, [], ((4 : Nat) : Int), 0, 0, [], 4⟩) rfl (show (3 : Int) < 15 by decide) (of_decide_eq_true rfl) (by rw [nx_reg (pn := 3) (i := ⟨16, a, 0, 0, 3, []⟩) (t := -1) rfl rfl (of_decide_eq_true rfl) 3 rfl, ← hx4]; rfl)]
  rw [run_next (t := ⟨x4, m1, [], ((5 : Nat) : Int), 0, 0, [], 5⟩) rfl (show (4 : Int) < 15 by decide) (of_decide_eq_true rfl) (by rw [nx_sd (pn := 4) (i := ⟨20, 0, 5, b, 8 * j, []⟩) (t := -1) rfl rfl rfl j n1 hj.1 z4_0, ← hm1]; show (⟨x4, updZ zeroM j (x4 b), [], _, _, _, _, _⟩ : MS) = _; rw [z4b]; rfl)]
  rw [run_next (t := ⟨x5, m1, [], ((6 : Nat) : Int), 0, 0, [], 6⟩) rfl (show (5 : Int) < 15 by decide) (of_decide_eq_true rfl) (by rw [nx_ld (pn := 5) (i := ⟨19, a, 5, 0, 8 * j, []⟩) (t := -1) rfl rfl rfl j n1 hj.1, y1, ← hx5]; rfl)]
  rw [run_next (t := ⟨x5, m2, [], ((7 : Nat) : Int), 0, 0, [], 7⟩) rfl (show (6 : Int) < 15 by decide) (of_decide_eq_true rfl) (by rw [nx_sd (pn := 6) (i := ⟨20, 0, 2, a, -8 * d, []⟩) (t := -1) rfl rfl rfl (4106 - d) n2 (by omega) z5_0, ← hm2]; show (⟨x5, updZ m1 _ (x5 a), [], _, _, _, _, _⟩ : MS) = _; rw [z5a]; rfl)]
  rw [run_next (t := ⟨x6, m2, [], ((8 : Nat) : Int), 0, 0, [], 8⟩) rfl (show (7 : Int) < 15 by decide) (of_decide_eq_true rfl) (by rw [nx_ld (pn := 7) (i := ⟨19, 10, 2, 0, -8 * d, []⟩) (t := -1) rfl rfl rfl (4106 - d) n2 (by omega), y2, ← hx6]; rfl)]
  rw [run_next (t := ⟨x7, m2, [], ((9 : Nat) : Int), 0, 0, [], 9⟩) rfl (show (8 : Int) < 15 by decide) (of_decide_eq_true rfl) (by rw [nx_reg (pn := 8) (i := ⟨16, 17, 0, 0, 1, []⟩) (t := -1) rfl rfl (of_decide_eq_true rfl) 1 rfl, ← hx7]; rfl)]
  rw [run_next (t := ⟨x7, m2, [], ((10 : Nat) : Int), 0, 0, [n], 10⟩) rfl (show (9 : Int) < 15 by decide) (of_decide_eq_true rfl) (by rw [nx_tell (pn := 9) (i := zeroI 28) (t := -1) rfl rfl rfl z7_17 z7_0, z7_10]; rfl)]
  rw [run_next (t := ⟨x8, m2, [], ((11 : Nat) : Int), 0, 0, [n], 11⟩) rfl (show (10 : Int) < 15 by decide) (of_decide_eq_true rfl) (by rw [nx_ld (pn := 10) (i := ⟨19, 10, 5, 0, 8 * ((j + 1) % 10), []⟩) (t := -1) rfl rfl rfl ((j + 1) % 10) n3 (by omega), y3, ← hx8]; rfl)]
  rw [run_next (t := ⟨x8, m2, [], ((12 : Nat) : Int), 0, 0, [n, 0], 12⟩) rfl (show (11 : Int) < 15 by decide) (of_decide_eq_true rfl) (by rw [nx_tell (pn := 11) (i := zeroI 28) (t := -1) rfl rfl rfl z8_17 z8_0, z8_10]; rfl)]
  rw [run_next (t := ⟨x9, m2, [], ((13 : Nat) : Int), 0, 0, [n, 0], 13⟩) rfl (show (12 : Int) < 15 by decide) (of_decide_eq_true rfl) (by rw [nx_ld (pn := 12) (i := ⟨19, 10, 2, 0, -8 * d - 8, []⟩) (t := -1) rfl rfl rfl (4105 - d) n4 (by omega), y4, ← hx9]; rfl)]
  rw [run_next (t := ⟨x10, m2, [], ((14 : Nat) : Int), 0, 0, [n, 0], 14⟩) rfl (show (13 : Int) < 15 by decide) (of_decide_eq_true rfl) (by rw [nx_reg (pn := 13) (i := ⟨16, 17, 0, 0, 3, []⟩) (t := -1) rfl rfl (of_decide_eq_true rfl) 3 rfl, ← hx10]; rfl)]
  refine run_last rfl (show (14 : Int) < 15 by decide) (of_decide_eq_true rfl) ?_ (show (1 : Int) ≠ 0 by decide)
  rw [nx_exit (pn := 14) (i := zeroI 28) (t := -1) rfl rfl rfl z10_17, z10_10]; rfl
end Go.Proofs.YtpgjfpphigeliaaGreatDoor

namespace Go.Proofs.YtpgjfpphigeliaaGreatDoor
open Go.RowKit
set_option maxHeartbeats 4000000
set_option maxRecDepth 100000

theorem mmoves_any (n one two at' deep : Int) (hn : I64 n) (h1 : I64 one) (h2 : I64 two) (h3 : I64 at') (h4 : I64 deep) (w : World) (hl : ILib w) :
    Calls Tryz.prog 4 #[.int .i64 n, .int .i64 one, .int .i64 two, .int .i64 at', .int .i64 deep] w fun e w' => e = .returned (.bool true) ∧ Below w.heap.size w w' := by
  obtain ⟨p0, p1⟩ := ipick_range one 7 (by decide)
  obtain ⟨q0, q1⟩ := ipick_range two 7 (by decide)
  obtain ⟨j0, j1⟩ := ipick_range at' 10 (by decide)
  obtain ⟨d0, d1⟩ := ipick_range deep 200 (by decide)
  have HAW := Lib.hid (jawake_any w hl)
  have HP1 := Lib.hid (fun w => jpick_any one 7 h1 (by decide) (by decide) w)
  have HP2 := Lib.hid (fun w => jpick_any two 7 h2 (by decide) (by decide) w)
  have HP3 := Lib.hid (fun w => jpick_any at' 10 h3 (by decide) (by decide) w)
  have HP4 := Lib.hid (fun w => jpick_any deep 200 h4 (by decide) (by decide) w)
  generalize ipick one 7 = p at *
  generalize ipick two 7 = q at *
  generalize ipick at' 10 = j at *
  generalize ipick deep 200 = d at *
  have hr := mv_run n (18 + p).toNat (25 + q).toNat ⟨by omega, by omega⟩ ⟨by omega, by omega⟩ j (1 + d) ⟨j0, j1⟩ ⟨by omega, by omega⟩ hn
  rw [show (((18 + p).toNat : Nat) : Int) = 18 + p by omega, show (((25 + q).toNat : Nat) : Int) = 25 + q by omega] at hr
  have hf := mv_ok n (18 + p) (25 + q) (8 * j) (-8 * (1 + d)) ((8 * j + 8) % 80) hn (by omega) (by omega) (by omega) (by omega) (by omega)
  have HRUN := Lib.hid (fun va vl w hc => run_tells (mvC n (18 + p) (25 + q) (8 * j) (-8 * (1 + d)) ((8 * j + 8) % 80)) hf.1.2 hf.2 [] (fun z hz => by cases hz) 99 (by decide) (by decide) 1 0 15 [n, 0] hr va vl _ w hc (inp_nil w))
  have HS := Lib.hid (fun v1 v2 w h1 h2 => jsame_eq 1 0 15 [n, 0] v1 v2 w h1 h2)
  obtain ⟨hn1, hn2⟩ := hn
  clear hl hr hf
  go_enter Tryz.func4, Tryz.ntmps4
  go_wp2_with fail
  refine (HAW.out).mono ?_
  rintro e w1 ⟨rfl, hb1'⟩
  have HB := Lib.hid hb1'
  clear hb1' HAW
  go_wp2_with fail
  refine (HP1.out _).mono ?_
  rintro e v1 ⟨rfl, rfl⟩
  clear HP1
  go_wp2_with fail
  refine (HP2.out _).mono ?_
  rintro e v2 ⟨rfl, rfl⟩
  clear HP2
  go_wp2_with fail
  refine (HP3.out _).mono ?_
  rintro e v3 ⟨rfl, rfl⟩
  clear HP3
  go_wp2_with fail
  refine (HP4.out _).mono ?_
  rintro e v4 ⟨rfl, rfl⟩
  clear HP4
  go_wp2_with fail
  have hbX1 : Below w1.heap.size w1 (w1.alloc (.cells #[.string ⟨#[97]⟩, .int .i64 10] 37)) := (Below.refl _ _).alloc (Nat.le_refl _) _
  have hoX := OwnAt.new w1 [.string ⟨#[97]⟩, .int .i64 10] 37
  obtain ⟨WA, hWX⟩ : ∃ WA, w1.alloc (.cells #[.string ⟨#[97]⟩, .int .i64 10] 37) = WA := ⟨_, rfl⟩
  rw [hWX] at hbX1 hoX ⊢
  replace HB := Lib.hid (HB.out.trans (hbX1.mono HB.out.size))
  have HAR := Lib.hid hoX
  clear hbX1 hWX hoX
  go_wp2_with fail
  refine (mline_any _ _ _ _ _ _ _).mono ?_
  rintro e u0 ⟨rfl, hbl0⟩
  replace HB := Lib.hid (HB.out.trans (hbl0.mono HB.out.size))
  replace HAR := Lib.hid (HAR.out.old hbl0)
  clear hbl0
  go_wp2_with fail
  refine (mline_any _ _ _ _ _ _ _).mono ?_
  rintro e u1 ⟨rfl, hbl1⟩
  replace HB := Lib.hid (HB.out.trans (hbl1.mono HB.out.size))
  replace HAR := Lib.hid (HAR.out.old hbl1)
  clear hbl1
  go_wp2_with fail
  refine (mline_any _ _ _ _ _ _ _).mono ?_
  rintro e u2 ⟨rfl, hbl2⟩
  replace HB := Lib.hid (HB.out.trans (hbl2.mono HB.out.size))
  replace HAR := Lib.hid (HAR.out.old hbl2)
  clear hbl2
  go_wp2_with fail
  refine (mline_any _ _ _ _ _ _ _).mono ?_
  rintro e u3 ⟨rfl, hbl3⟩
  replace HB := Lib.hid (HB.out.trans (hbl3.mono HB.out.size))
  replace HAR := Lib.hid (HAR.out.old hbl3)
  clear hbl3
  go_wp2_with fail
  refine (mline_any _ _ _ _ _ _ _).mono ?_
  rintro e u4 ⟨rfl, hbl4⟩
  replace HB := Lib.hid (HB.out.trans (hbl4.mono HB.out.size))
  replace HAR := Lib.hid (HAR.out.old hbl4)
  clear hbl4
  go_wp2_with fail
  refine (mline_any _ _ _ _ _ _ _).mono ?_
  rintro e u5 ⟨rfl, hbl5⟩
  replace HB := Lib.hid (HB.out.trans (hbl5.mono HB.out.size))
  replace HAR := Lib.hid (HAR.out.old hbl5)
  clear hbl5
  go_wp2_with fail
  refine (mline_any _ _ _ _ _ _ _).mono ?_
  rintro e u6 ⟨rfl, hbl6⟩
  replace HB := Lib.hid (HB.out.trans (hbl6.mono HB.out.size))
  replace HAR := Lib.hid (HAR.out.old hbl6)
  clear hbl6
  go_wp2_with fail
  refine (mline_any _ _ _ _ _ _ _).mono ?_
  rintro e u7 ⟨rfl, hbl7⟩
  replace HB := Lib.hid (HB.out.trans (hbl7.mono HB.out.size))
  replace HAR := Lib.hid (HAR.out.old hbl7)
  clear hbl7
  go_wp2_with fail
  refine (mline_any _ _ _ _ _ _ _).mono ?_
  rintro e u8 ⟨rfl, hbl8⟩
  replace HB := Lib.hid (HB.out.trans (hbl8.mono HB.out.size))
  replace HAR := Lib.hid (HAR.out.old hbl8)
  clear hbl8
  go_wp2_with fail
  refine (mline_any _ _ _ _ _ _ _).mono ?_
  rintro e u9 ⟨rfl, hbl9⟩
  replace HB := Lib.hid (HB.out.trans (hbl9.mono HB.out.size))
  replace HAR := Lib.hid (HAR.out.old hbl9)
  clear hbl9
  go_wp2_with fail
  refine (mline_any _ _ _ _ _ _ _).mono ?_
  rintro e u10 ⟨rfl, hbl10⟩
  replace HB := Lib.hid (HB.out.trans (hbl10.mono HB.out.size))
  replace HAR := Lib.hid (HAR.out.old hbl10)
  clear hbl10
  go_wp2_with fail
  refine (mline_any _ _ _ _ _ _ _).mono ?_
  rintro e u11 ⟨rfl, hbl11⟩
  replace HB := Lib.hid (HB.out.trans (hbl11.mono HB.out.size))
  replace HAR := Lib.hid (HAR.out.old hbl11)
  clear hbl11
  go_wp2_with fail
  refine (mline_any _ _ _ _ _ _ _).mono ?_
  rintro e u12 ⟨rfl, hbl12⟩
  replace HB := Lib.hid (HB.out.trans (hbl12.mono HB.out.size))
  replace HAR := Lib.hid (HAR.out.old hbl12)
  clear hbl12
  go_wp2_with fail
  refine (mline_any _ _ _ _ _ _ _).mono ?_
  rintro e u13 ⟨rfl, hbl13⟩
  replace HB := Lib.hid (HB.out.trans (hbl13.mono HB.out.size))
  replace HAR := Lib.hid (HAR.out.old hbl13)
  clear hbl13
  go_wp2_with fail
  refine (mline_any _ _ _ _ _ _ _).mono ?_
  rintro e u14 ⟨rfl, hbl14⟩
  replace HB := Lib.hid (HB.out.trans (hbl14.mono HB.out.size))
  replace HAR := Lib.hid (HAR.out.old hbl14)
  clear hbl14
  go_upto_region 7 with (fail)
  have hbX2 : Below u14.heap.size u14 (u14.alloc (.cells #[.string ⟨#[]⟩, .int .i64 17, .int .i64 5, .int .i64 0, .int .i64 0, .int .i64 0, .string ⟨#[97]⟩, .string ⟨#[]⟩, .int .i64 16, .int .i64 (18 + p), .int .i64 0, .int .i64 0, .int .i64 n, .string ⟨#[]⟩, .string ⟨#[]⟩, .int .i64 15, .int .i64 (25 + q), .int .i64 (18 + p), .int .i64 0, .int .i64 0, .string ⟨#[]⟩, .string ⟨#[]⟩, .int .i64 16, .int .i64 (18 + p), .int .i64 0, .int .i64 0, .int .i64 3, .string ⟨#[]⟩, .string ⟨#[]⟩, .int .i64 20, .int .i64 0, .int .i64 5, .int .i64 (25 + q), .int .i64 (8 * j), .string ⟨#[]⟩, .string ⟨#[]⟩, .int .i64 19, .int .i64 (18 + p), .int .i64 5, .int .i64 0, .int .i64 (8 * j), .string ⟨#[]⟩, .string ⟨#[]⟩, .int .i64 20, .int .i64 0, .int .i64 2, .int .i64 (18 + p), .int .i64 (-8 * (1 + d)), .string ⟨#[]⟩, .string ⟨#[]⟩, .int .i64 19, .int .i64 10, .int .i64 2, .int .i64 0, .int .i64 (-8 * (1 + d)), .string ⟨#[]⟩, .string ⟨#[]⟩, .int .i64 16, .int .i64 17, .int .i64 0, .int .i64 0, .int .i64 1, .string ⟨#[]⟩, .string ⟨#[]⟩, .int .i64 28, .int .i64 0, .int .i64 0, .int .i64 0, .int .i64 0, .string ⟨#[]⟩, .string ⟨#[]⟩, .int .i64 19, .int .i64 10, .int .i64 5, .int .i64 0, .int .i64 ((8 * j + 8) % 80), .string ⟨#[]⟩, .string ⟨#[]⟩, .int .i64 28, .int .i64 0, .int .i64 0, .int .i64 0, .int .i64 0, .string ⟨#[]⟩, .string ⟨#[]⟩, .int .i64 19, .int .i64 10, .int .i64 2, .int .i64 0, .int .i64 (-8 * (1 + d) - 8), .string ⟨#[]⟩, .string ⟨#[]⟩, .int .i64 16, .int .i64 17, .int .i64 0, .int .i64 0, .int .i64 3, .string ⟨#[]⟩, .string ⟨#[]⟩, .int .i64 28, .int .i64 0, .int .i64 0, .int .i64 0, .int .i64 0, .string ⟨#[]⟩] 41)) := (Below.refl _ _).alloc (Nat.le_refl _) _
  have hoX := OwnAt.new u14 [.string ⟨#[]⟩, .int .i64 17, .int .i64 5, .int .i64 0, .int .i64 0, .int .i64 0, .string ⟨#[97]⟩, .string ⟨#[]⟩, .int .i64 16, .int .i64 (18 + p), .int .i64 0, .int .i64 0, .int .i64 n, .string ⟨#[]⟩, .string ⟨#[]⟩, .int .i64 15, .int .i64 (25 + q), .int .i64 (18 + p), .int .i64 0, .int .i64 0, .string ⟨#[]⟩, .string ⟨#[]⟩, .int .i64 16, .int .i64 (18 + p), .int .i64 0, .int .i64 0, .int .i64 3, .string ⟨#[]⟩, .string ⟨#[]⟩, .int .i64 20, .int .i64 0, .int .i64 5, .int .i64 (25 + q), .int .i64 (8 * j), .string ⟨#[]⟩, .string ⟨#[]⟩, .int .i64 19, .int .i64 (18 + p), .int .i64 5, .int .i64 0, .int .i64 (8 * j), .string ⟨#[]⟩, .string ⟨#[]⟩, .int .i64 20, .int .i64 0, .int .i64 2, .int .i64 (18 + p), .int .i64 (-8 * (1 + d)), .string ⟨#[]⟩, .string ⟨#[]⟩, .int .i64 19, .int .i64 10, .int .i64 2, .int .i64 0, .int .i64 (-8 * (1 + d)), .string ⟨#[]⟩, .string ⟨#[]⟩, .int .i64 16, .int .i64 17, .int .i64 0, .int .i64 0, .int .i64 1, .string ⟨#[]⟩, .string ⟨#[]⟩, .int .i64 28, .int .i64 0, .int .i64 0, .int .i64 0, .int .i64 0, .string ⟨#[]⟩, .string ⟨#[]⟩, .int .i64 19, .int .i64 10, .int .i64 5, .int .i64 0, .int .i64 ((8 * j + 8) % 80), .string ⟨#[]⟩, .string ⟨#[]⟩, .int .i64 28, .int .i64 0, .int .i64 0, .int .i64 0, .int .i64 0, .string ⟨#[]⟩, .string ⟨#[]⟩, .int .i64 19, .int .i64 10, .int .i64 2, .int .i64 0, .int .i64 (-8 * (1 + d) - 8), .string ⟨#[]⟩, .string ⟨#[]⟩, .int .i64 16, .int .i64 17, .int .i64 0, .int .i64 0, .int .i64 3, .string ⟨#[]⟩, .string ⟨#[]⟩, .int .i64 28, .int .i64 0, .int .i64 0, .int .i64 0, .int .i64 0, .string ⟨#[]⟩] 41
  obtain ⟨WL, hWX⟩ : ∃ WL, u14.alloc (.cells #[.string ⟨#[]⟩, .int .i64 17, .int .i64 5, .int .i64 0, .int .i64 0, .int .i64 0, .string ⟨#[97]⟩, .string ⟨#[]⟩, .int .i64 16, .int .i64 (18 + p), .int .i64 0, .int .i64 0, .int .i64 n, .string ⟨#[]⟩, .string ⟨#[]⟩, .int .i64 15, .int .i64 (25 + q), .int .i64 (18 + p), .int .i64 0, .int .i64 0, .string ⟨#[]⟩, .string ⟨#[]⟩, .int .i64 16, .int .i64 (18 + p), .int .i64 0, .int .i64 0, .int .i64 3, .string ⟨#[]⟩, .string ⟨#[]⟩, .int .i64 20, .int .i64 0, .int .i64 5, .int .i64 (25 + q), .int .i64 (8 * j), .string ⟨#[]⟩, .string ⟨#[]⟩, .int .i64 19, .int .i64 (18 + p), .int .i64 5, .int .i64 0, .int .i64 (8 * j), .string ⟨#[]⟩, .string ⟨#[]⟩, .int .i64 20, .int .i64 0, .int .i64 2, .int .i64 (18 + p), .int .i64 (-8 * (1 + d)), .string ⟨#[]⟩, .string ⟨#[]⟩, .int .i64 19, .int .i64 10, .int .i64 2, .int .i64 0, .int .i64 (-8 * (1 + d)), .string ⟨#[]⟩, .string ⟨#[]⟩, .int .i64 16, .int .i64 17, .int .i64 0, .int .i64 0, .int .i64 1, .string ⟨#[]⟩, .string ⟨#[]⟩, .int .i64 28, .int .i64 0, .int .i64 0, .int .i64 0, .int .i64 0, .string ⟨#[]⟩, .string ⟨#[]⟩, .int .i64 19, .int .i64 10, .int .i64 5, .int .i64 0, .int .i64 ((8 * j + 8) % 80), .string ⟨#[]⟩, .string ⟨#[]⟩, .int .i64 28, .int .i64 0, .int .i64 0, .int .i64 0, .int .i64 0, .string ⟨#[]⟩, .string ⟨#[]⟩, .int .i64 19, .int .i64 10, .int .i64 2, .int .i64 0, .int .i64 (-8 * (1 + d) - 8), .string ⟨#[]⟩, .string ⟨#[]⟩, .int .i64 16, .int .i64 17, .int .i64 0, .int .i64 0, .int .i64 3, .string ⟨#[]⟩, .string ⟨#[]⟩, .int .i64 28, .int .i64 0, .int .i64 0, .int .i64 0, .int .i64 0, .string ⟨#[]⟩] 41) = WL := ⟨_, rfl⟩
  have hsWL : WL.heap.size = u14.heap.size + 1 := by rw [← hWX]; simp
  dsimp only at hWX hbX2 hoX
  rw [hWX] at hbX2 hoX ⊢
  replace HB := Lib.hid (HB.out.trans (hbX2.mono HB.out.size))
  replace HAR := Lib.hid (HAR.out.old hbX2)
  have HLN := Lib.hid hoX
  clear hbX2 hWX hoX
  have hbX3 : Below WL.heap.size WL (WL.alloc (.cells #[.slice (some ⟨w1.heap.size, 0, none⟩) 1 1, .slice (some ⟨u14.heap.size, 0, none⟩) 15 15] 27)) := (Below.refl _ _).alloc (Nat.le_refl _) _
  have hoX := OwnAt.new WL [.slice (some ⟨w1.heap.size, 0, none⟩) 1 1, .slice (some ⟨u14.heap.size, 0, none⟩) 15 15] 27
  obtain ⟨WC, hWX⟩ : ∃ WC, WL.alloc (.cells #[.slice (some ⟨w1.heap.size, 0, none⟩) 1 1, .slice (some ⟨u14.heap.size, 0, none⟩) 15 15] 27) = WC := ⟨_, rfl⟩
  rw [hsWL] at hoX
  clear hsWL
  rw [hWX] at hbX3 hoX ⊢
  replace HB := Lib.hid (HB.out.trans (hbX3.mono HB.out.size))
  replace HAR := Lib.hid (HAR.out.old hbX3)
  replace HLN := Lib.hid (HLN.out.old hbX3)
  have HO := Lib.hid hoX
  clear hbX3 hWX hoX
  have HC : Hid (CodeAt WC (mvC n (18 + p) (25 + q) (8 * j) (-8 * (1 + d)) ((8 * j + 8) % 80)) (.slice (some ⟨w1.heap.size, 0, none⟩) 1 1) (.slice (some ⟨u14.heap.size, 0, none⟩) 15 15)) := Lib.hid ⟨ars_block (L := arrA) HAR.out (of_decide_eq_true rfl), lns_block (L := (mvC n (18 + p) (25 + q) (8 * j) (-8 * (1 + d)) ((8 * j + 8) % 80)).lines) HLN.out (of_decide_eq_true rfl)⟩
  clear HLN HAR
  generalize mvC n (18 + p) (25 + q) (8 * j) (-8 * (1 + d)) ((8 * j + 8) % 80) = C at *
  have e0 := HO.out.at 0 _ rfl
  have e1 := HO.out.at 1 _ rfl
  go_wp2_with fail
  refine (HRUN.out _ _ _ HC.out).mono ?_
  rintro e wr ⟨ra, rc, rfl, hn1', hbr⟩
  replace HB := Lib.hid (HB.out.trans (hbr.mono HB.out.size))
  replace HO := Lib.hid (HO.out.old hbr)
  replace HC := Lib.hid (HC.out.old hbr)
  clear hbr
  have HN := Lib.hid (RwOwn.nilv hn1' (show (2 : Nat) ≤ 140737488355328 by decide) intCells_len)
  clear hn1' e0 e1 HRUN
  go_upto_region 8 with (fail)
  have hbX4 : Below wr.heap.size wr (wr.alloc (.cells #[.int .i64 1, .int .i64 0, .slice ra 2 rc, .int .i64 15] 31)) := (Below.refl _ _).alloc (Nat.le_refl _) _
  have hoX := OwnAt.new wr [.int .i64 1, .int .i64 0, .slice ra 2 rc, .int .i64 15] 31
  obtain ⟨WR, hWX⟩ : ∃ WR, wr.alloc (.cells #[.int .i64 1, .int .i64 0, .slice ra 2 rc, .int .i64 15] 31) = WR := ⟨_, rfl⟩
  rw [hWX] at hbX4 hoX ⊢
  replace HB := Lib.hid (HB.out.trans (hbX4.mono HB.out.size))
  replace HO := Lib.hid (HO.out.old hbX4)
  replace HC := Lib.hid (HC.out.old hbX4)
  replace HN := Lib.hid (HN.out.old hbX4)
  have HR := Lib.hid hoX
  clear hbX4 hWX hoX
  have e0 := HR.out.at 0 _ rfl
  have e1 := HR.out.at 1 _ rfl
  have e2 := HR.out.at 2 _ rfl
  have e3 := HR.out.at 3 _ rfl
  go_wp2_with fail
  have hbX5 : Below WR.heap.size WR (WR.alloc (.cells #[.int .i64 n, .int .i64 0] 3)) := (Below.refl _ _).alloc (Nat.le_refl _) _
  have hoX := OwnAt.new WR [.int .i64 n, .int .i64 0] 3
  obtain ⟨WI, hWX⟩ : ∃ WI, WR.alloc (.cells #[.int .i64 n, .int .i64 0] 3) = WI := ⟨_, rfl⟩
  rw [hWX] at hbX5 hoX ⊢
  replace HB := Lib.hid (HB.out.trans (hbX5.mono HB.out.size))
  replace HO := Lib.hid (HO.out.old hbX5)
  replace HC := Lib.hid (HC.out.old hbX5)
  replace HN := Lib.hid (HN.out.old hbX5)
  replace HR := Lib.hid (HR.out.old hbX5)
  have HI := Lib.hid hoX
  clear hbX5 hWX hoX
  refine (HS.out _ _ _ HN.out (ints_block (L := [n, 0]) HI.out (show (2 : Nat) ≤ 140737488355328 by decide))).mono ?_
  rintro e ws ⟨rfl, hbs⟩
  replace HB := Lib.hid (HB.out.trans (hbs.mono HB.out.size))
  replace HO := Lib.hid (HO.out.old hbs)
  replace HC := Lib.hid (HC.out.old hbs)
  replace HN := Lib.hid (HN.out.old hbs)
  replace HR := Lib.hid (HR.out.old hbs)
  replace HI := Lib.hid (HI.out.old hbs)
  clear hbs
  go_wp2_with fail
  go_ret
  exact ⟨rfl, HB.out⟩
end Go.Proofs.YtpgjfpphigeliaaGreatDoor
