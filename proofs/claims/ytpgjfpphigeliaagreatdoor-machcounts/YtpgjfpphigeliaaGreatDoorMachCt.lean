/-
  A loop that counts down: the code of MachCounts, its text, and what becomes of it. Plain functions alone.
  MachCounts: a loop that counts down tells what it counted. Conditions: an int; the library's variables lie in memory.
-/
import Derived.Test.YtpgjfpphigeliaaGreatDoorMachF
set_option linter.unusedVariables false
set_option linter.unusedSimpArgs false
namespace Go.Proofs.YtpgjfpphigeliaaGreatDoor
open Go.RowKit
set_option maxHeartbeats 4000000
set_option maxRecDepth 100000

def sumB : Bs := [115, 117, 109]
def loopB : Bs := [108, 111, 111, 112]
def endB : Bs := [101, 110, 100]
def ctS : Bs := [108, 105, 32, 120, 49, 55, 44, 32, 50, 10, 101, 99, 97, 108, 108, 10, 109, 118, 32, 120, 53, 44, 32, 120, 49, 48, 10, 106, 97, 108, 32, 115, 117, 109, 10, 108, 105, 32, 120, 49, 55, 44, 32, 49, 10, 101, 99, 97, 108, 108, 10, 108, 105, 32, 120, 49, 55, 44, 32, 51, 10, 108, 105, 32, 120, 49, 48, 44, 32, 57, 10, 101, 99, 97, 108, 108, 10, 115, 117, 109, 58, 10, 108, 105, 32, 120, 49, 48, 44, 32, 48, 10, 108, 111, 111, 112, 58, 10, 98, 101, 113, 32, 120, 53, 44, 32, 120, 48, 44, 32, 101, 110, 100, 10, 97, 100, 100, 32, 120, 49, 48, 44, 32, 120, 49, 48, 44, 32, 120, 53, 10, 97, 100, 100, 105, 32, 120, 53, 44, 32, 120, 53, 44, 32, 45, 49, 10, 106, 32, 108, 111, 111, 112, 10, 101, 110, 100, 58, 10, 114, 101, 116, 10]
def ctC : Cd := ⟨[], [lnI ⟨16, 17, 0, 0, 2, []⟩, lnI (zeroI 28), lnI ⟨15, 5, 10, 0, 0, []⟩, lnI ⟨26, 0, 0, 0, 0, sumB⟩, lnI ⟨16, 17, 0, 0, 1, []⟩, lnI (zeroI 28), lnI ⟨16, 17, 0, 0, 3, []⟩, lnI ⟨16, 10, 0, 0, 9, []⟩, lnI (zeroI 28), ⟨sumB, zeroI 0⟩, lnI ⟨16, 10, 0, 0, 0, []⟩, ⟨loopB, zeroI 0⟩, lnI ⟨21, 0, 5, 0, 0, endB⟩, lnI ⟨1, 10, 10, 5, 0, []⟩, lnI ⟨18, 5, 5, 0, -1, []⟩, lnI ⟨25, 0, 0, 0, 0, loopB⟩, ⟨endB, zeroI 0⟩, lnI (zeroI 27)]⟩
theorem ct_check : checkC ctC = (0, 0) := by kernel_rfl
theorem ct_fine : FineC ctC := by
  refine ⟨by rw [ct_check], by decide, short_of (fun x hx => ?_) (fun a ha => by cases ha)⟩
  simp only [ctC, List.mem_cons, List.not_mem_nil, or_false] at hx
  rcases hx with rfl | rfl | rfl | rfl | rfl | rfl | rfl | rfl | rfl | rfl | rfl | rfl | rfl | rfl | rfl | rfl | rfl | rfl <;> exact ⟨by decide, by decide⟩
theorem ct_i64 : ∀ x, x ∈ ctC.lines → I64 x.ins.n := by
  intro x hx
  simp only [ctC, List.mem_cons, List.not_mem_nil, or_false] at hx
  rcases hx with rfl | rfl | rfl | rfl | rfl | rfl | rfl | rfl | rfl | rfl | rfl | rfl | rfl | rfl | rfl | rfl | rfl | rfl <;> exact ⟨by decide, by decide⟩
theorem ct_wells : ∀ x, x ∈ ctC.lines → wellB x = true ∧ FitsI x.ins := by
  intro x hx
  refine ⟨ct_fine.wells x hx, ?_⟩
  simp only [ctC, List.mem_cons, List.not_mem_nil, or_false] at hx
  rcases hx with rfl | rfl | rfl | rfl | rfl | rfl | rfl | rfl | rfl | rfl | rfl | rfl | rfl | rfl | rfl | rfl | rfl | rfl <;> exact ⟨by decide, by decide⟩
theorem ct_lines : NE (linesG [] ctS) = ctC.lines.map lineC := by
  have e : ctC.lines.map lineC = [[108, 105, 32, 120, 49, 55, 44, 32, 50], [101, 99, 97, 108, 108], [109, 118, 32, 120, 53, 44, 32, 120, 49, 48], [106, 97, 108, 32, 115, 117, 109], [108, 105, 32, 120, 49, 55, 44, 32, 49], [101, 99, 97, 108, 108], [108, 105, 32, 120, 49, 55, 44, 32, 51], [108, 105, 32, 120, 49, 48, 44, 32, 57], [101, 99, 97, 108, 108], [115, 117, 109, 58], [108, 105, 32, 120, 49, 48, 44, 32, 48], [108, 111, 111, 112, 58], [98, 101, 113, 32, 120, 53, 44, 32, 120, 48, 44, 32, 101, 110, 100], [97, 100, 100, 32, 120, 49, 48, 44, 32, 120, 49, 48, 44, 32, 120, 53], [97, 100, 100, 105, 32, 120, 53, 44, 32, 120, 53, 44, 32, 45, 49], [106, 32, 108, 111, 111, 112], [101, 110, 100, 58], [114, 101, 116]] := by decide +kernel
  rw [e]
  decide +kernel
theorem ct_parse : parseA ctS = (ctC, 0, 0) := by
  refine parse_of (by decide) ?_ ct_check
  rw [ct_lines]
  exact takesB_lines ctC.lines [] [] ct_wells
def triN : Nat → Nat
  | 0 => 0
  | k + 1 => (k + 1) + triN k
theorem tri_two (k : Nat) : 2 * triN k = k * (k + 1) := by
  induction k with
  | zero => rfl
  | succ k ih =>
    unfold triN
    rw [Nat.mul_add, ih, ← Nat.add_mul, Nat.mul_comm]; rw [Nat.add_comm 2 k]
theorem tri_le (k : Nat) (h : k ≤ 200) : triN k ≤ 20100 := by
  have h1 := tri_two k
  have h2 : k * (k + 1) ≤ 200 * 201 := Nat.mul_le_mul h (by omega)
  omega
theorem ct_l : (machR ctC).list.length = 15 := by decide
/-- The loop. -/
theorem ct_loop (n : Int) (mem : Int → Int) : ∀ (j : Nat) (x : Nat → Int) (acc steps : Int), j ≤ 200 → x 5 = j → x 10 = acc → 0 ≤ acc → acc ≤ 1000000 - 200 * (j : Int) → x 0 = 0 → 0 ≤ steps → steps + 4 * j + 1 < n →
    ∃ x' : Nat → Int, runR (machR ctC) n ⟨x, mem, [], ((10 : Nat) : Int), 0, 0, [], steps⟩ = runR (machR ctC) n ⟨x', mem, [], ((14 : Nat) : Int), 0, 0, [], steps + 4 * j + 1⟩ ∧ x' 10 = acc + triN j ∧ x' 1 = x 1 ∧ x' 0 = 0 := by
  intro j
  induction j with
  | zero =>
    intro x acc steps hj h5 h10 ha hb h0 hs hn
    have hg : goesZ ⟨x, mem, [], ((10 : Nat) : Int) + 1, 0, 0, [], steps + 1⟩ ⟨21, 0, 5, 0, 0, endB⟩ = true := by
      show (x 5 == x 0) = true
      rw [h5, h0]; rfl
    refine ⟨x, ?_, by rw [h10]; show acc = acc + ((0 : Nat) : Int); omega, rfl, h0⟩
    rw [run_next rfl (show (10 : Int) < 15 by decide) (show steps < n by omega) (nx_br (pn := 10) (i := ⟨21, 0, 5, 0, 0, endB⟩) (t := 14) rfl rfl ⟨by decide, by decide⟩ true hg h0), if_pos rfl]
    rw [show steps + 4 * ((0 : Nat) : Int) + 1 = steps + 1 by omega]; rfl
  | succ j ih =>
    intro x acc steps hj h5 h10 ha hb h0 hs hn
    have hg : goesZ ⟨x, mem, [], ((10 : Nat) : Int) + 1, 0, 0, [], steps + 1⟩ ⟨21, 0, 5, 0, 0, endB⟩ = false := by
      show (x 5 == x 0) = false
      rw [h5, h0]; exact beq_eq_false_iff_ne.2 (by omega)
    have hj5 : (x 5) = (j : Int) + 1 := by rw [h5]; omega
    obtain ⟨x1, hx1⟩ : ∃ x1, putX x 10 (acc + (j + 1)) = x1 := ⟨_, rfl⟩
    obtain ⟨x2, hx2⟩ : ∃ x2, putX x1 5 (j : Int) = x2 := ⟨_, rfl⟩
    have z1 : x1 5 = (j : Int) + 1 := by rw [← hx1, putX_ne _ _ (by omega) (by omega)]; exact hj5
    have z2_5 : x2 5 = j := by rw [← hx2]; exact putX_same _ _ (by omega)
    have z2_10 : x2 10 = acc + (j + 1) := by rw [← hx2, putX_ne _ _ (by omega) (by omega), ← hx1]; exact putX_same _ _ (by omega)
    have z2_1 : x2 1 = x 1 := by rw [← hx2, putX_ne _ _ (by omega) (by omega), ← hx1, putX_ne _ _ (by omega) (by omega)]
    have z2_0 : x2 0 = 0 := by rw [← hx2]; exact putX_zero _ _ _
    obtain ⟨x', e, g1, g2, g3⟩ := ih x2 (acc + (j + 1)) (steps + 4) (by omega) z2_5 z2_10 (by omega) (by omega) z2_0 (by omega) (by omega)
    refine ⟨x', ?_, by rw [g1]; show _ = acc + (((j + 1) + triN j : Nat) : Int); omega, g2.trans z2_1, g3⟩
    rw [run_next (t := ⟨x, mem, [], ((11 : Nat) : Int), 0, 0, [], steps + 1⟩) rfl (show (10 : Int) < 15 by decide) (show steps < n by omega) (by rw [nx_br (pn := 10) (i := ⟨21, 0, 5, 0, 0, endB⟩) (t := 14) rfl rfl ⟨by decide, by decide⟩ false hg h0, if_neg (by decide)])]
    rw [run_next (t := ⟨x1, mem, [], ((12 : Nat) : Int), 0, 0, [], steps + 2⟩) rfl (show (11 : Int) < 15 by decide) (show steps + 1 < n by omega) (by
      rw [nx_reg (pn := 11) (i := ⟨1, 10, 10, 5, 0, []⟩) (t := -1) rfl rfl (of_decide_eq_true rfl) (acc + (j + 1)) (by show some (wrap64 (x 10 + x 5)) = _; rw [h10, hj5, wrap_small (by omega) (by omega)])]
      rw [show steps + 1 + 1 = steps + 2 by omega, ← hx1]; rfl)]
    rw [run_next (t := ⟨x2, mem, [], ((13 : Nat) : Int), 0, 0, [], steps + 3⟩) rfl (show (12 : Int) < 15 by decide) (show steps + 2 < n by omega) (by
      rw [nx_reg (pn := 12) (i := ⟨18, 5, 5, 0, -1, []⟩) (t := -1) rfl rfl (of_decide_eq_true rfl) (j : Int) (by show some (wrap64 (x1 5 + -1)) = _; rw [z1, wrap_small (by omega) (by omega)]; congr 1; omega)]
      rw [show steps + 2 + 1 = steps + 3 by omega, ← hx2]; rfl)]
    rw [run_next (t := ⟨x2, mem, [], ((10 : Nat) : Int), 0, 0, [], steps + 4⟩) rfl (show (13 : Int) < 15 by decide) (show steps + 3 < n by omega) (by
      rw [nx_br (pn := 13) (i := ⟨25, 0, 0, 0, 0, loopB⟩) (t := 10) rfl rfl ⟨by decide, by decide⟩ true rfl z2_0, if_pos rfl]
      rw [show steps + 3 + 1 = steps + 4 by omega]; rfl)]
    rw [e, show steps + 4 + 4 * (j : Int) + 1 = steps + 4 * ((j + 1 : Nat) : Int) + 1 by omega]
theorem ct_run (k : Nat) (hk : k ≤ 200) : (runC ctC [(k : Int)] 2000).tells = (1, 9, [(triN k : Int)], 12 + 4 * (k : Int)) := by
  rw [runC_ok ct_check, startS_is]
  rw [run_next (t := ⟨putX spX 17 2, zeroM, [(k : Int)], ((1 : Nat) : Int), 0, 0, [], 1⟩) rfl (show (0 : Int) < 15 by decide) (of_decide_eq_true rfl) (nx_reg (x := spX) (pn := 0) (i := ⟨16, 17, 0, 0, 2, []⟩) (t := -1) rfl rfl (of_decide_eq_true rfl) 2 rfl)]
  rw [run_next (t := ⟨putX (putX spX 17 2) 10 k, zeroM, [], ((2 : Nat) : Int), 0, 0, [], 2⟩) rfl (show (1 : Int) < 15 by decide) (of_decide_eq_true rfl) (nx_read (x := putX spX 17 2) (pn := 1) (i := zeroI 28) (t := -1) rfl rfl rfl rfl)]
  rw [run_next (t := ⟨putX (putX (putX spX 17 2) 10 k) 5 k, zeroM, [], ((3 : Nat) : Int), 0, 0, [], 3⟩) rfl (show (2 : Int) < 15 by decide) (of_decide_eq_true rfl) (nx_reg (x := putX (putX spX 17 2) 10 k) (pn := 2) (i := ⟨15, 5, 10, 0, 0, []⟩) (t := -1) rfl rfl (of_decide_eq_true rfl) k rfl)]
  rw [run_next (t := ⟨putX (putX (putX (putX spX 17 2) 10 k) 5 k) 1 16, zeroM, [], ((9 : Nat) : Int), 0, 0, [], 4⟩) rfl (show (3 : Int) < 15 by decide) (of_decide_eq_true rfl) (nx_jal (x := putX (putX (putX spX 17 2) 10 k) 5 k) (pn := 3) (i := ⟨26, 0, 0, 0, 0, sumB⟩) (t := 9) rfl rfl rfl)]
  rw [run_next (t := ⟨putX (putX (putX (putX (putX spX 17 2) 10 k) 5 k) 1 16) 10 0, zeroM, [], ((10 : Nat) : Int), 0, 0, [], 5⟩) rfl (show (9 : Int) < 15 by decide) (of_decide_eq_true rfl) (nx_reg (x := putX (putX (putX (putX spX 17 2) 10 k) 5 k) 1 16) (pn := 9) (i := ⟨16, 10, 0, 0, 0, []⟩) (t := -1) rfl rfl (of_decide_eq_true rfl) 0 rfl)]
  obtain ⟨x, e, g1, g2, g3⟩ := ct_loop 2000 zeroM k (putX (putX (putX (putX (putX spX 17 2) 10 k) 5 k) 1 16) 10 0) 0 5 hk rfl rfl (by decide) (by omega) rfl (by decide) (by omega)
  have h1 : x 1 = 4 * ((4 : Nat) : Int) := g2
  have hT := tri_le k hk
  rw [e]
  obtain ⟨T, hT2⟩ : ∃ T, (triN k : Int) = T := ⟨_, rfl⟩
  rw [hT2] at g1 ⊢
  obtain ⟨y1, hy1⟩ : ∃ y1, putX x 17 1 = y1 := ⟨_, rfl⟩
  obtain ⟨y2, hy2⟩ : ∃ y2, putX y1 17 3 = y2 := ⟨_, rfl⟩
  obtain ⟨y3, hy3⟩ : ∃ y3, putX y2 10 9 = y3 := ⟨_, rfl⟩
  have w1 : y1 17 = 1 := by rw [← hy1]; exact putX_same _ _ (by omega)
  have w2 : y1 10 = T := by rw [← hy1, putX_ne _ _ (by omega) (by omega), g1]; omega
  have w3 : y1 0 = 0 := by rw [← hy1]; exact putX_zero _ _ _
  have w4 : y3 17 = 3 := by rw [← hy3, putX_ne _ _ (by omega) (by omega), ← hy2]; exact putX_same _ _ (by omega)
  have w5 : y3 10 = 9 := by rw [← hy3]; exact putX_same _ _ (by omega)
  rw [run_next (t := ⟨x, zeroM, [], ((4 : Nat) : Int), 0, 0, [], 5 + 4 * (k : Int) + 2⟩) rfl (show (14 : Int) < 15 by decide) (show 5 + 4 * (k : Int) + 1 < 2000 by omega) (by
    rw [nx_ret (x := x) (pn := 14) (i := zeroI 27) (t := -1) rfl rfl rfl 4 h1 (by decide) (by decide) rfl g3]
    rw [show 5 + 4 * (k : Int) + 1 + 1 = 5 + 4 * (k : Int) + 2 by omega])]
  rw [run_next (t := ⟨y1, zeroM, [], ((5 : Nat) : Int), 0, 0, [], 5 + 4 * (k : Int) + 3⟩) rfl (show (4 : Int) < 15 by decide) (show 5 + 4 * (k : Int) + 2 < 2000 by omega) (by
    rw [nx_reg (x := x) (pn := 4) (i := ⟨16, 17, 0, 0, 1, []⟩) (t := -1) rfl rfl (of_decide_eq_true rfl) 1 rfl]
    rw [show 5 + 4 * (k : Int) + 2 + 1 = 5 + 4 * (k : Int) + 3 by omega, ← hy1]; rfl)]
  rw [run_next (t := ⟨y1, zeroM, [], ((6 : Nat) : Int), 0, 0, [T], 5 + 4 * (k : Int) + 4⟩) rfl (show (5 : Int) < 15 by decide) (show 5 + 4 * (k : Int) + 3 < 2000 by omega) (by
    rw [nx_tell (x := y1) (pn := 5) (i := zeroI 28) (t := -1) rfl rfl rfl w1 w3, w2]
    rw [show 5 + 4 * (k : Int) + 3 + 1 = 5 + 4 * (k : Int) + 4 by omega]; rfl)]
  rw [run_next (t := ⟨y2, zeroM, [], ((7 : Nat) : Int), 0, 0, [T], 5 + 4 * (k : Int) + 5⟩) rfl (show (6 : Int) < 15 by decide) (show 5 + 4 * (k : Int) + 4 < 2000 by omega) (by
    rw [nx_reg (x := y1) (pn := 6) (i := ⟨16, 17, 0, 0, 3, []⟩) (t := -1) rfl rfl (of_decide_eq_true rfl) 3 rfl]
    rw [show 5 + 4 * (k : Int) + 4 + 1 = 5 + 4 * (k : Int) + 5 by omega, ← hy2]; rfl)]
  rw [run_next (t := ⟨y3, zeroM, [], ((8 : Nat) : Int), 0, 0, [T], 5 + 4 * (k : Int) + 6⟩) rfl (show (7 : Int) < 15 by decide) (show 5 + 4 * (k : Int) + 5 < 2000 by omega) (by
    rw [nx_reg (x := y2) (pn := 7) (i := ⟨16, 10, 0, 0, 9, []⟩) (t := -1) rfl rfl (of_decide_eq_true rfl) 9 rfl]
    rw [show 5 + 4 * (k : Int) + 5 + 1 = 5 + 4 * (k : Int) + 6 by omega, ← hy3]; rfl)]
  refine run_last rfl (show (8 : Int) < 15 by decide) (show 5 + 4 * (k : Int) + 6 < 2000 by omega) ?_ (show (1 : Int) ≠ 0 by decide)
  rw [nx_exit (x := y3) (pn := 8) (i := zeroI 28) (t := -1) rfl rfl rfl w4, w5]
  rw [show 5 + 4 * (k : Int) + 6 + 1 = 12 + 4 * (k : Int) by omega]
end Go.Proofs.YtpgjfpphigeliaaGreatDoor

namespace Go.Proofs.YtpgjfpphigeliaaGreatDoor
open Go.RowKit
set_option maxHeartbeats 4000000
set_option maxRecDepth 100000

theorem mcounts_any (n : Int) (hn : I64 n) (w : World) (hl : ILib w) :
    Calls Tryz.prog 5 #[.int .i64 n] w fun e w' => e = .returned (.bool true) ∧ Below w.heap.size w w' := by
  obtain ⟨k0, k1⟩ := ipick_range n 201 (by decide)
  have HAW := Lib.hid (jawake_any w hl)
  have HPK := Lib.hid (fun w => jpick_any n 201 hn (by decide) (by decide) w)
  obtain ⟨k, hk⟩ : ∃ k : Nat, ipick n 201 = k := ⟨(ipick n 201).toNat, by omega⟩
  rw [hk] at HPK k0 k1
  clear hk
  have hr := ct_run k (by omega)
  have h2 := tri_two k
  have h3 := tri_le k (by omega)
  obtain ⟨z, hz⟩ : ∃ z : Int, ((k : Int) * ((k : Int) + 1)) = z := ⟨_, rfl⟩
  have h4 : (2 * triN k : Int) = z := by rw [← hz]; have := congrArg (fun j : Nat => (j : Int)) h2; simpa using this
  have hq : z / 2 = triN k := by omega
  have hz0 : 0 ≤ z := by omega
  have hz1 : z ≤ 40200 := by omega
  have hzt : z.tdiv 2 = triN k := by rw [Int.tdiv_eq_ediv_of_nonneg hz0]; exact hq
  have HP : Hid (∀ w', ILib w' → Calls Tryz.prog 18 #[.string ⟨([108, 105, 32, 120, 49, 55, 44, 32, 50, 10, 101, 99, 97, 108, 108, 10, 109, 118, 32, 120, 53, 44, 32, 120, 49, 48, 10, 106, 97, 108, 32, 115, 117, 109, 10, 108, 105, 32, 120, 49, 55, 44, 32, 49, 10, 101, 99, 97, 108, 108, 10, 108, 105, 32, 120, 49, 55, 44, 32, 51, 10, 108, 105, 32, 120, 49, 48, 44, 32, 57, 10, 101, 99, 97, 108, 108, 10, 115, 117, 109, 58, 10, 108, 105, 32, 120, 49, 48, 44, 32, 48, 10, 108, 111, 111, 112, 58, 10, 98, 101, 113, 32, 120, 53, 44, 32, 120, 48, 44, 32, 101, 110, 100, 10, 97, 100, 100, 32, 120, 49, 48, 44, 32, 120, 49, 48, 44, 32, 120, 53, 10, 97, 100, 100, 105, 32, 120, 53, 44, 32, 120, 53, 44, 32, 45, 49, 10, 106, 32, 108, 111, 111, 112, 10, 101, 110, 100, 58, 10, 114, 101, 116, 10]).toArray⟩] w' fun e w'' => ∃ aa ca al cl, e = .returned (.tuple #[.agg #[.slice aa 0 ca, .slice al 18 cl], .int .i64 0, .int .i64 0]) ∧ CodeAt w'' ctC (.slice aa 0 ca) (.slice al 18 cl) ∧ Below w'.heap.size w' w'') := by
    intro w' h
    refine (codeParse_any ctS (by decide) w' h).mono ?_
    rw [ct_parse]
    rintro e w2 ⟨va, vl, h1, h2, _, h4⟩
    obtain ⟨aa, ca, rfl⟩ := RwAt.shape h2.1
    obtain ⟨al, cl, rfl⟩ := RwAt.shape h2.2
    exact ⟨aa, ca, al, cl, h1, h2, h4⟩
  have HRUN := Lib.hid (fun va vl v w hc hi => run_tells ctC ct_fine ct_i64 [(k : Int)] (fun z hz => by rw [List.mem_singleton.1 hz]; exact ⟨by omega, by omega⟩) 2000 (by decide) (by decide) 1 9 (12 + 4 * (k : Int)) [(triN k : Int)] hr va vl v w hc hi)
  have HS := Lib.hid (fun v1 v2 w h1 h2 => jsame_eq 1 9 (12 + 4 * (k : Int)) [(triN k : Int)] v1 v2 w h1 h2)
  have HL := Lib.hid hl
  obtain ⟨T, hT⟩ : ∃ T, (triN k : Int) = T := ⟨_, rfl⟩
  rw [hT] at HRUN HS hq hzt
  have hT1 : 0 ≤ T ∧ T ≤ 20100 := by omega
  clear hl hr hn h2 h3 h4 hT
  generalize ctC = C at *
  go_enter Tryz.func5, Tryz.ntmps5
  go_wp2_with fail
  refine (HAW.out).mono ?_
  rintro e w1 ⟨rfl, hb1'⟩
  have HB := Lib.hid hb1'
  replace HL := Lib.hid (HL.out.old hb1')
  clear hb1' HAW
  go_wp2_with fail
  refine (HP.out _ HL.out).mono ?_
  rintro e w2 ⟨aa, ca, al, cl, rfl, hc2, hb2⟩
  replace HB := Lib.hid (HB.out.trans (hb2.mono HB.out.size))
  clear HL
  clear hb2
  have HC := Lib.hid hc2
  clear hc2 HP
  go_upto_region 3 with (fail)
  have hbX1 : Below w2.heap.size w2 (w2.alloc (.cells #[.slice aa 0 ca, .slice al 18 cl] 27)) := (Below.refl _ _).alloc (Nat.le_refl _) _
  have hoX := OwnAt.new w2 [.slice aa 0 ca, .slice al 18 cl] 27
  obtain ⟨WC, hWX⟩ : ∃ WC, w2.alloc (.cells #[.slice aa 0 ca, .slice al 18 cl] 27) = WC := ⟨_, rfl⟩
  rw [hWX] at hbX1 hoX ⊢
  replace HB := Lib.hid (HB.out.trans (hbX1.mono HB.out.size))
  replace HC := Lib.hid (HC.out.old hbX1)
  have HO := Lib.hid hoX
  clear hbX1 hWX hoX
  go_wp2_with fail
  refine (HPK.out _).mono ?_
  rintro e w3 ⟨rfl, rfl⟩
  clear HPK
  have d0 := HO.out.at 0 _ rfl
  have d1 := HO.out.at 1 _ rfl
  have dl := HO.out.lt
  go_wp2_with fail
  have hbX2 : Below WC.heap.size WC (WC.alloc (.cells #[.int .i64 k] 3)) := (Below.refl _ _).alloc (Nat.le_refl _) _
  have hoX := OwnAt.new WC [.int .i64 k] 3
  obtain ⟨WI, hWX⟩ : ∃ WI, WC.alloc (.cells #[.int .i64 k] 3) = WI := ⟨_, rfl⟩
  rw [hWX] at hbX2 hoX ⊢
  replace HB := Lib.hid (HB.out.trans (hbX2.mono HB.out.size))
  replace HC := Lib.hid (HC.out.old hbX2)
  replace HO := Lib.hid (HO.out.old hbX2)
  have HI := Lib.hid hoX
  clear hbX2 hWX hoX
  clear d0 d1 dl
  have hinp : InpAt WI [(k : Int)] (.slice (some ⟨WC.heap.size, 0, none⟩) 1 1) := ⟨ints_block (L := [(k : Int)]) HI.out (show (1 : Nat) ≤ 140737488355328 by decide), ⟨_, _, _, rfl, Nat.le_refl _, by decide⟩⟩
  refine (HRUN.out _ _ _ _ HC.out hinp).mono ?_
  rintro e wr ⟨ra, rc, rfl, hn1', hbr⟩
  replace HB := Lib.hid (HB.out.trans (hbr.mono HB.out.size))
  clear HC
  clear HO
  clear HI
  clear hbr hinp
  have HN := Lib.hid (RwOwn.nilv hn1' (show (1 : Nat) ≤ 140737488355328 by decide) intCells_len)
  clear hn1' HRUN
  go_upto_region 5 with (fail)
  have hbX3 : Below wr.heap.size wr (wr.alloc (.cells #[.int .i64 1, .int .i64 9, .slice ra 1 rc, .int .i64 (12 + 4 * (k : Int))] 31)) := (Below.refl _ _).alloc (Nat.le_refl _) _
  have hoX := OwnAt.new wr [.int .i64 1, .int .i64 9, .slice ra 1 rc, .int .i64 (12 + 4 * (k : Int))] 31
  obtain ⟨WR, hWX⟩ : ∃ WR, wr.alloc (.cells #[.int .i64 1, .int .i64 9, .slice ra 1 rc, .int .i64 (12 + 4 * (k : Int))] 31) = WR := ⟨_, rfl⟩
  rw [hWX] at hbX3 hoX ⊢
  replace HB := Lib.hid (HB.out.trans (hbX3.mono HB.out.size))
  replace HN := Lib.hid (HN.out.old hbX3)
  have HR := Lib.hid hoX
  clear hbX3 hWX hoX
  have d0 := HR.out.at 0 _ rfl
  have d1 := HR.out.at 1 _ rfl
  have d2 := HR.out.at 2 _ rfl
  have d3 := HR.out.at 3 _ rfl
  go_wp2_with fail
  have hoI := OwnAt.new WR [.int .i64 T] 3
  have hbI : Below WR.heap.size WR (WR.alloc (.cells #[.int .i64 T] 3)) := (Below.refl _ _).alloc (Nat.le_refl _) _
  refine (HS.out _ _ _ (HN.out.old hbI) (ints_block (L := [T]) hoI (show (1 : Nat) ≤ 140737488355328 by decide))).mono ?_
  rintro e ws ⟨rfl, hbs⟩
  replace HB := Lib.hid ((HB.out.trans (hbI.mono HB.out.size)).trans (hbs.mono (HB.out.trans (hbI.mono HB.out.size)).size))
  clear hbs hbI hoI
  go_wp2_with fail
  go_ret
  exact ⟨rfl, HB.out⟩
end Go.Proofs.YtpgjfpphigeliaaGreatDoor
