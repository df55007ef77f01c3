/-
  Zero: the code of MachZero, and what becomes of it. Plain functions alone.
  MachZero: its code is laid out, in whatever order. Condition: the instruction lies in memory.
  MachZero: x0 is 0, whatever is done to it. Conditions: ints; the library's variables lie in memory.
-/
import Derived.Test.YtpgjfpphigeliaaGreatDoorMachF
set_option linter.unusedVariables false
set_option linter.unusedSimpArgs false
namespace Go.Proofs.YtpgjfpphigeliaaGreatDoor
open Go.RowKit
set_option maxHeartbeats 4000000
set_option maxRecDepth 100000

def zeA : List Ar := [⟨[97], 1⟩]
def zeL (n : Int) (i : Ins) : List Ln := [lnI ⟨16, 5, 0, 0, n, []⟩, lnI ⟨20, 0, 2, 5, -8, []⟩, lnI i, lnI ⟨15, 10, 0, 0, 0, []⟩, lnI ⟨16, 17, 0, 0, 3, []⟩, lnI (zeroI 28)]
def zeC (n : Int) (i : Ins) : Cd := ⟨zeA, zeL n i⟩
theorem ze_ok (n : Int) (i : Ins) (hn : I64 n) (hi : rightI i = true) (hk : knownB (zeC n i) i = true) (hin : I64 i.n) : (checkC (zeC n i) = (0, 0) ∧ FineC (zeC n i)) ∧ ∀ x, x ∈ (zeC n i).lines → I64 x.ins.n := by
  refine ⟨fine_of (by decide) (by decide) (by decide) (of_decide_eq_true rfl) (fun x hx => ?_), fun x hx => ?_⟩
  · simp only [zeL, List.mem_cons, List.not_mem_nil, or_false] at hx
    rcases hx with rfl | rfl | rfl | rfl | rfl | rfl
    · exact ⟨rfl, right_li ⟨by decide, by decide⟩, known_none (of_decide_eq_true rfl) rfl⟩
    · exact ⟨rfl, right_sd ⟨by decide, by decide⟩ ⟨by decide, by decide⟩ ⟨by decide, by decide⟩, known_none (of_decide_eq_true rfl) rfl⟩
    · exact ⟨rfl, hi, hk⟩
    · exact ⟨rfl, right_mv ⟨by decide, by decide⟩ ⟨by decide, by decide⟩, known_none (of_decide_eq_true rfl) rfl⟩
    · exact ⟨rfl, right_li ⟨by decide, by decide⟩, known_none (of_decide_eq_true rfl) rfl⟩
    · exact ⟨rfl, right_call, known_none (of_decide_eq_true rfl) rfl⟩
  · simp only [zeC, zeL, List.mem_cons, List.not_mem_nil, or_false] at hx
    rcases hx with rfl | rfl | rfl | rfl | rfl | rfl <;> first | exact hn | exact hin | exact ⟨of_decide_eq_true rfl, of_decide_eq_true rfl⟩
theorem ze_ar (n : Int) (i : Ins) : (machR (zeC n i)).arrays = 1 := rfl
def zeM (n : Int) : Int → Int := updZ zeroM 4096 n
theorem ze_num : numberZ (wrap64 (1073741824 + -8)) 1 = 4096 := by kernel_rfl
theorem ze_num2 (n : Int) : numberZ (wrap64 (putX spX 5 n (2 : Int).toNat + -8)) 1 = 4096 := ze_num
theorem ze_t1 (n : Int) (i : Ins) : (machR (zeC n i)).list[1]? = some ⟨20, 0, 2, 5, -8, []⟩ := rfl
theorem ze_t2 (n : Int) (i : Ins) : (machR (zeC n i)).tos[1]? = some (-1) := rfl
theorem ze_t3 (n : Int) (i : Ins) : numberZ (wrap64 (putX spX 5 n (⟨20, 0, 2, 5, -8, []⟩ : Ins).a.toNat + (⟨20, 0, 2, 5, -8, []⟩ : Ins).n)) (machR (zeC n i)).arrays = 4096 := by rw [ze_ar]; exact ze_num2 n
theorem ze_t4 (n : Int) : putX spX 5 n 0 = 0 := rfl
theorem ze_t5 (n : Int) (i : Ins) : numberZ (wrap64 (putX spX 5 n (⟨19, 0, 2, 0, -8, []⟩ : Ins).a.toNat + (⟨19, 0, 2, 0, -8, []⟩ : Ins).n)) (machR (zeC n i)).arrays = 4096 := by rw [ze_ar]; exact ze_num2 n
theorem ze_t6 (n : Int) : (machR (zeC n ⟨19, 0, 2, 0, -8, []⟩)).list[2]? = some ⟨19, 0, 2, 0, -8, []⟩ := rfl
theorem ze_t7 (n : Int) : (machR (zeC n ⟨19, 0, 2, 0, -8, []⟩)).tos[2]? = some (-1) := rfl
theorem ze_run (n : Int) (i : Ins) (hok : checkC (zeC n i) = (0, 0)) (v : Int) (hv : nextZ (machR (zeC n i)) ⟨putX spX 5 n, zeM n, [], ((2 : Nat) : Int), 0, 0, [], 2⟩ = ⟨putX (putX spX 5 n) 0 v, zeM n, [], ((3 : Nat) : Int), 0, 0, [], 3⟩) : (runC (zeC n i) [] 9).tells = (1, 0, [], 6) := by
  rw [runC_ok hok, startS_is]
  rw [run_next (t := ⟨putX spX 5 n, zeroM, [], ((1 : Nat) : Int), 0, 0, [], 1⟩) rfl (show (0 : Int) < 6 by decide) (of_decide_eq_true rfl) (nx_reg (pn := 0) (i := ⟨16, 5, 0, 0, n, []⟩) (t := -1) rfl rfl (of_decide_eq_true rfl) n rfl)]
  rw [run_next (t := ⟨putX spX 5 n, zeM n, [], ((2 : Nat) : Int), 0, 0, [], 2⟩) rfl (show (1 : Int) < 6 by decide) (of_decide_eq_true rfl) (by rw [nx_sd (pn := 1) (ze_t1 n i) (ze_t2 n i) rfl 4096 (ze_t3 n i) (by decide) (ze_t4 n)]; rfl)]
  rw [run_next rfl (show (2 : Int) < 6 by decide) (of_decide_eq_true rfl) hv]
  rw [run_next (t := ⟨putX (putX (putX spX 5 n) 0 v) 10 0, zeM n, [], ((4 : Nat) : Int), 0, 0, [], 4⟩) rfl (show (3 : Int) < 6 by decide) (of_decide_eq_true rfl) (nx_reg (x := putX (putX spX 5 n) 0 v) (pn := 3) (i := ⟨15, 10, 0, 0, 0, []⟩) (t := -1) rfl rfl (of_decide_eq_true rfl) 0 rfl)]
  rw [run_next (t := ⟨putX (putX (putX (putX spX 5 n) 0 v) 10 0) 17 3, zeM n, [], ((5 : Nat) : Int), 0, 0, [], 5⟩) rfl (show (4 : Int) < 6 by decide) (of_decide_eq_true rfl) (nx_reg (pn := 4) (i := ⟨16, 17, 0, 0, 3, []⟩) (t := -1) rfl rfl (of_decide_eq_true rfl) 3 rfl)]
  exact run_last rfl (show (5 : Int) < 6 by decide) (of_decide_eq_true rfl) (nx_exit (pn := 5) (i := zeroI 28) (t := -1) rfl rfl rfl rfl) (by decide)
theorem ze_0 (n : Int) (hn : I64 n) : ((checkC (zeC n ⟨16, 0, 0, 0, n, []⟩) = (0, 0) ∧ FineC (zeC n ⟨16, 0, 0, 0, n, []⟩)) ∧ ∀ x, x ∈ (zeC n ⟨16, 0, 0, 0, n, []⟩).lines → I64 x.ins.n) ∧ (runC (zeC n ⟨16, 0, 0, 0, n, []⟩) [] 9).tells = (1, 0, [], 6) := by
  have h := ze_ok n ⟨16, 0, 0, 0, n, []⟩ hn (right_li ⟨by decide, by decide⟩) (known_none (of_decide_eq_true rfl) rfl) hn
  exact ⟨h, ze_run n ⟨16, 0, 0, 0, n, []⟩ h.1.1 (n) (nx_reg (x := putX spX 5 n) (pn := 2) (i := ⟨16, 0, 0, 0, n, []⟩) (t := -1) rfl rfl (of_decide_eq_true rfl) (n) rfl)⟩
theorem ze_1 (n : Int) (hn : I64 n) : ((checkC (zeC n ⟨15, 0, 5, 0, 0, []⟩) = (0, 0) ∧ FineC (zeC n ⟨15, 0, 5, 0, 0, []⟩)) ∧ ∀ x, x ∈ (zeC n ⟨15, 0, 5, 0, 0, []⟩).lines → I64 x.ins.n) ∧ (runC (zeC n ⟨15, 0, 5, 0, 0, []⟩) [] 9).tells = (1, 0, [], 6) := by
  have h := ze_ok n ⟨15, 0, 5, 0, 0, []⟩ hn (right_mv ⟨by decide, by decide⟩ ⟨by decide, by decide⟩) (known_none (of_decide_eq_true rfl) rfl) ⟨by decide, by decide⟩
  exact ⟨h, ze_run n ⟨15, 0, 5, 0, 0, []⟩ h.1.1 (n) (nx_reg (x := putX spX 5 n) (pn := 2) (i := ⟨15, 0, 5, 0, 0, []⟩) (t := -1) rfl rfl (of_decide_eq_true rfl) (n) rfl)⟩
theorem ze_2 (n : Int) (hn : I64 n) : ((checkC (zeC n ⟨1, 0, 5, 5, 0, []⟩) = (0, 0) ∧ FineC (zeC n ⟨1, 0, 5, 5, 0, []⟩)) ∧ ∀ x, x ∈ (zeC n ⟨1, 0, 5, 5, 0, []⟩).lines → I64 x.ins.n) ∧ (runC (zeC n ⟨1, 0, 5, 5, 0, []⟩) [] 9).tells = (1, 0, [], 6) := by
  have h := ze_ok n ⟨1, 0, 5, 5, 0, []⟩ hn (right_two ⟨by decide, by decide⟩ ⟨by decide, by decide⟩ ⟨by decide, by decide⟩ ⟨by decide, by decide⟩) (known_none (of_decide_eq_true rfl) rfl) ⟨by decide, by decide⟩
  exact ⟨h, ze_run n ⟨1, 0, 5, 5, 0, []⟩ h.1.1 (wrap64 (n + n)) (nx_reg (x := putX spX 5 n) (pn := 2) (i := ⟨1, 0, 5, 5, 0, []⟩) (t := -1) rfl rfl (of_decide_eq_true rfl) (wrap64 (n + n)) rfl)⟩
theorem ze_3 (n : Int) (hn : I64 n) : ((checkC (zeC n ⟨19, 0, 2, 0, -8, []⟩) = (0, 0) ∧ FineC (zeC n ⟨19, 0, 2, 0, -8, []⟩)) ∧ ∀ x, x ∈ (zeC n ⟨19, 0, 2, 0, -8, []⟩).lines → I64 x.ins.n) ∧ (runC (zeC n ⟨19, 0, 2, 0, -8, []⟩) [] 9).tells = (1, 0, [], 6) := by
  have h := ze_ok n ⟨19, 0, 2, 0, -8, []⟩ hn (right_ld ⟨by decide, by decide⟩ ⟨by decide, by decide⟩ ⟨by decide, by decide⟩) (known_none (of_decide_eq_true rfl) rfl) ⟨by decide, by decide⟩
  exact ⟨h, ze_run n ⟨19, 0, 2, 0, -8, []⟩ h.1.1 (zeM n 4096) (by rw [nx_ld (pn := 2) (ze_t6 n) (ze_t7 n) rfl 4096 (ze_t5 n _) (by decide)]; rfl)⟩
theorem ze_4 (n : Int) (hn : I64 n) : ((checkC (zeC n ⟨18, 0, 5, 0, 1, []⟩) = (0, 0) ∧ FineC (zeC n ⟨18, 0, 5, 0, 1, []⟩)) ∧ ∀ x, x ∈ (zeC n ⟨18, 0, 5, 0, 1, []⟩).lines → I64 x.ins.n) ∧ (runC (zeC n ⟨18, 0, 5, 0, 1, []⟩) [] 9).tells = (1, 0, [], 6) := by
  have h := ze_ok n ⟨18, 0, 5, 0, 1, []⟩ hn (right_addi ⟨by decide, by decide⟩ ⟨by decide, by decide⟩ ⟨by decide, by decide⟩) (known_none (of_decide_eq_true rfl) rfl) ⟨by decide, by decide⟩
  exact ⟨h, ze_run n ⟨18, 0, 5, 0, 1, []⟩ h.1.1 (wrap64 (n + 1)) (nx_reg (x := putX spX 5 n) (pn := 2) (i := ⟨18, 0, 5, 0, 1, []⟩) (t := -1) rfl rfl (of_decide_eq_true rfl) (wrap64 (n + 1)) rfl)⟩
theorem ze_5 (n : Int) (hn : I64 n) : ((checkC (zeC n ⟨17, 0, 0, 0, 0, [97]⟩) = (0, 0) ∧ FineC (zeC n ⟨17, 0, 0, 0, 0, [97]⟩)) ∧ ∀ x, x ∈ (zeC n ⟨17, 0, 0, 0, 0, [97]⟩).lines → I64 x.ins.n) ∧ (runC (zeC n ⟨17, 0, 0, 0, 0, [97]⟩) [] 9).tells = (1, 0, [], 6) := by
  have h := ze_ok n ⟨17, 0, 0, 0, 0, [97]⟩ hn (right_la ⟨by decide, by decide⟩ (by decide)) (rfl) ⟨by decide, by decide⟩
  exact ⟨h, ze_run n ⟨17, 0, 0, 0, 0, [97]⟩ h.1.1 (65536) (nx_reg (x := putX spX 5 n) (pn := 2) (i := ⟨17, 0, 0, 0, 0, [97]⟩) (t := -1) rfl rfl (of_decide_eq_true rfl) (65536) rfl)⟩
theorem ze_6 (n : Int) (hn : I64 n) : ((checkC (zeC n ⟨12, 0, 0, 5, 0, []⟩) = (0, 0) ∧ FineC (zeC n ⟨12, 0, 0, 5, 0, []⟩)) ∧ ∀ x, x ∈ (zeC n ⟨12, 0, 0, 5, 0, []⟩).lines → I64 x.ins.n) ∧ (runC (zeC n ⟨12, 0, 0, 5, 0, []⟩) [] 9).tells = (1, 0, [], 6) := by
  have h := ze_ok n ⟨12, 0, 0, 5, 0, []⟩ hn (right_two ⟨by decide, by decide⟩ ⟨by decide, by decide⟩ ⟨by decide, by decide⟩ ⟨by decide, by decide⟩) (known_none (of_decide_eq_true rfl) rfl) ⟨by decide, by decide⟩
  exact ⟨h, ze_run n ⟨12, 0, 0, 5, 0, []⟩ h.1.1 (flagZ (lessZ 0 n)) (nx_reg (x := putX spX 5 n) (pn := 2) (i := ⟨12, 0, 0, 5, 0, []⟩) (t := -1) rfl rfl (of_decide_eq_true rfl) (flagZ (lessZ 0 n)) rfl)⟩
end Go.Proofs.YtpgjfpphigeliaaGreatDoor

namespace Go.Proofs.YtpgjfpphigeliaaGreatDoor
open Go.RowKit
set_option maxHeartbeats 8000000
set_option maxRecDepth 100000

structure VJZ3 (T6 : Nat) (n io ds ia ib ni : Int) (st : ByteArray) (W : World) (L : Nat → Bool) (TA : Nat) (TL : Nat) (TC : Nat) (z22 z23 z24 z25 z26 z27 z28 z29 z30 z31 z32 z33 z34 z35 z36 z37 z38 z7 : Value) (wx : World) : Prop where
  ord : L 18 = true → ∀ j, j < 18 → L j = true
  p15_4 : L 15 = true → L 4 = true
  p15_6 : L 15 = true → L 6 = true
  p15_8 : L 15 = true → L 8 = true
  p15_10 : L 15 = true → L 10 = true
  p15_12 : L 15 = true → L 12 = true
  p15_14 : L 15 = true → L 14 = true
  p16_1 : L 16 = true → L 1 = true
  p16_15 : L 16 = true → L 15 = true
  p18_1 : L 18 = true → L 1 = true
  p18_15 : L 18 = true → L 15 = true
  p18_17 : L 18 = true → L 17 = true
  c0 : L 0 = true → z22 = .agg #[.string ⟨#[97]⟩, .int .i64 1]
  c1 : L 1 = true → z23 = .slice (some ⟨TA, 0, none⟩) 1 1
  c2 : L 2 = true → z24 = .int .i64 n
  c3 : L 3 = true → z25 = .agg #[.int .i64 16, .int .i64 5, .int .i64 0, .int .i64 0, .int .i64 n, .string ⟨#[]⟩]
  c4 : L 4 = true → z26 = .agg #[.string ⟨#[]⟩, .int .i64 16, .int .i64 5, .int .i64 0, .int .i64 0, .int .i64 n, .string ⟨#[]⟩]
  c5 : L 5 = true → z27 = .agg #[.int .i64 20, .int .i64 0, .int .i64 2, .int .i64 5, .int .i64 (-8), .string ⟨#[]⟩]
  c6 : L 6 = true → z28 = .agg #[.string ⟨#[]⟩, .int .i64 20, .int .i64 0, .int .i64 2, .int .i64 5, .int .i64 (-8), .string ⟨#[]⟩]
  c7 : L 7 = true → z29 = .agg #[.int .i64 io, .int .i64 ds, .int .i64 ia, .int .i64 ib, .int .i64 ni, .string st]
  c8 : L 8 = true → z30 = .agg #[.string ⟨#[]⟩, .int .i64 io, .int .i64 ds, .int .i64 ia, .int .i64 ib, .int .i64 ni, .string st]
  c9 : L 9 = true → z31 = .agg #[.int .i64 15, .int .i64 10, .int .i64 0, .int .i64 0, .int .i64 0, .string ⟨#[]⟩]
  c10 : L 10 = true → z32 = .agg #[.string ⟨#[]⟩, .int .i64 15, .int .i64 10, .int .i64 0, .int .i64 0, .int .i64 0, .string ⟨#[]⟩]
  c11 : L 11 = true → z33 = .agg #[.int .i64 16, .int .i64 17, .int .i64 0, .int .i64 0, .int .i64 3, .string ⟨#[]⟩]
  c12 : L 12 = true → z34 = .agg #[.string ⟨#[]⟩, .int .i64 16, .int .i64 17, .int .i64 0, .int .i64 0, .int .i64 3, .string ⟨#[]⟩]
  c13 : L 13 = true → z35 = .agg #[.int .i64 28, .int .i64 0, .int .i64 0, .int .i64 0, .int .i64 0, .string ⟨#[]⟩]
  c14 : L 14 = true → z36 = .agg #[.string ⟨#[]⟩, .int .i64 28, .int .i64 0, .int .i64 0, .int .i64 0, .int .i64 0, .string ⟨#[]⟩]
  c15 : L 15 = true → z37 = .slice (some ⟨TL, 0, none⟩) 6 6
  c16 : L 16 = true → z38 = .agg #[.slice (some ⟨TA, 0, none⟩) 1 1, .slice (some ⟨TL, 0, none⟩) 6 6]
  c17 : L 17 = true → z7 = .pointer (some ⟨TC, 0, none⟩)
  fr : L 18 = false → Below W.heap.size W wx
  bTA : L 1 = true → L 18 = false → OwnAt wx TA [.string ⟨#[97]⟩, .int .i64 1] 37 ∧ W.heap.size ≤ TA
  nTA : L 1 = true → L 17 = true → TA ≠ TC
  bTL : L 15 = true → L 18 = false → OwnAt wx TL [.string ⟨#[]⟩, .int .i64 16, .int .i64 5, .int .i64 0, .int .i64 0, .int .i64 n, .string ⟨#[]⟩, .string ⟨#[]⟩, .int .i64 20, .int .i64 0, .int .i64 2, .int .i64 5, .int .i64 (-8), .string ⟨#[]⟩, .string ⟨#[]⟩, .int .i64 io, .int .i64 ds, .int .i64 ia, .int .i64 ib, .int .i64 ni, .string st, .string ⟨#[]⟩, .int .i64 15, .int .i64 10, .int .i64 0, .int .i64 0, .int .i64 0, .string ⟨#[]⟩, .string ⟨#[]⟩, .int .i64 16, .int .i64 17, .int .i64 0, .int .i64 0, .int .i64 3, .string ⟨#[]⟩, .string ⟨#[]⟩, .int .i64 28, .int .i64 0, .int .i64 0, .int .i64 0, .int .i64 0, .string ⟨#[]⟩] 41 ∧ W.heap.size ≤ TL
  nTL : L 15 = true → L 17 = true → TL ≠ TC
  bC : L 17 = true → L 18 = false → OwnAt wx TC [.slice none 0 0, .slice none 0 0] 27 ∧ W.heap.size ≤ TC
  up : L 18 = true → Below W.heap.size W wx ∧ OwnAt wx TA [.string ⟨#[97]⟩, .int .i64 1] 37 ∧ OwnAt wx TL [.string ⟨#[]⟩, .int .i64 16, .int .i64 5, .int .i64 0, .int .i64 0, .int .i64 n, .string ⟨#[]⟩, .string ⟨#[]⟩, .int .i64 20, .int .i64 0, .int .i64 2, .int .i64 5, .int .i64 (-8), .string ⟨#[]⟩, .string ⟨#[]⟩, .int .i64 io, .int .i64 ds, .int .i64 ia, .int .i64 ib, .int .i64 ni, .string st, .string ⟨#[]⟩, .int .i64 15, .int .i64 10, .int .i64 0, .int .i64 0, .int .i64 0, .string ⟨#[]⟩, .string ⟨#[]⟩, .int .i64 16, .int .i64 17, .int .i64 0, .int .i64 0, .int .i64 3, .string ⟨#[]⟩, .string ⟨#[]⟩, .int .i64 28, .int .i64 0, .int .i64 0, .int .i64 0, .int .i64 0, .string ⟨#[]⟩] 41 ∧ OwnAt wx TC [.slice (some ⟨TA, 0, none⟩) 1 1, .slice (some ⟨TL, 0, none⟩) 6 6] 27
def IJZ3 (T6 : Nat) (n io ds ia ib ni : Int) (st : ByteArray) (W : World) (q1 q2 q3 q4 q5 q8 q9 q10 q11 q12 q13 q14 q15 q16 q17 q18 q19 q20 q21 q39 q40 q41 q42 q43 q44 q45 : Value) (L : Nat → Bool) (a' : Act) (w' : World) : Prop :=
  ∃ TA : Nat, ∃ TL : Nat, ∃ TC : Nat, ∃ z22 z23 z24 z25 z26 z27 z28 z29 z30 z31 z32 z33 z34 z35 z36 z37 z38 z7 : Value, VJZ3 T6 n io ds ia ib ni st W L TA TL TC z22 z23 z24 z25 z26 z27 z28 z29 z30 z31 z32 z33 z34 z35 z36 z37 z38 z7 w' ∧ a' = ⟨[.int .i64 n, q1, q2, q3, q4, q5, .pointer (some ⟨T6, 0, none⟩), z7, q8, q9, q10, q11, q12, q13, q14, q15, q16, q17, q18, q19, q20, q21, z22, z23, z24, z25, z26, z27, z28, z29, z30, z31, z32, z33, z34, z35, z36, z37, z38, q39, q40, q41, q42, q43, q44, q45].toArray, []⟩
def RJZ3 (T6 : Nat) (n io ds ia ib ni : Int) (st : ByteArray) (W : World) (q1 q2 q3 q4 q5 q8 q9 q10 q11 q12 q13 q14 q15 q16 q17 q18 q19 q20 q21 q39 q40 q41 q42 q43 q44 q45 : Value) (a' : Act) (w' : World) : Prop :=
  ∃ TA : Nat, ∃ TL : Nat, ∃ TC : Nat, (Below W.heap.size W w' ∧ OwnAt w' TA [.string ⟨#[97]⟩, .int .i64 1] 37 ∧ OwnAt w' TL [.string ⟨#[]⟩, .int .i64 16, .int .i64 5, .int .i64 0, .int .i64 0, .int .i64 n, .string ⟨#[]⟩, .string ⟨#[]⟩, .int .i64 20, .int .i64 0, .int .i64 2, .int .i64 5, .int .i64 (-8), .string ⟨#[]⟩, .string ⟨#[]⟩, .int .i64 io, .int .i64 ds, .int .i64 ia, .int .i64 ib, .int .i64 ni, .string st, .string ⟨#[]⟩, .int .i64 15, .int .i64 10, .int .i64 0, .int .i64 0, .int .i64 0, .string ⟨#[]⟩, .string ⟨#[]⟩, .int .i64 16, .int .i64 17, .int .i64 0, .int .i64 0, .int .i64 3, .string ⟨#[]⟩, .string ⟨#[]⟩, .int .i64 28, .int .i64 0, .int .i64 0, .int .i64 0, .int .i64 0, .string ⟨#[]⟩] 41 ∧ OwnAt w' TC [.slice (some ⟨TA, 0, none⟩) 1 1, .slice (some ⟨TL, 0, none⟩) 6 6] 27) ∧ a' = ⟨[.int .i64 n, q1, q2, q3, q4, q5, .pointer (some ⟨T6, 0, none⟩), .pointer (some ⟨TC, 0, none⟩), q8, q9, q10, q11, q12, q13, q14, q15, q16, q17, q18, q19, q20, q21, .agg #[.string ⟨#[97]⟩, .int .i64 1], .slice (some ⟨TA, 0, none⟩) 1 1, .int .i64 n, .agg #[.int .i64 16, .int .i64 5, .int .i64 0, .int .i64 0, .int .i64 n, .string ⟨#[]⟩], .agg #[.string ⟨#[]⟩, .int .i64 16, .int .i64 5, .int .i64 0, .int .i64 0, .int .i64 n, .string ⟨#[]⟩], .agg #[.int .i64 20, .int .i64 0, .int .i64 2, .int .i64 5, .int .i64 (-8), .string ⟨#[]⟩], .agg #[.string ⟨#[]⟩, .int .i64 20, .int .i64 0, .int .i64 2, .int .i64 5, .int .i64 (-8), .string ⟨#[]⟩], .agg #[.int .i64 io, .int .i64 ds, .int .i64 ia, .int .i64 ib, .int .i64 ni, .string st], .agg #[.string ⟨#[]⟩, .int .i64 io, .int .i64 ds, .int .i64 ia, .int .i64 ib, .int .i64 ni, .string st], .agg #[.int .i64 15, .int .i64 10, .int .i64 0, .int .i64 0, .int .i64 0, .string ⟨#[]⟩], .agg #[.string ⟨#[]⟩, .int .i64 15, .int .i64 10, .int .i64 0, .int .i64 0, .int .i64 0, .string ⟨#[]⟩], .agg #[.int .i64 16, .int .i64 17, .int .i64 0, .int .i64 0, .int .i64 3, .string ⟨#[]⟩], .agg #[.string ⟨#[]⟩, .int .i64 16, .int .i64 17, .int .i64 0, .int .i64 0, .int .i64 3, .string ⟨#[]⟩], .agg #[.int .i64 28, .int .i64 0, .int .i64 0, .int .i64 0, .int .i64 0, .string ⟨#[]⟩], .agg #[.string ⟨#[]⟩, .int .i64 28, .int .i64 0, .int .i64 0, .int .i64 0, .int .i64 0, .string ⟨#[]⟩], .slice (some ⟨TL, 0, none⟩) 6 6, .agg #[.slice (some ⟨TA, 0, none⟩) 1 1, .slice (some ⟨TL, 0, none⟩) 6 6], q39, q40, q41, q42, q43, q44, q45].toArray, []⟩
theorem reg_JZ3 (T6 : Nat) (n io ds ia ib ni : Int) (st : ByteArray) (W : World) (HX : Hid (OwnAt W T6 [.int .i64 io, .int .i64 ds, .int .i64 ia, .int .i64 ib, .int .i64 ni, .string st] 39)) (q1 q2 q3 q4 q5 q7 q8 q9 q10 q11 q12 q13 q14 q15 q16 q17 q18 q19 q20 q21 q22 q23 q24 q25 q26 q27 q28 q29 q30 q31 q32 q33 q34 q35 q36 q37 q38 q39 q40 q41 q42 q43 q44 q45 : Value) (J K' : Act → World → Prop) (hJ : ∀ a' w', RJZ3 T6 n io ds ia ib ni st W q1 q2 q3 q4 q5 q8 q9 q10 q11 q12 q13 q14 q15 q16 q17 q18 q19 q20 q21 q39 q40 q41 q42 q43 q44 q45 a' w' → J a' w') (hM : ∀ a' w', Met J a' w' → K' a' w') :
    Code.wp Tryz.prog ((Tryz.f9.body.bind (regOf 3)).getD .skip) (Exit.then K' (fun _ _ _ => False)) ⟨[.int .i64 n, q1, q2, q3, q4, q5, .pointer (some ⟨T6, 0, none⟩), q7, q8, q9, q10, q11, q12, q13, q14, q15, q16, q17, q18, q19, q20, q21, q22, q23, q24, q25, q26, q27, q28, q29, q30, q31, q32, q33, q34, q35, q36, q37, q38, q39, q40, q41, q42, q43, q44, q45].toArray, []⟩ W := by
  conv => arg 2; whnf
  dsimp only
  refine region_by (by kernel_rfl) (by kernel_rfl) (IJZ3 T6 n io ds ia ib ni st W q1 q2 q3 q4 q5 q8 q9 q10 q11 q12 q13 q14 q15 q16 q17 q18 q19 q20 q21 q39 q40 q41 q42 q43 q44 q45) ?_ ?_ ?_
  · exact ⟨0, 0, 0, q22, q23, q24, q25, q26, q27, q28, q29, q30, q31, q32, q33, q34, q35, q36, q37, q38, q7, ⟨(fun h => by cases h), (fun h => by cases h), (fun h => by cases h), (fun h => by cases h), (fun h => by cases h), (fun h => by cases h), (fun h => by cases h), (fun h => by cases h), (fun h => by cases h), (fun h => by cases h), (fun h => by cases h), (fun h => by cases h), (fun h => by cases h), (fun h => by cases h), (fun h => by cases h), (fun h => by cases h), (fun h => by cases h), (fun h => by cases h), (fun h => by cases h), (fun h => by cases h), (fun h => by cases h), (fun h => by cases h), (fun h => by cases h), (fun h => by cases h), (fun h => by cases h), (fun h => by cases h), (fun h => by cases h), (fun h => by cases h), (fun h => by cases h), (fun h => by cases h), (fun _ => (Below.refl _ _).drew), (fun h => fun _ => by cases h), (fun h => fun _ => by cases h), (fun h => fun _ => by cases h), (fun h => fun _ => by cases h), (fun h => fun _ => by cases h), (fun h => by cases h)⟩, rfl⟩
  · intro L act wx k hI hk hl hd
    obtain ⟨TA, TL, TC, z22, z23, z24, z25, z26, z27, z28, z29, z30, z31, z32, z33, z34, z35, z36, z37, z38, z7, hV, rfl⟩ := hI
    have hk : k = 0 ∨ k = 1 ∨ k = 2 ∨ k = 3 ∨ k = 4 ∨ k = 5 ∨ k = 6 ∨ k = 7 ∨ k = 8 ∨ k = 9 ∨ k = 10 ∨ k = 11 ∨ k = 12 ∨ k = 13 ∨ k = 14 ∨ k = 15 ∨ k = 16 ∨ k = 17 ∨ k = 18 := by
      have : k < 19 := hk
      omega
    rcases hk with rfl | rfl | rfl | rfl | rfl | rfl | rfl | rfl | rfl | rfl | rfl | rfl | rfl | rfl | rfl | rfl | rfl | rfl | rfl
    · have nl := kf hV.ord hl
      refine op_at _ rfl rfl (fun K' hK => ?_)
      conv => arg 2; whnf
      go_wp2_with fail
      exact ⟨TA, TL, TC, .agg #[.string ⟨#[97]⟩, .int .i64 1], z23, z24, z25, z26, z27, z28, z29, z30, z31, z32, z33, z34, z35, z36, z37, z38, z7, ⟨(kl nl), (kq hV.p15_4), (kq hV.p15_6), (kq hV.p15_8), (kq hV.p15_10), (kq hV.p15_12), (kq hV.p15_14), (kq hV.p16_1), (kq hV.p16_15), (kq hV.p18_1), (kq hV.p18_15), (kq hV.p18_17), (fun _ => rfl), (kc hV.c1), (kc hV.c2), (kc hV.c3), (kc hV.c4), (kc hV.c5), (kc hV.c6), (kc hV.c7), (kc hV.c8), (kc hV.c9), (kc hV.c10), (kc hV.c11), (kc hV.c12), (kc hV.c13), (kc hV.c14), (kc hV.c15), (kc hV.c16), (kc hV.c17), (fun h0 => hV.fr (kb h0)), (fun h0 => fun h1 => hV.bTA (kb h0) (kb h1)), (fun h0 => fun h1 => hV.nTA (kb h0) (kb h1)), (fun h0 => fun h1 => hV.bTL (kb h0) (kb h1)), (fun h0 => fun h1 => hV.nTL (kb h0) (kb h1)), (fun h0 => fun h1 => hV.bC (kb h0) (kb h1)), (kl nl)⟩, rfl⟩
    · have nl := kf hV.ord hl
      have d0 : L 0 = true := hd _ rfl ⟨0, .data⟩ (by simp) rfl
      obtain rfl := (hV.c0 d0).symm
      have hal : Below wx.heap.size wx (wx.alloc (.cells #[.string ⟨#[97]⟩, .int .i64 1] 37)) := (Below.refl _ _).alloc (Nat.le_refl _) _
      have hfs := (hV.fr nl).size
      refine op_at _ rfl rfl (fun K' hK => ?_)
      conv => arg 2; whnf
      go_wp2_with fail
      exact ⟨wx.heap.size, TL, TC, .agg #[.string ⟨#[97]⟩, .int .i64 1], .slice (some ⟨(wx.heap.size), 0, none⟩) 1 1, z24, z25, z26, z27, z28, z29, z30, z31, z32, z33, z34, z35, z36, z37, z38, z7, ⟨(kl nl), (kq hV.p15_4), (kq hV.p15_6), (kq hV.p15_8), (kq hV.p15_10), (kq hV.p15_12), (kq hV.p15_14), (fun _ => upd_same L 1), (kq hV.p16_15), (fun _ => upd_same L 1), (kq hV.p18_15), (kq hV.p18_17), (kc hV.c0), (fun _ => rfl), (kc hV.c2), (kc hV.c3), (kc hV.c4), (kc hV.c5), (kc hV.c6), (kc hV.c7), (kc hV.c8), (kc hV.c9), (kc hV.c10), (kc hV.c11), (kc hV.c12), (kc hV.c13), (kc hV.c14), (kc hV.c15), (kn hV.p16_1 hl), (kc hV.c17), (fun h0 => Below.trans (hV.fr (kb h0)) (Below.mono hal (Below.size (hV.fr (kb h0))))), (fun _ _ => ⟨OwnAt.new wx [.string ⟨#[97]⟩, .int .i64 1] 37, hfs⟩), (fun _ hq => by have := (hV.bC (kb hq) nl).1.lt; omega), (fun h0 => fun h1 => ⟨OwnAt.old (And.left (hV.bTL (kb h0) (kb h1))) hal, And.right (hV.bTL (kb h0) (kb h1))⟩), (fun h0 => fun h1 => (hV.nTL (kb h0) (kb h1))), (fun h0 => fun h1 => ⟨OwnAt.old (And.left (hV.bC (kb h0) (kb h1))) hal, And.right (hV.bC (kb h0) (kb h1))⟩), (kl nl)⟩, rfl⟩
    · have nl := kf hV.ord hl
      refine op_at _ rfl rfl (fun K' hK => ?_)
      conv => arg 2; whnf
      go_wp2_with fail
      exact ⟨TA, TL, TC, z22, z23, .int .i64 n, z25, z26, z27, z28, z29, z30, z31, z32, z33, z34, z35, z36, z37, z38, z7, ⟨(kl nl), (kq hV.p15_4), (kq hV.p15_6), (kq hV.p15_8), (kq hV.p15_10), (kq hV.p15_12), (kq hV.p15_14), (kq hV.p16_1), (kq hV.p16_15), (kq hV.p18_1), (kq hV.p18_15), (kq hV.p18_17), (kc hV.c0), (kc hV.c1), (fun _ => rfl), (kc hV.c3), (kc hV.c4), (kc hV.c5), (kc hV.c6), (kc hV.c7), (kc hV.c8), (kc hV.c9), (kc hV.c10), (kc hV.c11), (kc hV.c12), (kc hV.c13), (kc hV.c14), (kc hV.c15), (kc hV.c16), (kc hV.c17), (fun h0 => hV.fr (kb h0)), (fun h0 => fun h1 => hV.bTA (kb h0) (kb h1)), (fun h0 => fun h1 => hV.nTA (kb h0) (kb h1)), (fun h0 => fun h1 => hV.bTL (kb h0) (kb h1)), (fun h0 => fun h1 => hV.nTL (kb h0) (kb h1)), (fun h0 => fun h1 => hV.bC (kb h0) (kb h1)), (kl nl)⟩, rfl⟩
    · have nl := kf hV.ord hl
      have d2 : L 2 = true := hd _ rfl ⟨2, .data⟩ (by simp) rfl
      obtain rfl := (hV.c2 d2).symm
      refine op_at _ rfl rfl (fun K' hK => ?_)
      conv => arg 2; whnf
      go_wp2_with fail
      exact ⟨TA, TL, TC, z22, z23, .int .i64 n, .agg #[.int .i64 16, .int .i64 5, .int .i64 0, .int .i64 0, .int .i64 n, .string ⟨#[]⟩], z26, z27, z28, z29, z30, z31, z32, z33, z34, z35, z36, z37, z38, z7, ⟨(kl nl), (kq hV.p15_4), (kq hV.p15_6), (kq hV.p15_8), (kq hV.p15_10), (kq hV.p15_12), (kq hV.p15_14), (kq hV.p16_1), (kq hV.p16_15), (kq hV.p18_1), (kq hV.p18_15), (kq hV.p18_17), (kc hV.c0), (kc hV.c1), (kc hV.c2), (fun _ => rfl), (kc hV.c4), (kc hV.c5), (kc hV.c6), (kc hV.c7), (kc hV.c8), (kc hV.c9), (kc hV.c10), (kc hV.c11), (kc hV.c12), (kc hV.c13), (kc hV.c14), (kc hV.c15), (kc hV.c16), (kc hV.c17), (fun h0 => hV.fr (kb h0)), (fun h0 => fun h1 => hV.bTA (kb h0) (kb h1)), (fun h0 => fun h1 => hV.nTA (kb h0) (kb h1)), (fun h0 => fun h1 => hV.bTL (kb h0) (kb h1)), (fun h0 => fun h1 => hV.nTL (kb h0) (kb h1)), (fun h0 => fun h1 => hV.bC (kb h0) (kb h1)), (kl nl)⟩, rfl⟩
    · have nl := kf hV.ord hl
      have d3 : L 3 = true := hd _ rfl ⟨3, .data⟩ (by simp) rfl
      obtain rfl := (hV.c3 d3).symm
      refine op_at _ rfl rfl (fun K' hK => ?_)
      conv => arg 2; whnf
      go_wp2_with fail
      refine (mline_any _ _ _ _ _ _ _).mono ?_
      rintro e w7 ⟨rfl, hal⟩
      go_wp2_with fail
      exact ⟨TA, TL, TC, z22, z23, z24, .agg #[.int .i64 16, .int .i64 5, .int .i64 0, .int .i64 0, .int .i64 n, .string ⟨#[]⟩], .agg #[.string ⟨#[]⟩, .int .i64 16, .int .i64 5, .int .i64 0, .int .i64 0, .int .i64 n, .string ⟨#[]⟩], z27, z28, z29, z30, z31, z32, z33, z34, z35, z36, z37, z38, z7, ⟨(kl nl), (fun _ => upd_same L 4), (kq hV.p15_6), (kq hV.p15_8), (kq hV.p15_10), (kq hV.p15_12), (kq hV.p15_14), (kq hV.p16_1), (kq hV.p16_15), (kq hV.p18_1), (kq hV.p18_15), (kq hV.p18_17), (kc hV.c0), (kc hV.c1), (kc hV.c2), (kc hV.c3), (fun _ => rfl), (kc hV.c5), (kc hV.c6), (kc hV.c7), (kc hV.c8), (kc hV.c9), (kc hV.c10), (kc hV.c11), (kc hV.c12), (kc hV.c13), (kc hV.c14), (kc hV.c15), (kc hV.c16), (kc hV.c17), (fun h0 => Below.trans (hV.fr (kb h0)) (Below.mono hal (Below.size (hV.fr (kb h0))))), (fun h0 => fun h1 => ⟨OwnAt.old (And.left (hV.bTA (kb h0) (kb h1))) hal, And.right (hV.bTA (kb h0) (kb h1))⟩), (fun h0 => fun h1 => (hV.nTA (kb h0) (kb h1))), (kn hV.p15_4 hl), (kn hV.p15_4 hl), (fun h0 => fun h1 => ⟨OwnAt.old (And.left (hV.bC (kb h0) (kb h1))) hal, And.right (hV.bC (kb h0) (kb h1))⟩), (kl nl)⟩, rfl⟩
    · have nl := kf hV.ord hl
      refine op_at _ rfl rfl (fun K' hK => ?_)
      conv => arg 2; whnf
      go_wp2_with fail
      exact ⟨TA, TL, TC, z22, z23, z24, z25, z26, .agg #[.int .i64 20, .int .i64 0, .int .i64 2, .int .i64 5, .int .i64 (-8), .string ⟨#[]⟩], z28, z29, z30, z31, z32, z33, z34, z35, z36, z37, z38, z7, ⟨(kl nl), (kq hV.p15_4), (kq hV.p15_6), (kq hV.p15_8), (kq hV.p15_10), (kq hV.p15_12), (kq hV.p15_14), (kq hV.p16_1), (kq hV.p16_15), (kq hV.p18_1), (kq hV.p18_15), (kq hV.p18_17), (kc hV.c0), (kc hV.c1), (kc hV.c2), (kc hV.c3), (kc hV.c4), (fun _ => rfl), (kc hV.c6), (kc hV.c7), (kc hV.c8), (kc hV.c9), (kc hV.c10), (kc hV.c11), (kc hV.c12), (kc hV.c13), (kc hV.c14), (kc hV.c15), (kc hV.c16), (kc hV.c17), (fun h0 => hV.fr (kb h0)), (fun h0 => fun h1 => hV.bTA (kb h0) (kb h1)), (fun h0 => fun h1 => hV.nTA (kb h0) (kb h1)), (fun h0 => fun h1 => hV.bTL (kb h0) (kb h1)), (fun h0 => fun h1 => hV.nTL (kb h0) (kb h1)), (fun h0 => fun h1 => hV.bC (kb h0) (kb h1)), (kl nl)⟩, rfl⟩
    · have nl := kf hV.ord hl
      have d4 : L 4 = true := hd _ rfl ⟨4, .chain⟩ (by simp) rfl
      have d5 : L 5 = true := hd _ rfl ⟨5, .data⟩ (by simp) rfl
      obtain rfl := (hV.c5 d5).symm
      refine op_at _ rfl rfl (fun K' hK => ?_)
      conv => arg 2; whnf
      go_wp2_with fail
      refine (mline_any _ _ _ _ _ _ _).mono ?_
      rintro e w7 ⟨rfl, hal⟩
      go_wp2_with fail
      exact ⟨TA, TL, TC, z22, z23, z24, z25, z26, .agg #[.int .i64 20, .int .i64 0, .int .i64 2, .int .i64 5, .int .i64 (-8), .string ⟨#[]⟩], .agg #[.string ⟨#[]⟩, .int .i64 20, .int .i64 0, .int .i64 2, .int .i64 5, .int .i64 (-8), .string ⟨#[]⟩], z29, z30, z31, z32, z33, z34, z35, z36, z37, z38, z7, ⟨(kl nl), (kq hV.p15_4), (fun _ => upd_same L 6), (kq hV.p15_8), (kq hV.p15_10), (kq hV.p15_12), (kq hV.p15_14), (kq hV.p16_1), (kq hV.p16_15), (kq hV.p18_1), (kq hV.p18_15), (kq hV.p18_17), (kc hV.c0), (kc hV.c1), (kc hV.c2), (kc hV.c3), (kc hV.c4), (kc hV.c5), (fun _ => rfl), (kc hV.c7), (kc hV.c8), (kc hV.c9), (kc hV.c10), (kc hV.c11), (kc hV.c12), (kc hV.c13), (kc hV.c14), (kc hV.c15), (kc hV.c16), (kc hV.c17), (fun h0 => Below.trans (hV.fr (kb h0)) (Below.mono hal (Below.size (hV.fr (kb h0))))), (fun h0 => fun h1 => ⟨OwnAt.old (And.left (hV.bTA (kb h0) (kb h1))) hal, And.right (hV.bTA (kb h0) (kb h1))⟩), (fun h0 => fun h1 => (hV.nTA (kb h0) (kb h1))), (kn hV.p15_6 hl), (kn hV.p15_6 hl), (fun h0 => fun h1 => ⟨OwnAt.old (And.left (hV.bC (kb h0) (kb h1))) hal, And.right (hV.bC (kb h0) (kb h1))⟩), (kl nl)⟩, rfl⟩
    · have nl := kf hV.ord hl
      have ho := HX.out.old (hV.fr nl)
      have hxl := ho.lt
      have x0 := ho.at 0 _ rfl
      have x1 := ho.at 1 _ rfl
      have x2 := ho.at 2 _ rfl
      have x3 := ho.at 3 _ rfl
      have x4 := ho.at 4 _ rfl
      have x5 := ho.at 5 _ rfl
      refine op_at _ rfl rfl (fun K' hK => ?_)
      conv => arg 2; whnf
      go_wp2_with fail
      exact ⟨TA, TL, TC, z22, z23, z24, z25, z26, z27, z28, .agg #[.int .i64 io, .int .i64 ds, .int .i64 ia, .int .i64 ib, .int .i64 ni, .string st], z30, z31, z32, z33, z34, z35, z36, z37, z38, z7, ⟨(kl nl), (kq hV.p15_4), (kq hV.p15_6), (kq hV.p15_8), (kq hV.p15_10), (kq hV.p15_12), (kq hV.p15_14), (kq hV.p16_1), (kq hV.p16_15), (kq hV.p18_1), (kq hV.p18_15), (kq hV.p18_17), (kc hV.c0), (kc hV.c1), (kc hV.c2), (kc hV.c3), (kc hV.c4), (kc hV.c5), (kc hV.c6), (fun _ => rfl), (kc hV.c8), (kc hV.c9), (kc hV.c10), (kc hV.c11), (kc hV.c12), (kc hV.c13), (kc hV.c14), (kc hV.c15), (kc hV.c16), (kc hV.c17), (fun h0 => hV.fr (kb h0)), (fun h0 => fun h1 => hV.bTA (kb h0) (kb h1)), (fun h0 => fun h1 => hV.nTA (kb h0) (kb h1)), (fun h0 => fun h1 => hV.bTL (kb h0) (kb h1)), (fun h0 => fun h1 => hV.nTL (kb h0) (kb h1)), (fun h0 => fun h1 => hV.bC (kb h0) (kb h1)), (kl nl)⟩, rfl⟩
    · have nl := kf hV.ord hl
      have d6 : L 6 = true := hd _ rfl ⟨6, .chain⟩ (by simp) rfl
      have d7 : L 7 = true := hd _ rfl ⟨7, .data⟩ (by simp) rfl
      obtain rfl := (hV.c7 d7).symm
      refine op_at _ rfl rfl (fun K' hK => ?_)
      conv => arg 2; whnf
      go_wp2_with fail
      refine (mline_any _ _ _ _ _ _ _).mono ?_
      rintro e w7 ⟨rfl, hal⟩
      go_wp2_with fail
      exact ⟨TA, TL, TC, z22, z23, z24, z25, z26, z27, z28, .agg #[.int .i64 io, .int .i64 ds, .int .i64 ia, .int .i64 ib, .int .i64 ni, .string st], .agg #[.string ⟨#[]⟩, .int .i64 io, .int .i64 ds, .int .i64 ia, .int .i64 ib, .int .i64 ni, .string st], z31, z32, z33, z34, z35, z36, z37, z38, z7, ⟨(kl nl), (kq hV.p15_4), (kq hV.p15_6), (fun _ => upd_same L 8), (kq hV.p15_10), (kq hV.p15_12), (kq hV.p15_14), (kq hV.p16_1), (kq hV.p16_15), (kq hV.p18_1), (kq hV.p18_15), (kq hV.p18_17), (kc hV.c0), (kc hV.c1), (kc hV.c2), (kc hV.c3), (kc hV.c4), (kc hV.c5), (kc hV.c6), (kc hV.c7), (fun _ => rfl), (kc hV.c9), (kc hV.c10), (kc hV.c11), (kc hV.c12), (kc hV.c13), (kc hV.c14), (kc hV.c15), (kc hV.c16), (kc hV.c17), (fun h0 => Below.trans (hV.fr (kb h0)) (Below.mono hal (Below.size (hV.fr (kb h0))))), (fun h0 => fun h1 => ⟨OwnAt.old (And.left (hV.bTA (kb h0) (kb h1))) hal, And.right (hV.bTA (kb h0) (kb h1))⟩), (fun h0 => fun h1 => (hV.nTA (kb h0) (kb h1))), (kn hV.p15_8 hl), (kn hV.p15_8 hl), (fun h0 => fun h1 => ⟨OwnAt.old (And.left (hV.bC (kb h0) (kb h1))) hal, And.right (hV.bC (kb h0) (kb h1))⟩), (kl nl)⟩, rfl⟩
    · have nl := kf hV.ord hl
      refine op_at _ rfl rfl (fun K' hK => ?_)
      conv => arg 2; whnf
      go_wp2_with fail
      exact ⟨TA, TL, TC, z22, z23, z24, z25, z26, z27, z28, z29, z30, .agg #[.int .i64 15, .int .i64 10, .int .i64 0, .int .i64 0, .int .i64 0, .string ⟨#[]⟩], z32, z33, z34, z35, z36, z37, z38, z7, ⟨(kl nl), (kq hV.p15_4), (kq hV.p15_6), (kq hV.p15_8), (kq hV.p15_10), (kq hV.p15_12), (kq hV.p15_14), (kq hV.p16_1), (kq hV.p16_15), (kq hV.p18_1), (kq hV.p18_15), (kq hV.p18_17), (kc hV.c0), (kc hV.c1), (kc hV.c2), (kc hV.c3), (kc hV.c4), (kc hV.c5), (kc hV.c6), (kc hV.c7), (kc hV.c8), (fun _ => rfl), (kc hV.c10), (kc hV.c11), (kc hV.c12), (kc hV.c13), (kc hV.c14), (kc hV.c15), (kc hV.c16), (kc hV.c17), (fun h0 => hV.fr (kb h0)), (fun h0 => fun h1 => hV.bTA (kb h0) (kb h1)), (fun h0 => fun h1 => hV.nTA (kb h0) (kb h1)), (fun h0 => fun h1 => hV.bTL (kb h0) (kb h1)), (fun h0 => fun h1 => hV.nTL (kb h0) (kb h1)), (fun h0 => fun h1 => hV.bC (kb h0) (kb h1)), (kl nl)⟩, rfl⟩
    · have nl := kf hV.ord hl
      have d8 : L 8 = true := hd _ rfl ⟨8, .chain⟩ (by simp) rfl
      have d9 : L 9 = true := hd _ rfl ⟨9, .data⟩ (by simp) rfl
      obtain rfl := (hV.c9 d9).symm
      refine op_at _ rfl rfl (fun K' hK => ?_)
      conv => arg 2; whnf
      go_wp2_with fail
      refine (mline_any _ _ _ _ _ _ _).mono ?_
      rintro e w7 ⟨rfl, hal⟩
      go_wp2_with fail
      exact ⟨TA, TL, TC, z22, z23, z24, z25, z26, z27, z28, z29, z30, .agg #[.int .i64 15, .int .i64 10, .int .i64 0, .int .i64 0, .int .i64 0, .string ⟨#[]⟩], .agg #[.string ⟨#[]⟩, .int .i64 15, .int .i64 10, .int .i64 0, .int .i64 0, .int .i64 0, .string ⟨#[]⟩], z33, z34, z35, z36, z37, z38, z7, ⟨(kl nl), (kq hV.p15_4), (kq hV.p15_6), (kq hV.p15_8), (fun _ => upd_same L 10), (kq hV.p15_12), (kq hV.p15_14), (kq hV.p16_1), (kq hV.p16_15), (kq hV.p18_1), (kq hV.p18_15), (kq hV.p18_17), (kc hV.c0), (kc hV.c1), (kc hV.c2), (kc hV.c3), (kc hV.c4), (kc hV.c5), (kc hV.c6), (kc hV.c7), (kc hV.c8), (kc hV.c9), (fun _ => rfl), (kc hV.c11), (kc hV.c12), (kc hV.c13), (kc hV.c14), (kc hV.c15), (kc hV.c16), (kc hV.c17), (fun h0 => Below.trans (hV.fr (kb h0)) (Below.mono hal (Below.size (hV.fr (kb h0))))), (fun h0 => fun h1 => ⟨OwnAt.old (And.left (hV.bTA (kb h0) (kb h1))) hal, And.right (hV.bTA (kb h0) (kb h1))⟩), (fun h0 => fun h1 => (hV.nTA (kb h0) (kb h1))), (kn hV.p15_10 hl), (kn hV.p15_10 hl), (fun h0 => fun h1 => ⟨OwnAt.old (And.left (hV.bC (kb h0) (kb h1))) hal, And.right (hV.bC (kb h0) (kb h1))⟩), (kl nl)⟩, rfl⟩
    · have nl := kf hV.ord hl
      refine op_at _ rfl rfl (fun K' hK => ?_)
      conv => arg 2; whnf
      go_wp2_with fail
      exact ⟨TA, TL, TC, z22, z23, z24, z25, z26, z27, z28, z29, z30, z31, z32, .agg #[.int .i64 16, .int .i64 17, .int .i64 0, .int .i64 0, .int .i64 3, .string ⟨#[]⟩], z34, z35, z36, z37, z38, z7, ⟨(kl nl), (kq hV.p15_4), (kq hV.p15_6), (kq hV.p15_8), (kq hV.p15_10), (kq hV.p15_12), (kq hV.p15_14), (kq hV.p16_1), (kq hV.p16_15), (kq hV.p18_1), (kq hV.p18_15), (kq hV.p18_17), (kc hV.c0), (kc hV.c1), (kc hV.c2), (kc hV.c3), (kc hV.c4), (kc hV.c5), (kc hV.c6), (kc hV.c7), (kc hV.c8), (kc hV.c9), (kc hV.c10), (fun _ => rfl), (kc hV.c12), (kc hV.c13), (kc hV.c14), (kc hV.c15), (kc hV.c16), (kc hV.c17), (fun h0 => hV.fr (kb h0)), (fun h0 => fun h1 => hV.bTA (kb h0) (kb h1)), (fun h0 => fun h1 => hV.nTA (kb h0) (kb h1)), (fun h0 => fun h1 => hV.bTL (kb h0) (kb h1)), (fun h0 => fun h1 => hV.nTL (kb h0) (kb h1)), (fun h0 => fun h1 => hV.bC (kb h0) (kb h1)), (kl nl)⟩, rfl⟩
    · have nl := kf hV.ord hl
      have d10 : L 10 = true := hd _ rfl ⟨10, .chain⟩ (by simp) rfl
      have d11 : L 11 = true := hd _ rfl ⟨11, .data⟩ (by simp) rfl
      obtain rfl := (hV.c11 d11).symm
      refine op_at _ rfl rfl (fun K' hK => ?_)
      conv => arg 2; whnf
      go_wp2_with fail
      refine (mline_any _ _ _ _ _ _ _).mono ?_
      rintro e w7 ⟨rfl, hal⟩
      go_wp2_with fail
      exact ⟨TA, TL, TC, z22, z23, z24, z25, z26, z27, z28, z29, z30, z31, z32, .agg #[.int .i64 16, .int .i64 17, .int .i64 0, .int .i64 0, .int .i64 3, .string ⟨#[]⟩], .agg #[.string ⟨#[]⟩, .int .i64 16, .int .i64 17, .int .i64 0, .int .i64 0, .int .i64 3, .string ⟨#[]⟩], z35, z36, z37, z38, z7, ⟨(kl nl), (kq hV.p15_4), (kq hV.p15_6), (kq hV.p15_8), (kq hV.p15_10), (fun _ => upd_same L 12), (kq hV.p15_14), (kq hV.p16_1), (kq hV.p16_15), (kq hV.p18_1), (kq hV.p18_15), (kq hV.p18_17), (kc hV.c0), (kc hV.c1), (kc hV.c2), (kc hV.c3), (kc hV.c4), (kc hV.c5), (kc hV.c6), (kc hV.c7), (kc hV.c8), (kc hV.c9), (kc hV.c10), (kc hV.c11), (fun _ => rfl), (kc hV.c13), (kc hV.c14), (kc hV.c15), (kc hV.c16), (kc hV.c17), (fun h0 => Below.trans (hV.fr (kb h0)) (Below.mono hal (Below.size (hV.fr (kb h0))))), (fun h0 => fun h1 => ⟨OwnAt.old (And.left (hV.bTA (kb h0) (kb h1))) hal, And.right (hV.bTA (kb h0) (kb h1))⟩), (fun h0 => fun h1 => (hV.nTA (kb h0) (kb h1))), (kn hV.p15_12 hl), (kn hV.p15_12 hl), (fun h0 => fun h1 => ⟨OwnAt.old (And.left (hV.bC (kb h0) (kb h1))) hal, And.right (hV.bC (kb h0) (kb h1))⟩), (kl nl)⟩, rfl⟩
    · have nl := kf hV.ord hl
      refine op_at _ rfl rfl (fun K' hK => ?_)
      conv => arg 2; whnf
      go_wp2_with fail
      exact ⟨TA, TL, TC, z22, z23, z24, z25, z26, z27, z28, z29, z30, z31, z32, z33, z34, .agg #[.int .i64 28, .int .i64 0, .int .i64 0, .int .i64 0, .int .i64 0, .string ⟨#[]⟩], z36, z37, z38, z7, ⟨(kl nl), (kq hV.p15_4), (kq hV.p15_6), (kq hV.p15_8), (kq hV.p15_10), (kq hV.p15_12), (kq hV.p15_14), (kq hV.p16_1), (kq hV.p16_15), (kq hV.p18_1), (kq hV.p18_15), (kq hV.p18_17), (kc hV.c0), (kc hV.c1), (kc hV.c2), (kc hV.c3), (kc hV.c4), (kc hV.c5), (kc hV.c6), (kc hV.c7), (kc hV.c8), (kc hV.c9), (kc hV.c10), (kc hV.c11), (kc hV.c12), (fun _ => rfl), (kc hV.c14), (kc hV.c15), (kc hV.c16), (kc hV.c17), (fun h0 => hV.fr (kb h0)), (fun h0 => fun h1 => hV.bTA (kb h0) (kb h1)), (fun h0 => fun h1 => hV.nTA (kb h0) (kb h1)), (fun h0 => fun h1 => hV.bTL (kb h0) (kb h1)), (fun h0 => fun h1 => hV.nTL (kb h0) (kb h1)), (fun h0 => fun h1 => hV.bC (kb h0) (kb h1)), (kl nl)⟩, rfl⟩
    · have nl := kf hV.ord hl
      have d12 : L 12 = true := hd _ rfl ⟨12, .chain⟩ (by simp) rfl
      have d13 : L 13 = true := hd _ rfl ⟨13, .data⟩ (by simp) rfl
      obtain rfl := (hV.c13 d13).symm
      refine op_at _ rfl rfl (fun K' hK => ?_)
      conv => arg 2; whnf
      go_wp2_with fail
      refine (mline_any _ _ _ _ _ _ _).mono ?_
      rintro e w7 ⟨rfl, hal⟩
      go_wp2_with fail
      exact ⟨TA, TL, TC, z22, z23, z24, z25, z26, z27, z28, z29, z30, z31, z32, z33, z34, .agg #[.int .i64 28, .int .i64 0, .int .i64 0, .int .i64 0, .int .i64 0, .string ⟨#[]⟩], .agg #[.string ⟨#[]⟩, .int .i64 28, .int .i64 0, .int .i64 0, .int .i64 0, .int .i64 0, .string ⟨#[]⟩], z37, z38, z7, ⟨(kl nl), (kq hV.p15_4), (kq hV.p15_6), (kq hV.p15_8), (kq hV.p15_10), (kq hV.p15_12), (fun _ => upd_same L 14), (kq hV.p16_1), (kq hV.p16_15), (kq hV.p18_1), (kq hV.p18_15), (kq hV.p18_17), (kc hV.c0), (kc hV.c1), (kc hV.c2), (kc hV.c3), (kc hV.c4), (kc hV.c5), (kc hV.c6), (kc hV.c7), (kc hV.c8), (kc hV.c9), (kc hV.c10), (kc hV.c11), (kc hV.c12), (kc hV.c13), (fun _ => rfl), (kc hV.c15), (kc hV.c16), (kc hV.c17), (fun h0 => Below.trans (hV.fr (kb h0)) (Below.mono hal (Below.size (hV.fr (kb h0))))), (fun h0 => fun h1 => ⟨OwnAt.old (And.left (hV.bTA (kb h0) (kb h1))) hal, And.right (hV.bTA (kb h0) (kb h1))⟩), (fun h0 => fun h1 => (hV.nTA (kb h0) (kb h1))), (kn hV.p15_14 hl), (kn hV.p15_14 hl), (fun h0 => fun h1 => ⟨OwnAt.old (And.left (hV.bC (kb h0) (kb h1))) hal, And.right (hV.bC (kb h0) (kb h1))⟩), (kl nl)⟩, rfl⟩
    · have nl := kf hV.ord hl
      have d4 : L 4 = true := hd _ rfl ⟨4, .data⟩ (by simp) rfl
      obtain rfl := (hV.c4 d4).symm
      have d6 : L 6 = true := hd _ rfl ⟨6, .data⟩ (by simp) rfl
      obtain rfl := (hV.c6 d6).symm
      have d8 : L 8 = true := hd _ rfl ⟨8, .data⟩ (by simp) rfl
      obtain rfl := (hV.c8 d8).symm
      have d10 : L 10 = true := hd _ rfl ⟨10, .data⟩ (by simp) rfl
      obtain rfl := (hV.c10 d10).symm
      have d12 : L 12 = true := hd _ rfl ⟨12, .data⟩ (by simp) rfl
      obtain rfl := (hV.c12 d12).symm
      have d14 : L 14 = true := hd _ rfl ⟨14, .data⟩ (by simp) rfl
      obtain rfl := (hV.c14 d14).symm
      have hal : Below wx.heap.size wx (wx.alloc (.cells #[.string ⟨#[]⟩, .int .i64 16, .int .i64 5, .int .i64 0, .int .i64 0, .int .i64 n, .string ⟨#[]⟩, .string ⟨#[]⟩, .int .i64 20, .int .i64 0, .int .i64 2, .int .i64 5, .int .i64 (-8), .string ⟨#[]⟩, .string ⟨#[]⟩, .int .i64 io, .int .i64 ds, .int .i64 ia, .int .i64 ib, .int .i64 ni, .string st, .string ⟨#[]⟩, .int .i64 15, .int .i64 10, .int .i64 0, .int .i64 0, .int .i64 0, .string ⟨#[]⟩, .string ⟨#[]⟩, .int .i64 16, .int .i64 17, .int .i64 0, .int .i64 0, .int .i64 3, .string ⟨#[]⟩, .string ⟨#[]⟩, .int .i64 28, .int .i64 0, .int .i64 0, .int .i64 0, .int .i64 0, .string ⟨#[]⟩] 41)) := (Below.refl _ _).alloc (Nat.le_refl _) _
      have hfs := (hV.fr nl).size
      refine op_at _ rfl rfl (fun K' hK => ?_)
      conv => arg 2; whnf
      go_wp2_with fail
      exact ⟨TA, wx.heap.size, TC, z22, z23, z24, z25, .agg #[.string ⟨#[]⟩, .int .i64 16, .int .i64 5, .int .i64 0, .int .i64 0, .int .i64 n, .string ⟨#[]⟩], z27, .agg #[.string ⟨#[]⟩, .int .i64 20, .int .i64 0, .int .i64 2, .int .i64 5, .int .i64 (-8), .string ⟨#[]⟩], z29, .agg #[.string ⟨#[]⟩, .int .i64 io, .int .i64 ds, .int .i64 ia, .int .i64 ib, .int .i64 ni, .string st], z31, .agg #[.string ⟨#[]⟩, .int .i64 15, .int .i64 10, .int .i64 0, .int .i64 0, .int .i64 0, .string ⟨#[]⟩], z33, .agg #[.string ⟨#[]⟩, .int .i64 16, .int .i64 17, .int .i64 0, .int .i64 0, .int .i64 3, .string ⟨#[]⟩], z35, .agg #[.string ⟨#[]⟩, .int .i64 28, .int .i64 0, .int .i64 0, .int .i64 0, .int .i64 0, .string ⟨#[]⟩], .slice (some ⟨(wx.heap.size), 0, none⟩) 6 6, z38, z7, ⟨(kl nl), (kd (d4)), (kd (d6)), (kd (d8)), (kd (d10)), (kd (d12)), (kd (d14)), (kq hV.p16_1), (fun _ => upd_same L 15), (kq hV.p18_1), (fun _ => upd_same L 15), (kq hV.p18_17), (kc hV.c0), (kc hV.c1), (kc hV.c2), (kc hV.c3), (kc hV.c4), (kc hV.c5), (kc hV.c6), (kc hV.c7), (kc hV.c8), (kc hV.c9), (kc hV.c10), (kc hV.c11), (kc hV.c12), (kc hV.c13), (kc hV.c14), (fun _ => rfl), (kn hV.p16_15 hl), (kc hV.c17), (fun h0 => Below.trans (hV.fr (kb h0)) (Below.mono hal (Below.size (hV.fr (kb h0))))), (fun h0 => fun h1 => ⟨OwnAt.old (And.left (hV.bTA (kb h0) (kb h1))) hal, And.right (hV.bTA (kb h0) (kb h1))⟩), (fun h0 => fun h1 => (hV.nTA (kb h0) (kb h1))), (fun _ _ => ⟨OwnAt.new wx [.string ⟨#[]⟩, .int .i64 16, .int .i64 5, .int .i64 0, .int .i64 0, .int .i64 n, .string ⟨#[]⟩, .string ⟨#[]⟩, .int .i64 20, .int .i64 0, .int .i64 2, .int .i64 5, .int .i64 (-8), .string ⟨#[]⟩, .string ⟨#[]⟩, .int .i64 io, .int .i64 ds, .int .i64 ia, .int .i64 ib, .int .i64 ni, .string st, .string ⟨#[]⟩, .int .i64 15, .int .i64 10, .int .i64 0, .int .i64 0, .int .i64 0, .string ⟨#[]⟩, .string ⟨#[]⟩, .int .i64 16, .int .i64 17, .int .i64 0, .int .i64 0, .int .i64 3, .string ⟨#[]⟩, .string ⟨#[]⟩, .int .i64 28, .int .i64 0, .int .i64 0, .int .i64 0, .int .i64 0, .string ⟨#[]⟩] 41, hfs⟩), (fun _ hq => by have := (hV.bC (kb hq) nl).1.lt; omega), (fun h0 => fun h1 => ⟨OwnAt.old (And.left (hV.bC (kb h0) (kb h1))) hal, And.right (hV.bC (kb h0) (kb h1))⟩), (kl nl)⟩, rfl⟩
    · have nl := kf hV.ord hl
      have d1 : L 1 = true := hd _ rfl ⟨1, .data⟩ (by simp) rfl
      obtain rfl := (hV.c1 d1).symm
      have d15 : L 15 = true := hd _ rfl ⟨15, .data⟩ (by simp) rfl
      obtain rfl := (hV.c15 d15).symm
      refine op_at _ rfl rfl (fun K' hK => ?_)
      conv => arg 2; whnf
      go_wp2_with fail
      exact ⟨TA, TL, TC, z22, .slice (some ⟨TA, 0, none⟩) 1 1, z24, z25, z26, z27, z28, z29, z30, z31, z32, z33, z34, z35, z36, .slice (some ⟨TL, 0, none⟩) 6 6, .agg #[.slice (some ⟨TA, 0, none⟩) 1 1, .slice (some ⟨TL, 0, none⟩) 6 6], z7, ⟨(kl nl), (kq hV.p15_4), (kq hV.p15_6), (kq hV.p15_8), (kq hV.p15_10), (kq hV.p15_12), (kq hV.p15_14), (kd (d1)), (kd (d15)), (kq hV.p18_1), (kq hV.p18_15), (kq hV.p18_17), (kc hV.c0), (kc hV.c1), (kc hV.c2), (kc hV.c3), (kc hV.c4), (kc hV.c5), (kc hV.c6), (kc hV.c7), (kc hV.c8), (kc hV.c9), (kc hV.c10), (kc hV.c11), (kc hV.c12), (kc hV.c13), (kc hV.c14), (kc hV.c15), (fun _ => rfl), (kc hV.c17), (fun h0 => hV.fr (kb h0)), (fun h0 => fun h1 => hV.bTA (kb h0) (kb h1)), (fun h0 => fun h1 => hV.nTA (kb h0) (kb h1)), (fun h0 => fun h1 => hV.bTL (kb h0) (kb h1)), (fun h0 => fun h1 => hV.nTL (kb h0) (kb h1)), (fun h0 => fun h1 => hV.bC (kb h0) (kb h1)), (kl nl)⟩, rfl⟩
    · have nl := kf hV.ord hl
      have hal : Below wx.heap.size wx (wx.alloc (.cells #[.slice none 0 0, .slice none 0 0] 27)) := (Below.refl _ _).alloc (Nat.le_refl _) _
      have hfs := (hV.fr nl).size
      refine op_at _ rfl rfl (fun K' hK => ?_)
      conv => arg 2; whnf
      go_wp2_with fail
      exact ⟨TA, TL, wx.heap.size, z22, z23, z24, z25, z26, z27, z28, z29, z30, z31, z32, z33, z34, z35, z36, z37, z38, .pointer (some ⟨(wx.heap.size), 0, none⟩), ⟨(kl nl), (kq hV.p15_4), (kq hV.p15_6), (kq hV.p15_8), (kq hV.p15_10), (kq hV.p15_12), (kq hV.p15_14), (kq hV.p16_1), (kq hV.p16_15), (kq hV.p18_1), (kq hV.p18_15), (fun _ => upd_same L 17), (kc hV.c0), (kc hV.c1), (kc hV.c2), (kc hV.c3), (kc hV.c4), (kc hV.c5), (kc hV.c6), (kc hV.c7), (kc hV.c8), (kc hV.c9), (kc hV.c10), (kc hV.c11), (kc hV.c12), (kc hV.c13), (kc hV.c14), (kc hV.c15), (kc hV.c16), (fun _ => rfl), (fun h0 => Below.trans (hV.fr (kb h0)) (Below.mono hal (Below.size (hV.fr (kb h0))))), (fun h0 => fun h1 => ⟨OwnAt.old (And.left (hV.bTA (kb h0) (kb h1))) hal, And.right (hV.bTA (kb h0) (kb h1))⟩), (fun hq _ => by have := (hV.bTA (kb hq) nl).1.lt; omega), (fun h0 => fun h1 => ⟨OwnAt.old (And.left (hV.bTL (kb h0) (kb h1))) hal, And.right (hV.bTL (kb h0) (kb h1))⟩), (fun hq _ => by have := (hV.bTL (kb hq) nl).1.lt; omega), (fun _ _ => ⟨OwnAt.new wx [.slice none 0 0, .slice none 0 0] 27, hfs⟩), (kl nl)⟩, rfl⟩
    · have before : ∀ j, j < 18 → L j = true := fun j hj => by
        have hj : j = 0 ∨ j = 1 ∨ j = 2 ∨ j = 3 ∨ j = 4 ∨ j = 5 ∨ j = 6 ∨ j = 7 ∨ j = 8 ∨ j = 9 ∨ j = 10 ∨ j = 11 ∨ j = 12 ∨ j = 13 ∨ j = 14 ∨ j = 15 ∨ j = 16 ∨ j = 17 := by omega
        rcases hj with rfl | rfl | rfl | rfl | rfl | rfl | rfl | rfl | rfl | rfl | rfl | rfl | rfl | rfl | rfl | rfl | rfl | rfl
        · exact hd _ rfl ⟨0, .phase⟩ (by simp) rfl
        · exact hd _ rfl ⟨1, .phase⟩ (by simp) rfl
        · exact hd _ rfl ⟨2, .phase⟩ (by simp) rfl
        · exact hd _ rfl ⟨3, .phase⟩ (by simp) rfl
        · exact hd _ rfl ⟨4, .phase⟩ (by simp) rfl
        · exact hd _ rfl ⟨5, .phase⟩ (by simp) rfl
        · exact hd _ rfl ⟨6, .phase⟩ (by simp) rfl
        · exact hd _ rfl ⟨7, .phase⟩ (by simp) rfl
        · exact hd _ rfl ⟨8, .phase⟩ (by simp) rfl
        · exact hd _ rfl ⟨9, .phase⟩ (by simp) rfl
        · exact hd _ rfl ⟨10, .phase⟩ (by simp) rfl
        · exact hd _ rfl ⟨11, .phase⟩ (by simp) rfl
        · exact hd _ rfl ⟨12, .phase⟩ (by simp) rfl
        · exact hd _ rfl ⟨13, .phase⟩ (by simp) rfl
        · exact hd _ rfl ⟨14, .chain⟩ (by simp) rfl
        · exact hd _ rfl ⟨15, .phase⟩ (by simp) rfl
        · exact hd _ rfl ⟨16, .data⟩ (by simp) rfl
        · exact hd _ rfl ⟨17, .data⟩ (by simp) rfl
      have d14 : L 14 = true := hd _ rfl ⟨14, .chain⟩ (by simp) rfl
      have d16 : L 16 = true := hd _ rfl ⟨16, .data⟩ (by simp) rfl
      obtain rfl := (hV.c16 d16).symm
      have d17 : L 17 = true := hd _ rfl ⟨17, .data⟩ (by simp) rfl
      obtain rfl := (hV.c17 d17).symm
      have ho := (hV.bC d17 hl).1
      have hxl := ho.lt
      have x0 := ho.at 0 _ rfl
      have x1 := ho.at 1 _ rfl
      have y0 := ho.fz 0
      have y1 := ho.fz 1
      refine op_at _ rfl rfl (fun K' hK => ?_)
      conv => arg 2; whnf
      go_wp2_with fail
      exact ⟨TA, TL, TC, z22, z23, z24, z25, z26, z27, z28, z29, z30, z31, z32, z33, z34, z35, z36, z37, .agg #[.slice (some ⟨TA, 0, none⟩) 1 1, .slice (some ⟨TL, 0, none⟩) 6 6], .pointer (some ⟨TC, 0, none⟩), ⟨(fun _ j hj => by rw [upd_ne L (show j ≠ 18 by omega)]; exact before j hj), (kq hV.p15_4), (kq hV.p15_6), (kq hV.p15_8), (kq hV.p15_10), (kq hV.p15_12), (kq hV.p15_14), (kq hV.p16_1), (kq hV.p16_15), (kd (before 1 (by decide))), (kd (before 15 (by decide))), (kd (before 17 (by decide))), (kc hV.c0), (kc hV.c1), (kc hV.c2), (kc hV.c3), (kc hV.c4), (kc hV.c5), (kc hV.c6), (kc hV.c7), (kc hV.c8), (kc hV.c9), (kc hV.c10), (kc hV.c11), (kc hV.c12), (kc hV.c13), (kc hV.c14), (kc hV.c15), (kc hV.c16), (kc hV.c17), (ks), (fun _ => ks), (fun h0 => fun h1 => (hV.nTA (kb h0) (kb h1))), (fun _ => ks), (fun h0 => fun h1 => (hV.nTL (kb h0) (kb h1))), (fun _ => ks), (fun _ => ⟨((zbelow_set (zbelow_set (hV.fr hl) (hV.bC d17 hl).2 0 _) (hV.bC d17 hl).2 1 _)), (((hV.bTA (before 1 (by decide)) hl).1.other (hV.nTA (before 1 (by decide)) d17) 0 _).other (hV.nTA (before 1 (by decide)) d17) 1 _), (((hV.bTL (before 15 (by decide)) hl).1.other (hV.nTL (before 15 (by decide)) d17) 0 _).other (hV.nTL (before 15 (by decide)) d17) 1 _), (((hV.bC d17 hl).1.set 0 _).set 1 _)⟩)⟩, rfl⟩
  · intro L act wx hI hall
    obtain ⟨TA, TL, TC, z22, z23, z24, z25, z26, z27, z28, z29, z30, z31, z32, z33, z34, z35, z36, z37, z38, z7, hV, rfl⟩ := hI
    obtain rfl := (hV.c0 (hall 0 (by decide))).symm
    obtain rfl := (hV.c1 (hall 1 (by decide))).symm
    obtain rfl := (hV.c2 (hall 2 (by decide))).symm
    obtain rfl := (hV.c3 (hall 3 (by decide))).symm
    obtain rfl := (hV.c4 (hall 4 (by decide))).symm
    obtain rfl := (hV.c5 (hall 5 (by decide))).symm
    obtain rfl := (hV.c6 (hall 6 (by decide))).symm
    obtain rfl := (hV.c7 (hall 7 (by decide))).symm
    obtain rfl := (hV.c8 (hall 8 (by decide))).symm
    obtain rfl := (hV.c9 (hall 9 (by decide))).symm
    obtain rfl := (hV.c10 (hall 10 (by decide))).symm
    obtain rfl := (hV.c11 (hall 11 (by decide))).symm
    obtain rfl := (hV.c12 (hall 12 (by decide))).symm
    obtain rfl := (hV.c13 (hall 13 (by decide))).symm
    obtain rfl := (hV.c14 (hall 14 (by decide))).symm
    obtain rfl := (hV.c15 (hall 15 (by decide))).symm
    obtain rfl := (hV.c16 (hall 16 (by decide))).symm
    obtain rfl := (hV.c17 (hall 17 (by decide))).symm
    exact hM _ _ (Met.intro (hJ _ _ ⟨TA, TL, TC, hV.up (hall 18 (by decide)), rfl⟩))
end Go.Proofs.YtpgjfpphigeliaaGreatDoor

namespace Go.Proofs.YtpgjfpphigeliaaGreatDoor
open Go.RowKit
set_option maxHeartbeats 4000000
set_option maxRecDepth 100000

theorem zez_0 (n op : Int) (hn : I64 n) (ho : I64 op) (hk : ipick op 7 = 0) (w : World) (hl : ILib w) :
    Calls Tryz.prog 9 #[.int .i64 n, .int .i64 op] w fun e w' => e = .returned (.bool true) ∧ Below w.heap.size w w' := by
  obtain ⟨hf, hr⟩ := ze_0 n hn
  have HAW := Lib.hid (jawake_any w hl)
  have HPK := Lib.hid (fun w => jpick_any op 7 ho (by decide) (by decide) w)
  rw [hk] at HPK
  have HRUN := Lib.hid (fun va vl w hc => run_tells (zeC n ⟨16, 0, 0, 0, n, []⟩) hf.1.2 hf.2 [] (fun z hz => by cases hz) 9 (by decide) (by decide) 1 0 6 [] hr va vl _ w hc (inp_nil w))
  have HS := Lib.hid (fun v1 v2 w h1 h2 => jsame_eq 1 0 6 [] v1 v2 w h1 h2)
  obtain ⟨hn1, hn2⟩ := hn
  clear hl hr hk hf
  go_enter Tryz.func9, Tryz.ntmps9
  go_wp2_with fail
  refine (HAW.out).mono ?_
  rintro e w1 ⟨rfl, hb1'⟩
  have HB := Lib.hid hb1'
  clear hb1' HAW
  go_wp2_with fail
  have hbX1 : Below w1.heap.size w1 (w1.alloc (.cells #[.int .i64 16, .int .i64 0, .int .i64 0, .int .i64 0, .int .i64 n, .string ⟨#[]⟩, .int .i64 15, .int .i64 0, .int .i64 5, .int .i64 0, .int .i64 0, .string ⟨#[]⟩, .int .i64 1, .int .i64 0, .int .i64 5, .int .i64 5, .int .i64 0, .string ⟨#[]⟩, .int .i64 19, .int .i64 0, .int .i64 2, .int .i64 0, .int .i64 (-8), .string ⟨#[]⟩, .int .i64 18, .int .i64 0, .int .i64 5, .int .i64 0, .int .i64 1, .string ⟨#[]⟩, .int .i64 17, .int .i64 0, .int .i64 0, .int .i64 0, .int .i64 0, .string ⟨#[97]⟩, .int .i64 12, .int .i64 0, .int .i64 0, .int .i64 5, .int .i64 0, .string ⟨#[]⟩] 39)) := (Below.refl _ _).alloc (Nat.le_refl _) _
  have hoX := OwnAt.new w1 [.int .i64 16, .int .i64 0, .int .i64 0, .int .i64 0, .int .i64 n, .string ⟨#[]⟩, .int .i64 15, .int .i64 0, .int .i64 5, .int .i64 0, .int .i64 0, .string ⟨#[]⟩, .int .i64 1, .int .i64 0, .int .i64 5, .int .i64 5, .int .i64 0, .string ⟨#[]⟩, .int .i64 19, .int .i64 0, .int .i64 2, .int .i64 0, .int .i64 (-8), .string ⟨#[]⟩, .int .i64 18, .int .i64 0, .int .i64 5, .int .i64 0, .int .i64 1, .string ⟨#[]⟩, .int .i64 17, .int .i64 0, .int .i64 0, .int .i64 0, .int .i64 0, .string ⟨#[97]⟩, .int .i64 12, .int .i64 0, .int .i64 0, .int .i64 5, .int .i64 0, .string ⟨#[]⟩] 39
  obtain ⟨WA, hWX⟩ : ∃ WA, w1.alloc (.cells #[.int .i64 16, .int .i64 0, .int .i64 0, .int .i64 0, .int .i64 n, .string ⟨#[]⟩, .int .i64 15, .int .i64 0, .int .i64 5, .int .i64 0, .int .i64 0, .string ⟨#[]⟩, .int .i64 1, .int .i64 0, .int .i64 5, .int .i64 5, .int .i64 0, .string ⟨#[]⟩, .int .i64 19, .int .i64 0, .int .i64 2, .int .i64 0, .int .i64 (-8), .string ⟨#[]⟩, .int .i64 18, .int .i64 0, .int .i64 5, .int .i64 0, .int .i64 1, .string ⟨#[]⟩, .int .i64 17, .int .i64 0, .int .i64 0, .int .i64 0, .int .i64 0, .string ⟨#[97]⟩, .int .i64 12, .int .i64 0, .int .i64 0, .int .i64 5, .int .i64 0, .string ⟨#[]⟩] 39) = WA := ⟨_, rfl⟩
  have hsWA : WA.heap.size = w1.heap.size + 1 := by rw [← hWX]; simp
  rw [hWX] at hbX1 hoX ⊢
  replace HB := Lib.hid (HB.out.trans (hbX1.mono HB.out.size))
  have HIN := Lib.hid hoX
  clear hbX1 hWX hoX
  have c0 := HIN.out.at 0 _ rfl
  have c1 := HIN.out.at 1 _ rfl
  have c2 := HIN.out.at 2 _ rfl
  have c3 := HIN.out.at 3 _ rfl
  have c4 := HIN.out.at 4 _ rfl
  have c5 := HIN.out.at 5 _ rfl
  refine (HPK.out _).mono ?_
  rintro e w3 ⟨rfl, rfl⟩
  clear HPK
  clear hsWA
  go_upto_region 3 with (fail)
  have hbX2 : Below WA.heap.size WA (WA.alloc (.cells #[.int .i64 16, .int .i64 0, .int .i64 0, .int .i64 0, .int .i64 n, .string ⟨#[]⟩] 39)) := (Below.refl _ _).alloc (Nat.le_refl _) _
  have hoX := OwnAt.new WA [.int .i64 16, .int .i64 0, .int .i64 0, .int .i64 0, .int .i64 n, .string ⟨#[]⟩] 39
  obtain ⟨WI, hWX⟩ : ∃ WI, WA.alloc (.cells #[.int .i64 16, .int .i64 0, .int .i64 0, .int .i64 0, .int .i64 n, .string ⟨#[]⟩] 39) = WI := ⟨_, rfl⟩
  rw [hWX] at hbX2 hoX ⊢
  replace HB := Lib.hid (HB.out.trans (hbX2.mono HB.out.size))
  replace HIN := Lib.hid (HIN.out.old hbX2)
  have HX := Lib.hid hoX
  clear hbX2 hWX hoX
  clear c0 c1 c2 c3 c4 c5
  clear HIN
  refine wp_cut (fun a' w' => RJZ3 WA.heap.size n 16 0 0 0 n ⟨#[]⟩ WI _ _ _ _ _ _ _ _ _ _ _ _ _ _ _ _ _ _ _ _ _ _ _ _ _ _ a' w') ?rest (fun J K' hJ hM => then_any (reg_JZ3 WA.heap.size n 16 0 0 0 n ⟨#[]⟩ WI HX _ _ _ _ _ _ _ _ _ _ _ _ _ _ _ _ _ _ _ _ _ _ _ _ _ _ _ _ _ _ _ _ _ _ _ _ _ _ _ _ _ _ _ _ J K' hJ hM))
  case rest =>
  rintro a' w' ⟨TA, TL, TC, ⟨hfr, hoa, hol, hoc⟩, rfl⟩
  dsimp only
  obtain ⟨WC, hWC⟩ : ∃ WC, w' = WC := ⟨_, rfl⟩
  rw [hWC] at hfr hoa hol hoc ⊢
  clear hWC w'
  replace HB := Lib.hid (HB.out.trans (hfr.mono HB.out.size))
  clear HX hfr
  have HC : Hid (CodeAt WC (zeC n ⟨16, 0, 0, 0, n, []⟩) (.slice (some ⟨TA, 0, none⟩) 1 1) (.slice (some ⟨TL, 0, none⟩) 6 6)) := Lib.hid ⟨ars_block (L := zeA) hoa (of_decide_eq_true rfl), lns_block (L := zeL n ⟨16, 0, 0, 0, n, []⟩) hol (of_decide_eq_true rfl)⟩
  have HO := Lib.hid hoc
  clear hoa hol hoc
  generalize zeC n ⟨16, 0, 0, 0, n, []⟩ = C at *
  have e0 := HO.out.at 0 _ rfl
  have e1 := HO.out.at 1 _ rfl
  go_wp2_with fail
  refine (HRUN.out _ _ _ HC.out).mono ?_
  rintro e wr ⟨ra, rc, rfl, hn1', hbr⟩
  replace HB := Lib.hid (HB.out.trans (hbr.mono HB.out.size))
  replace HC := Lib.hid (HC.out.old hbr)
  replace HO := Lib.hid (HO.out.old hbr)
  clear hbr
  have HN := Lib.hid (RwOwn.nilv hn1' (of_decide_eq_true rfl) intCells_len)
  clear hn1' e0 e1 HRUN
  go_wp2_with fail
  refine (HS.out _ _ _ HN.out (RwAt.nil _ _ _)).mono ?_
  rintro e ws ⟨rfl, hbs⟩
  replace HB := Lib.hid (HB.out.trans (hbs.mono HB.out.size))
  replace HC := Lib.hid (HC.out.old hbs)
  replace HO := Lib.hid (HO.out.old hbs)
  replace HN := Lib.hid (HN.out.old hbs)
  clear hbs
  go_wp2_with fail
  go_ret
  exact ⟨rfl, HB.out⟩
theorem zez_1 (n op : Int) (hn : I64 n) (ho : I64 op) (hk : ipick op 7 = 1) (w : World) (hl : ILib w) :
    Calls Tryz.prog 9 #[.int .i64 n, .int .i64 op] w fun e w' => e = .returned (.bool true) ∧ Below w.heap.size w w' := by
  obtain ⟨hf, hr⟩ := ze_1 n hn
  have HAW := Lib.hid (jawake_any w hl)
  have HPK := Lib.hid (fun w => jpick_any op 7 ho (by decide) (by decide) w)
  rw [hk] at HPK
  have HRUN := Lib.hid (fun va vl w hc => run_tells (zeC n ⟨15, 0, 5, 0, 0, []⟩) hf.1.2 hf.2 [] (fun z hz => by cases hz) 9 (by decide) (by decide) 1 0 6 [] hr va vl _ w hc (inp_nil w))
  have HS := Lib.hid (fun v1 v2 w h1 h2 => jsame_eq 1 0 6 [] v1 v2 w h1 h2)
  obtain ⟨hn1, hn2⟩ := hn
  clear hl hr hk hf
  go_enter Tryz.func9, Tryz.ntmps9
  go_wp2_with fail
  refine (HAW.out).mono ?_
  rintro e w1 ⟨rfl, hb1'⟩
  have HB := Lib.hid hb1'
  clear hb1' HAW
  go_wp2_with fail
  have hbX1 : Below w1.heap.size w1 (w1.alloc (.cells #[.int .i64 16, .int .i64 0, .int .i64 0, .int .i64 0, .int .i64 n, .string ⟨#[]⟩, .int .i64 15, .int .i64 0, .int .i64 5, .int .i64 0, .int .i64 0, .string ⟨#[]⟩, .int .i64 1, .int .i64 0, .int .i64 5, .int .i64 5, .int .i64 0, .string ⟨#[]⟩, .int .i64 19, .int .i64 0, .int .i64 2, .int .i64 0, .int .i64 (-8), .string ⟨#[]⟩, .int .i64 18, .int .i64 0, .int .i64 5, .int .i64 0, .int .i64 1, .string ⟨#[]⟩, .int .i64 17, .int .i64 0, .int .i64 0, .int .i64 0, .int .i64 0, .string ⟨#[97]⟩, .int .i64 12, .int .i64 0, .int .i64 0, .int .i64 5, .int .i64 0, .string ⟨#[]⟩] 39)) := (Below.refl _ _).alloc (Nat.le_refl _) _
  have hoX := OwnAt.new w1 [.int .i64 16, .int .i64 0, .int .i64 0, .int .i64 0, .int .i64 n, .string ⟨#[]⟩, .int .i64 15, .int .i64 0, .int .i64 5, .int .i64 0, .int .i64 0, .string ⟨#[]⟩, .int .i64 1, .int .i64 0, .int .i64 5, .int .i64 5, .int .i64 0, .string ⟨#[]⟩, .int .i64 19, .int .i64 0, .int .i64 2, .int .i64 0, .int .i64 (-8), .string ⟨#[]⟩, .int .i64 18, .int .i64 0, .int .i64 5, .int .i64 0, .int .i64 1, .string ⟨#[]⟩, .int .i64 17, .int .i64 0, .int .i64 0, .int .i64 0, .int .i64 0, .string ⟨#[97]⟩, .int .i64 12, .int .i64 0, .int .i64 0, .int .i64 5, .int .i64 0, .string ⟨#[]⟩] 39
  obtain ⟨WA, hWX⟩ : ∃ WA, w1.alloc (.cells #[.int .i64 16, .int .i64 0, .int .i64 0, .int .i64 0, .int .i64 n, .string ⟨#[]⟩, .int .i64 15, .int .i64 0, .int .i64 5, .int .i64 0, .int .i64 0, .string ⟨#[]⟩, .int .i64 1, .int .i64 0, .int .i64 5, .int .i64 5, .int .i64 0, .string ⟨#[]⟩, .int .i64 19, .int .i64 0, .int .i64 2, .int .i64 0, .int .i64 (-8), .string ⟨#[]⟩, .int .i64 18, .int .i64 0, .int .i64 5, .int .i64 0, .int .i64 1, .string ⟨#[]⟩, .int .i64 17, .int .i64 0, .int .i64 0, .int .i64 0, .int .i64 0, .string ⟨#[97]⟩, .int .i64 12, .int .i64 0, .int .i64 0, .int .i64 5, .int .i64 0, .string ⟨#[]⟩] 39) = WA := ⟨_, rfl⟩
  have hsWA : WA.heap.size = w1.heap.size + 1 := by rw [← hWX]; simp
  rw [hWX] at hbX1 hoX ⊢
  replace HB := Lib.hid (HB.out.trans (hbX1.mono HB.out.size))
  have HIN := Lib.hid hoX
  clear hbX1 hWX hoX
  have c0 := HIN.out.at 6 _ rfl
  have c1 := HIN.out.at 7 _ rfl
  have c2 := HIN.out.at 8 _ rfl
  have c3 := HIN.out.at 9 _ rfl
  have c4 := HIN.out.at 10 _ rfl
  have c5 := HIN.out.at 11 _ rfl
  refine (HPK.out _).mono ?_
  rintro e w3 ⟨rfl, rfl⟩
  clear HPK
  clear hsWA
  go_upto_region 3 with (fail)
  have hbX2 : Below WA.heap.size WA (WA.alloc (.cells #[.int .i64 15, .int .i64 0, .int .i64 5, .int .i64 0, .int .i64 0, .string ⟨#[]⟩] 39)) := (Below.refl _ _).alloc (Nat.le_refl _) _
  have hoX := OwnAt.new WA [.int .i64 15, .int .i64 0, .int .i64 5, .int .i64 0, .int .i64 0, .string ⟨#[]⟩] 39
  obtain ⟨WI, hWX⟩ : ∃ WI, WA.alloc (.cells #[.int .i64 15, .int .i64 0, .int .i64 5, .int .i64 0, .int .i64 0, .string ⟨#[]⟩] 39) = WI := ⟨_, rfl⟩
  rw [hWX] at hbX2 hoX ⊢
  replace HB := Lib.hid (HB.out.trans (hbX2.mono HB.out.size))
  replace HIN := Lib.hid (HIN.out.old hbX2)
  have HX := Lib.hid hoX
  clear hbX2 hWX hoX
  clear c0 c1 c2 c3 c4 c5
  clear HIN
  refine wp_cut (fun a' w' => RJZ3 WA.heap.size n 15 0 5 0 0 ⟨#[]⟩ WI _ _ _ _ _ _ _ _ _ _ _ _ _ _ _ _ _ _ _ _ _ _ _ _ _ _ a' w') ?rest (fun J K' hJ hM => then_any (reg_JZ3 WA.heap.size n 15 0 5 0 0 ⟨#[]⟩ WI HX _ _ _ _ _ _ _ _ _ _ _ _ _ _ _ _ _ _ _ _ _ _ _ _ _ _ _ _ _ _ _ _ _ _ _ _ _ _ _ _ _ _ _ _ J K' hJ hM))
  case rest =>
  rintro a' w' ⟨TA, TL, TC, ⟨hfr, hoa, hol, hoc⟩, rfl⟩
  dsimp only
  obtain ⟨WC, hWC⟩ : ∃ WC, w' = WC := ⟨_, rfl⟩
  rw [hWC] at hfr hoa hol hoc ⊢
  clear hWC w'
  replace HB := Lib.hid (HB.out.trans (hfr.mono HB.out.size))
  clear HX hfr
  have HC : Hid (CodeAt WC (zeC n ⟨15, 0, 5, 0, 0, []⟩) (.slice (some ⟨TA, 0, none⟩) 1 1) (.slice (some ⟨TL, 0, none⟩) 6 6)) := Lib.hid ⟨ars_block (L := zeA) hoa (of_decide_eq_true rfl), lns_block (L := zeL n ⟨15, 0, 5, 0, 0, []⟩) hol (of_decide_eq_true rfl)⟩
  have HO := Lib.hid hoc
  clear hoa hol hoc
  generalize zeC n ⟨15, 0, 5, 0, 0, []⟩ = C at *
  have e0 := HO.out.at 0 _ rfl
  have e1 := HO.out.at 1 _ rfl
  go_wp2_with fail
  refine (HRUN.out _ _ _ HC.out).mono ?_
  rintro e wr ⟨ra, rc, rfl, hn1', hbr⟩
  replace HB := Lib.hid (HB.out.trans (hbr.mono HB.out.size))
  replace HC := Lib.hid (HC.out.old hbr)
  replace HO := Lib.hid (HO.out.old hbr)
  clear hbr
  have HN := Lib.hid (RwOwn.nilv hn1' (of_decide_eq_true rfl) intCells_len)
  clear hn1' e0 e1 HRUN
  go_wp2_with fail
  refine (HS.out _ _ _ HN.out (RwAt.nil _ _ _)).mono ?_
  rintro e ws ⟨rfl, hbs⟩
  replace HB := Lib.hid (HB.out.trans (hbs.mono HB.out.size))
  replace HC := Lib.hid (HC.out.old hbs)
  replace HO := Lib.hid (HO.out.old hbs)
  replace HN := Lib.hid (HN.out.old hbs)
  clear hbs
  go_wp2_with fail
  go_ret
  exact ⟨rfl, HB.out⟩
theorem zez_2 (n op : Int) (hn : I64 n) (ho : I64 op) (hk : ipick op 7 = 2) (w : World) (hl : ILib w) :
    Calls Tryz.prog 9 #[.int .i64 n, .int .i64 op] w fun e w' => e = .returned (.bool true) ∧ Below w.heap.size w w' := by
  obtain ⟨hf, hr⟩ := ze_2 n hn
  have HAW := Lib.hid (jawake_any w hl)
  have HPK := Lib.hid (fun w => jpick_any op 7 ho (by decide) (by decide) w)
  rw [hk] at HPK
  have HRUN := Lib.hid (fun va vl w hc => run_tells (zeC n ⟨1, 0, 5, 5, 0, []⟩) hf.1.2 hf.2 [] (fun z hz => by cases hz) 9 (by decide) (by decide) 1 0 6 [] hr va vl _ w hc (inp_nil w))
  have HS := Lib.hid (fun v1 v2 w h1 h2 => jsame_eq 1 0 6 [] v1 v2 w h1 h2)
  obtain ⟨hn1, hn2⟩ := hn
  clear hl hr hk hf
  go_enter Tryz.func9, Tryz.ntmps9
  go_wp2_with fail
  refine (HAW.out).mono ?_
  rintro e w1 ⟨rfl, hb1'⟩
  have HB := Lib.hid hb1'
  clear hb1' HAW
  go_wp2_with fail
  have hbX1 : Below w1.heap.size w1 (w1.alloc (.cells #[.int .i64 16, .int .i64 0, .int .i64 0, .int .i64 0, .int .i64 n, .string ⟨#[]⟩, .int .i64 15, .int .i64 0, .int .i64 5, .int .i64 0, .int .i64 0, .string ⟨#[]⟩, .int .i64 1, .int .i64 0, .int .i64 5, .int .i64 5, .int .i64 0, .string ⟨#[]⟩, .int .i64 19, .int .i64 0, .int .i64 2, .int .i64 0, .int .i64 (-8), .string ⟨#[]⟩, .int .i64 18, .int .i64 0, .int .i64 5, .int .i64 0, .int .i64 1, .string ⟨#[]⟩, .int .i64 17, .int .i64 0, .int .i64 0, .int .i64 0, .int .i64 0, .string ⟨#[97]⟩, .int .i64 12, .int .i64 0, .int .i64 0, .int .i64 5, .int .i64 0, .string ⟨#[]⟩] 39)) := (Below.refl _ _).alloc (Nat.le_refl _) _
  have hoX := OwnAt.new w1 [.int .i64 16, .int .i64 0, .int .i64 0, .int .i64 0, .int .i64 n, .string ⟨#[]⟩, .int .i64 15, .int .i64 0, .int .i64 5, .int .i64 0, .int .i64 0, .string ⟨#[]⟩, .int .i64 1, .int .i64 0, .int .i64 5, .int .i64 5, .int .i64 0, .string ⟨#[]⟩, .int .i64 19, .int .i64 0, .int .i64 2, .int .i64 0, .int .i64 (-8), .string ⟨#[]⟩, .int .i64 18, .int .i64 0, .int .i64 5, .int .i64 0, .int .i64 1, .string ⟨#[]⟩, .int .i64 17, .int .i64 0, .int .i64 0, .int .i64 0, .int .i64 0, .string ⟨#[97]⟩, .int .i64 12, .int .i64 0, .int .i64 0, .int .i64 5, .int .i64 0, .string ⟨#[]⟩] 39
  obtain ⟨WA, hWX⟩ : ∃ WA, w1.alloc (.cells #[.int .i64 16, .int .i64 0, .int .i64 0, .int .i64 0, .int .i64 n, .string ⟨#[]⟩, .int .i64 15, .int .i64 0, .int .i64 5, .int .i64 0, .int .i64 0, .string ⟨#[]⟩, .int .i64 1, .int .i64 0, .int .i64 5, .int .i64 5, .int .i64 0, .string ⟨#[]⟩, .int .i64 19, .int .i64 0, .int .i64 2, .int .i64 0, .int .i64 (-8), .string ⟨#[]⟩, .int .i64 18, .int .i64 0, .int .i64 5, .int .i64 0, .int .i64 1, .string ⟨#[]⟩, .int .i64 17, .int .i64 0, .int .i64 0, .int .i64 0, .int .i64 0, .string ⟨#[97]⟩, .int .i64 12, .int .i64 0, .int .i64 0, .int .i64 5, .int .i64 0, .string ⟨#[]⟩] 39) = WA := ⟨_, rfl⟩
  have hsWA : WA.heap.size = w1.heap.size + 1 := by rw [← hWX]; simp
  rw [hWX] at hbX1 hoX ⊢
  replace HB := Lib.hid (HB.out.trans (hbX1.mono HB.out.size))
  have HIN := Lib.hid hoX
  clear hbX1 hWX hoX
  have c0 := HIN.out.at 12 _ rfl
  have c1 := HIN.out.at 13 _ rfl
  have c2 := HIN.out.at 14 _ rfl
  have c3 := HIN.out.at 15 _ rfl
  have c4 := HIN.out.at 16 _ rfl
  have c5 := HIN.out.at 17 _ rfl
  refine (HPK.out _).mono ?_
  rintro e w3 ⟨rfl, rfl⟩
  clear HPK
  clear hsWA
  go_upto_region 3 with (fail)
  have hbX2 : Below WA.heap.size WA (WA.alloc (.cells #[.int .i64 1, .int .i64 0, .int .i64 5, .int .i64 5, .int .i64 0, .string ⟨#[]⟩] 39)) := (Below.refl _ _).alloc (Nat.le_refl _) _
  have hoX := OwnAt.new WA [.int .i64 1, .int .i64 0, .int .i64 5, .int .i64 5, .int .i64 0, .string ⟨#[]⟩] 39
  obtain ⟨WI, hWX⟩ : ∃ WI, WA.alloc (.cells #[.int .i64 1, .int .i64 0, .int .i64 5, .int .i64 5, .int .i64 0, .string ⟨#[]⟩] 39) = WI := ⟨_, rfl⟩
  rw [hWX] at hbX2 hoX ⊢
  replace HB := Lib.hid (HB.out.trans (hbX2.mono HB.out.size))
  replace HIN := Lib.hid (HIN.out.old hbX2)
  have HX := Lib.hid hoX
  clear hbX2 hWX hoX
  clear c0 c1 c2 c3 c4 c5
  clear HIN
  refine wp_cut (fun a' w' => RJZ3 WA.heap.size n 1 0 5 5 0 ⟨#[]⟩ WI _ _ _ _ _ _ _ _ _ _ _ _ _ _ _ _ _ _ _ _ _ _ _ _ _ _ a' w') ?rest (fun J K' hJ hM => then_any (reg_JZ3 WA.heap.size n 1 0 5 5 0 ⟨#[]⟩ WI HX _ _ _ _ _ _ _ _ _ _ _ _ _ _ _ _ _ _ _ _ _ _ _ _ _ _ _ _ _ _ _ _ _ _ _ _ _ _ _ _ _ _ _ _ J K' hJ hM))
  case rest =>
  rintro a' w' ⟨TA, TL, TC, ⟨hfr, hoa, hol, hoc⟩, rfl⟩
  dsimp only
  obtain ⟨WC, hWC⟩ : ∃ WC, w' = WC := ⟨_, rfl⟩
  rw [hWC] at hfr hoa hol hoc ⊢
  clear hWC w'
  replace HB := Lib.hid (HB.out.trans (hfr.mono HB.out.size))
  clear HX hfr
  have HC : Hid (CodeAt WC (zeC n ⟨1, 0, 5, 5, 0, []⟩) (.slice (some ⟨TA, 0, none⟩) 1 1) (.slice (some ⟨TL, 0, none⟩) 6 6)) := Lib.hid ⟨ars_block (L := zeA) hoa (of_decide_eq_true rfl), lns_block (L := zeL n ⟨1, 0, 5, 5, 0, []⟩) hol (of_decide_eq_true rfl)⟩
  have HO := Lib.hid hoc
  clear hoa hol hoc
  generalize zeC n ⟨1, 0, 5, 5, 0, []⟩ = C at *
  have e0 := HO.out.at 0 _ rfl
  have e1 := HO.out.at 1 _ rfl
  go_wp2_with fail
  refine (HRUN.out _ _ _ HC.out).mono ?_
  rintro e wr ⟨ra, rc, rfl, hn1', hbr⟩
  replace HB := Lib.hid (HB.out.trans (hbr.mono HB.out.size))
  replace HC := Lib.hid (HC.out.old hbr)
  replace HO := Lib.hid (HO.out.old hbr)
  clear hbr
  have HN := Lib.hid (RwOwn.nilv hn1' (of_decide_eq_true rfl) intCells_len)
  clear hn1' e0 e1 HRUN
  go_wp2_with fail
  refine (HS.out _ _ _ HN.out (RwAt.nil _ _ _)).mono ?_
  rintro e ws ⟨rfl, hbs⟩
  replace HB := Lib.hid (HB.out.trans (hbs.mono HB.out.size))
  replace HC := Lib.hid (HC.out.old hbs)
  replace HO := Lib.hid (HO.out.old hbs)
  replace HN := Lib.hid (HN.out.old hbs)
  clear hbs
  go_wp2_with fail
  go_ret
  exact ⟨rfl, HB.out⟩
theorem zez_3 (n op : Int) (hn : I64 n) (ho : I64 op) (hk : ipick op 7 = 3) (w : World) (hl : ILib w) :
    Calls Tryz.prog 9 #[.int .i64 n, .int .i64 op] w fun e w' => e = .returned (.bool true) ∧ Below w.heap.size w w' := by
  obtain ⟨hf, hr⟩ := ze_3 n hn
  have HAW := Lib.hid (jawake_any w hl)
  have HPK := Lib.hid (fun w => jpick_any op 7 ho (by decide) (by decide) w)
  rw [hk] at HPK
  have HRUN := Lib.hid (fun va vl w hc => run_tells (zeC n ⟨19, 0, 2, 0, -8, []⟩) hf.1.2 hf.2 [] (fun z hz => by cases hz) 9 (by decide) (by decide) 1 0 6 [] hr va vl _ w hc (inp_nil w))
  have HS := Lib.hid (fun v1 v2 w h1 h2 => jsame_eq 1 0 6 [] v1 v2 w h1 h2)
  obtain ⟨hn1, hn2⟩ := hn
  clear hl hr hk hf
  go_enter Tryz.func9, Tryz.ntmps9
  go_wp2_with fail
  refine (HAW.out).mono ?_
  rintro e w1 ⟨rfl, hb1'⟩
  have HB := Lib.hid hb1'
  clear hb1' HAW
  go_wp2_with fail
  have hbX1 : Below w1.heap.size w1 (w1.alloc (.cells #[.int .i64 16, .int .i64 0, .int .i64 0, .int .i64 0, .int .i64 n, .string ⟨#[]⟩, .int .i64 15, .int .i64 0, .int .i64 5, .int .i64 0, .int .i64 0, .string ⟨#[]⟩, .int .i64 1, .int .i64 0, .int .i64 5, .int .i64 5, .int .i64 0, .string ⟨#[]⟩, .int .i64 19, .int .i64 0, .int .i64 2, .int .i64 0, .int .i64 (-8), .string ⟨#[]⟩, .int .i64 18, .int .i64 0, .int .i64 5, .int .i64 0, .int .i64 1, .string ⟨#[]⟩, .int .i64 17, .int .i64 0, .int .i64 0, .int .i64 0, .int .i64 0, .string ⟨#[97]⟩, .int .i64 12, .int .i64 0, .int .i64 0, .int .i64 5, .int .i64 0, .string ⟨#[]⟩] 39)) := (Below.refl _ _).alloc (Nat.le_refl _) _
  have hoX := OwnAt.new w1 [.int .i64 16, .int .i64 0, .int .i64 0, .int .i64 0, .int .i64 n, .string ⟨#[]⟩, .int .i64 15, .int .i64 0, .int .i64 5, .int .i64 0, .int .i64 0, .string ⟨#[]⟩, .int .i64 1, .int .i64 0, .int .i64 5, .int .i64 5, .int .i64 0, .string ⟨#[]⟩, .int .i64 19, .int .i64 0, .int .i64 2, .int .i64 0, .int .i64 (-8), .string ⟨#[]⟩, .int .i64 18, .int .i64 0, .int .i64 5, .int .i64 0, .int .i64 1, .string ⟨#[]⟩, .int .i64 17, .int .i64 0, .int .i64 0, .int .i64 0, .int .i64 0, .string ⟨#[97]⟩, .int .i64 12, .int .i64 0, .int .i64 0, .int .i64 5, .int .i64 0, .string ⟨#[]⟩] 39
  obtain ⟨WA, hWX⟩ : ∃ WA, w1.alloc (.cells #[.int .i64 16, .int .i64 0, .int .i64 0, .int .i64 0, .int .i64 n, .string ⟨#[]⟩, .int .i64 15, .int .i64 0, .int .i64 5, .int .i64 0, .int .i64 0, .string ⟨#[]⟩, .int .i64 1, .int .i64 0, .int .i64 5, .int .i64 5, .int .i64 0, .string ⟨#[]⟩, .int .i64 19, .int .i64 0, .int .i64 2, .int .i64 0, .int .i64 (-8), .string ⟨#[]⟩, .int .i64 18, .int .i64 0, .int .i64 5, .int .i64 0, .int .i64 1, .string ⟨#[]⟩, .int .i64 17, .int .i64 0, .int .i64 0, .int .i64 0, .int .i64 0, .string ⟨#[97]⟩, .int .i64 12, .int .i64 0, .int .i64 0, .int .i64 5, .int .i64 0, .string ⟨#[]⟩] 39) = WA := ⟨_, rfl⟩
  have hsWA : WA.heap.size = w1.heap.size + 1 := by rw [← hWX]; simp
  rw [hWX] at hbX1 hoX ⊢
  replace HB := Lib.hid (HB.out.trans (hbX1.mono HB.out.size))
  have HIN := Lib.hid hoX
  clear hbX1 hWX hoX
  have c0 := HIN.out.at 18 _ rfl
  have c1 := HIN.out.at 19 _ rfl
  have c2 := HIN.out.at 20 _ rfl
  have c3 := HIN.out.at 21 _ rfl
  have c4 := HIN.out.at 22 _ rfl
  have c5 := HIN.out.at 23 _ rfl
  refine (HPK.out _).mono ?_
  rintro e w3 ⟨rfl, rfl⟩
  clear HPK
  clear hsWA
  go_upto_region 3 with (fail)
  have hbX2 : Below WA.heap.size WA (WA.alloc (.cells #[.int .i64 19, .int .i64 0, .int .i64 2, .int .i64 0, .int .i64 (-8), .string ⟨#[]⟩] 39)) := (Below.refl _ _).alloc (Nat.le_refl _) _
  have hoX := OwnAt.new WA [.int .i64 19, .int .i64 0, .int .i64 2, .int .i64 0, .int .i64 (-8), .string ⟨#[]⟩] 39
  obtain ⟨WI, hWX⟩ : ∃ WI, WA.alloc (.cells #[.int .i64 19, .int .i64 0, .int .i64 2, .int .i64 0, .int .i64 (-8), .string ⟨#[]⟩] 39) = WI := ⟨_, rfl⟩
  rw [hWX] at hbX2 hoX ⊢
  replace HB := Lib.hid (HB.out.trans (hbX2.mono HB.out.size))
  replace HIN := Lib.hid (HIN.out.old hbX2)
  have HX := Lib.hid hoX
  clear hbX2 hWX hoX
  clear c0 c1 c2 c3 c4 c5
  clear HIN
  refine wp_cut (fun a' w' => RJZ3 WA.heap.size n 19 0 2 0 (-8) ⟨#[]⟩ WI _ _ _ _ _ _ _ _ _ _ _ _ _ _ _ _ _ _ _ _ _ _ _ _ _ _ a' w') ?rest (fun J K' hJ hM => then_any (reg_JZ3 WA.heap.size n 19 0 2 0 (-8) ⟨#[]⟩ WI HX _ _ _ _ _ _ _ _ _ _ _ _ _ _ _ _ _ _ _ _ _ _ _ _ _ _ _ _ _ _ _ _ _ _ _ _ _ _ _ _ _ _ _ _ J K' hJ hM))
  case rest =>
  rintro a' w' ⟨TA, TL, TC, ⟨hfr, hoa, hol, hoc⟩, rfl⟩
  dsimp only
  obtain ⟨WC, hWC⟩ : ∃ WC, w' = WC := ⟨_, rfl⟩
  rw [hWC] at hfr hoa hol hoc ⊢
  clear hWC w'
  replace HB := Lib.hid (HB.out.trans (hfr.mono HB.out.size))
  clear HX hfr
  have HC : Hid (CodeAt WC (zeC n ⟨19, 0, 2, 0, -8, []⟩) (.slice (some ⟨TA, 0, none⟩) 1 1) (.slice (some ⟨TL, 0, none⟩) 6 6)) := Lib.hid ⟨ars_block (L := zeA) hoa (of_decide_eq_true rfl), lns_block (L := zeL n ⟨19, 0, 2, 0, -8, []⟩) hol (of_decide_eq_true rfl)⟩
  have HO := Lib.hid hoc
  clear hoa hol hoc
  generalize zeC n ⟨19, 0, 2, 0, -8, []⟩ = C at *
  have e0 := HO.out.at 0 _ rfl
  have e1 := HO.out.at 1 _ rfl
  go_wp2_with fail
  refine (HRUN.out _ _ _ HC.out).mono ?_
  rintro e wr ⟨ra, rc, rfl, hn1', hbr⟩
  replace HB := Lib.hid (HB.out.trans (hbr.mono HB.out.size))
  replace HC := Lib.hid (HC.out.old hbr)
  replace HO := Lib.hid (HO.out.old hbr)
  clear hbr
  have HN := Lib.hid (RwOwn.nilv hn1' (of_decide_eq_true rfl) intCells_len)
  clear hn1' e0 e1 HRUN
  go_wp2_with fail
  refine (HS.out _ _ _ HN.out (RwAt.nil _ _ _)).mono ?_
  rintro e ws ⟨rfl, hbs⟩
  replace HB := Lib.hid (HB.out.trans (hbs.mono HB.out.size))
  replace HC := Lib.hid (HC.out.old hbs)
  replace HO := Lib.hid (HO.out.old hbs)
  replace HN := Lib.hid (HN.out.old hbs)
  clear hbs
  go_wp2_with fail
  go_ret
  exact ⟨rfl, HB.out⟩
theorem zez_4 (n op : Int) (hn : I64 n) (ho : I64 op) (hk : ipick op 7 = 4) (w : World) (hl : ILib w) :
    Calls Tryz.prog 9 #[.int .i64 n, .int .i64 op] w fun e w' => e = .returned (.bool true) ∧ Below w.heap.size w w' := by
  obtain ⟨hf, hr⟩ := ze_4 n hn
  have HAW := Lib.hid (jawake_any w hl)
  have HPK := Lib.hid (fun w => jpick_any op 7 ho (by decide) (by decide) w)
  rw [hk] at HPK
  have HRUN := Lib.hid (fun va vl w hc => run_tells (zeC n ⟨18, 0, 5, 0, 1, []⟩) hf.1.2 hf.2 [] (fun z hz => by cases hz) 9 (by decide) (by decide) 1 0 6 [] hr va vl _ w hc (inp_nil w))
  have HS := Lib.hid (fun v1 v2 w h1 h2 => jsame_eq 1 0 6 [] v1 v2 w h1 h2)
  obtain ⟨hn1, hn2⟩ := hn
  clear hl hr hk hf
  go_enter Tryz.func9, Tryz.ntmps9
  go_wp2_with fail
  refine (HAW.out).mono ?_
  rintro e w1 ⟨rfl, hb1'⟩
  have HB := Lib.hid hb1'
  clear hb1' HAW
  go_wp2_with fail
  have hbX1 : Below w1.heap.size w1 (w1.alloc (.cells #[.int .i64 16, .int .i64 0, .int .i64 0, .int .i64 0, .int .i64 n, .string ⟨#[]⟩, .int .i64 15, .int .i64 0, .int .i64 5, .int .i64 0, .int .i64 0, .string ⟨#[]⟩, .int .i64 1, .int .i64 0, .int .i64 5, .int .i64 5, .int .i64 0, .string ⟨#[]⟩, .int .i64 19, .int .i64 0, .int .i64 2, .int .i64 0, .int .i64 (-8), .string ⟨#[]⟩, .int .i64 18, .int .i64 0, .int .i64 5, .int .i64 0, .int .i64 1, .string ⟨#[]⟩, .int .i64 17, .int .i64 0, .int .i64 0, .int .i64 0, .int .i64 0, .string ⟨#[97]⟩, .int .i64 12, .int .i64 0, .int .i64 0, .int .i64 5, .int .i64 0, .string ⟨#[]⟩] 39)) := (Below.refl _ _).alloc (Nat.le_refl _) _
  have hoX := OwnAt.new w1 [.int .i64 16, .int .i64 0, .int .i64 0, .int .i64 0, .int .i64 n, .string ⟨#[]⟩, .int .i64 15, .int .i64 0, .int .i64 5, .int .i64 0, .int .i64 0, .string ⟨#[]⟩, .int .i64 1, .int .i64 0, .int .i64 5, .int .i64 5, .int .i64 0, .string ⟨#[]⟩, .int .i64 19, .int .i64 0, .int .i64 2, .int .i64 0, .int .i64 (-8), .string ⟨#[]⟩, .int .i64 18, .int .i64 0, .int .i64 5, .int .i64 0, .int .i64 1, .string ⟨#[]⟩, .int .i64 17, .int .i64 0, .int .i64 0, .int .i64 0, .int .i64 0, .string ⟨#[97]⟩, .int .i64 12, .int .i64 0, .int .i64 0, .int .i64 5, .int .i64 0, .string ⟨#[]⟩] 39
  obtain ⟨WA, hWX⟩ : ∃ WA, w1.alloc (.cells #[.int .i64 16, .int .i64 0, .int .i64 0, .int .i64 0, .int .i64 n, .string ⟨#[]⟩, .int .i64 15, .int .i64 0, .int .i64 5, .int .i64 0, .int .i64 0, .string ⟨#[]⟩, .int .i64 1, .int .i64 0, .int .i64 5, .int .i64 5, .int .i64 0, .string ⟨#[]⟩, .int .i64 19, .int .i64 0, .int .i64 2, .int .i64 0, .int .i64 (-8), .string ⟨#[]⟩, .int .i64 18, .int .i64 0, .int .i64 5, .int .i64 0, .int .i64 1, .string ⟨#[]⟩, .int .i64 17, .int .i64 0, .int .i64 0, .int .i64 0, .int .i64 0, .string ⟨#[97]⟩, .int .i64 12, .int .i64 0, .int .i64 0, .int .i64 5, .int .i64 0, .string ⟨#[]⟩] 39) = WA := ⟨_, rfl⟩
  have hsWA : WA.heap.size = w1.heap.size + 1 := by rw [← hWX]; simp
  rw [hWX] at hbX1 hoX ⊢
  replace HB := Lib.hid (HB.out.trans (hbX1.mono HB.out.size))
  have HIN := Lib.hid hoX
  clear hbX1 hWX hoX
  have c0 := HIN.out.at 24 _ rfl
  have c1 := HIN.out.at 25 _ rfl
  have c2 := HIN.out.at 26 _ rfl
  have c3 := HIN.out.at 27 _ rfl
  have c4 := HIN.out.at 28 _ rfl
  have c5 := HIN.out.at 29 _ rfl
  refine (HPK.out _).mono ?_
  rintro e w3 ⟨rfl, rfl⟩
  clear HPK
  clear hsWA
  go_upto_region 3 with (fail)
  have hbX2 : Below WA.heap.size WA (WA.alloc (.cells #[.int .i64 18, .int .i64 0, .int .i64 5, .int .i64 0, .int .i64 1, .string ⟨#[]⟩] 39)) := (Below.refl _ _).alloc (Nat.le_refl _) _
  have hoX := OwnAt.new WA [.int .i64 18, .int .i64 0, .int .i64 5, .int .i64 0, .int .i64 1, .string ⟨#[]⟩] 39
  obtain ⟨WI, hWX⟩ : ∃ WI, WA.alloc (.cells #[.int .i64 18, .int .i64 0, .int .i64 5, .int .i64 0, .int .i64 1, .string ⟨#[]⟩] 39) = WI := ⟨_, rfl⟩
  rw [hWX] at hbX2 hoX ⊢
  replace HB := Lib.hid (HB.out.trans (hbX2.mono HB.out.size))
  replace HIN := Lib.hid (HIN.out.old hbX2)
  have HX := Lib.hid hoX
  clear hbX2 hWX hoX
  clear c0 c1 c2 c3 c4 c5
  clear HIN
  refine wp_cut (fun a' w' => RJZ3 WA.heap.size n 18 0 5 0 1 ⟨#[]⟩ WI _ _ _ _ _ _ _ _ _ _ _ _ _ _ _ _ _ _ _ _ _ _ _ _ _ _ a' w') ?rest (fun J K' hJ hM => then_any (reg_JZ3 WA.heap.size n 18 0 5 0 1 ⟨#[]⟩ WI HX _ _ _ _ _ _ _ _ _ _ _ _ _ _ _ _ _ _ _ _ _ _ _ _ _ _ _ _ _ _ _ _ _ _ _ _ _ _ _ _ _ _ _ _ J K' hJ hM))
  case rest =>
  rintro a' w' ⟨TA, TL, TC, ⟨hfr, hoa, hol, hoc⟩, rfl⟩
  dsimp only
  obtain ⟨WC, hWC⟩ : ∃ WC, w' = WC := ⟨_, rfl⟩
  rw [hWC] at hfr hoa hol hoc ⊢
  clear hWC w'
  replace HB := Lib.hid (HB.out.trans (hfr.mono HB.out.size))
  clear HX hfr
  have HC : Hid (CodeAt WC (zeC n ⟨18, 0, 5, 0, 1, []⟩) (.slice (some ⟨TA, 0, none⟩) 1 1) (.slice (some ⟨TL, 0, none⟩) 6 6)) := Lib.hid ⟨ars_block (L := zeA) hoa (of_decide_eq_true rfl), lns_block (L := zeL n ⟨18, 0, 5, 0, 1, []⟩) hol (of_decide_eq_true rfl)⟩
  have HO := Lib.hid hoc
  clear hoa hol hoc
  generalize zeC n ⟨18, 0, 5, 0, 1, []⟩ = C at *
  have e0 := HO.out.at 0 _ rfl
  have e1 := HO.out.at 1 _ rfl
  go_wp2_with fail
  refine (HRUN.out _ _ _ HC.out).mono ?_
  rintro e wr ⟨ra, rc, rfl, hn1', hbr⟩
  replace HB := Lib.hid (HB.out.trans (hbr.mono HB.out.size))
  replace HC := Lib.hid (HC.out.old hbr)
  replace HO := Lib.hid (HO.out.old hbr)
  clear hbr
  have HN := Lib.hid (RwOwn.nilv hn1' (of_decide_eq_true rfl) intCells_len)
  clear hn1' e0 e1 HRUN
  go_wp2_with fail
  refine (HS.out _ _ _ HN.out (RwAt.nil _ _ _)).mono ?_
  rintro e ws ⟨rfl, hbs⟩
  replace HB := Lib.hid (HB.out.trans (hbs.mono HB.out.size))
  replace HC := Lib.hid (HC.out.old hbs)
  replace HO := Lib.hid (HO.out.old hbs)
  replace HN := Lib.hid (HN.out.old hbs)
  clear hbs
  go_wp2_with fail
  go_ret
  exact ⟨rfl, HB.out⟩
theorem zez_5 (n op : Int) (hn : I64 n) (ho : I64 op) (hk : ipick op 7 = 5) (w : World) (hl : ILib w) :
    Calls Tryz.prog 9 #[.int .i64 n, .int .i64 op] w fun e w' => e = .returned (.bool true) ∧ Below w.heap.size w w' := by
  obtain ⟨hf, hr⟩ := ze_5 n hn
  have HAW := Lib.hid (jawake_any w hl)
  have HPK := Lib.hid (fun w => jpick_any op 7 ho (by decide) (by decide) w)
  rw [hk] at HPK
  have HRUN := Lib.hid (fun va vl w hc => run_tells (zeC n ⟨17, 0, 0, 0, 0, [97]⟩) hf.1.2 hf.2 [] (fun z hz => by cases hz) 9 (by decide) (by decide) 1 0 6 [] hr va vl _ w hc (inp_nil w))
  have HS := Lib.hid (fun v1 v2 w h1 h2 => jsame_eq 1 0 6 [] v1 v2 w h1 h2)
  obtain ⟨hn1, hn2⟩ := hn
  clear hl hr hk hf
  go_enter Tryz.func9, Tryz.ntmps9
  go_wp2_with fail
  refine (HAW.out).mono ?_
  rintro e w1 ⟨rfl, hb1'⟩
  have HB := Lib.hid hb1'
  clear hb1' HAW
  go_wp2_with fail
  have hbX1 : Below w1.heap.size w1 (w1.alloc (.cells #[.int .i64 16, .int .i64 0, .int .i64 0, .int .i64 0, .int .i64 n, .string ⟨#[]⟩, .int .i64 15, .int .i64 0, .int .i64 5, .int .i64 0, .int .i64 0, .string ⟨#[]⟩, .int .i64 1, .int .i64 0, .int .i64 5, .int .i64 5, .int .i64 0, .string ⟨#[]⟩, .int .i64 19, .int .i64 0, .int .i64 2, .int .i64 0, .int .i64 (-8), .string ⟨#[]⟩, .int .i64 18, .int .i64 0, .int .i64 5, .int .i64 0, .int .i64 1, .string ⟨#[]⟩, .int .i64 17, .int .i64 0, .int .i64 0, .int .i64 0, .int .i64 0, .string ⟨#[97]⟩, .int .i64 12, .int .i64 0, .int .i64 0, .int .i64 5, .int .i64 0, .string ⟨#[]⟩] 39)) := (Below.refl _ _).alloc (Nat.le_refl _) _
  have hoX := OwnAt.new w1 [.int .i64 16, .int .i64 0, .int .i64 0, .int .i64 0, .int .i64 n, .string ⟨#[]⟩, .int .i64 15, .int .i64 0, .int .i64 5, .int .i64 0, .int .i64 0, .string ⟨#[]⟩, .int .i64 1, .int .i64 0, .int .i64 5, .int .i64 5, .int .i64 0, .string ⟨#[]⟩, .int .i64 19, .int .i64 0, .int .i64 2, .int .i64 0, .int .i64 (-8), .string ⟨#[]⟩, .int .i64 18, .int .i64 0, .int .i64 5, .int .i64 0, .int .i64 1, .string ⟨#[]⟩, .int .i64 17, .int .i64 0, .int .i64 0, .int .i64 0, .int .i64 0, .string ⟨#[97]⟩, .int .i64 12, .int .i64 0, .int .i64 0, .int .i64 5, .int .i64 0, .string ⟨#[]⟩] 39
  obtain ⟨WA, hWX⟩ : ∃ WA, w1.alloc (.cells #[.int .i64 16, .int .i64 0, .int .i64 0, .int .i64 0, .int .i64 n, .string ⟨#[]⟩, .int .i64 15, .int .i64 0, .int .i64 5, .int .i64 0, .int .i64 0, .string ⟨#[]⟩, .int .i64 1, .int .i64 0, .int .i64 5, .int .i64 5, .int .i64 0, .string ⟨#[]⟩, .int .i64 19, .int .i64 0, .int .i64 2, .int .i64 0, .int .i64 (-8), .string ⟨#[]⟩, .int .i64 18, .int .i64 0, .int .i64 5, .int .i64 0, .int .i64 1, .string ⟨#[]⟩, .int .i64 17, .int .i64 0, .int .i64 0, .int .i64 0, .int .i64 0, .string ⟨#[97]⟩, .int .i64 12, .int .i64 0, .int .i64 0, .int .i64 5, .int .i64 0, .string ⟨#[]⟩] 39) = WA := ⟨_, rfl⟩
  have hsWA : WA.heap.size = w1.heap.size + 1 := by rw [← hWX]; simp
  rw [hWX] at hbX1 hoX ⊢
  replace HB := Lib.hid (HB.out.trans (hbX1.mono HB.out.size))
  have HIN := Lib.hid hoX
  clear hbX1 hWX hoX
  have c0 := HIN.out.at 30 _ rfl
  have c1 := HIN.out.at 31 _ rfl
  have c2 := HIN.out.at 32 _ rfl
  have c3 := HIN.out.at 33 _ rfl
  have c4 := HIN.out.at 34 _ rfl
  have c5 := HIN.out.at 35 _ rfl
  refine (HPK.out _).mono ?_
  rintro e w3 ⟨rfl, rfl⟩
  clear HPK
  clear hsWA
  go_upto_region 3 with (fail)
  have hbX2 : Below WA.heap.size WA (WA.alloc (.cells #[.int .i64 17, .int .i64 0, .int .i64 0, .int .i64 0, .int .i64 0, .string ⟨#[97]⟩] 39)) := (Below.refl _ _).alloc (Nat.le_refl _) _
  have hoX := OwnAt.new WA [.int .i64 17, .int .i64 0, .int .i64 0, .int .i64 0, .int .i64 0, .string ⟨#[97]⟩] 39
  obtain ⟨WI, hWX⟩ : ∃ WI, WA.alloc (.cells #[.int .i64 17, .int .i64 0, .int .i64 0, .int .i64 0, .int .i64 0, .string ⟨#[97]⟩] 39) = WI := ⟨_, rfl⟩
  rw [hWX] at hbX2 hoX ⊢
  replace HB := Lib.hid (HB.out.trans (hbX2.mono HB.out.size))
  replace HIN := Lib.hid (HIN.out.old hbX2)
  have HX := Lib.hid hoX
  clear hbX2 hWX hoX
  clear c0 c1 c2 c3 c4 c5
  clear HIN
  refine wp_cut (fun a' w' => RJZ3 WA.heap.size n 17 0 0 0 0 ⟨#[97]⟩ WI _ _ _ _ _ _ _ _ _ _ _ _ _ _ _ _ _ _ _ _ _ _ _ _ _ _ a' w') ?rest (fun J K' hJ hM => then_any (reg_JZ3 WA.heap.size n 17 0 0 0 0 ⟨#[97]⟩ WI HX _ _ _ _ _ _ _ _ _ _ _ _ _ _ _ _ _ _ _ _ _ _ _ _ _ _ _ _ _ _ _ _ _ _ _ _ _ _ _ _ _ _ _ _ J K' hJ hM))
  case rest =>
  rintro a' w' ⟨TA, TL, TC, ⟨hfr, hoa, hol, hoc⟩, rfl⟩
  dsimp only
  obtain ⟨WC, hWC⟩ : ∃ WC, w' = WC := ⟨_, rfl⟩
  rw [hWC] at hfr hoa hol hoc ⊢
  clear hWC w'
  replace HB := Lib.hid (HB.out.trans (hfr.mono HB.out.size))
  clear HX hfr
  have HC : Hid (CodeAt WC (zeC n ⟨17, 0, 0, 0, 0, [97]⟩) (.slice (some ⟨TA, 0, none⟩) 1 1) (.slice (some ⟨TL, 0, none⟩) 6 6)) := Lib.hid ⟨ars_block (L := zeA) hoa (of_decide_eq_true rfl), lns_block (L := zeL n ⟨17, 0, 0, 0, 0, [97]⟩) hol (of_decide_eq_true rfl)⟩
  have HO := Lib.hid hoc
  clear hoa hol hoc
  generalize zeC n ⟨17, 0, 0, 0, 0, [97]⟩ = C at *
  have e0 := HO.out.at 0 _ rfl
  have e1 := HO.out.at 1 _ rfl
  go_wp2_with fail
  refine (HRUN.out _ _ _ HC.out).mono ?_
  rintro e wr ⟨ra, rc, rfl, hn1', hbr⟩
  replace HB := Lib.hid (HB.out.trans (hbr.mono HB.out.size))
  replace HC := Lib.hid (HC.out.old hbr)
  replace HO := Lib.hid (HO.out.old hbr)
  clear hbr
  have HN := Lib.hid (RwOwn.nilv hn1' (of_decide_eq_true rfl) intCells_len)
  clear hn1' e0 e1 HRUN
  go_wp2_with fail
  refine (HS.out _ _ _ HN.out (RwAt.nil _ _ _)).mono ?_
  rintro e ws ⟨rfl, hbs⟩
  replace HB := Lib.hid (HB.out.trans (hbs.mono HB.out.size))
  replace HC := Lib.hid (HC.out.old hbs)
  replace HO := Lib.hid (HO.out.old hbs)
  replace HN := Lib.hid (HN.out.old hbs)
  clear hbs
  go_wp2_with fail
  go_ret
  exact ⟨rfl, HB.out⟩
theorem zez_6 (n op : Int) (hn : I64 n) (ho : I64 op) (hk : ipick op 7 = 6) (w : World) (hl : ILib w) :
    Calls Tryz.prog 9 #[.int .i64 n, .int .i64 op] w fun e w' => e = .returned (.bool true) ∧ Below w.heap.size w w' := by
  obtain ⟨hf, hr⟩ := ze_6 n hn
  have HAW := Lib.hid (jawake_any w hl)
  have HPK := Lib.hid (fun w => jpick_any op 7 ho (by decide) (by decide) w)
  rw [hk] at HPK
  have HRUN := Lib.hid (fun va vl w hc => run_tells (zeC n ⟨12, 0, 0, 5, 0, []⟩) hf.1.2 hf.2 [] (fun z hz => by cases hz) 9 (by decide) (by decide) 1 0 6 [] hr va vl _ w hc (inp_nil w))
  have HS := Lib.hid (fun v1 v2 w h1 h2 => jsame_eq 1 0 6 [] v1 v2 w h1 h2)
  obtain ⟨hn1, hn2⟩ := hn
  clear hl hr hk hf
  go_enter Tryz.func9, Tryz.ntmps9
  go_wp2_with fail
  refine (HAW.out).mono ?_
  rintro e w1 ⟨rfl, hb1'⟩
  have HB := Lib.hid hb1'
  clear hb1' HAW
  go_wp2_with fail
  have hbX1 : Below w1.heap.size w1 (w1.alloc (.cells #[.int .i64 16, .int .i64 0, .int .i64 0, .int .i64 0, .int .i64 n, .string ⟨#[]⟩, .int .i64 15, .int .i64 0, .int .i64 5, .int .i64 0, .int .i64 0, .string ⟨#[]⟩, .int .i64 1, .int .i64 0, .int .i64 5, .int .i64 5, .int .i64 0, .string ⟨#[]⟩, .int .i64 19, .int .i64 0, .int .i64 2, .int .i64 0, .int .i64 (-8), .string ⟨#[]⟩, .int .i64 18, .int .i64 0, .int .i64 5, .int .i64 0, .int .i64 1, .string ⟨#[]⟩, .int .i64 17, .int .i64 0, .int .i64 0, .int .i64 0, .int .i64 0, .string ⟨#[97]⟩, .int .i64 12, .int .i64 0, .int .i64 0, .int .i64 5, .int .i64 0, .string ⟨#[]⟩] 39)) := (Below.refl _ _).alloc (Nat.le_refl _) _
  have hoX := OwnAt.new w1 [.int .i64 16, .int .i64 0, .int .i64 0, .int .i64 0, .int .i64 n, .string ⟨#[]⟩, .int .i64 15, .int .i64 0, .int .i64 5, .int .i64 0, .int .i64 0, .string ⟨#[]⟩, .int .i64 1, .int .i64 0, .int .i64 5, .int .i64 5, .int .i64 0, .string ⟨#[]⟩, .int .i64 19, .int .i64 0, .int .i64 2, .int .i64 0, .int .i64 (-8), .string ⟨#[]⟩, .int .i64 18, .int .i64 0, .int .i64 5, .int .i64 0, .int .i64 1, .string ⟨#[]⟩, .int .i64 17, .int .i64 0, .int .i64 0, .int .i64 0, .int .i64 0, .string ⟨#[97]⟩, .int .i64 12, .int .i64 0, .int .i64 0, .int .i64 5, .int .i64 0, .string ⟨#[]⟩] 39
  obtain ⟨WA, hWX⟩ : ∃ WA, w1.alloc (.cells #[.int .i64 16, .int .i64 0, .int .i64 0, .int .i64 0, .int .i64 n, .string ⟨#[]⟩, .int .i64 15, .int .i64 0, .int .i64 5, .int .i64 0, .int .i64 0, .string ⟨#[]⟩, .int .i64 1, .int .i64 0, .int .i64 5, .int .i64 5, .int .i64 0, .string ⟨#[]⟩, .int .i64 19, .int .i64 0, .int .i64 2, .int .i64 0, .int .i64 (-8), .string ⟨#[]⟩, .int .i64 18, .int .i64 0, .int .i64 5, .int .i64 0, .int .i64 1, .string ⟨#[]⟩, .int .i64 17, .int .i64 0, .int .i64 0, .int .i64 0, .int .i64 0, .string ⟨#[97]⟩, .int .i64 12, .int .i64 0, .int .i64 0, .int .i64 5, .int .i64 0, .string ⟨#[]⟩] 39) = WA := ⟨_, rfl⟩
  have hsWA : WA.heap.size = w1.heap.size + 1 := by rw [← hWX]; simp
  rw [hWX] at hbX1 hoX ⊢
  replace HB := Lib.hid (HB.out.trans (hbX1.mono HB.out.size))
  have HIN := Lib.hid hoX
  clear hbX1 hWX hoX
  have c0 := HIN.out.at 36 _ rfl
  have c1 := HIN.out.at 37 _ rfl
  have c2 := HIN.out.at 38 _ rfl
  have c3 := HIN.out.at 39 _ rfl
  have c4 := HIN.out.at 40 _ rfl
  have c5 := HIN.out.at 41 _ rfl
  refine (HPK.out _).mono ?_
  rintro e w3 ⟨rfl, rfl⟩
  clear HPK
  clear hsWA
  go_upto_region 3 with (fail)
  have hbX2 : Below WA.heap.size WA (WA.alloc (.cells #[.int .i64 12, .int .i64 0, .int .i64 0, .int .i64 5, .int .i64 0, .string ⟨#[]⟩] 39)) := (Below.refl _ _).alloc (Nat.le_refl _) _
  have hoX := OwnAt.new WA [.int .i64 12, .int .i64 0, .int .i64 0, .int .i64 5, .int .i64 0, .string ⟨#[]⟩] 39
  obtain ⟨WI, hWX⟩ : ∃ WI, WA.alloc (.cells #[.int .i64 12, .int .i64 0, .int .i64 0, .int .i64 5, .int .i64 0, .string ⟨#[]⟩] 39) = WI := ⟨_, rfl⟩
  rw [hWX] at hbX2 hoX ⊢
  replace HB := Lib.hid (HB.out.trans (hbX2.mono HB.out.size))
  replace HIN := Lib.hid (HIN.out.old hbX2)
  have HX := Lib.hid hoX
  clear hbX2 hWX hoX
  clear c0 c1 c2 c3 c4 c5
  clear HIN
  refine wp_cut (fun a' w' => RJZ3 WA.heap.size n 12 0 0 5 0 ⟨#[]⟩ WI _ _ _ _ _ _ _ _ _ _ _ _ _ _ _ _ _ _ _ _ _ _ _ _ _ _ a' w') ?rest (fun J K' hJ hM => then_any (reg_JZ3 WA.heap.size n 12 0 0 5 0 ⟨#[]⟩ WI HX _ _ _ _ _ _ _ _ _ _ _ _ _ _ _ _ _ _ _ _ _ _ _ _ _ _ _ _ _ _ _ _ _ _ _ _ _ _ _ _ _ _ _ _ J K' hJ hM))
  case rest =>
  rintro a' w' ⟨TA, TL, TC, ⟨hfr, hoa, hol, hoc⟩, rfl⟩
  dsimp only
  obtain ⟨WC, hWC⟩ : ∃ WC, w' = WC := ⟨_, rfl⟩
  rw [hWC] at hfr hoa hol hoc ⊢
  clear hWC w'
  replace HB := Lib.hid (HB.out.trans (hfr.mono HB.out.size))
  clear HX hfr
  have HC : Hid (CodeAt WC (zeC n ⟨12, 0, 0, 5, 0, []⟩) (.slice (some ⟨TA, 0, none⟩) 1 1) (.slice (some ⟨TL, 0, none⟩) 6 6)) := Lib.hid ⟨ars_block (L := zeA) hoa (of_decide_eq_true rfl), lns_block (L := zeL n ⟨12, 0, 0, 5, 0, []⟩) hol (of_decide_eq_true rfl)⟩
  have HO := Lib.hid hoc
  clear hoa hol hoc
  generalize zeC n ⟨12, 0, 0, 5, 0, []⟩ = C at *
  have e0 := HO.out.at 0 _ rfl
  have e1 := HO.out.at 1 _ rfl
  go_wp2_with fail
  refine (HRUN.out _ _ _ HC.out).mono ?_
  rintro e wr ⟨ra, rc, rfl, hn1', hbr⟩
  replace HB := Lib.hid (HB.out.trans (hbr.mono HB.out.size))
  replace HC := Lib.hid (HC.out.old hbr)
  replace HO := Lib.hid (HO.out.old hbr)
  clear hbr
  have HN := Lib.hid (RwOwn.nilv hn1' (of_decide_eq_true rfl) intCells_len)
  clear hn1' e0 e1 HRUN
  go_wp2_with fail
  refine (HS.out _ _ _ HN.out (RwAt.nil _ _ _)).mono ?_
  rintro e ws ⟨rfl, hbs⟩
  replace HB := Lib.hid (HB.out.trans (hbs.mono HB.out.size))
  replace HC := Lib.hid (HC.out.old hbs)
  replace HO := Lib.hid (HO.out.old hbs)
  replace HN := Lib.hid (HN.out.old hbs)
  clear hbs
  go_wp2_with fail
  go_ret
  exact ⟨rfl, HB.out⟩
theorem mzero_any (n op : Int) (hn : I64 n) (ho : I64 op) (w : World) (hl : ILib w) :
    Calls Tryz.prog 9 #[.int .i64 n, .int .i64 op] w fun e w' => e = .returned (.bool true) ∧ Below w.heap.size w w' := by
  have h7 : ipick op 7 = 0 ∨ ipick op 7 = 1 ∨ ipick op 7 = 2 ∨ ipick op 7 = 3 ∨ ipick op 7 = 4 ∨ ipick op 7 = 5 ∨ ipick op 7 = 6 := by
    have := ipick_range op 7 (by decide)
    omega
  rcases h7 with h | h | h | h | h | h | h
  · exact zez_0 n op hn ho h w hl
  · exact zez_1 n op hn ho h w hl
  · exact zez_2 n op hn ho h w hl
  · exact zez_3 n op hn ho h w hl
  · exact zez_4 n op hn ho h w hl
  · exact zez_5 n op hn ho h w hl
  · exact zez_6 n op hn ho h w hl
end Go.Proofs.YtpgjfpphigeliaaGreatDoor
