/-
  Operators: the code of MachOps, and what becomes of it. Plain functions alone.
-/
import Derived.Test.YtpgjfpphigeliaaGreatDoorMachF
set_option linter.unusedVariables false
set_option linter.unusedSimpArgs false
namespace Go.Proofs.YtpgjfpphigeliaaGreatDoor
open Go.RowKit
set_option maxHeartbeats 4000000
set_option maxRecDepth 100000

def opL (a b : Int) (i : Ins) : List Ln := [lnI ⟨16, 5, 0, 0, a, []⟩, lnI ⟨16, 6, 0, 0, b, []⟩, lnI i, lnI ⟨16, 17, 0, 0, 3, []⟩, lnI (zeroI 28)]
def opC (a b : Int) (i : Ins) : Cd := ⟨[], opL a b i⟩
theorem op_ok (a b : Int) (i : Ins) (ha : I64 a) (hb : I64 b) (hi : rightI i = true) (hk : knownB (opC a b i) i = true) (hin : I64 i.n) : (checkC (opC a b i) = (0, 0) ∧ FineC (opC a b i)) ∧ ∀ x, x ∈ (opC a b i).lines → I64 x.ins.n := by
  refine ⟨fine_of (by decide) (by decide) (by decide) (of_decide_eq_true rfl) (fun x hx => ?_), fun x hx => ?_⟩
  · simp only [opL, List.mem_cons, List.not_mem_nil, or_false] at hx
    rcases hx with rfl | rfl | rfl | rfl | rfl
    · exact ⟨rfl, right_li ⟨by decide, by decide⟩, known_none (of_decide_eq_true rfl) rfl⟩
    · exact ⟨rfl, right_li ⟨by decide, by decide⟩, known_none (of_decide_eq_true rfl) rfl⟩
    · exact ⟨rfl, hi, hk⟩
    · exact ⟨rfl, right_li ⟨by decide, by decide⟩, known_none (of_decide_eq_true rfl) rfl⟩
    · exact ⟨rfl, right_call, known_none (of_decide_eq_true rfl) rfl⟩
  · simp only [opC, opL, List.mem_cons, List.not_mem_nil, or_false] at hx
    rcases hx with rfl | rfl | rfl | rfl | rfl <;> first | exact ha | exact hb | exact hin | exact ⟨of_decide_eq_true rfl, of_decide_eq_true rfl⟩
def opX (a b : Int) : Nat → Int := putX (putX spX 5 a) 6 b
theorem op_run (a b : Int) (i : Ins) (hok : checkC (opC a b i) = (0, 0)) (v : Int) (hv : nextZ (machR (opC a b i)) ⟨opX a b, zeroM, [], ((2 : Nat) : Int), 0, 0, [], 2⟩ = ⟨putX (opX a b) 10 v, zeroM, [], ((3 : Nat) : Int), 0, 0, [], 3⟩) : (runC (opC a b i) [] 9).tells = (1, v, [], 5) := by
  rw [runC_ok hok, startS_is]
  rw [run_next (t := ⟨putX spX 5 a, zeroM, [], ((1 : Nat) : Int), 0, 0, [], 1⟩) rfl (show (0 : Int) < 5 by decide) (of_decide_eq_true rfl) (nx_reg (x := spX) (pn := 0) (i := ⟨16, 5, 0, 0, a, []⟩) (t := -1) rfl rfl (of_decide_eq_true rfl) a rfl)]
  rw [run_next (t := ⟨opX a b, zeroM, [], ((2 : Nat) : Int), 0, 0, [], 2⟩) rfl (show (1 : Int) < 5 by decide) (of_decide_eq_true rfl) (nx_reg (x := putX spX 5 a) (pn := 1) (i := ⟨16, 6, 0, 0, b, []⟩) (t := -1) rfl rfl (of_decide_eq_true rfl) b rfl)]
  rw [run_next rfl (show (2 : Int) < 5 by decide) (of_decide_eq_true rfl) hv]
  rw [run_next (t := ⟨putX (putX (opX a b) 10 v) 17 3, zeroM, [], ((4 : Nat) : Int), 0, 0, [], 4⟩) rfl (show (3 : Int) < 5 by decide) (of_decide_eq_true rfl) (nx_reg (x := putX (opX a b) 10 v) (pn := 3) (i := ⟨16, 17, 0, 0, 3, []⟩) (t := -1) rfl rfl (of_decide_eq_true rfl) 3 rfl)]
  exact run_last rfl (show (4 : Int) < 5 by decide) (of_decide_eq_true rfl) (nx_exit (x := putX (putX (opX a b) 10 v) 17 3) (pn := 4) (i := zeroI 28) (t := -1) rfl rfl rfl rfl) (show (1 : Int) ≠ 0 by decide)
theorem op_1 (a b : Int) (ha : I64 a) (hb : I64 b) : ((checkC (opC a b ⟨1, 10, 5, 6, 0, []⟩) = (0, 0) ∧ FineC (opC a b ⟨1, 10, 5, 6, 0, []⟩)) ∧ ∀ x, x ∈ (opC a b ⟨1, 10, 5, 6, 0, []⟩).lines → I64 x.ins.n) ∧ (runC (opC a b ⟨1, 10, 5, 6, 0, []⟩) [] 9).tells = (1, wrap64 (a + b), [], 5) := by
  have h := op_ok a b ⟨1, 10, 5, 6, 0, []⟩ ha hb (right_two ⟨by decide, by decide⟩ ⟨by decide, by decide⟩ ⟨by decide, by decide⟩ ⟨by decide, by decide⟩) (known_none (of_decide_eq_true rfl) rfl) ⟨by decide, by decide⟩
  exact ⟨h, op_run a b ⟨1, 10, 5, 6, 0, []⟩ h.1.1 (wrap64 (a + b)) (nx_reg (x := opX a b) (pn := 2) (i := ⟨1, 10, 5, 6, 0, []⟩) (t := -1) rfl rfl (of_decide_eq_true rfl) (wrap64 (a + b)) rfl)⟩
theorem op_2 (a b : Int) (ha : I64 a) (hb : I64 b) : ((checkC (opC a b ⟨2, 10, 5, 6, 0, []⟩) = (0, 0) ∧ FineC (opC a b ⟨2, 10, 5, 6, 0, []⟩)) ∧ ∀ x, x ∈ (opC a b ⟨2, 10, 5, 6, 0, []⟩).lines → I64 x.ins.n) ∧ (runC (opC a b ⟨2, 10, 5, 6, 0, []⟩) [] 9).tells = (1, wrap64 (a - b), [], 5) := by
  have h := op_ok a b ⟨2, 10, 5, 6, 0, []⟩ ha hb (right_two ⟨by decide, by decide⟩ ⟨by decide, by decide⟩ ⟨by decide, by decide⟩ ⟨by decide, by decide⟩) (known_none (of_decide_eq_true rfl) rfl) ⟨by decide, by decide⟩
  exact ⟨h, op_run a b ⟨2, 10, 5, 6, 0, []⟩ h.1.1 (wrap64 (a - b)) (nx_reg (x := opX a b) (pn := 2) (i := ⟨2, 10, 5, 6, 0, []⟩) (t := -1) rfl rfl (of_decide_eq_true rfl) (wrap64 (a - b)) rfl)⟩
theorem op_3 (a b : Int) (ha : I64 a) (hb : I64 b) : ((checkC (opC a b ⟨3, 10, 5, 6, 0, []⟩) = (0, 0) ∧ FineC (opC a b ⟨3, 10, 5, 6, 0, []⟩)) ∧ ∀ x, x ∈ (opC a b ⟨3, 10, 5, 6, 0, []⟩).lines → I64 x.ins.n) ∧ (runC (opC a b ⟨3, 10, 5, 6, 0, []⟩) [] 9).tells = (1, wrap64 (a * b), [], 5) := by
  have h := op_ok a b ⟨3, 10, 5, 6, 0, []⟩ ha hb (right_two ⟨by decide, by decide⟩ ⟨by decide, by decide⟩ ⟨by decide, by decide⟩ ⟨by decide, by decide⟩) (known_none (of_decide_eq_true rfl) rfl) ⟨by decide, by decide⟩
  exact ⟨h, op_run a b ⟨3, 10, 5, 6, 0, []⟩ h.1.1 (wrap64 (a * b)) (nx_reg (x := opX a b) (pn := 2) (i := ⟨3, 10, 5, 6, 0, []⟩) (t := -1) rfl rfl (of_decide_eq_true rfl) (wrap64 (a * b)) rfl)⟩
theorem op_4 (a b : Int) (ha : I64 a) (hb : I64 b) : ((checkC (opC a b ⟨4, 10, 5, 6, 0, []⟩) = (0, 0) ∧ FineC (opC a b ⟨4, 10, 5, 6, 0, []⟩)) ∧ ∀ x, x ∈ (opC a b ⟨4, 10, 5, 6, 0, []⟩).lines → I64 x.ins.n) ∧ (runC (opC a b ⟨4, 10, 5, 6, 0, []⟩) [] 9).tells = (1, divZ a b, [], 5) := by
  have h := op_ok a b ⟨4, 10, 5, 6, 0, []⟩ ha hb (right_two ⟨by decide, by decide⟩ ⟨by decide, by decide⟩ ⟨by decide, by decide⟩ ⟨by decide, by decide⟩) (known_none (of_decide_eq_true rfl) rfl) ⟨by decide, by decide⟩
  exact ⟨h, op_run a b ⟨4, 10, 5, 6, 0, []⟩ h.1.1 (divZ a b) (nx_reg (x := opX a b) (pn := 2) (i := ⟨4, 10, 5, 6, 0, []⟩) (t := -1) rfl rfl (of_decide_eq_true rfl) (divZ a b) rfl)⟩
theorem op_5 (a b : Int) (ha : I64 a) (hb : I64 b) : ((checkC (opC a b ⟨5, 10, 5, 6, 0, []⟩) = (0, 0) ∧ FineC (opC a b ⟨5, 10, 5, 6, 0, []⟩)) ∧ ∀ x, x ∈ (opC a b ⟨5, 10, 5, 6, 0, []⟩).lines → I64 x.ins.n) ∧ (runC (opC a b ⟨5, 10, 5, 6, 0, []⟩) [] 9).tells = (1, remZ a b, [], 5) := by
  have h := op_ok a b ⟨5, 10, 5, 6, 0, []⟩ ha hb (right_two ⟨by decide, by decide⟩ ⟨by decide, by decide⟩ ⟨by decide, by decide⟩ ⟨by decide, by decide⟩) (known_none (of_decide_eq_true rfl) rfl) ⟨by decide, by decide⟩
  exact ⟨h, op_run a b ⟨5, 10, 5, 6, 0, []⟩ h.1.1 (remZ a b) (nx_reg (x := opX a b) (pn := 2) (i := ⟨5, 10, 5, 6, 0, []⟩) (t := -1) rfl rfl (of_decide_eq_true rfl) (remZ a b) rfl)⟩
theorem op_6 (a b : Int) (ha : I64 a) (hb : I64 b) : ((checkC (opC a b ⟨6, 10, 5, 6, 0, []⟩) = (0, 0) ∧ FineC (opC a b ⟨6, 10, 5, 6, 0, []⟩)) ∧ ∀ x, x ∈ (opC a b ⟨6, 10, 5, 6, 0, []⟩).lines → I64 x.ins.n) ∧ (runC (opC a b ⟨6, 10, 5, 6, 0, []⟩) [] 9).tells = (1, andZ a b, [], 5) := by
  have h := op_ok a b ⟨6, 10, 5, 6, 0, []⟩ ha hb (right_two ⟨by decide, by decide⟩ ⟨by decide, by decide⟩ ⟨by decide, by decide⟩ ⟨by decide, by decide⟩) (known_none (of_decide_eq_true rfl) rfl) ⟨by decide, by decide⟩
  exact ⟨h, op_run a b ⟨6, 10, 5, 6, 0, []⟩ h.1.1 (andZ a b) (nx_reg (x := opX a b) (pn := 2) (i := ⟨6, 10, 5, 6, 0, []⟩) (t := -1) rfl rfl (of_decide_eq_true rfl) (andZ a b) rfl)⟩
theorem op_7 (a b : Int) (ha : I64 a) (hb : I64 b) : ((checkC (opC a b ⟨7, 10, 5, 6, 0, []⟩) = (0, 0) ∧ FineC (opC a b ⟨7, 10, 5, 6, 0, []⟩)) ∧ ∀ x, x ∈ (opC a b ⟨7, 10, 5, 6, 0, []⟩).lines → I64 x.ins.n) ∧ (runC (opC a b ⟨7, 10, 5, 6, 0, []⟩) [] 9).tells = (1, orZ a b, [], 5) := by
  have h := op_ok a b ⟨7, 10, 5, 6, 0, []⟩ ha hb (right_two ⟨by decide, by decide⟩ ⟨by decide, by decide⟩ ⟨by decide, by decide⟩ ⟨by decide, by decide⟩) (known_none (of_decide_eq_true rfl) rfl) ⟨by decide, by decide⟩
  exact ⟨h, op_run a b ⟨7, 10, 5, 6, 0, []⟩ h.1.1 (orZ a b) (nx_reg (x := opX a b) (pn := 2) (i := ⟨7, 10, 5, 6, 0, []⟩) (t := -1) rfl rfl (of_decide_eq_true rfl) (orZ a b) rfl)⟩
theorem op_8 (a b : Int) (ha : I64 a) (hb : I64 b) : ((checkC (opC a b ⟨8, 10, 5, 6, 0, []⟩) = (0, 0) ∧ FineC (opC a b ⟨8, 10, 5, 6, 0, []⟩)) ∧ ∀ x, x ∈ (opC a b ⟨8, 10, 5, 6, 0, []⟩).lines → I64 x.ins.n) ∧ (runC (opC a b ⟨8, 10, 5, 6, 0, []⟩) [] 9).tells = (1, xorZ a b, [], 5) := by
  have h := op_ok a b ⟨8, 10, 5, 6, 0, []⟩ ha hb (right_two ⟨by decide, by decide⟩ ⟨by decide, by decide⟩ ⟨by decide, by decide⟩ ⟨by decide, by decide⟩) (known_none (of_decide_eq_true rfl) rfl) ⟨by decide, by decide⟩
  exact ⟨h, op_run a b ⟨8, 10, 5, 6, 0, []⟩ h.1.1 (xorZ a b) (nx_reg (x := opX a b) (pn := 2) (i := ⟨8, 10, 5, 6, 0, []⟩) (t := -1) rfl rfl (of_decide_eq_true rfl) (xorZ a b) rfl)⟩
theorem op_9 (a b : Int) (ha : I64 a) (hb : I64 b) : ((checkC (opC a b ⟨9, 10, 5, 6, 0, []⟩) = (0, 0) ∧ FineC (opC a b ⟨9, 10, 5, 6, 0, []⟩)) ∧ ∀ x, x ∈ (opC a b ⟨9, 10, 5, 6, 0, []⟩).lines → I64 x.ins.n) ∧ (runC (opC a b ⟨9, 10, 5, 6, 0, []⟩) [] 9).tells = (1, shlZ a b, [], 5) := by
  have h := op_ok a b ⟨9, 10, 5, 6, 0, []⟩ ha hb (right_two ⟨by decide, by decide⟩ ⟨by decide, by decide⟩ ⟨by decide, by decide⟩ ⟨by decide, by decide⟩) (known_none (of_decide_eq_true rfl) rfl) ⟨by decide, by decide⟩
  exact ⟨h, op_run a b ⟨9, 10, 5, 6, 0, []⟩ h.1.1 (shlZ a b) (nx_reg (x := opX a b) (pn := 2) (i := ⟨9, 10, 5, 6, 0, []⟩) (t := -1) rfl rfl (of_decide_eq_true rfl) (shlZ a b) rfl)⟩
theorem op_10 (a b : Int) (ha : I64 a) (hb : I64 b) : ((checkC (opC a b ⟨10, 10, 5, 6, 0, []⟩) = (0, 0) ∧ FineC (opC a b ⟨10, 10, 5, 6, 0, []⟩)) ∧ ∀ x, x ∈ (opC a b ⟨10, 10, 5, 6, 0, []⟩).lines → I64 x.ins.n) ∧ (runC (opC a b ⟨10, 10, 5, 6, 0, []⟩) [] 9).tells = (1, shrZ a b, [], 5) := by
  have h := op_ok a b ⟨10, 10, 5, 6, 0, []⟩ ha hb (right_two ⟨by decide, by decide⟩ ⟨by decide, by decide⟩ ⟨by decide, by decide⟩ ⟨by decide, by decide⟩) (known_none (of_decide_eq_true rfl) rfl) ⟨by decide, by decide⟩
  exact ⟨h, op_run a b ⟨10, 10, 5, 6, 0, []⟩ h.1.1 (shrZ a b) (nx_reg (x := opX a b) (pn := 2) (i := ⟨10, 10, 5, 6, 0, []⟩) (t := -1) rfl rfl (of_decide_eq_true rfl) (shrZ a b) rfl)⟩
theorem op_11 (a b : Int) (ha : I64 a) (hb : I64 b) : ((checkC (opC a b ⟨11, 10, 5, 6, 0, []⟩) = (0, 0) ∧ FineC (opC a b ⟨11, 10, 5, 6, 0, []⟩)) ∧ ∀ x, x ∈ (opC a b ⟨11, 10, 5, 6, 0, []⟩).lines → I64 x.ins.n) ∧ (runC (opC a b ⟨11, 10, 5, 6, 0, []⟩) [] 9).tells = (1, flagZ (decide (a < b)), [], 5) := by
  have h := op_ok a b ⟨11, 10, 5, 6, 0, []⟩ ha hb (right_two ⟨by decide, by decide⟩ ⟨by decide, by decide⟩ ⟨by decide, by decide⟩ ⟨by decide, by decide⟩) (known_none (of_decide_eq_true rfl) rfl) ⟨by decide, by decide⟩
  exact ⟨h, op_run a b ⟨11, 10, 5, 6, 0, []⟩ h.1.1 (flagZ (decide (a < b))) (nx_reg (x := opX a b) (pn := 2) (i := ⟨11, 10, 5, 6, 0, []⟩) (t := -1) rfl rfl (of_decide_eq_true rfl) (flagZ (decide (a < b))) rfl)⟩
theorem op_12 (a b : Int) (ha : I64 a) (hb : I64 b) : ((checkC (opC a b ⟨12, 10, 5, 6, 0, []⟩) = (0, 0) ∧ FineC (opC a b ⟨12, 10, 5, 6, 0, []⟩)) ∧ ∀ x, x ∈ (opC a b ⟨12, 10, 5, 6, 0, []⟩).lines → I64 x.ins.n) ∧ (runC (opC a b ⟨12, 10, 5, 6, 0, []⟩) [] 9).tells = (1, flagZ (lessZ a b), [], 5) := by
  have h := op_ok a b ⟨12, 10, 5, 6, 0, []⟩ ha hb (right_two ⟨by decide, by decide⟩ ⟨by decide, by decide⟩ ⟨by decide, by decide⟩ ⟨by decide, by decide⟩) (known_none (of_decide_eq_true rfl) rfl) ⟨by decide, by decide⟩
  exact ⟨h, op_run a b ⟨12, 10, 5, 6, 0, []⟩ h.1.1 (flagZ (lessZ a b)) (nx_reg (x := opX a b) (pn := 2) (i := ⟨12, 10, 5, 6, 0, []⟩) (t := -1) rfl rfl (of_decide_eq_true rfl) (flagZ (lessZ a b)) rfl)⟩
theorem op_13 (a b : Int) (ha : I64 a) (hb : I64 b) : ((checkC (opC a b ⟨13, 10, 5, 0, 0, []⟩) = (0, 0) ∧ FineC (opC a b ⟨13, 10, 5, 0, 0, []⟩)) ∧ ∀ x, x ∈ (opC a b ⟨13, 10, 5, 0, 0, []⟩).lines → I64 x.ins.n) ∧ (runC (opC a b ⟨13, 10, 5, 0, 0, []⟩) [] 9).tells = (1, flagZ (a == 0), [], 5) := by
  have h := op_ok a b ⟨13, 10, 5, 0, 0, []⟩ ha hb (right_one (by decide) ⟨by decide, by decide⟩ ⟨by decide, by decide⟩) (known_none (of_decide_eq_true rfl) rfl) ⟨by decide, by decide⟩
  exact ⟨h, op_run a b ⟨13, 10, 5, 0, 0, []⟩ h.1.1 (flagZ (a == 0)) (nx_reg (x := opX a b) (pn := 2) (i := ⟨13, 10, 5, 0, 0, []⟩) (t := -1) rfl rfl (of_decide_eq_true rfl) (flagZ (a == 0)) rfl)⟩
theorem op_14 (a b : Int) (ha : I64 a) (hb : I64 b) : ((checkC (opC a b ⟨14, 10, 5, 0, 0, []⟩) = (0, 0) ∧ FineC (opC a b ⟨14, 10, 5, 0, 0, []⟩)) ∧ ∀ x, x ∈ (opC a b ⟨14, 10, 5, 0, 0, []⟩).lines → I64 x.ins.n) ∧ (runC (opC a b ⟨14, 10, 5, 0, 0, []⟩) [] 9).tells = (1, flagZ (a != 0), [], 5) := by
  have h := op_ok a b ⟨14, 10, 5, 0, 0, []⟩ ha hb (right_one (by decide) ⟨by decide, by decide⟩ ⟨by decide, by decide⟩) (known_none (of_decide_eq_true rfl) rfl) ⟨by decide, by decide⟩
  exact ⟨h, op_run a b ⟨14, 10, 5, 0, 0, []⟩ h.1.1 (flagZ (a != 0)) (nx_reg (x := opX a b) (pn := 2) (i := ⟨14, 10, 5, 0, 0, []⟩) (t := -1) rfl rfl (of_decide_eq_true rfl) (flagZ (a != 0)) rfl)⟩
theorem op_15 (a b : Int) (ha : I64 a) (hb : I64 b) : ((checkC (opC a b ⟨15, 10, 5, 0, 0, []⟩) = (0, 0) ∧ FineC (opC a b ⟨15, 10, 5, 0, 0, []⟩)) ∧ ∀ x, x ∈ (opC a b ⟨15, 10, 5, 0, 0, []⟩).lines → I64 x.ins.n) ∧ (runC (opC a b ⟨15, 10, 5, 0, 0, []⟩) [] 9).tells = (1, a, [], 5) := by
  have h := op_ok a b ⟨15, 10, 5, 0, 0, []⟩ ha hb (right_one (by decide) ⟨by decide, by decide⟩ ⟨by decide, by decide⟩) (known_none (of_decide_eq_true rfl) rfl) ⟨by decide, by decide⟩
  exact ⟨h, op_run a b ⟨15, 10, 5, 0, 0, []⟩ h.1.1 (a) (nx_reg (x := opX a b) (pn := 2) (i := ⟨15, 10, 5, 0, 0, []⟩) (t := -1) rfl rfl (of_decide_eq_true rfl) (a) rfl)⟩
end Go.Proofs.YtpgjfpphigeliaaGreatDoor
