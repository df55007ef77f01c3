/-
  TreeBinds: what binds more strongly needs no parentheses: the walk. Condition: the library's table of powers is there.
-/
import Derived.Test.YtgmaeflfiooigaaGreatDoorTreeG
namespace Go.Proofs.YtgmaeflfiooigaaGreatDoor
open Go.RowKit
set_option maxHeartbeats 4000000
set_option maxRecDepth 100000

/-- Which of n things a raw number speaks of. -/
def pickOf (c n : Int) : Int := (if c < 0 then -(c + 1) else c) % n
theorem pickOf_range (c n : Int) (h : 0 < n) : 0 ≤ pickOf c n ∧ pickOf c n < n := ⟨Int.emod_nonneg _ (by omega), Int.emod_lt_of_pos _ h⟩
theorem pick_any (c n : Int) (hc : I64 c) (h0 : 0 < n) (h1 : n ≤ 9223372036854775807) (w : World) :
    Calls Tryz.prog 28 #[.int .i64 c, .int .i64 n] w fun e w' => e = .returned (.int .i64 (pickOf c n)) ∧ w = w' := by
  obtain ⟨l, u⟩ := hc
  unfold pickOf
  by_cases hneg : c < 0
  · rw [if_pos hneg]
    have hn0 : (n == 0) = false := by simp; omega
    go_enter Tryz.func28, Tryz.ntmps28
    go_wp2_with fail
    go_ret
    exact ⟨ret_int (by show -((c + 1).tmod n) = _; rw [← Int.neg_tmod, Int.tmod_eq_emod_of_nonneg (by omega)]), rfl⟩
  · rw [if_neg hneg]
    have hneg' : 0 ≤ c := by omega
    go_enter Tryz.func28, Tryz.ntmps28
    go_wp2_with fail
    go_ret
    exact ⟨rfl, rfl⟩

def vX : Ex := .mk 2 0 0 [120] []
def twoX (a : Int) (x y : Ex) : Ex := .mk 4 a 0 [] [x, y]
def bS (a b : Int) : Ex := twoX a (twoX b vX vX) vX
def bT (a b : Int) : Ex := twoX a vX (twoX b vX vX)
def bU (b : Int) : Ex := .mk 3 17 0 [] [twoX b vX vX]
/-- What is told of the texts, for one pair of operators. -/
def bindsOk (a b : Int) : Bool :=
  let s := exText (bS a b); let t := exText (bT a b); let u := exText (bU b)
  rightEx (bS a b) && rightEx (bT a b) && rightEx (bU b) &&
  (match s with
   | c :: _ => (!(c == 40)) == decide (levelOf a ≤ levelOf b)
   | [] => false) &&
  (match t.reverse with
   | c :: _ => (!(c == 41)) == decide (levelOf a < levelOf b)
   | [] => false) &&
  (match u with
   | c :: d :: _ => c == 45 && d == 40
   | _ => false) && decide (s.length ≤ 1000) && decide (t.length ≤ 1000) && decide (u.length ≤ 1000)
theorem binds_all : ∀ a b : Fin 16, bindsOk (1 + (a.val : Int)) (1 + (b.val : Int)) = true := by decide +kernel
theorem strOf_size (l : Bs) : (strOf l).size = l.length := by show l.toArray.size = _; simp
theorem binds_parts {a b : Int} (h : bindsOk a b = true) : rightEx (bS a b) = true ∧ rightEx (bT a b) = true ∧ rightEx (bU b) = true ∧
    (∃ c s, exText (bS a b) = c :: s ∧ (!(c == 40)) = decide (levelOf a ≤ levelOf b) ∧ s.length ≤ 1000) ∧ (∃ c s, exText (bT a b) = s ++ [c] ∧ (!(c == 41)) = decide (levelOf a < levelOf b) ∧ s.length ≤ 1000) ∧
    (∃ s, exText (bU b) = 45 :: 40 :: s ∧ s.length ≤ 1000) := by
  unfold bindsOk at h
  simp only [Bool.and_eq_true] at h
  obtain ⟨⟨⟨⟨⟨⟨⟨⟨h1, h2⟩, h3⟩, h4⟩, h5⟩, h6⟩, h7⟩, h8⟩, h9⟩ := h
  refine ⟨h1, h2, h3, ?_, ?_, ?_⟩
  · revert h4 h7
    cases exText (bS a b) with
    | nil => intro h7 h4; simp at h4
    | cons c s => intro h7 h4; exact ⟨c, s, rfl, by simpa using h4, by have := of_decide_eq_true h7; simp at this; omega⟩
  · have h8 := of_decide_eq_true h8
    revert h5
    cases hr : (exText (bT a b)).reverse with
    | nil => intro h5; simp at h5
    | cons c s =>
      intro h5
      have e : exText (bT a b) = s.reverse ++ [c] := by rw [← List.reverse_reverse (exText (bT a b)), hr, List.reverse_cons]
      exact ⟨c, s.reverse, e, by simpa using h5, by rw [e] at h8; simp at h8; simp; omega⟩
  · revert h6 h9
    cases exText (bU b) with
    | nil => intro h9 h6; simp at h6
    | cons c s =>
      cases s with
      | nil => intro h9 h6; simp at h6
      | cons d s => intro h9 h6; simp at h6; obtain ⟨rfl, rfl⟩ := h6; exact ⟨s, rfl, by have := of_decide_eq_true h9; simp at this; omega⟩

theorem binds_mem (b : Int) (w : World) (Y : Nat) (hY : Y = w.heap.size) : ExsAt (· < Y + 1 + 1 + 1 + 1) ((((w.alloc (.cells #[.int .i64 2, .int .i64 0, .int .i64 0, .string ⟨#[120]⟩, .slice none 0 0] 31)).alloc (.cells #[.int .i64 2, .int .i64 0, .int .i64 0, .string ⟨#[120]⟩, .slice none 0 0, .int .i64 2, .int .i64 0, .int .i64 0, .string ⟨#[120]⟩, .slice none 0 0] 31)).alloc (.cells #[.int .i64 4, .int .i64 b, .int .i64 0, .string ⟨#[]⟩, .slice (some ⟨Y + 1, 0, none⟩) 2 2] 31)).alloc (.cells #[.int .i64 4, .int .i64 b, .int .i64 0, .string ⟨#[]⟩, .slice (some ⟨Y + 1, 0, none⟩) 2 2, .int .i64 2, .int .i64 0, .int .i64 0, .string ⟨#[120]⟩, .slice none 0 0] 31)) [vX, vX] (.slice (some ⟨Y + 1, 0, none⟩) 2 2) ∧ ExsAt (· < Y + 1 + 1 + 1 + 1) ((((w.alloc (.cells #[.int .i64 2, .int .i64 0, .int .i64 0, .string ⟨#[120]⟩, .slice none 0 0] 31)).alloc (.cells #[.int .i64 2, .int .i64 0, .int .i64 0, .string ⟨#[120]⟩, .slice none 0 0, .int .i64 2, .int .i64 0, .int .i64 0, .string ⟨#[120]⟩, .slice none 0 0] 31)).alloc (.cells #[.int .i64 4, .int .i64 b, .int .i64 0, .string ⟨#[]⟩, .slice (some ⟨Y + 1, 0, none⟩) 2 2] 31)).alloc (.cells #[.int .i64 4, .int .i64 b, .int .i64 0, .string ⟨#[]⟩, .slice (some ⟨Y + 1, 0, none⟩) 2 2, .int .i64 2, .int .i64 0, .int .i64 0, .string ⟨#[120]⟩, .slice none 0 0] 31)) [twoX b vX vX, vX] (.slice (some ⟨Y + 1 + 1 + 1, 0, none⟩) 2 2) ∧
    ((((w.alloc (.cells #[.int .i64 2, .int .i64 0, .int .i64 0, .string ⟨#[120]⟩, .slice none 0 0] 31)).alloc (.cells #[.int .i64 2, .int .i64 0, .int .i64 0, .string ⟨#[120]⟩, .slice none 0 0, .int .i64 2, .int .i64 0, .int .i64 0, .string ⟨#[120]⟩, .slice none 0 0] 31)).alloc (.cells #[.int .i64 4, .int .i64 b, .int .i64 0, .string ⟨#[]⟩, .slice (some ⟨Y + 1, 0, none⟩) 2 2] 31)).alloc (.cells #[.int .i64 4, .int .i64 b, .int .i64 0, .string ⟨#[]⟩, .slice (some ⟨Y + 1, 0, none⟩) 2 2, .int .i64 2, .int .i64 0, .int .i64 0, .string ⟨#[120]⟩, .slice none 0 0] 31)).heap.size = Y + 1 + 1 + 1 + 1 ∧ RowAt ((((w.alloc (.cells #[.int .i64 2, .int .i64 0, .int .i64 0, .string ⟨#[120]⟩, .slice none 0 0] 31)).alloc (.cells #[.int .i64 2, .int .i64 0, .int .i64 0, .string ⟨#[120]⟩, .slice none 0 0, .int .i64 2, .int .i64 0, .int .i64 0, .string ⟨#[120]⟩, .slice none 0 0] 31)).alloc (.cells #[.int .i64 4, .int .i64 b, .int .i64 0, .string ⟨#[]⟩, .slice (some ⟨Y + 1, 0, none⟩) 2 2] 31)).alloc (.cells #[.int .i64 4, .int .i64 b, .int .i64 0, .string ⟨#[]⟩, .slice (some ⟨Y + 1, 0, none⟩) 2 2, .int .i64 2, .int .i64 0, .int .i64 0, .string ⟨#[120]⟩, .slice none 0 0] 31)) Y 0 (exCells vX (.slice none 0 0)) ∧ RowAt ((((w.alloc (.cells #[.int .i64 2, .int .i64 0, .int .i64 0, .string ⟨#[120]⟩, .slice none 0 0] 31)).alloc (.cells #[.int .i64 2, .int .i64 0, .int .i64 0, .string ⟨#[120]⟩, .slice none 0 0, .int .i64 2, .int .i64 0, .int .i64 0, .string ⟨#[120]⟩, .slice none 0 0] 31)).alloc (.cells #[.int .i64 4, .int .i64 b, .int .i64 0, .string ⟨#[]⟩, .slice (some ⟨Y + 1, 0, none⟩) 2 2] 31)).alloc (.cells #[.int .i64 4, .int .i64 b, .int .i64 0, .string ⟨#[]⟩, .slice (some ⟨Y + 1, 0, none⟩) 2 2, .int .i64 2, .int .i64 0, .int .i64 0, .string ⟨#[120]⟩, .slice none 0 0] 31)) (Y + 1 + 1) 0 (exCells (twoX b vX vX) (.slice (some ⟨Y + 1, 0, none⟩) 2 2)) ∧ Below Y w ((((w.alloc (.cells #[.int .i64 2, .int .i64 0, .int .i64 0, .string ⟨#[120]⟩, .slice none 0 0] 31)).alloc (.cells #[.int .i64 2, .int .i64 0, .int .i64 0, .string ⟨#[120]⟩, .slice none 0 0, .int .i64 2, .int .i64 0, .int .i64 0, .string ⟨#[120]⟩, .slice none 0 0] 31)).alloc (.cells #[.int .i64 4, .int .i64 b, .int .i64 0, .string ⟨#[]⟩, .slice (some ⟨Y + 1, 0, none⟩) 2 2] 31)).alloc (.cells #[.int .i64 4, .int .i64 b, .int .i64 0, .string ⟨#[]⟩, .slice (some ⟨Y + 1, 0, none⟩) 2 2, .int .i64 2, .int .i64 0, .int .i64 0, .string ⟨#[120]⟩, .slice none 0 0] 31)) := by
  have r0 : RowAt (w.alloc (.cells #[.int .i64 2, .int .i64 0, .int .i64 0, .string ⟨#[120]⟩, .slice none 0 0] 31)) Y 0 (exCells vX (.slice none 0 0)) := by rw [hY]; exact RowAt.new w _ _
  have s1 : (w.alloc (.cells #[.int .i64 2, .int .i64 0, .int .i64 0, .string ⟨#[120]⟩, .slice none 0 0] 31)).heap.size = Y + 1 := by simp [hY]
  have b1 : Below Y w (w.alloc (.cells #[.int .i64 2, .int .i64 0, .int .i64 0, .string ⟨#[120]⟩, .slice none 0 0] 31)) := (Below.refl _ _).alloc (by omega) _
  generalize (w.alloc (.cells #[.int .i64 2, .int .i64 0, .int .i64 0, .string ⟨#[120]⟩, .slice none 0 0] 31)) = W1 at *
  have r0 := r0.alloc (.cells #[.int .i64 2, .int .i64 0, .int .i64 0, .string ⟨#[120]⟩, .slice none 0 0, .int .i64 2, .int .i64 0, .int .i64 0, .string ⟨#[120]⟩, .slice none 0 0] 31)
  have b1 := b1.alloc (o := (.cells #[.int .i64 2, .int .i64 0, .int .i64 0, .string ⟨#[120]⟩, .slice none 0 0, .int .i64 2, .int .i64 0, .int .i64 0, .string ⟨#[120]⟩, .slice none 0 0] 31)) (by omega)
  have r1 := RowAt.new W1 (exCells vX (.slice none 0 0) ++ exCells vX (.slice none 0 0)) 31
  rw [s1] at r1
  have r1 : RowAt (W1.alloc (.cells #[.int .i64 2, .int .i64 0, .int .i64 0, .string ⟨#[120]⟩, .slice none 0 0, .int .i64 2, .int .i64 0, .int .i64 0, .string ⟨#[120]⟩, .slice none 0 0] 31)) (Y + 1) 0 (exCells vX (.slice none 0 0) ++ exCells vX (.slice none 0 0)) := r1
  have s2 : (W1.alloc (.cells #[.int .i64 2, .int .i64 0, .int .i64 0, .string ⟨#[120]⟩, .slice none 0 0, .int .i64 2, .int .i64 0, .int .i64 0, .string ⟨#[120]⟩, .slice none 0 0] 31)).heap.size = Y + 1 + 1 := by simp [s1]
  generalize (W1.alloc (.cells #[.int .i64 2, .int .i64 0, .int .i64 0, .string ⟨#[120]⟩, .slice none 0 0, .int .i64 2, .int .i64 0, .int .i64 0, .string ⟨#[120]⟩, .slice none 0 0] 31)) = W2 at *
  have r0 := r0.alloc (.cells #[.int .i64 4, .int .i64 b, .int .i64 0, .string ⟨#[]⟩, .slice (some ⟨Y + 1, 0, none⟩) 2 2] 31)
  have r1 := r1.alloc (.cells #[.int .i64 4, .int .i64 b, .int .i64 0, .string ⟨#[]⟩, .slice (some ⟨Y + 1, 0, none⟩) 2 2] 31)
  have b1 := b1.alloc (o := (.cells #[.int .i64 4, .int .i64 b, .int .i64 0, .string ⟨#[]⟩, .slice (some ⟨Y + 1, 0, none⟩) 2 2] 31)) (by omega)
  have r2 := RowAt.new W2 (exCells (twoX b vX vX) (.slice (some ⟨Y + 1, 0, none⟩) 2 2)) 31
  rw [s2] at r2
  have r2 : RowAt (W2.alloc (.cells #[.int .i64 4, .int .i64 b, .int .i64 0, .string ⟨#[]⟩, .slice (some ⟨Y + 1, 0, none⟩) 2 2] 31)) (Y + 1 + 1) 0 (exCells (twoX b vX vX) (.slice (some ⟨Y + 1, 0, none⟩) 2 2)) := r2
  have s3 : (W2.alloc (.cells #[.int .i64 4, .int .i64 b, .int .i64 0, .string ⟨#[]⟩, .slice (some ⟨Y + 1, 0, none⟩) 2 2] 31)).heap.size = Y + 1 + 1 + 1 := by simp [s2]
  generalize (W2.alloc (.cells #[.int .i64 4, .int .i64 b, .int .i64 0, .string ⟨#[]⟩, .slice (some ⟨Y + 1, 0, none⟩) 2 2] 31)) = W3 at *
  have r0 := r0.alloc (.cells #[.int .i64 4, .int .i64 b, .int .i64 0, .string ⟨#[]⟩, .slice (some ⟨Y + 1, 0, none⟩) 2 2, .int .i64 2, .int .i64 0, .int .i64 0, .string ⟨#[120]⟩, .slice none 0 0] 31)
  have r1 := r1.alloc (.cells #[.int .i64 4, .int .i64 b, .int .i64 0, .string ⟨#[]⟩, .slice (some ⟨Y + 1, 0, none⟩) 2 2, .int .i64 2, .int .i64 0, .int .i64 0, .string ⟨#[120]⟩, .slice none 0 0] 31)
  have r2 := r2.alloc (.cells #[.int .i64 4, .int .i64 b, .int .i64 0, .string ⟨#[]⟩, .slice (some ⟨Y + 1, 0, none⟩) 2 2, .int .i64 2, .int .i64 0, .int .i64 0, .string ⟨#[120]⟩, .slice none 0 0] 31)
  have b1 := b1.alloc (o := (.cells #[.int .i64 4, .int .i64 b, .int .i64 0, .string ⟨#[]⟩, .slice (some ⟨Y + 1, 0, none⟩) 2 2, .int .i64 2, .int .i64 0, .int .i64 0, .string ⟨#[120]⟩, .slice none 0 0] 31)) (by omega)
  have r3 := RowAt.new W3 (exCells (twoX b vX vX) (.slice (some ⟨Y + 1, 0, none⟩) 2 2) ++ exCells vX (.slice none 0 0)) 31
  rw [s3] at r3
  have r3 : RowAt (W3.alloc (.cells #[.int .i64 4, .int .i64 b, .int .i64 0, .string ⟨#[]⟩, .slice (some ⟨Y + 1, 0, none⟩) 2 2, .int .i64 2, .int .i64 0, .int .i64 0, .string ⟨#[120]⟩, .slice none 0 0] 31)) (Y + 1 + 1 + 1) 0 (exCells (twoX b vX vX) (.slice (some ⟨Y + 1, 0, none⟩) 2 2) ++ exCells vX (.slice none 0 0)) := r3
  have s4 : (W3.alloc (.cells #[.int .i64 4, .int .i64 b, .int .i64 0, .string ⟨#[]⟩, .slice (some ⟨Y + 1, 0, none⟩) 2 2, .int .i64 2, .int .i64 0, .int .i64 0, .string ⟨#[120]⟩, .slice none 0 0] 31)).heap.size = Y + 1 + 1 + 1 + 1 := by simp [s3]
  generalize (W3.alloc (.cells #[.int .i64 4, .int .i64 b, .int .i64 0, .string ⟨#[]⟩, .slice (some ⟨Y + 1, 0, none⟩) 2 2, .int .i64 2, .int .i64 0, .int .i64 0, .string ⟨#[120]⟩, .slice none 0 0] 31)) = W4 at *
  have e1 : ExsAt (· < Y + 1 + 1 + 1 + 1) W4 [vX, vX] (.slice (some ⟨Y + 1, 0, none⟩) 2 2) := .two _ _ _ _ (by omega) r1 .zero (i64_small ⟨by decide, by decide⟩) .zero (i64_small ⟨by decide, by decide⟩)
  exact ⟨e1, .two _ _ _ _ (by omega) r3 e1 (i64_small ⟨by show _ ≤ (0 : Int); decide, by show (0 : Int) ≤ _; decide⟩) .zero (i64_small ⟨by decide, by decide⟩), s4, r0, r2, b1⟩

theorem binds_any (one two : Int) (h1 : I64 one) (h2 : I64 two) (w : World) (hg : 3 < w.heap.size) (ht : TabOk w) :
    Calls Tryz.prog 8 #[.int .i64 one, .int .i64 two] w fun e w' => e = .returned (.bool true) ∧ Below w.heap.size w w' := by
  have HG := Lib.hid hg; have HT := Lib.hid ht; have H1 := Lib.hid h1; have H2 := Lib.hid h2
  clear hg ht h1 h2
  go_enter Tryz.func8, Tryz.ntmps8
  go_wp2_with fail
  refine (awake_any w HG.out HT.out).mono ?_
  rintro r w1 ⟨rfl, hb1⟩
  have HB1 := Lib.hid hb1
  have HT1 : Hid (TabOk w1) := HT.out.keep (hb1.block _ HG.out)
  have HG1 : Hid (3 < w1.heap.size) := Nat.lt_of_lt_of_le HG.out hb1.size
  clear hb1 HT
  go_wp2_with fail
  refine (pick_any one 16 H1.out (by decide) (by decide) _).mono ?_
  rintro r w' ⟨rfl, rfl⟩
  have hp := pickOf_range one 16 (by decide)
  generalize pickOf one 16 = p at *
  obtain ⟨hp0, hp1⟩ := hp
  go_wp2_with fail
  refine (pick_any two 16 H2.out (by decide) (by decide) _).mono ?_
  rintro r w' ⟨rfl, rfl⟩
  have hq := pickOf_range two 16 (by decide)
  generalize pickOf two 16 = q at *
  obtain ⟨hq0, hq1⟩ := hq
  have hok : bindsOk (1 + p) (1 + q) = true := by
    have h := binds_all ⟨p.toNat, by omega⟩ ⟨q.toNat, by omega⟩
    simp only [Int.toNat_of_nonneg hp0, Int.toNat_of_nonneg hq0] at h
    exact h
  obtain ⟨r1, r2, r3, ⟨c1, s1, e1, f1, l1⟩, ⟨c2, s2, e2, f2, l2⟩, ⟨s3, e3, l3⟩⟩ := binds_parts hok
  have R1 := Lib.hid r1; have R2 := Lib.hid r2; have R3 := Lib.hid r3; have E1 := Lib.hid e1; have E2 := Lib.hid e2; have E3 := Lib.hid e3; have F1 := Lib.hid f1; have F2 := Lib.hid f2
  clear hok r1 r2 r3 e1 e2 e3 f1 f2
  have HM := Lib.hid (binds_mem (1 + q) w1 _ rfl)
  go_wp2_with fail
  generalize ((((w1.alloc (.cells #[.int .i64 2, .int .i64 0, .int .i64 0, .string ⟨#[120]⟩, .slice none 0 0] 31)).alloc (.cells #[.int .i64 2, .int .i64 0, .int .i64 0, .string ⟨#[120]⟩, .slice none 0 0, .int .i64 2, .int .i64 0, .int .i64 0, .string ⟨#[120]⟩, .slice none 0 0] 31)).alloc (.cells #[.int .i64 4, .int .i64 (1 + q), .int .i64 0, .string ⟨#[]⟩, .slice (some ⟨w1.heap.size + 1, 0, none⟩) 2 2] 31)).alloc (.cells #[.int .i64 4, .int .i64 (1 + q), .int .i64 0, .string ⟨#[]⟩, .slice (some ⟨w1.heap.size + 1, 0, none⟩) 2 2, .int .i64 2, .int .i64 0, .int .i64 0, .string ⟨#[120]⟩, .slice none 0 0] 31)) = W at *
  have HX : Hid (w1.heap.size + 1 + 1 + 1 + 1 = W.heap.size) := HM.out.2.2.1.symm
  have HBW := Lib.hid (HB1.out.trans (HM.out.2.2.2.2.2.mono HB1.out.size))
  have HXX : Hid (ExsAt (· < W.heap.size) W [vX, vX] (.slice (some ⟨w1.heap.size + 1, 0, none⟩) 2 2)) := by show ExsAt _ _ _ _; rw [← HX.out]; exact HM.out.1
  have HIX : Hid (ExsAt (· < W.heap.size) W [twoX (1 + q) vX vX, vX] (.slice (some ⟨w1.heap.size + 1 + 1 + 1, 0, none⟩) 2 2)) := by show ExsAt _ _ _ _; rw [← HX.out]; exact HM.out.2.1
  have HRX := Lib.hid HM.out.2.2.2.1
  have HRI := Lib.hid HM.out.2.2.2.2.1
  have HTW : Hid (TabOk W) := HT1.out.keep (HM.out.2.2.2.2.2.block _ HG1.out)
  have HGW : Hid (3 < W.heap.size) := Nat.lt_of_lt_of_le HG1.out HM.out.2.2.2.2.2.size
  clear HM
  refine (printExpr_good (bS (1 + p) (1 + q)) _ W HGW.out HTW.out HIX.out (i64_small ⟨by show _ ≤ (0 : Int); decide, by show (0 : Int) ≤ _; decide⟩) R1.out (by rw [E1.out]; show _ ≤ _; simp; omega)).mono ?_
  rw [E1.out]
  rintro r w2 ⟨rfl, hb2⟩
  have HB2 := Lib.hid hb2
  have hs2 := hb2.size
  have HRX2 := Lib.hid (HRX.out.below hb2)
  have HRI2 := Lib.hid (HRI.out.below hb2)
  have HXX2 := Lib.hid (HXX.out.old hb2)
  have HT2 : Hid (TabOk w2) := HTW.out.keep (hb2.block _ HGW.out)
  have HG2 : Hid (3 < w2.heap.size) := Nat.lt_of_lt_of_le HGW.out hb2.size
  clear hb2
  have x0 := HRX2.out.at 0 _ rfl
  have x1 := HRX2.out.at 1 _ rfl
  have x2 := HRX2.out.at 2 _ rfl
  have x3 := HRX2.out.at 3 _ rfl
  have x4 := HRX2.out.at 4 _ rfl
  have i0 := HRI2.out.at 0 _ rfl
  have i1 := HRI2.out.at 1 _ rfl
  have i2 := HRI2.out.at 2 _ rfl
  have i3 := HRI2.out.at 3 _ rfl
  have i4 := HRI2.out.at 4 _ rfl
  simp only [vX, twoX, Ex.kind, Ex.op, Ex.n] at x0 x1 x2 i0 i1 i2
  replace x3 : w2.cell? ⟨w1.heap.size, 3, none⟩ = some (.string ⟨#[120]⟩) := x3
  replace i3 : w2.cell? ⟨w1.heap.size + 1 + 1, 3, none⟩ = some (.string ⟨#[]⟩) := i3
  go_wp2_with fail
  have HR7 := Lib.hid (RowAt.new w2 (exCells vX (.slice none 0 0) ++ exCells (twoX (1 + q) vX vX) (.slice (some ⟨w1.heap.size + 1, 0, none⟩) 2 2)) 31)
  have hb7 : Below w2.heap.size w2 (w2.alloc (.cells #[.int .i64 2, .int .i64 0, .int .i64 0, .string ⟨#[120]⟩, .slice none 0 0, .int .i64 4, .int .i64 (1 + q), .int .i64 0, .string ⟨#[]⟩, .slice (some ⟨w1.heap.size + 1, 0, none⟩) 2 2] 31)) := (Below.refl _ _).alloc (Nat.le_refl _) _
  have HB7 := Lib.hid hb7
  have hz7 : (w2.alloc (.cells #[.int .i64 2, .int .i64 0, .int .i64 0, .string ⟨#[120]⟩, .slice none 0 0, .int .i64 4, .int .i64 (1 + q), .int .i64 0, .string ⟨#[]⟩, .slice (some ⟨w1.heap.size + 1, 0, none⟩) 2 2] 31)).heap.size = w2.heap.size + 1 := by simp
  have HXX7 := Lib.hid (HXX2.out.old hb7)
  have HRX7 := Lib.hid (HRX2.out.below hb7)
  have HRI7 := Lib.hid (HRI2.out.below hb7)
  have HT7 : Hid (TabOk (w2.alloc (.cells #[.int .i64 2, .int .i64 0, .int .i64 0, .string ⟨#[120]⟩, .slice none 0 0, .int .i64 4, .int .i64 (1 + q), .int .i64 0, .string ⟨#[]⟩, .slice (some ⟨w1.heap.size + 1, 0, none⟩) 2 2] 31))) := HT2.out.keep (hb7.block _ HG2.out)
  replace HR7 : Hid (RowAt (w2.alloc (.cells #[.int .i64 2, .int .i64 0, .int .i64 0, .string ⟨#[120]⟩, .slice none 0 0, .int .i64 4, .int .i64 (1 + q), .int .i64 0, .string ⟨#[]⟩, .slice (some ⟨w1.heap.size + 1, 0, none⟩) 2 2] 31)) w2.heap.size 0 (exCells vX (.slice none 0 0) ++ exCells (twoX (1 + q) vX vX) (.slice (some ⟨w1.heap.size + 1, 0, none⟩) 2 2))) := HR7
  clear hb7
  generalize w2.alloc (.cells #[.int .i64 2, .int .i64 0, .int .i64 0, .string ⟨#[120]⟩, .slice none 0 0, .int .i64 4, .int .i64 (1 + q), .int .i64 0, .string ⟨#[]⟩, .slice (some ⟨w1.heap.size + 1, 0, none⟩) 2 2] 31) = V at *
  have HXI7 : Hid (ExsAt (· < V.heap.size) V [vX, twoX (1 + q) vX vX] (.slice (some ⟨w2.heap.size, 0, none⟩) 2 2)) := .two _ _ _ _ (by show _ < _; omega) HR7.out .zero (i64_small ⟨by decide, by decide⟩) (HXX7.out.mono (fun k hk => by show _ < _; have : k < W.heap.size := hk; omega)) (i64_small ⟨by show _ ≤ (0 : Int); decide, by show (0 : Int) ≤ _; decide⟩)
  have HG7 : Hid (3 < V.heap.size) := Nat.lt_of_lt_of_le HG2.out (by omega)
  clear HR7 x0 x1 x2 x3 x4 i0 i1 i2 i3 i4
  have hv7 : w2.heap.size ≤ V.heap.size := by omega
  clear hz7
  refine (printExpr_good (bT (1 + p) (1 + q)) _ V HG7.out HT7.out HXI7.out (i64_small ⟨by show _ ≤ (0 : Int); decide, by show (0 : Int) ≤ _; decide⟩) R2.out (by rw [E2.out]; show _ ≤ _; simp; omega)).mono ?_
  rw [E2.out]
  rintro r w3 ⟨rfl, hb3⟩
  have HB3 := Lib.hid hb3
  have hs3 := hb3.size
  have HXX3 := Lib.hid (HXX7.out.old hb3)
  have HT3 : Hid (TabOk w3) := HT7.out.keep (hb3.block _ HG7.out)
  have HG3 : Hid (3 < w3.heap.size) := Nat.lt_of_lt_of_le HG7.out hs3
  have HRI3 := Lib.hid (HRI7.out.below hb3)
  clear hb3
  have i0 := HRI3.out.at 0 _ rfl
  have i1 := HRI3.out.at 1 _ rfl
  have i2 := HRI3.out.at 2 _ rfl
  have i3 := HRI3.out.at 3 _ rfl
  have i4 := HRI3.out.at 4 _ rfl
  simp only [vX, twoX, Ex.kind, Ex.op, Ex.n] at i0 i1 i2
  replace i3 : w3.cell? ⟨w1.heap.size + 1 + 1, 3, none⟩ = some (.string ⟨#[]⟩) := i3
  go_wp2_with fail
  have HR8 := Lib.hid (RowAt.new w3 (exCells (twoX (1 + q) vX vX) (.slice (some ⟨w1.heap.size + 1, 0, none⟩) 2 2)) 31)
  have hb8 : Below w3.heap.size w3 (w3.alloc (.cells #[.int .i64 4, .int .i64 (1 + q), .int .i64 0, .string ⟨#[]⟩, .slice (some ⟨w1.heap.size + 1, 0, none⟩) 2 2] 31)) := (Below.refl _ _).alloc (Nat.le_refl _) _
  have HB8 := Lib.hid hb8
  have hz8 : (w3.alloc (.cells #[.int .i64 4, .int .i64 (1 + q), .int .i64 0, .string ⟨#[]⟩, .slice (some ⟨w1.heap.size + 1, 0, none⟩) 2 2] 31)).heap.size = w3.heap.size + 1 := by simp
  have HXX8 := Lib.hid (HXX3.out.old hb8)
  have HT8 : Hid (TabOk (w3.alloc (.cells #[.int .i64 4, .int .i64 (1 + q), .int .i64 0, .string ⟨#[]⟩, .slice (some ⟨w1.heap.size + 1, 0, none⟩) 2 2] 31))) := HT3.out.keep (hb8.block _ HG3.out)
  replace HR8 : Hid (RowAt (w3.alloc (.cells #[.int .i64 4, .int .i64 (1 + q), .int .i64 0, .string ⟨#[]⟩, .slice (some ⟨w1.heap.size + 1, 0, none⟩) 2 2] 31)) w3.heap.size 0 (exCells (twoX (1 + q) vX vX) (.slice (some ⟨w1.heap.size + 1, 0, none⟩) 2 2))) := HR8
  clear hb8
  generalize w3.alloc (.cells #[.int .i64 4, .int .i64 (1 + q), .int .i64 0, .string ⟨#[]⟩, .slice (some ⟨w1.heap.size + 1, 0, none⟩) 2 2] 31) = U at *
  have HI8 : Hid (ExsAt (· < U.heap.size) U [twoX (1 + q) vX vX] (.slice (some ⟨w3.heap.size, 0, none⟩) 1 1)) := .one _ _ (by show _ < _; omega) HR8.out (HXX8.out.mono (fun k hk => by show _ < _; have : k < W.heap.size := hk; omega)) (i64_small ⟨by show _ ≤ (0 : Int); decide, by show (0 : Int) ≤ _; decide⟩)
  have HG8 : Hid (3 < U.heap.size) := Nat.lt_of_lt_of_le HG3.out (by omega)
  have hv8 : w3.heap.size ≤ U.heap.size := by omega
  clear HR8 i0 i1 i2 i3 i4 hz8
  refine (printExpr_good (bU (1 + q)) _ U HG8.out HT8.out HI8.out (i64_small ⟨by show _ ≤ (0 : Int); decide, by show (0 : Int) ≤ _; decide⟩) R3.out (by rw [E3.out]; show _ ≤ _; simp; omega)).mono ?_
  rw [E3.out]
  rintro r w4 ⟨rfl, hb4⟩
  have HB4 := Lib.hid hb4
  have hs4 := hb4.size
  clear hb4
  go_wp2_with fail
  have G1 : ((((strOf (c1 :: s1))[0]'(by rw [strOf_size]; simp)).toNat : Int) != 40) = decide (levelOf (1 + p) ≤ levelOf (1 + q)) := by
    rw [← F1.out]
    have e : ((strOf (c1 :: s1))[0]'(by rw [strOf_size]; simp)) = c1 := rfl
    rw [e]
    cases hc : (c1 == 40)
    · have hc' : c1 ≠ 40 := by simpa using hc
      have : c1.toNat ≠ 40 := fun h => hc' (UInt8.toNat_inj.1 h)
      simp; omega
    · have hc' : c1 = 40 := by simpa using hc
      subst hc'; rfl
  have G2 : ((((strOf (s2 ++ [c2]))[s2.length]'(by rw [strOf_size]; simp)).toNat : Int) != 41) = decide (levelOf (1 + p) < levelOf (1 + q)) := by
    rw [← F2.out]
    have e : ((strOf (s2 ++ [c2]))[s2.length]'(by rw [strOf_size]; simp)) = c2 := by
      show (s2 ++ [c2]).toArray[s2.length]'_ = c2
      simp
    rw [e]
    cases hc : (c2 == 41)
    · have hc' : c2 ≠ 41 := by simpa using hc
      have : c2.toNat ≠ 41 := fun h => hc' (UInt8.toNat_inj.1 h)
      simp; omega
    · have hc' : c2 = 41 := by simpa using hc
      subst hc'; rfl
  rw [G1, G2]
  clear G1 G2
  have HZ := Lib.hid (HB4.out.size)
  have HFIN : Hid (Below w.heap.size w w4) := by
    have l0 := HB1.out.size; have l00 := HBW.out.size
    have a1 := HBW.out.trans (HB2.out.mono (by omega))
    have a2 := (a1.trans (HB7.out.mono (by omega))).trans (HB3.out.mono (by omega))
    exact (a2.trans (HB8.out.mono (by omega))).trans (HB4.out.mono (by omega))
  have hfs := HFIN.out.size
  refine (level_any (1 + q) w4).mono ?_
  rintro r w5 ⟨rfl, hb5⟩
  have hs5 := hb5.size
  have HF5 := Lib.hid (HFIN.out.trans (hb5.mono hfs))
  clear hb5
  go_wp2_with fail
  refine (level_any (1 + p) w5).mono ?_
  rintro r w6 ⟨rfl, hb6⟩
  have hs6 := hb6.size
  have HF6 := Lib.hid (HF5.out.trans (hb6.mono (by omega)))
  clear hb6
  by_cases hle : levelOf (1 + p) ≤ levelOf (1 + q)
  · by_cases hlt : levelOf (1 + p) < levelOf (1 + q)
    · rw [decide_eq_true hle, decide_eq_true hlt]
      go_wp2_with fail
      refine (level_any (1 + q) w6).mono ?_
      rintro r w7 ⟨rfl, hb7⟩
      have hs7 := hb7.size
      have HF7 := Lib.hid (HF6.out.trans (hb7.mono (by omega)))
      clear hb7
      go_wp2_with fail
      refine (level_any (1 + p) w7).mono ?_
      rintro r w8 ⟨rfl, hb8⟩
      have HF8 := Lib.hid (HF7.out.trans (hb8.mono (by omega)))
      clear hb8
      go_wp2_with fail
      go_ret
      exact ⟨ret_bool (by rw [ByteArray.extract_mk]; simp [hle, hlt]), HF8.out⟩
    · rw [decide_eq_true hle, decide_eq_false hlt]
      go_wp2_with fail
      refine (level_any (1 + q) w6).mono ?_
      rintro r w7 ⟨rfl, hb7⟩
      have hs7 := hb7.size
      have HF7 := Lib.hid (HF6.out.trans (hb7.mono (by omega)))
      clear hb7
      go_wp2_with fail
      refine (level_any (1 + p) w7).mono ?_
      rintro r w8 ⟨rfl, hb8⟩
      have HF8 := Lib.hid (HF7.out.trans (hb8.mono (by omega)))
      clear hb8
      go_wp2_with fail
      go_ret
      exact ⟨ret_bool (by rw [ByteArray.extract_mk]; simp [hle, hlt]), HF8.out⟩
  · have hlt : ¬ levelOf (1 + p) < levelOf (1 + q) := by omega
    rw [decide_eq_false hle, decide_eq_false hlt]
    go_wp2_with fail
    refine (level_any (1 + q) w6).mono ?_
    rintro r w7 ⟨rfl, hb7⟩
    have hs7 := hb7.size
    have HF7 := Lib.hid (HF6.out.trans (hb7.mono (by omega)))
    clear hb7
    go_wp2_with fail
    refine (level_any (1 + p) w7).mono ?_
    rintro r w8 ⟨rfl, hb8⟩
    have HF8 := Lib.hid (HF7.out.trans (hb8.mono (by omega)))
    clear hb8
    go_wp2_with fail
    go_ret
    exact ⟨ret_bool (by rw [ByteArray.extract_mk]; simp [hle, hlt]), HF8.out⟩
end Go.Proofs.YtgmaeflfiooigaaGreatDoor
