/-
  sign: the longest sign at a text's beginning. Condition: there is one.
-/
import Derived.Test.YtcfpfnoldgnloaaGreatDoorScanA
set_option linter.unusedVariables false
set_option linter.unusedSimpArgs false
namespace Go.Proofs.YtcfpfnoldgnloaaGreatDoor
open Go.RowKit
set_option maxHeartbeats 4000000
set_option maxRecDepth 100000

def signList : List Bs := [[61, 61], [33, 61], [60, 61], [62, 61], [60, 60], [62, 62], [40], [41], [123], [125], [91], [93], [44], [59], [61], [124], [94], [38], [43], [45], [42], [47], [37], [33], [126], [60], [62]]
def isSign (l : Bs) : Bool := signList.contains l
theorem sign_cases {t : Bs} (h : isSign t = true) : t = [61, 61] ∨ t = [33, 61] ∨ t = [60, 61] ∨ t = [62, 61] ∨ t = [60, 60] ∨ t = [62, 62] ∨ t = [40] ∨ t = [41] ∨ t = [123] ∨ t = [125] ∨ t = [91] ∨ t = [93] ∨ t = [44] ∨ t = [59] ∨ t = [61] ∨ t = [124] ∨ t = [94] ∨ t = [38] ∨ t = [43] ∨ t = [45] ∨ t = [42] ∨ t = [47] ∨ t = [37] ∨ t = [33] ∨ t = [126] ∨ t = [60] ∨ t = [62] := by
  simpa [isSign, signList] using h
theorem signT_any (a b : Bs) (ha : isSign a = true) (h1 : a.length = 1 → ∃ c r, b = c :: r ∧ (c == 61) = false ∧ (c == 60) = false ∧ (c == 62) = false) (w : World) :
    Calls Tryz.prog 94 #[.string (strOf (a ++ b))] w fun e w' => e = .returned (.tuple #[tokV 4 a 0 0, .bool true]) ∧ Below w.heap.size w w' := by
  have hlen : a.length = 1 ∨ a.length = 2 := by
    rcases sign_cases ha with rfl | rfl | rfl | rfl | rfl | rfl | rfl | rfl | rfl | rfl | rfl | rfl | rfl | rfl | rfl | rfl | rfl | rfl | rfl | rfl | rfl | rfl | rfl | rfl | rfl | rfl | rfl <;> simp
  rcases hlen with hl | hl
  · obtain ⟨c, r, rfl, c1, c2, c3⟩ := h1 hl
    have hx2 : (strOf (a ++ c :: r)).extract 0 2 = strOf (a ++ [c]) := by
      have := ext_take (a ++ [c]) r
      rw [List.length_append, hl] at this
      simpa using this
    have hx1 : (strOf (a ++ c :: r)).extract 0 1 = strOf a := by
      have := ext_take a (c :: r)
      rwa [hl] at this
    have hz : 2 ≤ (a ++ c :: r).length := by rw [List.length_append, hl, List.length_cons]; omega
    have hz1 : 1 ≤ (a ++ c :: r).length := by omega
    have hzI : (2 : Int) ≤ ((a ++ c :: r).length : Int) := by omega
    have hm : min (2 : Int) ((a ++ c :: r).length : Int) = 2 := by omega
    generalize a ++ c :: r = l at *
    rcases sign_cases ha with rfl | rfl | rfl | rfl | rfl | rfl | rfl | rfl | rfl | rfl | rfl | rfl | rfl | rfl | rfl | rfl | rfl | rfl | rfl | rfl | rfl | rfl | rfl | rfl | rfl | rfl | rfl
    iterate 6 (simp at hl)
    all_goals
      clear h1 ha hl
      go_enter Tryz.func94, Tryz.ntmps94
      go_wp2_with fail
      refine wp_loop_rounds 2 ?_
      rw [rounds_succ]
      go_wp2_with fail
      rw [rounds_succ]
      go_wp2_with fail
      exact bodyPost_ret (v := .tuple #[tokV 4 _ 0 0, .bool true]) (by simp [results, Tryz.results94, go_sem, tokV]) rfl ⟨rfl, (Below.refl _ _).alloc (Nat.le_refl _) _⟩
  · have hx2 : (strOf (a ++ b)).extract 0 2 = strOf a := by
      have := ext_take a b
      rwa [hl] at this
    have hz : 2 ≤ (a ++ b).length := by rw [List.length_append, hl]; omega
    have hzI : (2 : Int) ≤ ((a ++ b).length : Int) := by omega
    have hm : min (2 : Int) ((a ++ b).length : Int) = 2 := by omega
    generalize a ++ b = l at *
    rcases sign_cases ha with rfl | rfl | rfl | rfl | rfl | rfl | rfl | rfl | rfl | rfl | rfl | rfl | rfl | rfl | rfl | rfl | rfl | rfl | rfl | rfl | rfl | rfl | rfl | rfl | rfl | rfl | rfl
    iterate 6
      · clear h1 ha hl
        go_enter Tryz.func94, Tryz.ntmps94
        go_wp2_with fail
        refine wp_loop_rounds 1 ?_
        rw [rounds_succ]
        go_wp2_with fail
        exact bodyPost_ret (v := .tuple #[tokV 4 _ 0 0, .bool true]) (by simp [results, Tryz.results94, go_sem, tokV]) rfl ⟨rfl, (Below.refl _ _).alloc (Nat.le_refl _) _⟩
    all_goals simp at hl
end Go.Proofs.YtcfpfnoldgnloaaGreatDoor
