/-
  Is a number among the first ones of a list? Plain functions alone.
-/
import Derived.Test.YtlkfmnabbmceeaaGreatDoorBlkA
set_option linter.unusedVariables false
set_option linter.unusedSimpArgs false
namespace Go.Proofs.YtlkfmnabbmceeaaGreatDoor

def anyB (L : List Int) (x : Int) (j : Nat) : Bool := (L.take j).any (fun y => y == x)
theorem anyB_zero (L : List Int) (x : Int) : anyB L x 0 = false := rfl
theorem anyB_succ {L : List Int} {x : Int} {j : Nat} (h : j < L.length) : anyB L x (j + 1) = (anyB L x j || (L[j] == x)) := by
  unfold anyB
  have e : L.take (j + 1) = L.take j ++ [L[j]] := by rw [List.take_add_one, List.getElem?_eq_getElem h]; rfl
  rw [e, List.any_append]
  simp
theorem anyB_all {L : List Int} {x : Int} : anyB L x L.length = true ↔ x ∈ L := by
  unfold anyB
  rw [List.take_length, List.any_eq_true]
  constructor
  · rintro ⟨y, hy, h⟩
    have : y = x := by simpa using h
    subst this; exact hy
  · intro h; exact ⟨x, h, by simp⟩
end Go.Proofs.YtlkfmnabbmceeaaGreatDoor
