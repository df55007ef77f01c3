/-
  Lengths of texts of code, plain. No condition.
-/
import Derived.Test.YtlkfmnabbmceeaaGreatDoorAsmD
import Derived.Test.YtlkfmnabbmceeaaGreatDoorInstrD
set_option linter.unusedVariables false
set_option linter.unusedSimpArgs false
namespace Go.Proofs.YtlkfmnabbmceeaaGreatDoor
open Go.RowKit
set_option maxHeartbeats 4000000
set_option maxRecDepth 100000

theorem flat_le {α : Type} (f : α → Bs) (n : Nat) : ∀ l : List α, (∀ x, x ∈ l → (f x).length ≤ n) → (l.flatMap f).length ≤ l.length * n
  | [], _ => by simp
  | x :: l, h => by
    have h1 := h x List.mem_cons_self
    have h2 := flat_le f n l (fun y hy => h y (List.mem_cons_of_mem _ hy))
    rw [List.flatMap_cons, List.length_append, List.length_cons, Nat.add_mul]
    omega
theorem text_len (x : Ins) (hx : FitsI x) (hr : rightI x = true) : (textI x).length ≤ 300 := by
  have hf := form_len x.op
  have h1 : ((rowI x.op).2.flatMap (pieceI x)).length ≤ (rowI x.op).2.length * 41 := by
    refine flat_le _ 41 _ fun c hc => ?_
    rcases print_cases x hx hr c hc with ⟨_, h, h2, _⟩ | ⟨_, h, _⟩ | ⟨_, j, v, _, _, h3, h4, h5⟩
    · rw [h]; omega
    · rw [h]; simp
    · have := Lib.itoa_length_le v h3 h4
      rcases h5 with ⟨_, h⟩ | ⟨_, _, h⟩
      · rw [h]; omega
      · rw [h, List.length_cons]; omega
  have h2 : (rowI x.op).2.length * 41 ≤ 7 * 41 := Nat.mul_le_mul_right _ hf.2
  unfold textI
  rw [List.length_append, List.length_append]
  split
  · simp only [List.length_nil]; omega
  · simp only [List.length_cons, List.length_nil]; omega
theorem arrT_len (a : Ar) (h : arrBad a = false) : (arrT a).length ≤ 100 := by
  unfold arrBad at h
  simp only [Bool.or_eq_false_iff, Bool.not_eq_false', decide_eq_false_iff_not] at h
  have h1 := (label_mem h.1).2.2
  have h2 := Lib.itoa_length_le a.size (by omega) (by omega)
  unfold arrT
  simp only [List.length_append, List.length_cons, List.length_nil]
  omega
theorem lineT_len (x : Ln) (hx : FitsI x.ins) (h : wellB x = true) : (lineT x).length ≤ 310 := by
  unfold lineT
  unfold wellB at h
  by_cases hl : x.label = []
  · rw [if_pos hl] at h
    rw [if_neg (by simp [hl])]
    have := text_len _ hx h
    simp only [List.length_append, List.length_cons, List.length_nil]
    omega
  · rw [if_neg hl] at h
    simp only [Bool.and_eq_true] at h
    have := (label_mem h.1).2.2
    rw [if_pos hl]
    simp only [List.length_append, List.length_cons, List.length_nil]
    omega
theorem arrsE_each {l : List Ar} (h : arrsE l = 0) : ∀ a, a ∈ l → arrBad a = false := by
  intro a ha
  cases hb : arrBad a with
  | false => rfl
  | true => rw [arrsE_bad ha hb] at h; cases h
theorem take_flat {α : Type} (f : α → Bs) (l : List α) (k : Nat) (hk : k < l.length) : (l.take (k + 1)).flatMap f = (l.take k).flatMap f ++ f l[k] := by
  have e : l.take (k + 1) = l.take k ++ [l[k]] := by rw [List.take_add_one, List.getElem?_eq_getElem hk]; rfl
  rw [e, List.flatMap_append]; simp
theorem bs_app (a b : Bs) : strOf a ++ strOf b = strOf (a ++ b) := by
  apply ByteArray.ext
  show (strOf a ++ strOf b).data = _
  rw [ByteArray.data_append]
  simp [strOf]
end Go.Proofs.YtlkfmnabbmceeaaGreatDoor
