/-
  What a decimal number's digits spell. Plain functions alone.
-/
import Derived.Lib.ItoaNum
import Derived.Lib.ItoaLen
import Derived.Lib.AtoiTie
import Derived.Test.YtcfpfnoldgnloaaGreatDoorTreeA
set_option linter.unusedVariables false
set_option linter.unusedSimpArgs false
namespace Go.Proofs.YtcfpfnoldgnloaaGreatDoor

theorem digitVal_of (d : Nat) (h : d < 10) : Lib.digitVal (UInt8.ofNat (48 + d)) = some d := by
  have e : (UInt8.ofNat (48 + d)).toNat = 48 + d := by rw [UInt8.toNat_ofNat']; exact Nat.mod_eq_of_lt (by omega)
  unfold Lib.digitVal
  rw [e, if_pos (by omega)]
  congr 1; omega
theorem decFrom_snoc (b : UInt8) (d : Nat) (hb : Lib.digitVal b = some d) : ∀ (l : List UInt8) (acc n : Nat), Lib.decFrom acc l = some n → Lib.decFrom acc (l ++ [b]) = some (n * 10 + d)
  | [], acc, n, h => by
    simp only [Lib.decFrom] at h
    cases h
    simp [Lib.decFrom, hb]
  | c :: l, acc, n, h => by
    simp only [Lib.decFrom, List.cons_append] at h ⊢
    cases hc : Lib.digitVal c with
    | none => rw [hc] at h; cases h
    | some e => rw [hc] at h; exact decFrom_snoc b d hb l _ n h
theorem decFrom_digits (u : Nat) : Lib.decFrom 0 (Lib.decDigits u) = some u := by
  induction u using Nat.strongRecOn with
  | _ u ih =>
    rw [Lib.decDigits]
    by_cases h : u < 10
    · rw [dif_pos h]
      unfold Lib.decFrom
      rw [digitVal_of u h]
      simp [Lib.decFrom]
    · rw [dif_neg h]
      have := decFrom_snoc _ _ (digitVal_of (u % 10) (by omega)) _ 0 _ (ih (u / 10) (by omega))
      rw [this]; congr 1; omega
/-- A digit. -/
theorem digit_mem (u : Nat) : ∀ c, c ∈ Lib.decDigits u → isDigit c = true := by
  induction u using Nat.strongRecOn with
  | _ u ih =>
    intro c hc
    have dig : ∀ d, d < 10 → isDigit (UInt8.ofNat (48 + d)) = true := by decide
    rw [Lib.decDigits] at hc
    by_cases h : u < 10
    · rw [dif_pos h] at hc
      rw [List.mem_singleton.1 hc]; exact dig u h
    · rw [dif_neg h] at hc
      rcases List.mem_append.1 hc with hc | hc
      · exact ih (u / 10) (by omega) c hc
      · rw [List.mem_singleton.1 hc]; exact dig _ (by omega)
theorem digits_ne (u : Nat) : Lib.decDigits u ≠ [] := by
  rw [Lib.decDigits]
  split
  · exact List.cons_ne_nil _ _
  · simp
theorem atoi_digits (u : Nat) (h : (Lib.decDigits u).length ≤ 18) : Lib.atoiAll (Lib.decDigits u) = .ok (u : Int) := by
  rw [Lib.atoiAll_short _ h]
  have hd := decFrom_digits u
  have hm := digit_mem u
  have hn := digits_ne u
  generalize Lib.decDigits u = l at *
  cases l with
  | nil => exact absurd rfl hn
  | cons c r =>
    have hc := hm c List.mem_cons_self
    have h45 : (c == 45) = false := by
      rw [beq_eq_false_iff_ne]; rintro rfl; simp [isDigit] at hc
    have h43 : (c == 43) = false := by
      rw [beq_eq_false_iff_ne]; rintro rfl; simp [isDigit] at hc
    have e : Lib.atoi (c :: r) = some (u : Int) := by
      show (if (c == 45) = true then _ else if (c == 43) = true then _ else (Lib.decNat (c :: r)).map fun (m : Nat) => (m : Int)) = _
      rw [h45, h43]
      simp [Lib.decNat, hd]
    rw [e]; rfl
end Go.Proofs.YtcfpfnoldgnloaaGreatDoor
