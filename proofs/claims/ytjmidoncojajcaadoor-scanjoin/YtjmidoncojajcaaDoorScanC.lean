/-
  What a decimal number's digits spell. Plain functions alone.
  What the scanner's laws draw: words, names, signs, characters, blanks. Plain functions alone.
-/
import Derived.Lib.ItoaNum
import Derived.Lib.ItoaLen
import Derived.Lib.AtoiTie
import Derived.Test.YtjmidoncojajcaaDoorTreeA
set_option linter.unusedVariables false
set_option linter.unusedSimpArgs false
namespace Go.Proofs.YtjmidoncojajcaaDoor

theorem digitVal_of (d : Nat) (h : d < 10) : Lib.digitVal (UInt8.ofNat (48 + d)) = some d := by
  have e : (UInt8.ofNat (48 + d)).toNat = 48 + d := by rw [UInt8.toNat_ofNat']; exact Nat.mod_eq_of_lt (by omega)
  unfold Lib.digitVal
  rw [e, if_pos (by omega)]
  congr 1; omega
theorem decFrom_snoc (b : UInt8) (d : Nat) (hb : Lib.digitVal b = some d) : ∀ (l : List UInt8) (acc n : Nat), Lib.decFrom acc l = some n → Lib.decFrom acc (l ++ [b]) = some (n * 10 + d)
  | [], acc, n, h => by
    simp only [Lib.decFrom] at h
    cases h
    simp [Lib.decFrom, hb]
  | c :: l, acc, n, h => by
    simp only [Lib.decFrom, List.cons_append] at h ⊢
    cases hc : Lib.digitVal c with
    | none => rw [hc] at h; cases h
    | some e => rw [hc] at h; exact decFrom_snoc b d hb l _ n h
theorem decFrom_digits (u : Nat) : Lib.decFrom 0 (Lib.decDigits u) = some u := by
  induction u using Nat.strongRecOn with
  | _ u ih =>
    rw [Lib.decDigits]
    by_cases h : u < 10
    · rw [dif_pos h]
      unfold Lib.decFrom
      rw [digitVal_of u h]
      simp [Lib.decFrom]
    · rw [dif_neg h]
      have := decFrom_snoc _ _ (digitVal_of (u % 10) (by omega)) _ 0 _ (ih (u / 10) (by omega))
      rw [this]; congr 1; omega
/-- A digit. -/
theorem digit_mem (u : Nat) : ∀ c, c ∈ Lib.decDigits u → isDigit c = true := by
  induction u using Nat.strongRecOn with
  | _ u ih =>
    intro c hc
    have dig : ∀ d, d < 10 → isDigit (UInt8.ofNat (48 + d)) = true := by decide
    rw [Lib.decDigits] at hc
    by_cases h : u < 10
    · rw [dif_pos h] at hc
      rw [List.mem_singleton.1 hc]; exact dig u h
    · rw [dif_neg h] at hc
      rcases List.mem_append.1 hc with hc | hc
      · exact ih (u / 10) (by omega) c hc
      · rw [List.mem_singleton.1 hc]; exact dig _ (by omega)
theorem digits_ne (u : Nat) : Lib.decDigits u ≠ [] := by
  rw [Lib.decDigits]
  split
  · exact List.cons_ne_nil _ _
  · simp
theorem atoi_digits (u : Nat) (h : (Lib.decDigits u).length ≤ 18) : Lib.atoiAll (Lib.decDigits u) = .ok (u : Int) := by
  rw [Lib.atoiAll_short _ h]
  have hd := decFrom_digits u
  have hm := digit_mem u
  have hn := digits_ne u
  generalize Lib.decDigits u = l at *
  cases l with
  | nil => exact absurd rfl hn
  | cons c r =>
    have hc := hm c List.mem_cons_self
    have h45 : (c == 45) = false := by
      rw [beq_eq_false_iff_ne]; rintro rfl; simp [isDigit] at hc
    have h43 : (c == 43) = false := by
      rw [beq_eq_false_iff_ne]; rintro rfl; simp [isDigit] at hc
    have e : Lib.atoi (c :: r) = some (u : Int) := by
      show (if (c == 45) = true then _ else if (c == 43) = true then _ else (Lib.decNat (c :: r)).map fun (m : Nat) => (m : Int)) = _
      rw [h45, h43]
      simp [Lib.decNat, hd]
    rw [e]; rfl
end Go.Proofs.YtjmidoncojajcaaDoor

namespace Go.Proofs.YtjmidoncojajcaaDoor
open Go.RowKit
set_option maxHeartbeats 4000000
set_option maxRecDepth 100000

/-- Which of n things a raw number speaks of. -/
def zpick (c n : Int) : Int := (if c < 0 then -(c + 1) else c) % n
theorem zpick_range (c n : Int) (h : 0 < n) : 0 ≤ zpick c n ∧ zpick c n < n := ⟨Int.emod_nonneg _ (by omega), Int.emod_lt_of_pos _ h⟩
theorem zpick_nat (c : Int) (n : Nat) (h : 0 < n) : ∃ k : Nat, k < n ∧ zpick c n = k := by
  obtain ⟨h0, h1⟩ := zpick_range c n (by omega)
  exact ⟨(zpick c n).toNat, by omega, by omega⟩
def zsufs : List Bs := [[], [49], [95], [90, 57], [105, 102], [120], [48], [97, 97], [105, 110, 116, 105, 110, 116], [113, 55], [66], [48, 48]]
def zvarN (k : Nat) : Bs := UInt8.ofNat (97 + k % 26) :: zsufs.getD (k / 26) []
def zvar (c : Int) : Bs := zvarN (zpick c 312).toNat
def zwordL : List Bs := [[105, 110, 116], [105, 102], [101, 108, 115, 101], [119, 104, 105, 108, 101], [98, 114, 101, 97, 107], [99, 111, 110, 116, 105, 110, 117, 101], [114, 101, 116, 117, 114, 110], [112, 114, 105, 110, 116], [114, 101, 97, 100], [116, 114, 97, 112]]
def zsignL : List Bs := [[40], [41], [123], [125], [91], [93], [44], [59], [61], [124], [94], [38], [43], [45], [42], [47], [37], [33], [126], [60], [62], [61, 61], [33, 61], [60, 61], [62, 61], [60, 60], [62, 62]]
def zrune (r : Nat) : Bs := (Utf8.encode (r : Int)).data.toList
/-- Of two raw numbers a token's text, its kind, its number. -/
def zword (n c : Int) : Bs × Int × Int :=
  let k := (zpick n 44).toNat
  if k < 10 then (zwordL.getD k [], 2, 0)
  else if k < 37 then (zsignL.getD (k - 10) [], 4, 0)
  else if k < 40 then (Lib.decDigits (zpick c 1099511627776).toNat, 3, ((zpick c 1099511627776).toNat : Nat))
  else if k = 40 then (39 :: (zrune (161 + (zpick c 8192).toNat) ++ [39]), 3, ((161 + (zpick c 8192).toNat : Nat) : Int))
  else (zvar c, 1, 0)
theorem digits_len (u : Nat) (h : u < 1099511627776) : (Lib.decDigits u).length ≤ 18 := by
  have key : ∀ (k u : Nat), u < 10 ^ (k + 1) → (Lib.decDigits u).length ≤ k + 1 := by
    intro k
    induction k with
    | zero =>
      intro u h
      have h' : u < 10 := by simpa using h
      rw [Lib.decDigits, dif_pos h']; simp
    | succ k ih =>
      intro u h
      rw [Lib.decDigits]
      by_cases h' : u < 10
      · rw [dif_pos h']; simp
      · rw [dif_neg h', List.length_append]
        have := ih (u / 10) (by rw [Nat.pow_succ] at h; omega)
        simp only [List.length_cons, List.length_nil]; omega
  have := key 17 u (by have : (10 : Nat) ^ 18 = 1000000000000000000 := by decide
                       rw [this]; omega)
  omega
theorem zrune_two (r : Nat) (h0 : 161 ≤ r) (h1 : r < 2048) : zrune r = [UInt8.ofNat (192 + r / 64), UInt8.ofNat (128 + r % 64)] := by
  unfold zrune Utf8.encode
  have hv : Utf8.valid (r : Int) = true := by simp [Utf8.valid]; omega
  simp only [hv, if_true, Int.toNat_natCast]
  rw [if_neg (by omega), if_pos (by omega)]
theorem zrune_three (r : Nat) (h0 : 2048 ≤ r) (h1 : r < 9000) : zrune r = [UInt8.ofNat (224 + r / 4096), UInt8.ofNat (128 + r / 64 % 64), UInt8.ofNat (128 + r % 64)] := by
  unfold zrune Utf8.encode
  have hv : Utf8.valid (r : Int) = true := by simp [Utf8.valid]; omega
  simp only [hv, if_true, Int.toNat_natCast]
  rw [if_neg (by omega), if_neg (by omega), if_pos (by omega)]
theorem zrune_len (r : Nat) (h0 : 161 ≤ r) (h1 : r < 9000) : (zrune r).length ≤ 3 := by
  by_cases h : r < 2048
  · rw [zrune_two r h0 h]; simp
  · rw [zrune_three r (by omega) h1]; simp
theorem ofNat_toNat8 (n : Nat) (h : n < 256) : (UInt8.ofNat n).toNat = n := by
  rw [UInt8.toNat_ofNat']; exact Nat.mod_eq_of_lt h
/-- The blanks between. -/
def zblankL : List (Bs × List (Bs × Bs)) := [([32], []), ([32, 32], []), ([10], []), ([32, 9, 13, 32], []), ([10, 10], []), ([32], [([47, 47, 32, 120, 32, 61, 32, 49, 59], [10])]), ([32], [([47, 47], [10])]), ([32], [([47, 47, 195, 169, 32, 39, 97], [10, 32])])]
def zblank (l : List Int) (i : Nat) : Bs × List (Bs × Bs) := if i < l.length then zblankL.getD (zpick (l.getD i 0) 8).toNat ([32], []) else ([32], [])

end Go.Proofs.YtjmidoncojajcaaDoor
