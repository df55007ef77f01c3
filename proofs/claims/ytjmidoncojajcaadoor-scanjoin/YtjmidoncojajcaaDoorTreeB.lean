/-
  Letters, digits, words and names: what scan's functions answer. No condition.
-/
import Derived.Test.YtjmidoncojajcaaDoorTreeA
import Derived.Laws.RangeAny
set_option linter.unusedVariables false
set_option linter.unusedSimpArgs false
namespace Go.Proofs.YtjmidoncojajcaaDoor
open Go.RowKit
set_option maxHeartbeats 1000000
set_option maxRecDepth 20000

def letterR (r : Int) : Bool := decide (r = 95 ∨ (97 ≤ r ∧ r ≤ 122) ∨ (65 ≤ r ∧ r ≤ 90))
def digitR (r : Int) : Bool := decide (48 ≤ r ∧ r ≤ 57)

theorem letter_any (r : Int) (w : World) :
    Calls Tryd.prog 20 #[.int .i32 r] w fun e w' => e = .returned (.bool (letterR r)) ∧ w = w' := by
  go_enter Tryd.func20, Tryd.ntmps20
  go_wp2
  all_goals go_ret
  all_goals (refine ⟨ret_bool ?_, rfl⟩; rw [Bool.eq_iff_iff]; simp [letterR]; omega)

theorem digit_any (r : Int) (w : World) :
    Calls Tryd.prog 21 #[.int .i32 r] w fun e w' => e = .returned (.bool (digitR r)) ∧ w = w' := by
  go_enter Tryd.func21, Tryd.ntmps21
  go_wp2
  all_goals go_ret
  all_goals (refine ⟨ret_bool ?_, rfl⟩; rw [Bool.eq_iff_iff]; simp [digitR]; omega)

theorem word_any (l : Bs) (w : World) :
    Calls Tryd.prog 11 #[.string (strOf l)] w fun e w' => e = .returned (.bool (isWord l)) ∧ w = w' := by
  go_enter Tryd.func11, Tryd.ntmps11
  go_wp2
  all_goals go_ret
  all_goals (refine ⟨ret_bool ?_, rfl⟩; simp_all [isWord, wordList])

theorem letterR_of (c : UInt8) : letterR (c.toNat : Nat) = isLetter c := by
  rw [Bool.eq_iff_iff]; simp [letterR, isLetter, UInt8.le_iff_toNat_le, ← UInt8.toNat_inj]; omega
theorem digitR_of (c : UInt8) : digitR (c.toNat : Nat) = isDigit c := by
  rw [Bool.eq_iff_iff]; simp [digitR, isDigit, UInt8.le_iff_toNat_le]; omega
theorem letterR_high {r : Nat} (h : 128 ≤ r) : letterR r = false := by simp [letterR]; omega
theorem digitR_high {r : Nat} (h : 128 ≤ r) : digitR r = false := by simp [digitR]; omega
theorem isLetter_high {c : UInt8} (h : 128 ≤ c.toNat) : isLetter c = false := by rw [← letterR_of]; exact letterR_high h
theorem isDigit_high {c : UInt8} (h : 128 ≤ c.toNat) : isDigit c = false := by rw [← digitR_of]; exact digitR_high h
/-- What a range over a text gives at a place: the byte, or a rune of 128 and above. -/
theorem decode_at (l : Bs) (k : Nat) (h : k < l.length) : ∃ r d, Utf8.decode (strOf l) k = (r, d) ∧ 1 ≤ d ∧ letterR r = isLetter l[k] ∧ digitR r = isDigit l[k] ∧ (r < 128 → r = l[k].toNat ∧ d = 1) ∧ r ≤ 2147483647 := by
  have hs : k < (strOf l).size := h
  have he : (strOf l)[k]'hs = l[k] := rfl
  have hle := decode_le (strOf l) k
  by_cases ha : ((strOf l)[k]'hs).toNat < 128
  · rw [decode_ascii _ _ hs ha] at hle
    exact ⟨_, _, decode_ascii _ _ hs ha, Nat.le_refl _, by rw [he]; exact letterR_of _, by rw [he]; exact digitR_of _, fun _ => ⟨by rw [he], rfl⟩, hle⟩
  · have hh := decode_high (strOf l) k hs (by omega)
    have h2 : 128 ≤ l[k].toNat := by rw [← he]; omega
    generalize Utf8.decode (strOf l) k = q at hh hle ⊢
    exact ⟨q.1, q.2, rfl, hh.2, by rw [letterR_high hh.1, isLetter_high h2], by rw [digitR_high hh.1, isDigit_high h2], fun h => by omega, hle⟩
theorem letterR_low {r : Nat} (h : letterR r = true) : r < 128 := by simp [letterR] at h; omega
theorem digitR_low {r : Nat} (h : digitR r = true) : r < 128 := by simp [digitR] at h; omega

theorem name_loop (l : Bs) (h20 : l.length ≤ 20) (h0 : l.isEmpty = false) (hw : isWord l = false) (w : World) :
    Calls Tryd.prog 10 #[.string (strOf l)] w fun e w' => e = .returned (.bool (isNameAt true l)) ∧ Below w.heap.size w w' := by
  go_enter Tryd.func10, Tryd.ntmps10
  go_wp2_with (go_at_call 11; refine (word_any _ _).mono ?_; rintro e w1 ⟨rfl, rfl⟩)
  go_loopw [3, 4] (fun _ _ wr => ∃ k : Nat, k ≤ l.length ∧ wr = w.iter (strOf l) k ∧ Hid (isNameAt true l = isNameAt (decide (k = 0)) (l.drop k))) (fun _ _ wr => l.length - wr.iterPos w.heap.size)
  case atStart => exact ⟨0, Nat.zero_le _, rfl, rfl⟩
  case round =>
    obtain ⟨k, hk, rfl, HI⟩ := hrel
    by_cases hlt : k < l.length
    · have hnx := fun ty => run_next_any (P := Tryd.prog) w (strOf l) k ty hlt
      obtain ⟨r, d, hd, h1, hl, hdg, hlow, hr⟩ := decode_at l k hlt
      rw [hd] at hnx
      have HL := Lib.hid hl; have HD := Lib.hid hdg; have HLOW := Lib.hid hlow
      have HE : Hid (isNameAt (decide (k = 0)) (l.drop k) = ((isLetter l[k] || (!decide (k = 0) && isDigit l[k])) && isNameAt false (l.drop (k + 1)))) := by
        show _ = _
        rw [List.drop_eq_getElem_cons hlt]; rfl
      clear hl hdg hlow hd
      by_cases q : letterR r = true
      · go_wp2_with (go_at_call 20; refine (letter_any _ _).mono ?_; rintro e w1 ⟨rfl, rfl⟩)
        have h3 := HLOW.out (letterR_low q)
        obtain rfl := h3.2
        go_roundw
        case rel => exact ⟨k + 1, by omega, rfl, by show _ = _; rw [HI.out, HE.out, ← HL.out, q]; simp⟩
        case measure => simp; omega
      · have q' : letterR r = false := by simpa using q
        clear q
        by_cases z : k = 0
        · subst z
          go_wp2_with (go_at_call 20; refine (letter_any _ _).mono ?_; rintro e w1 ⟨rfl, rfl⟩)
          go_ret
          exact ⟨ret_bool (by rw [HI.out, HE.out, ← HL.out, q']; simp), (Below.refl _ _).alloc (Nat.le_refl _) _⟩
        · have z' : ((k : Int) == 0) = false := by simpa using z
          by_cases g : digitR r = true
          · go_wp2_with (first | (go_at_call 20; refine (letter_any _ _).mono ?_; rintro e w1 ⟨rfl, rfl⟩) | (go_at_call 21; refine (digit_any _ _).mono ?_; rintro e w1 ⟨rfl, rfl⟩))
            have h3 := HLOW.out (digitR_low g)
            obtain rfl := h3.2
            go_roundw
            case rel => exact ⟨k + 1, by omega, rfl, by show _ = _; rw [HI.out, HE.out, ← HL.out, ← HD.out, q', g]; simp [z]⟩
            case measure => simp; omega
          · have g' : digitR r = false := by simpa using g
            clear g
            go_wp2_with (first | (go_at_call 20; refine (letter_any _ _).mono ?_; rintro e w1 ⟨rfl, rfl⟩) | (go_at_call 21; refine (digit_any _ _).mono ?_; rintro e w1 ⟨rfl, rfl⟩))
            go_ret
            exact ⟨ret_bool (by rw [HI.out, HE.out, ← HL.out, ← HD.out, q', g']; simp), (Below.refl _ _).alloc (Nat.le_refl _) _⟩
    · have hnx := fun ty => run_next_end (P := Tryd.prog) w (strOf l) k ty hlt
      go_wp2_with fail
      go_ret
      exact ⟨ret_bool (by rw [HI.out, List.drop_eq_nil_of_le (by omega)]; rfl), (Below.refl _ _).alloc (Nat.le_refl _) _⟩

theorem name_any (l : Bs) (w : World) :
    Calls Tryd.prog 10 #[.string (strOf l)] w fun e w' => e = .returned (.bool (isName l)) ∧ Below w.heap.size w w' := by
  by_cases h0 : l = []
  · subst h0
    go_enter Tryd.func10, Tryd.ntmps10
    go_wp2_with fail
    go_ret
    exact ⟨rfl, Below.refl _ _⟩
  · have h0' : l.isEmpty = false := by simpa using h0
    by_cases h20 : l.length ≤ 20
    · cases hw : isWord l
      · have h := name_loop l h20 h0' hw w
        have e : isName l = isNameAt true l := by simp [isName, h0, h20, hw]
        rw [e]; exact h
      · go_enter Tryd.func10, Tryd.ntmps10
        go_wp2_with (go_at_call 11; refine (word_any _ _).mono ?_; rintro e w1 ⟨rfl, rfl⟩)
        go_ret
        exact ⟨ret_bool (by simp [isName, hw]), Below.refl _ _⟩
    · have h20' : 20 < l.length := by omega
      go_enter Tryd.func10, Tryd.ntmps10
      go_wp2_with fail
      go_ret
      exact ⟨ret_bool (by simp [isName, h20]), Below.refl _ _⟩
end Go.Proofs.YtjmidoncojajcaaDoor
