/-
  run: how many bytes at a text's beginning have characters of a kind. Condition: behind them the text ends, or goes on with a character of ASCII.
  word, number, sign, quoted: the token at a text's beginning. Conditions: as each says.
-/
import Derived.Test.YtcfpfnoldgnloaaGreatDoorTreeB
import Derived.Test.YtcfpfnoldgnloaaGreatDoorSfr
set_option linter.unusedVariables false
set_option linter.unusedSimpArgs false
namespace Go.Proofs.YtcfpfnoldgnloaaGreatDoor
open Go.RowKit
set_option maxHeartbeats 4000000
set_option maxRecDepth 100000

def blankR (r : Int) : Bool := decide (r = 32 ∨ r = 9 ∨ r = 10 ∨ r = 13)
def wordR (r : Int) : Bool := letterR r || digitR r
theorem blank_any (r : Int) (w : World) : Calls Tryz.prog 85 #[.int .i32 r] w fun e w' => e = .returned (.bool (blankR r)) ∧ w = w' := by
  go_enter Tryz.func85, Tryz.ntmps85
  go_wp2
  all_goals go_ret
  all_goals (refine ⟨ret_bool ?_, rfl⟩; rw [Bool.eq_iff_iff]; simp [blankR]; try omega)
theorem wordr_any (r : Int) (w : World) : Calls Tryz.prog 143 #[.int .i32 r] w fun e w' => e = .returned (.bool (wordR r)) ∧ w = w' := by
  unfold wordR
  cases hl : letterR r
  · go_enter Tryz.func143, Tryz.ntmps143
    go_wp2_with fail
    refine (letter_any _ _).mono ?_
    rw [hl]
    rintro e w1 ⟨rfl, rfl⟩
    go_wp2_with fail
    refine (digit_any _ _).mono ?_
    rintro e w1 ⟨rfl, rfl⟩
    go_wp2_with fail
    go_ret
    exact ⟨rfl, rfl⟩
  · go_enter Tryz.func143, Tryz.ntmps143
    go_wp2_with fail
    refine (letter_any _ _).mono ?_
    rw [hl]
    rintro e w1 ⟨rfl, rfl⟩
    go_wp2_with fail
    go_ret
    exact ⟨rfl, rfl⟩
/-- Where a run of characters ends. -/
def EndsAt (p : Int → Bool) (b : Bs) : Prop := b = [] ∨ ∃ c r, b = c :: r ∧ c.toNat < 128 ∧ p (c.toNat : Nat) = false
theorem run_blank (a b : Bs) (ha : ∀ c, c ∈ a → c.toNat < 128 ∧ blankR (c.toNat : Nat) = true) (hb : EndsAt blankR b) (w : World) :
    Calls Tryz.prog 84 #[.string (strOf (a ++ b)), .func (.func 85) #[] #[]] w fun e w' => e = .returned (.int .i64 a.length) ∧ Below w.heap.size w w' := by
  have HAA := Lib.hid ha; have HBB := Lib.hid hb
  obtain ⟨l, hl⟩ : ∃ l, l = a ++ b := ⟨_, rfl⟩
  rw [← hl]
  have HL := Lib.hid hl
  have hlen : l.length = a.length + b.length := by rw [hl, List.length_append]
  have hle : a.length ≤ l.length := by omega
  have HLEN := Lib.hid hlen
  clear ha hb hl hlen
  go_enter Tryz.func84, Tryz.ntmps84
  go_wp2_with fail
  go_loopw [5, 6] (fun _ _ wr => ∃ k : Nat, k ≤ a.length ∧ wr = w.iter (strOf l) k) (fun _ _ wr => a.length + 1 - wr.iterPos w.heap.size)
  case atStart => exact ⟨0, Nat.zero_le _, rfl⟩
  case round =>
    obtain ⟨k, hk, rfl⟩ := hrel
    by_cases hlt : k < l.length
    · have hnx := fun ty => run_next_any (P := Tryz.prog) w (strOf l) k ty hlt
      have hs : k < (strOf l).size := hlt
      by_cases hka : k < a.length
      · have hc : l[k] = a[k] := by have := HL.out; subst this; exact List.getElem_append_left hka
        have hq := HAA.out a[k] (List.getElem_mem hka)
        rw [decode_ascii (strOf l) k hs (by show l[k].toNat < 128; rw [hc]; exact hq.1)] at hnx
        have he : (strOf l)[k]'hs = l[k] := rfl
        rw [he, hc] at hnx
        have HQ := Lib.hid hq.2
        clear hc hq he
        go_wp2_with fail
        refine (blank_any _ _).mono ?_
        rw [HQ.out]
        rintro e w1 ⟨rfl, rfl⟩
        go_wp2_with fail
        go_roundw
        case rel => exact ⟨k + 1, hka, rfl⟩
        case measure => simp; omega
      · have hke : k = a.length := by omega
        subst hke
        have hbn : b ≠ [] := by intro e; have := HLEN.out; rw [e] at this; simp at this; omega
        obtain ⟨c, r, hb, hc1, hc2⟩ := HBB.out.resolve_left hbn
        have hc : l[a.length] = c := by have := HL.out; subst this; subst hb; simp
        rw [decode_ascii (strOf l) _ hs (by show l[a.length].toNat < 128; rw [hc]; exact hc1)] at hnx
        have he : (strOf l)[a.length]'hs = l[a.length] := rfl
        rw [he, hc] at hnx
        have HQ := Lib.hid hc2
        clear hc hc1 hc2 hb he
        go_wp2_with fail
        refine (blank_any _ _).mono ?_
        rw [HQ.out]
        rintro e w1 ⟨rfl, rfl⟩
        go_wp2_with fail
        go_ret
        exact ⟨rfl, (Below.refl _ _).alloc (Nat.le_refl _) _⟩
    · have hnx := fun ty => run_next_end (P := Tryz.prog) w (strOf l) k ty hlt
      have hz : l.length = a.length := by omega
      go_wp2_with fail
      go_ret
      exact ⟨ret_int (by omega), (Below.refl _ _).alloc (Nat.le_refl _) _⟩
theorem run_word (a b : Bs) (ha : ∀ c, c ∈ a → c.toNat < 128 ∧ wordR (c.toNat : Nat) = true) (hb : EndsAt wordR b) (w : World) :
    Calls Tryz.prog 84 #[.string (strOf (a ++ b)), .func (.func 143) #[] #[]] w fun e w' => e = .returned (.int .i64 a.length) ∧ Below w.heap.size w w' := by
  have HAA := Lib.hid ha; have HBB := Lib.hid hb
  obtain ⟨l, hl⟩ : ∃ l, l = a ++ b := ⟨_, rfl⟩
  rw [← hl]
  have HL := Lib.hid hl
  have hlen : l.length = a.length + b.length := by rw [hl, List.length_append]
  have hle : a.length ≤ l.length := by omega
  have HLEN := Lib.hid hlen
  clear ha hb hl hlen
  go_enter Tryz.func84, Tryz.ntmps84
  go_wp2_with fail
  go_loopw [5, 6] (fun _ _ wr => ∃ k : Nat, k ≤ a.length ∧ wr = w.iter (strOf l) k) (fun _ _ wr => a.length + 1 - wr.iterPos w.heap.size)
  case atStart => exact ⟨0, Nat.zero_le _, rfl⟩
  case round =>
    obtain ⟨k, hk, rfl⟩ := hrel
    by_cases hlt : k < l.length
    · have hnx := fun ty => run_next_any (P := Tryz.prog) w (strOf l) k ty hlt
      have hs : k < (strOf l).size := hlt
      by_cases hka : k < a.length
      · have hc : l[k] = a[k] := by have := HL.out; subst this; exact List.getElem_append_left hka
        have hq := HAA.out a[k] (List.getElem_mem hka)
        rw [decode_ascii (strOf l) k hs (by show l[k].toNat < 128; rw [hc]; exact hq.1)] at hnx
        have he : (strOf l)[k]'hs = l[k] := rfl
        rw [he, hc] at hnx
        have HQ := Lib.hid hq.2
        clear hc hq he
        go_wp2_with fail
        refine (wordr_any _ _).mono ?_
        rw [HQ.out]
        rintro e w1 ⟨rfl, rfl⟩
        go_wp2_with fail
        go_roundw
        case rel => exact ⟨k + 1, hka, rfl⟩
        case measure => simp; omega
      · have hke : k = a.length := by omega
        subst hke
        have hbn : b ≠ [] := by intro e; have := HLEN.out; rw [e] at this; simp at this; omega
        obtain ⟨c, r, hb, hc1, hc2⟩ := HBB.out.resolve_left hbn
        have hc : l[a.length] = c := by have := HL.out; subst this; subst hb; simp
        rw [decode_ascii (strOf l) _ hs (by show l[a.length].toNat < 128; rw [hc]; exact hc1)] at hnx
        have he : (strOf l)[a.length]'hs = l[a.length] := rfl
        rw [he, hc] at hnx
        have HQ := Lib.hid hc2
        clear hc hc1 hc2 hb he
        go_wp2_with fail
        refine (wordr_any _ _).mono ?_
        rw [HQ.out]
        rintro e w1 ⟨rfl, rfl⟩
        go_wp2_with fail
        go_ret
        exact ⟨rfl, (Below.refl _ _).alloc (Nat.le_refl _) _⟩
    · have hnx := fun ty => run_next_end (P := Tryz.prog) w (strOf l) k ty hlt
      have hz : l.length = a.length := by omega
      go_wp2_with fail
      go_ret
      exact ⟨ret_int (by omega), (Below.refl _ _).alloc (Nat.le_refl _) _⟩
theorem run_digit (a b : Bs) (ha : ∀ c, c ∈ a → c.toNat < 128 ∧ digitR (c.toNat : Nat) = true) (hb : EndsAt digitR b) (w : World) :
    Calls Tryz.prog 84 #[.string (strOf (a ++ b)), .func (.func 91) #[] #[]] w fun e w' => e = .returned (.int .i64 a.length) ∧ Below w.heap.size w w' := by
  have HAA := Lib.hid ha; have HBB := Lib.hid hb
  obtain ⟨l, hl⟩ : ∃ l, l = a ++ b := ⟨_, rfl⟩
  rw [← hl]
  have HL := Lib.hid hl
  have hlen : l.length = a.length + b.length := by rw [hl, List.length_append]
  have hle : a.length ≤ l.length := by omega
  have HLEN := Lib.hid hlen
  clear ha hb hl hlen
  go_enter Tryz.func84, Tryz.ntmps84
  go_wp2_with fail
  go_loopw [5, 6] (fun _ _ wr => ∃ k : Nat, k ≤ a.length ∧ wr = w.iter (strOf l) k) (fun _ _ wr => a.length + 1 - wr.iterPos w.heap.size)
  case atStart => exact ⟨0, Nat.zero_le _, rfl⟩
  case round =>
    obtain ⟨k, hk, rfl⟩ := hrel
    by_cases hlt : k < l.length
    · have hnx := fun ty => run_next_any (P := Tryz.prog) w (strOf l) k ty hlt
      have hs : k < (strOf l).size := hlt
      by_cases hka : k < a.length
      · have hc : l[k] = a[k] := by have := HL.out; subst this; exact List.getElem_append_left hka
        have hq := HAA.out a[k] (List.getElem_mem hka)
        rw [decode_ascii (strOf l) k hs (by show l[k].toNat < 128; rw [hc]; exact hq.1)] at hnx
        have he : (strOf l)[k]'hs = l[k] := rfl
        rw [he, hc] at hnx
        have HQ := Lib.hid hq.2
        clear hc hq he
        go_wp2_with fail
        refine (digit_any _ _).mono ?_
        rw [HQ.out]
        rintro e w1 ⟨rfl, rfl⟩
        go_wp2_with fail
        go_roundw
        case rel => exact ⟨k + 1, hka, rfl⟩
        case measure => simp; omega
      · have hke : k = a.length := by omega
        subst hke
        have hbn : b ≠ [] := by intro e; have := HLEN.out; rw [e] at this; simp at this; omega
        obtain ⟨c, r, hb, hc1, hc2⟩ := HBB.out.resolve_left hbn
        have hc : l[a.length] = c := by have := HL.out; subst this; subst hb; simp
        rw [decode_ascii (strOf l) _ hs (by show l[a.length].toNat < 128; rw [hc]; exact hc1)] at hnx
        have he : (strOf l)[a.length]'hs = l[a.length] := rfl
        rw [he, hc] at hnx
        have HQ := Lib.hid hc2
        clear hc hc1 hc2 hb he
        go_wp2_with fail
        refine (digit_any _ _).mono ?_
        rw [HQ.out]
        rintro e w1 ⟨rfl, rfl⟩
        go_wp2_with fail
        go_ret
        exact ⟨rfl, (Below.refl _ _).alloc (Nat.le_refl _) _⟩
    · have hnx := fun ty => run_next_end (P := Tryz.prog) w (strOf l) k ty hlt
      have hz : l.length = a.length := by omega
      go_wp2_with fail
      go_ret
      exact ⟨ret_int (by omega), (Below.refl _ _).alloc (Nat.le_refl _) _⟩
end Go.Proofs.YtcfpfnoldgnloaaGreatDoor

namespace Go.Proofs.YtcfpfnoldgnloaaGreatDoor
open Go.RowKit
set_option maxHeartbeats 4000000
set_option maxRecDepth 100000

/-- A token, as a value. -/
def tokV (kind : Int) (text : Bs) (n line : Int) : Value := .agg #[.int .i64 kind, .string (strOf text), .int .i64 n, .int .i64 line]
theorem ext_take (a b : Bs) : (strOf (a ++ b)).extract 0 a.length = strOf a := by
  apply ByteArray.ext
  rw [ByteArray.data_extract]
  simp [strOf]
theorem set4 (w0 w : World) (h : Below w0.heap.size w0 w) (v0 v1 v2 v3 : Value) : Below w0.heap.size w0 ((((w.setCell ⟨w0.heap.size, 0, none⟩ v0).setCell ⟨w0.heap.size, 1, none⟩ v1).setCell ⟨w0.heap.size, 2, none⟩ v2).setCell ⟨w0.heap.size, 3, none⟩ v3) :=
  have st : ∀ (v : World) (i : Nat) (x : Value), Below w0.heap.size v (v.setCell ⟨w0.heap.size, i, none⟩ x) := fun v i x => (Below.refl _ _).setCell (p := ⟨w0.heap.size, i, none⟩) (Nat.le_refl _) x
  (((h.trans (st _ _ _)).trans (st _ _ _)).trans (st _ _ _)).trans (st _ _ _)
theorem wordT_any (a b : Bs) (ha : ∀ c, c ∈ a → c.toNat < 128 ∧ wordR (c.toNat : Nat) = true) (hb : EndsAt wordR b) (hk : isWord a = false) (hn : isName a = true) (w : World) :
    Calls Tryz.prog 90 #[.string (strOf (a ++ b))] w fun e w' => e = .returned (.tuple #[tokV 1 a 0 0, .bool true]) ∧ Below w.heap.size w w' := by
  have HR := Lib.hid (fun w1 => run_word a b ha hb w1)
  have HW := Lib.hid hk; have HN := Lib.hid hn
  have hl1 : (a.length : Int) ≤ ((a ++ b).length : Int) := by rw [List.length_append]; omega
  have hl2 : a.length ≤ (a ++ b).length := by rw [List.length_append]; omega
  have HO := Lib.hid (OwnAt.new w [.int .i64 0, .string ⟨#[]⟩, .int .i64 0, .int .i64 0] 50)
  have HB0 := Lib.hid ((Below.refl w.heap.size w).alloc (Nat.le_refl _) (.cells #[.int .i64 0, .string ⟨#[]⟩, .int .i64 0, .int .i64 0] 50))
  clear ha hb hk hn
  go_enter Tryz.func90, Tryz.ntmps90
  go_wp2_with fail
  refine (HR.out _).mono ?_
  rintro e w1 ⟨rfl, hb1⟩
  have HO1 := Lib.hid (HO.out.old hb1)
  have HB1 := Lib.hid (HB0.out.trans (hb1.mono HB0.out.size))
  clear hb1
  go_wp2_with fail
  rw [ext_take]
  refine (word_any a _).mono ?_
  rw [HW.out]
  rintro e w2 ⟨rfl, hw2⟩
  obtain rfl : w1 = w2 := hw2
  go_wp2_with fail
  refine (name_any a _).mono ?_
  rw [HN.out]
  rintro e w2 ⟨rfl, hb2⟩
  have HO2 := Lib.hid (HO1.out.old hb2)
  have HB2 := Lib.hid (HB1.out.trans (hb2.mono HB1.out.size))
  clear hb2
  have q0 := HO2.out.at 0 _ rfl
  have q1 := HO2.out.at 1 _ rfl
  have q2 := HO2.out.at 2 _ rfl
  have q3 := HO2.out.at 3 _ rfl
  have f0 := HO2.out.fz 0
  have f1 := HO2.out.fz 1
  have f2 := HO2.out.fz 2
  have f3 := HO2.out.fz 3
  have ql := HO2.out.lt
  go_wp2_with fail
  have HS := Lib.hid ((((HO2.out.set 0 (.int .i64 1)).set 1 (.string (strOf a))).set 2 (.int .i64 0)).set 3 (.int .i64 0))
  have e0 := HS.out.at 0 _ rfl
  have e1 := HS.out.at 1 _ rfl
  have e2 := HS.out.at 2 _ rfl
  have e3 := HS.out.at 3 _ rfl
  exact bodyPost_ret (v := .tuple #[tokV 1 a 0 0, .bool true]) (by simp [results, Tryz.results90, go_sem, tokV, e0, e1, e2, e3]) rfl ⟨rfl, set4 w _ HB2.out _ _ _ _⟩
theorem wordW_any (a b : Bs) (ha : ∀ c, c ∈ a → c.toNat < 128 ∧ wordR (c.toNat : Nat) = true) (hb : EndsAt wordR b) (hk : isWord a = true) (w : World) :
    Calls Tryz.prog 90 #[.string (strOf (a ++ b))] w fun e w' => e = .returned (.tuple #[tokV 2 a 0 0, .bool true]) ∧ Below w.heap.size w w' := by
  have HR := Lib.hid (fun w1 => run_word a b ha hb w1)
  have HW := Lib.hid hk
  have hl1 : (a.length : Int) ≤ ((a ++ b).length : Int) := by rw [List.length_append]; omega
  have hl2 : a.length ≤ (a ++ b).length := by rw [List.length_append]; omega
  have HO := Lib.hid (OwnAt.new w [.int .i64 0, .string ⟨#[]⟩, .int .i64 0, .int .i64 0] 50)
  have HB0 := Lib.hid ((Below.refl w.heap.size w).alloc (Nat.le_refl _) (.cells #[.int .i64 0, .string ⟨#[]⟩, .int .i64 0, .int .i64 0] 50))
  clear ha hb hk
  go_enter Tryz.func90, Tryz.ntmps90
  go_wp2_with fail
  refine (HR.out _).mono ?_
  rintro e w1 ⟨rfl, hb1⟩
  have HO1 := Lib.hid (HO.out.old hb1)
  have HB1 := Lib.hid (HB0.out.trans (hb1.mono HB0.out.size))
  clear hb1
  go_wp2_with fail
  rw [ext_take]
  refine (word_any a _).mono ?_
  rw [HW.out]
  rintro e w2 ⟨rfl, hw2⟩
  obtain rfl : w1 = w2 := hw2
  have q0 := HO1.out.at 0 _ rfl
  have q1 := HO1.out.at 1 _ rfl
  have q2 := HO1.out.at 2 _ rfl
  have q3 := HO1.out.at 3 _ rfl
  have f0 := HO1.out.fz 0
  have f1 := HO1.out.fz 1
  have f2 := HO1.out.fz 2
  have f3 := HO1.out.fz 3
  have ql := HO1.out.lt
  go_wp2_with fail
  have HS := Lib.hid ((((HO1.out.set 0 (.int .i64 2)).set 1 (.string (strOf a))).set 2 (.int .i64 0)).set 3 (.int .i64 0))
  have e0 := HS.out.at 0 _ rfl
  have e1 := HS.out.at 1 _ rfl
  have e2 := HS.out.at 2 _ rfl
  have e3 := HS.out.at 3 _ rfl
  exact bodyPost_ret (v := .tuple #[tokV 2 a 0 0, .bool true]) (by simp [results, Tryz.results90, go_sem, tokV, e0, e1, e2, e3]) rfl ⟨rfl, set4 w _ HB1.out _ _ _ _⟩
end Go.Proofs.YtcfpfnoldgnloaaGreatDoor
