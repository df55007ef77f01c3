/-
  number: a number in decimal. Conditions: it has eighteen digits at most; the library's table lies in memory.
  token: the one at a text's beginning: to which function it goes. Conditions: as each says.
  comment: one at a text's beginning. Conditions: it is one of characters that may be; the library's tables lie in memory.
  skip: what stands behind blanks and comments. Conditions: the blanks and comments may be; the library's tables lie in memory.
  quoted: a character between quotes. Conditions: it is one that may be; its bytes are read as it; the library's tables lie in memory.
  a token of any kind at a text's beginning, a blank behind it. Conditions: PcOk says which.
  Scan's list of tokens (text Tk), and what is a token. No condition.
  The texts that Scan is asked of: tokens, each with blanks and comments behind it. No condition.
  What begins a token is no blank and no comment. No condition.
-/
import Derived.Test.YtcfpfnoldgnloaaGreatDoorScanA
import Derived.Test.YtcfpfnoldgnloaaGreatDoorScanSh
import Derived.Test.YtcfpfnoldgnloaaGreatDoorScanC
import Derived.WideLaws
import Derived.Lib.SmallJoins
import Derived.Test.YtcfpfnoldgnloaaGreatDoorScanB
import Derived.Test.YtcfpfnoldgnloaaGreatDoorTk
set_option linter.unusedVariables false
set_option linter.unusedSimpArgs false
namespace Go.Proofs.YtcfpfnoldgnloaaGreatDoor
open Go.RowKit
set_option maxHeartbeats 4000000
set_option maxRecDepth 100000

def ZTab (w : World) : Prop := Lib.TabIs Tryz.prog w "internal/strconv.uint64pow10" .u64 Lib.pow10Tab
theorem ZTab.keep {w w' : World} (h : ZTab w) (hb : w'.heap[3]? = w.heap[3]?) : ZTab w' := by
  have hg : Tryz.prog.globalNamed "internal/strconv.uint64pow10" = some 3 := by kernel_rfl
  unfold ZTab Lib.TabIs World.var? at *
  simp only [hg, Option.bind_eq_bind, Option.bind_some] at *
  rw [hb]; exact h
theorem zitoa_any (n : Int) (h0 : -9223372036854775808 ≤ n) (h1 : n ≤ 9223372036854775807) (w : World) (ht : ZTab w) :
    Calls Tryz.prog 35 #[.int .i64 n] w fun e w' => e = .returned (.string (strOf (Lib.itoa n))) ∧ Below w.heap.size w w' := by
  refine (Tryz.strconv_Itoa n h0 h1 w ht).mono ?_
  rintro e w' ⟨rfl, k, os, rfl⟩
  exact ⟨rfl, rfl, rfl, rfl, by simp, fun i hi => by simp [Sort.grow, World.drewN, Array.getElem?_append_left hi]⟩
theorem numberT_any (u : Nat) (b : Bs) (hu : (Lib.decDigits u).length ≤ 18) (hi : u ≤ 9223372036854775807) (hb : EndsAt digitR b) (w : World) (hg : 3 < w.heap.size) (ht : ZTab w) :
    Calls Tryz.prog 92 #[.string (strOf (Lib.decDigits u ++ b))] w fun e w' => e = .returned (.tuple #[tokV 3 (Lib.decDigits u) u 0, .bool true]) ∧ Below w.heap.size w w' := by
  have hA := atoi_digits u hu
  have hI : Lib.itoa (u : Int) = Lib.decDigits u := by unfold Lib.itoa; rw [if_neg (by omega)]; simp
  have ha : ∀ c, c ∈ Lib.decDigits u → c.toNat < 128 ∧ digitR (c.toNat : Nat) = true := fun c hc => by
    have := digit_mem u c hc
    refine ⟨?_, by rw [digitR_of]; exact this⟩
    simp [isDigit, UInt8.le_iff_toNat_le] at this; omega
  have HR := Lib.hid (fun w1 => run_digit (Lib.decDigits u) b ha hb w1)
  have HA := Lib.hid hA; have HI := Lib.hid hI; have HT := Lib.hid ht; have HU := Lib.hid hu
  generalize Lib.decDigits u = a at *
  have hl1 : (a.length : Int) ≤ ((a ++ b).length : Int) := by rw [List.length_append]; omega
  have hl2 : a.length ≤ (a ++ b).length := by rw [List.length_append]; omega
  have HO := Lib.hid (OwnAt.new w [.int .i64 0, .string ⟨#[]⟩, .int .i64 0, .int .i64 0] 50)
  have HB0 := Lib.hid ((Below.refl w.heap.size w).alloc (Nat.le_refl _) (.cells #[.int .i64 0, .string ⟨#[]⟩, .int .i64 0, .int .i64 0] 50))
  clear ha hb hA hI ht hu
  go_enter Tryz.func92, Tryz.ntmps92
  go_wp2_with fail
  refine (HR.out _).mono ?_
  rintro e w1 ⟨rfl, hb1⟩
  have HO1 := Lib.hid (HO.out.old hb1)
  have HB1 := Lib.hid (HB0.out.trans (hb1.mono HB0.out.size))
  clear hb1
  go_wp2_with fail
  rw [ext_take]
  refine (Tryz.strconv_Atoi_ok (strOf a) (by show a.length ≤ _; have := HU.out; omega) (u : Int) HA.out w1).mono ?_
  rintro e w2 ⟨rfl, hw2⟩
  have hb2 : Below w1.heap.size w1 w2 := by
    rcases hw2 with rfl | ⟨t, rfl⟩
    · exact Below.refl _ _
    · exact Joins.below_bytesWorld _ w1 5 t (Nat.le_refl _)
  have HO2 := Lib.hid (HO1.out.old hb2)
  have HB2 := Lib.hid (HB1.out.trans (hb2.mono HB1.out.size))
  clear hb2 hw2
  go_wp2_with fail
  have ht2 : ZTab w2 := HT.out.keep (HB2.out.block _ hg)
  refine (zitoa_any (u : Int) (by omega) (by omega) w2 ht2).mono ?_
  rw [HI.out]
  rintro e w3 ⟨rfl, hb3⟩
  have HO3 := Lib.hid (HO2.out.old hb3)
  have HB3 := Lib.hid (HB2.out.trans (hb3.mono HB2.out.size))
  clear hb3 ht2
  have q0 := HO3.out.at 0 _ rfl
  have f0 := HO3.out.fz 0
  have q1 := HO3.out.at 1 _ rfl
  have f1 := HO3.out.fz 1
  have q2 := HO3.out.at 2 _ rfl
  have f2 := HO3.out.fz 2
  have q3 := HO3.out.at 3 _ rfl
  have f3 := HO3.out.fz 3
  have ql := HO3.out.lt
  go_wp2_with fail
  have HS := Lib.hid ((((HO3.out.set 0 (.int .i64 3)).set 1 (.string (strOf a))).set 2 (.int .i64 u)).set 3 (.int .i64 0))
  have e0 := HS.out.at 0 _ rfl
  have e1 := HS.out.at 1 _ rfl
  have e2 := HS.out.at 2 _ rfl
  have e3 := HS.out.at 3 _ rfl
  exact bodyPost_ret (v := .tuple #[tokV 3 a u 0, .bool true]) (by simp [results, Tryz.results92, go_sem, tokV, e0, e1, e2, e3]) rfl ⟨rfl, set4 w _ HB3.out _ _ _ _⟩
end Go.Proofs.YtcfpfnoldgnloaaGreatDoor

namespace Go.Proofs.YtcfpfnoldgnloaaGreatDoor
open Go.RowKit
set_option maxHeartbeats 4000000
set_option maxRecDepth 100000

theorem token_word (c : UInt8) (s : Bs) (hc : isLetter c = true) (h7 : c.toNat < 128) (v1 : Int) (v2 : Bs) (v3 : Int) (w : World) (hT : ∀ w1, Below w.heap.size w w1 → Calls Tryz.prog 90 #[.string (strOf (c :: s))] w1 fun e w' => e = .returned (.tuple #[tokV v1 v2 v3 0, .bool true]) ∧ Below w1.heap.size w1 w') :
    Calls Tryz.prog 41 #[.string (strOf (c :: s))] w fun e w' => e = .returned (.tuple #[tokV v1 v2 v3 0, .bool true]) ∧ Below w.heap.size w w' := by
  have HT := Lib.hid hT
  have h0 : 0 < (strOf (c :: s)).size := by show 0 < (c :: s).length; simp
  have hz : (0 : Int) < ((c :: s).length : Int) := by rw [List.length_cons]; omega
  have hzN : 0 < (c :: s).length := by simp
  have hwr : wrap32 (((strOf (c :: s))[0]'h0).toNat : Int) = (c.toNat : Int) := by
    show wrap32 (c.toNat : Int) = _
    unfold wrap32; omega
  have HWR := Lib.hid hwr
  have HO := Lib.hid (OwnAt.new w [.int .i64 0, .string ⟨#[]⟩, .int .i64 0, .int .i64 0] 50)
  have HB0 := Lib.hid ((Below.refl w.heap.size w).alloc (Nat.le_refl _) (.cells #[.int .i64 0, .string ⟨#[]⟩, .int .i64 0, .int .i64 0] 50))
  have HL := Lib.hid (show letterR (c.toNat : Nat) = true by rw [letterR_of]; exact hc)
  clear hc
  clear hT hwr
  go_enter Tryz.func41, Tryz.ntmps41
  go_wp2_with fail
  rw [HWR.out]
  refine (letter_any _ _).mono ?_
  rw [HL.out]
  rintro e w1 ⟨rfl, rfl⟩
  go_wp2_with fail
  refine (HT.out _ HB0.out).mono ?_
  rintro e w3 ⟨rfl, hb3⟩
  unfold tokV
  have HO3 := Lib.hid (HO.out.old hb3)
  have HB3 := Lib.hid (HB0.out.trans (hb3.mono HB0.out.size))
  clear hb3
  have q0 := HO3.out.at 0 _ rfl
  have f0 := HO3.out.fz 0
  have q1 := HO3.out.at 1 _ rfl
  have f1 := HO3.out.fz 1
  have q2 := HO3.out.at 2 _ rfl
  have f2 := HO3.out.fz 2
  have q3 := HO3.out.at 3 _ rfl
  have f3 := HO3.out.fz 3
  have ql := HO3.out.lt
  go_wp2_with fail
  have HS := Lib.hid ((((HO3.out.set 0 (.int .i64 v1)).set 1 (.string (strOf v2))).set 2 (.int .i64 v3)).set 3 (.int .i64 0))
  have e0 := HS.out.at 0 _ rfl
  have e1 := HS.out.at 1 _ rfl
  have e2 := HS.out.at 2 _ rfl
  have e3 := HS.out.at 3 _ rfl
  exact bodyPost_ret (v := .tuple #[.agg #[.int .i64 v1, .string (strOf v2), .int .i64 v3, .int .i64 0], .bool true]) (by simp [results, Tryz.results41, go_sem, e0, e1, e2, e3]) rfl ⟨rfl, set4 w _ HB3.out _ _ _ _⟩
theorem token_number (c : UInt8) (s : Bs) (hc : isDigit c = true) (h7 : c.toNat < 128) (v1 : Int) (v2 : Bs) (v3 : Int) (w : World) (hT : ∀ w1, Below w.heap.size w w1 → Calls Tryz.prog 92 #[.string (strOf (c :: s))] w1 fun e w' => e = .returned (.tuple #[tokV v1 v2 v3 0, .bool true]) ∧ Below w1.heap.size w1 w') :
    Calls Tryz.prog 41 #[.string (strOf (c :: s))] w fun e w' => e = .returned (.tuple #[tokV v1 v2 v3 0, .bool true]) ∧ Below w.heap.size w w' := by
  have HT := Lib.hid hT
  have h0 : 0 < (strOf (c :: s)).size := by show 0 < (c :: s).length; simp
  have hz : (0 : Int) < ((c :: s).length : Int) := by rw [List.length_cons]; omega
  have hzN : 0 < (c :: s).length := by simp
  have hwr : wrap32 (((strOf (c :: s))[0]'h0).toNat : Int) = (c.toNat : Int) := by
    show wrap32 (c.toNat : Int) = _
    unfold wrap32; omega
  have HWR := Lib.hid hwr
  have HO := Lib.hid (OwnAt.new w [.int .i64 0, .string ⟨#[]⟩, .int .i64 0, .int .i64 0] 50)
  have HB0 := Lib.hid ((Below.refl w.heap.size w).alloc (Nat.le_refl _) (.cells #[.int .i64 0, .string ⟨#[]⟩, .int .i64 0, .int .i64 0] 50))
  have HL := Lib.hid (show letterR (c.toNat : Nat) = false by rw [letterR_of]; simp [isLetter, isDigit, UInt8.le_iff_toNat_le, ← UInt8.toNat_inj] at hc ⊢; omega)
  have HD := Lib.hid (show digitR (c.toNat : Nat) = true by rw [digitR_of]; exact hc)
  clear hc
  clear hT hwr
  go_enter Tryz.func41, Tryz.ntmps41
  go_wp2_with fail
  rw [HWR.out]
  refine (letter_any _ _).mono ?_
  rw [HL.out]
  rintro e w1 ⟨rfl, rfl⟩
  go_wp2_with fail
  refine (digit_any _ _).mono ?_
  rw [HD.out]
  rintro e w1 ⟨rfl, rfl⟩
  go_wp2_with fail
  refine (HT.out _ HB0.out).mono ?_
  rintro e w3 ⟨rfl, hb3⟩
  unfold tokV
  have HO3 := Lib.hid (HO.out.old hb3)
  have HB3 := Lib.hid (HB0.out.trans (hb3.mono HB0.out.size))
  clear hb3
  have q0 := HO3.out.at 0 _ rfl
  have f0 := HO3.out.fz 0
  have q1 := HO3.out.at 1 _ rfl
  have f1 := HO3.out.fz 1
  have q2 := HO3.out.at 2 _ rfl
  have f2 := HO3.out.fz 2
  have q3 := HO3.out.at 3 _ rfl
  have f3 := HO3.out.fz 3
  have ql := HO3.out.lt
  go_wp2_with fail
  have HS := Lib.hid ((((HO3.out.set 0 (.int .i64 v1)).set 1 (.string (strOf v2))).set 2 (.int .i64 v3)).set 3 (.int .i64 0))
  have e0 := HS.out.at 0 _ rfl
  have e1 := HS.out.at 1 _ rfl
  have e2 := HS.out.at 2 _ rfl
  have e3 := HS.out.at 3 _ rfl
  exact bodyPost_ret (v := .tuple #[.agg #[.int .i64 v1, .string (strOf v2), .int .i64 v3, .int .i64 0], .bool true]) (by simp [results, Tryz.results41, go_sem, e0, e1, e2, e3]) rfl ⟨rfl, set4 w _ HB3.out _ _ _ _⟩
theorem token_quote (c : UInt8) (s : Bs) (hc : c = 39) (h7 : c.toNat < 128) (v1 : Int) (v2 : Bs) (v3 : Int) (w : World) (hT : ∀ w1, Below w.heap.size w w1 → Calls Tryz.prog 93 #[.string (strOf (c :: s))] w1 fun e w' => e = .returned (.tuple #[tokV v1 v2 v3 0, .bool true]) ∧ Below w1.heap.size w1 w') :
    Calls Tryz.prog 41 #[.string (strOf (c :: s))] w fun e w' => e = .returned (.tuple #[tokV v1 v2 v3 0, .bool true]) ∧ Below w.heap.size w w' := by
  have HT := Lib.hid hT
  have h0 : 0 < (strOf (c :: s)).size := by show 0 < (c :: s).length; simp
  have hz : (0 : Int) < ((c :: s).length : Int) := by rw [List.length_cons]; omega
  have hzN : 0 < (c :: s).length := by simp
  have hwr : wrap32 (((strOf (c :: s))[0]'h0).toNat : Int) = (c.toNat : Int) := by
    show wrap32 (c.toNat : Int) = _
    unfold wrap32; omega
  have HWR := Lib.hid hwr
  have HO := Lib.hid (OwnAt.new w [.int .i64 0, .string ⟨#[]⟩, .int .i64 0, .int .i64 0] 50)
  have HB0 := Lib.hid ((Below.refl w.heap.size w).alloc (Nat.le_refl _) (.cells #[.int .i64 0, .string ⟨#[]⟩, .int .i64 0, .int .i64 0] 50))
  have HL := Lib.hid (show letterR (c.toNat : Nat) = false by rw [hc]; rfl)
  have HD := Lib.hid (show digitR (c.toNat : Nat) = false by rw [hc]; rfl)
  have hq : ((c.toNat : Int) == 39) = true := by rw [hc]; rfl
  clear hc
  clear hT hwr
  go_enter Tryz.func41, Tryz.ntmps41
  go_wp2_with fail
  rw [HWR.out]
  refine (letter_any _ _).mono ?_
  rw [HL.out]
  rintro e w1 ⟨rfl, rfl⟩
  go_wp2_with fail
  refine (digit_any _ _).mono ?_
  rw [HD.out]
  rintro e w1 ⟨rfl, rfl⟩
  go_wp2_with fail
  refine (HT.out _ HB0.out).mono ?_
  rintro e w3 ⟨rfl, hb3⟩
  unfold tokV
  have HO3 := Lib.hid (HO.out.old hb3)
  have HB3 := Lib.hid (HB0.out.trans (hb3.mono HB0.out.size))
  clear hb3
  have q0 := HO3.out.at 0 _ rfl
  have f0 := HO3.out.fz 0
  have q1 := HO3.out.at 1 _ rfl
  have f1 := HO3.out.fz 1
  have q2 := HO3.out.at 2 _ rfl
  have f2 := HO3.out.fz 2
  have q3 := HO3.out.at 3 _ rfl
  have f3 := HO3.out.fz 3
  have ql := HO3.out.lt
  go_wp2_with fail
  have HS := Lib.hid ((((HO3.out.set 0 (.int .i64 v1)).set 1 (.string (strOf v2))).set 2 (.int .i64 v3)).set 3 (.int .i64 0))
  have e0 := HS.out.at 0 _ rfl
  have e1 := HS.out.at 1 _ rfl
  have e2 := HS.out.at 2 _ rfl
  have e3 := HS.out.at 3 _ rfl
  exact bodyPost_ret (v := .tuple #[.agg #[.int .i64 v1, .string (strOf v2), .int .i64 v3, .int .i64 0], .bool true]) (by simp [results, Tryz.results41, go_sem, e0, e1, e2, e3]) rfl ⟨rfl, set4 w _ HB3.out _ _ _ _⟩
theorem token_sign (c : UInt8) (s : Bs) (hc : isLetter c = false ∧ isDigit c = false ∧ c ≠ 39) (h7 : c.toNat < 128) (v1 : Int) (v2 : Bs) (v3 : Int) (w : World) (hT : ∀ w1, Below w.heap.size w w1 → Calls Tryz.prog 94 #[.string (strOf (c :: s))] w1 fun e w' => e = .returned (.tuple #[tokV v1 v2 v3 0, .bool true]) ∧ Below w1.heap.size w1 w') :
    Calls Tryz.prog 41 #[.string (strOf (c :: s))] w fun e w' => e = .returned (.tuple #[tokV v1 v2 v3 0, .bool true]) ∧ Below w.heap.size w w' := by
  have HT := Lib.hid hT
  have h0 : 0 < (strOf (c :: s)).size := by show 0 < (c :: s).length; simp
  have hz : (0 : Int) < ((c :: s).length : Int) := by rw [List.length_cons]; omega
  have hzN : 0 < (c :: s).length := by simp
  have hwr : wrap32 (((strOf (c :: s))[0]'h0).toNat : Int) = (c.toNat : Int) := by
    show wrap32 (c.toNat : Int) = _
    unfold wrap32; omega
  have HWR := Lib.hid hwr
  have HO := Lib.hid (OwnAt.new w [.int .i64 0, .string ⟨#[]⟩, .int .i64 0, .int .i64 0] 50)
  have HB0 := Lib.hid ((Below.refl w.heap.size w).alloc (Nat.le_refl _) (.cells #[.int .i64 0, .string ⟨#[]⟩, .int .i64 0, .int .i64 0] 50))
  have HL := Lib.hid (show letterR (c.toNat : Nat) = false by rw [letterR_of]; exact hc.1)
  have HD := Lib.hid (show digitR (c.toNat : Nat) = false by rw [digitR_of]; exact hc.2.1)
  have hq : ((c.toNat : Int) == 39) = false := by
    rw [beq_eq_false_iff_ne]; intro e; exact hc.2.2 (by rw [← UInt8.toNat_inj]; show c.toNat = 39; omega)
  clear hc
  clear hT hwr
  go_enter Tryz.func41, Tryz.ntmps41
  go_wp2_with fail
  rw [HWR.out]
  refine (letter_any _ _).mono ?_
  rw [HL.out]
  rintro e w1 ⟨rfl, rfl⟩
  go_wp2_with fail
  refine (digit_any _ _).mono ?_
  rw [HD.out]
  rintro e w1 ⟨rfl, rfl⟩
  go_wp2_with fail
  refine (HT.out _ HB0.out).mono ?_
  rintro e w3 ⟨rfl, hb3⟩
  unfold tokV
  have HO3 := Lib.hid (HO.out.old hb3)
  have HB3 := Lib.hid (HB0.out.trans (hb3.mono HB0.out.size))
  clear hb3
  have q0 := HO3.out.at 0 _ rfl
  have f0 := HO3.out.fz 0
  have q1 := HO3.out.at 1 _ rfl
  have f1 := HO3.out.fz 1
  have q2 := HO3.out.at 2 _ rfl
  have f2 := HO3.out.fz 2
  have q3 := HO3.out.at 3 _ rfl
  have f3 := HO3.out.fz 3
  have ql := HO3.out.lt
  go_wp2_with fail
  have HS := Lib.hid ((((HO3.out.set 0 (.int .i64 v1)).set 1 (.string (strOf v2))).set 2 (.int .i64 v3)).set 3 (.int .i64 0))
  have e0 := HS.out.at 0 _ rfl
  have e1 := HS.out.at 1 _ rfl
  have e2 := HS.out.at 2 _ rfl
  have e3 := HS.out.at 3 _ rfl
  exact bodyPost_ret (v := .tuple #[.agg #[.int .i64 v1, .string (strOf v2), .int .i64 v3, .int .i64 0], .bool true]) (by simp [results, Tryz.results41, go_sem, e0, e1, e2, e3]) rfl ⟨rfl, set4 w _ HB3.out _ _ _ _⟩
end Go.Proofs.YtcfpfnoldgnloaaGreatDoor

namespace Go.Proofs.YtcfpfnoldgnloaaGreatDoor
open Go.RowKit
set_option maxHeartbeats 4000000
set_option maxRecDepth 100000

/-- The library's variables that a scan reads. -/
structure ZLib (w : World) : Prop where
  pow : ZTab w
  max : ∃ m, w.cell? ⟨0, 0, none⟩ = some (.int .i64 m)
  utf : Lib.Utf8Tabs 1 2 w
theorem ZLib.lt {w : World} (h : ZLib w) : 3 < w.heap.size := by
  have gTab : Tryz.prog.globalNamed "internal/strconv.uint64pow10" = some 3 := by kernel_rfl
  exact World.block_lt_of_cell? _ _ (Lib.TabIs.cell h.pow gTab 0 (by decide))
theorem ZLib.old {w w' : World} (h : ZLib w) (hb : Below w.heap.size w w') : ZLib w' :=
  ⟨h.pow.keep (hb.block _ h.lt), by obtain ⟨m, hm⟩ := h.max; exact ⟨m, below_keeps hb hm⟩, Utf8Tabs_below h.utf hb⟩
theorem below_drewN {B : Nat} {a w : World} (h : Below B a w) (n : Nat) : Below B a (w.drewN n) := ⟨h.os, h.tape, h.output, h.size, h.block⟩
theorem comment_any (c s : Bs) (hcut : Lib.cut (c ++ s) [10] = (c, s.drop 1, true)) (hval : Lib.validD c = true) (hcon : Lib.contains c [239, 191, 189] = false) (hz : (c ++ s).length ≤ 1000000) (w : World) (hl : ZLib w) :
    Calls Tryz.prog 88 #[.string (strOf (c ++ s))] w fun e w' => e = .returned (.tuple #[.string (strOf c), .bool true]) ∧ Below w.heap.size w w' := by
  have HL := Lib.hid hl; have HV := Lib.hid hval; have HC := Lib.hid hcon; have HZ := Lib.hid hz
  obtain ⟨m, hm⟩ := hl.max
  have HM := Lib.hid hm
  have hcut' : Lib.cut (strOf (c ++ s)).data.toList (strOf [10]).data.toList = (c, s.drop 1, true) := by simpa [strOf] using hcut
  have HK := Lib.hid hcut'
  clear hcut hval hcon hl hm hz hcut'
  go_enter Tryz.func88, Tryz.ntmps88
  go_wp2_with fail
  refine (Tryz.strings_Cut (strOf (c ++ s)) (strOf [10]) m w (by have := HZ.out; show (c ++ s).length < _; omega) HM.out).mono ?_
  rw [HK.out]
  rintro e w1 ⟨rfl, n1, rfl⟩
  have hl1 : ZLib (w.drewN n1) := HL.out.old (below_drewN (Below.refl w.heap.size w) n1)
  have hcz : c.length ≤ 1000000 := by have := HZ.out; rw [List.length_append] at this; omega
  go_wp2_with fail
  refine (Tryz.utf8_ValidString (strOf c) (w.drewN n1) (by show c.length ≤ _; omega) hl1.utf).mono ?_
  rintro e w2 ⟨he, hb2⟩
  have he2 : e = .returned (.bool true) := by rw [he]; show Ending.returned (.bool (Lib.validD c)) = _; rw [HV.out]
  subst he2
  have hl2 := hl1.old (hb2 : Below (w.drewN n1).heap.size (w.drewN n1) w2)
  obtain ⟨m2, hm2⟩ := hl2.max
  have HM2 := Lib.hid hm2
  have HB2 := Lib.hid ((below_drewN (Below.refl w.heap.size w) n1).trans hb2)
  clear he hb2 hl1 hl2 hm2
  go_wp2_with fail
  refine (Tryz.strings_Contains (strOf c) (strOf [239, 191, 189]) m2 w2 (by show c.length < _; omega) HM2.out).mono ?_
  rintro e w3 ⟨he, hw3⟩
  have he2 : e = .returned (.bool false) := by rw [he]; show Ending.returned (.bool (Lib.contains c [239, 191, 189])) = _; rw [HC.out]
  subst he2
  obtain rfl : w2 = w3 := hw3.symm
  clear he
  go_wp2_with fail
  go_ret2
  exact ⟨rfl, HB2.out⟩
end Go.Proofs.YtcfpfnoldgnloaaGreatDoor

namespace Go.Proofs.YtcfpfnoldgnloaaGreatDoor
open Go.RowKit
set_option maxHeartbeats 4000000
set_option maxRecDepth 100000

/-- Blanks, then comments with blanks behind each. -/
def gapText (b0 : Bs) (l : List (Bs × Bs)) : Bs := b0 ++ l.flatMap (fun p => p.1 ++ p.2)
def feeds (l : Bs) : Nat := l.count 10
def isBlank (c : UInt8) : Bool := c == 32 || c == 9 || c == 10 || c == 13
structure CommOk (c : Bs) : Prop where
  pre : ∃ r, c = 47 :: 47 :: r
  nofeed : (10 : UInt8) ∉ c
  valid : Lib.validD c = true
  mark : Lib.contains c [239, 191, 189] = false
structure GapOk (b0 : Bs) (l : List (Bs × Bs)) : Prop where
  blank : ∀ c, c ∈ b0 → isBlank c = true
  comm : ∀ p, p ∈ l → CommOk p.1 ∧ (∀ c, c ∈ p.2 → isBlank c = true) ∧ ∃ r, p.2 = 10 :: r
theorem isBlank_of {c : UInt8} (h : isBlank c = true) : c.toNat < 128 ∧ blankR (c.toNat : Nat) = true := by
  simp only [isBlank, Bool.or_eq_true, beq_iff_eq] at h
  rcases h with ((rfl | rfl) | rfl) | rfl <;> exact ⟨by decide, by decide⟩
theorem index_at (c : Bs) (s : Bs) (h : (10 : UInt8) ∉ c) : Lib.index (c ++ 10 :: s) [10] = (c.length : Int) := by
  induction c with
  | nil => simp [Lib.index]
  | cons x c ih =>
    have hx : x ≠ 10 := fun e => h (by rw [e]; exact List.mem_cons_self)
    have i := ih (fun hm => h (List.mem_cons_of_mem _ hm))
    rw [List.cons_append, Lib.index]
    have hp : ([10] : List UInt8).isPrefixOf (x :: (c ++ 10 :: s)) = false := by
      simp [List.isPrefixOf]; exact fun e => hx e.symm
    rw [hp, i]
    have : ((c.length : Int) == -1) = false := by rw [beq_eq_false_iff_ne]; omega
    rw [this]
    simp
theorem cut_at (c s : Bs) (h : (10 : UInt8) ∉ c) : Lib.cut (c ++ 10 :: s) [10] = (c, s, true) := by
  unfold Lib.cut
  rw [index_at c s h, if_pos (by omega)]
  simp
theorem gap_len (b0 : Bs) (c b : Bs) (l : List (Bs × Bs)) : gapText b0 ((c, b) :: l) = b0 ++ (c ++ gapText b l) := by
  unfold gapText; simp
theorem feeds_app (a b : Bs) : feeds (a ++ b) = feeds a + feeds b := List.count_append
theorem feeds_no (c : Bs) (h : (10 : UInt8) ∉ c) : feeds c = 0 := List.count_eq_zero.2 h
theorem ext_drop (a b : Bs) (n : Nat) (hn : n = (a ++ b).length) : (strOf (a ++ b)).extract a.length n = strOf b := by
  subst hn
  apply ByteArray.ext
  rw [ByteArray.data_extract]
  simp [strOf]
theorem skip_any (b0 : Bs) (l : List (Bs × Bs)) (r : Bs) (hg : GapOk b0 l) (hr : EndsAt blankR r) (hp : Lib.hasPrefix r [47, 47] = false) (hz : (gapText b0 l ++ r).length ≤ 1000000) (w : World) (hl : ZLib w) :
    Calls Tryz.prog 40 #[.string (strOf (gapText b0 l ++ r))] w fun e w' => e = .returned (.tuple #[.string (strOf r), .int .i64 (feeds (gapText b0 l)), .bool true]) ∧ Below w.heap.size w w' := by
  have HGP := Lib.hid hg; have HR := Lib.hid hr; have HP := Lib.hid hp; have HL := Lib.hid hl; have HZ := Lib.hid hz
  obtain ⟨T, hT⟩ : ∃ T, feeds (gapText b0 l) = T := ⟨_, rfl⟩
  rw [hT]
  have hT2 : T ≤ 1000000 := by
    rw [← hT]; unfold feeds
    have := List.count_le_length (a := (10 : UInt8)) (l := gapText b0 l)
    rw [List.length_append] at hz; omega
  have HTT := Lib.hid hT
  clear hg hr hp hl hz hT
  go_enter Tryz.func40, Tryz.ntmps40
  go_wp2_with fail
  go_loopw [0, 3] (fun s0 s3 wr => ∃ (b1 : Bs) (l1 : List (Bs × Bs)) (n : Nat), s0 = .string (strOf (gapText b1 l1 ++ r)) ∧ s3 = .int .i64 n ∧ GapOk b1 l1 ∧ n + feeds (gapText b1 l1) = T ∧ (gapText b1 l1 ++ r).length ≤ 1000000 ∧ l1.length ≤ l.length ∧ Below w.heap.size w wr) (fun s0 _ _ => match s0 with | .string s => s.size | _ => 0)
  case atStart => exact ⟨b0, l, 0, rfl, rfl, HGP.out, by rw [HTT.out]; omega, HZ.out, Nat.le_refl _, Below.refl _ _⟩
  case round =>
    obtain ⟨b1, l1, n, rfl, rfl, hg1, hn, hz1, hll, hb⟩ := hrel
    have HL1 := Lib.hid (HL.out.old hb)
    have HB := Lib.hid hb
    have HG1 := Lib.hid hg1
    have nI : (n : Int) ≤ 1000000 := by omega
    have nJ : (0 : Int) ≤ (n : Int) := by omega
    have HN := Lib.hid hn
    cases l1 with
    | nil =>
      have e1 : gapText b1 [] = b1 := by simp [gapText]
      rw [e1] at hn hz1 ⊢
      have HN := Lib.hid hn
      have HR1 := Lib.hid (fun w1 => run_blank b1 r (fun c hc => isBlank_of (hg1.blank c hc)) HR.out w1)
      have HX1 := Lib.hid (ext_take b1 r)
      have hl1 : (b1.length : Int) ≤ ((b1 ++ r).length : Int) := by rw [List.length_append]; omega
      have hl2 : b1.length ≤ (b1 ++ r).length := by rw [List.length_append]; omega
      have HZ1 := Lib.hid hz1
      clear hg1 hb hn hz1 e1
      go_wp2_with fail
      refine (HR1.out _).mono ?_
      rintro e w1 ⟨rfl, hb1⟩
      have HB1 := Lib.hid (HB.out.trans (hb1.mono HB.out.size))
      have HL2 := Lib.hid (HL1.out.old hb1)
      clear hb1
      go_wp2_with fail
      rw [HX1.out]
      refine (Tryz.strings_Count_one (strOf b1) 10 w1).mono ?_
      rintro e w2 ⟨he, hw2⟩
      have he2 : e = .returned (.int .i64 (feeds b1 : Int)) := he
      subst he2
      obtain rfl : w1 = w2 := hw2.symm
      clear he
      have fI : (n : Int) + (feeds b1 : Int) ≤ 1000000 := by have := HN.out; omega
      have fJ : (0 : Int) ≤ (feeds b1 : Int) := by omega
      go_wp2_with fail
      have hxd := ext_drop b1 r _ rfl
      first | rw [hxd] | (simp only [List.length_append] at hxd; rw [hxd])
      clear hxd
      refine (Tryz.strings_HasPrefix (strOf (r)) (strOf [47, 47]) w1).mono ?_
      rintro e w2 ⟨he, hw2⟩
      have he2 : e = .returned (.bool false) := by rw [he]; show Ending.returned (.bool (Lib.hasPrefix r [47, 47])) = _; rw [HP.out]
      subst he2
      obtain rfl : w1 = w2 := hw2.symm
      clear he
      go_wp2_with fail
      go_ret3
      exact ⟨by rw [show (T : Int) = (n : Int) + (feeds b1 : Int) from by have := HN.out; omega]; rfl, HB1.out⟩
    | cons p l1 =>
      obtain ⟨c, b2⟩ := p
      obtain ⟨hco, hb2, b3, hb3⟩ := hg1.comm _ List.mem_cons_self
      have hb3 : b2 = 10 :: b3 := hb3
      have hco : CommOk c := hco
      obtain ⟨c3, hc3⟩ := hco.pre
      have e1 := gap_len b1 c b2 l1
      have e2 : gapText b1 ((c, b2) :: l1) ++ r = b1 ++ (c ++ (gapText b2 l1 ++ r)) := by rw [e1]; simp
      rw [e2] at hz1 ⊢
      have hfe : feeds (gapText b1 ((c, b2) :: l1)) = feeds b1 + feeds (gapText b2 l1) := by rw [e1, feeds_app, feeds_app, feeds_no c hco.nofeed]; omega
      rw [hfe] at hn
      have hg2 : GapOk b2 l1 := ⟨hb2, fun p hp => hg1.comm p (List.mem_cons_of_mem _ hp)⟩
      have hes : EndsAt blankR (c ++ (gapText b2 l1 ++ r)) := .inr ⟨47, 47 :: (c3 ++ (gapText b2 l1 ++ r)), by rw [hc3]; rfl, by decide, by decide⟩
      have hcut : Lib.cut (c ++ (gapText b2 l1 ++ r)) [10] = (c, (gapText b2 l1 ++ r).drop 1, true) := by
        have : gapText b2 l1 ++ r = 10 :: (b3 ++ (l1.flatMap (fun p => p.1 ++ p.2) ++ r)) := by unfold gapText; rw [hb3]; simp
        rw [this, cut_at c _ hco.nofeed]; rfl
      have hpre : Lib.hasPrefix (c ++ (gapText b2 l1 ++ r)) [47, 47] = true := by rw [hc3]; simp [Lib.hasPrefix]
      have HPR := Lib.hid hpre
      have hz2 : (c ++ (gapText b2 l1 ++ r)).length ≤ 1000000 := by rw [List.length_append] at hz1; omega
      have HCM := Lib.hid (fun w1 h => comment_any c (gapText b2 l1 ++ r) hcut hco.valid hco.mark hz2 w1 h)
      have HR1 := Lib.hid (fun w1 => run_blank b1 (c ++ (gapText b2 l1 ++ r)) (fun x hx => isBlank_of (hg1.blank x hx)) hes w1)
      have HX1 := Lib.hid (ext_take b1 (c ++ (gapText b2 l1 ++ r)))
      have hl1 : (b1.length : Int) ≤ ((b1 ++ (c ++ (gapText b2 l1 ++ r))).length : Int) := by rw [List.length_append]; omega
      have hl2 : b1.length ≤ (b1 ++ (c ++ (gapText b2 l1 ++ r))).length := by rw [List.length_append]; omega
      have hl3 : (c.length : Int) ≤ ((c ++ (gapText b2 l1 ++ r)).length : Int) := by rw [List.length_append]; omega
      have hl4 : c.length ≤ (c ++ (gapText b2 l1 ++ r)).length := by rw [List.length_append]; omega
      have HG2 := Lib.hid hg2
      have HN2 := Lib.hid hn
      have HZ2 : Hid ((gapText b2 l1 ++ r).length ≤ 1000000) := by show _ ≤ _; rw [List.length_append] at hz2; omega
      have HME : Hid ((gapText b2 l1 ++ r).length < (b1 ++ (c ++ (gapText b2 l1 ++ r))).length) := by
        show _ < _; rw [hc3]; simp only [List.length_append, List.length_cons]; omega
      have HLL : Hid (l1.length ≤ l.length) := by show _ ≤ _; rw [List.length_cons] at hll; omega
      clear hg1 hb hn hz1 e1 e2 hfe hg2 hes hcut hpre hz2 hco hb2 hb3 hc3 hll HN
      have HX2 := Lib.hid (ext_drop b1 (c ++ (gapText b2 l1 ++ r)))
      have HX3 := Lib.hid (ext_drop c (gapText b2 l1 ++ r))
      have HREL := Lib.hid (show ∃ q, gapText b2 l1 ++ r = q from ⟨_, rfl⟩)
      obtain ⟨q, hq⟩ := HREL.out
      have HQ := Lib.hid hq
      clear HREL
      rw [hq] at HX2 HX3 HX1 HPR HCM HR1 hl1 hl2 hl3 hl4 HZ2 HME ⊢
      clear hq
      obtain ⟨u, hu⟩ : ∃ u, c ++ q = u := ⟨_, rfl⟩
      rw [hu] at HX2 HX3 HX1 HPR HCM HR1 hl1 hl2 hl3 hl4 HME ⊢
      clear hu
      go_wp2_with fail
      refine (HR1.out _).mono ?_
      rintro e w1 ⟨rfl, hb1⟩
      have HB1 := Lib.hid (HB.out.trans (hb1.mono HB.out.size))
      have HL2 := Lib.hid (HL1.out.old hb1)
      clear hb1
      go_wp2_with fail
      rw [HX1.out]
      refine (Tryz.strings_Count_one (strOf b1) 10 w1).mono ?_
      rintro e w2 ⟨he, hw2⟩
      have he2 : e = .returned (.int .i64 (feeds b1 : Int)) := he
      subst he2
      obtain rfl : w1 = w2 := hw2.symm
      clear he
      have fI : (n : Int) + (feeds b1 : Int) ≤ 1000000 := by have := HN2.out; omega
      have fJ : (0 : Int) ≤ (feeds b1 : Int) := by omega
      go_wp2_with fail
      have hxd := HX2.out _ rfl
      first | rw [hxd] | (simp only [List.length_append] at hxd; rw [hxd])
      clear hxd
      refine (Tryz.strings_HasPrefix (strOf u) (strOf [47, 47]) w1).mono ?_
      rintro e w2 ⟨he, hw2⟩
      have he2 : e = .returned (.bool true) := by rw [he]; show Ending.returned (.bool (Lib.hasPrefix u [47, 47])) = _; rw [HPR.out]
      subst he2
      obtain rfl : w1 = w2 := hw2.symm
      clear he
      go_wp2_with fail
      refine (HCM.out _ HL2.out).mono ?_
      rintro e w2 ⟨rfl, hb2⟩
      have HB2 := Lib.hid (HB1.out.trans (hb2.mono HB1.out.size))
      clear hb2
      go_wp2_with fail
      have hxd := HX3.out _ rfl
      first | rw [hxd] | (simp only [List.length_append] at hxd; rw [hxd])
      clear hxd
      go_roundw
      case rel => exact ⟨b2, l1, n + feeds b1, by rw [HQ.out], by go_num, HG2.out, by have := HN2.out; omega, by rw [HQ.out]; exact HZ2.out, HLL.out, HB2.out⟩
      case measure => exact HME.out
end Go.Proofs.YtcfpfnoldgnloaaGreatDoor

namespace Go.Proofs.YtcfpfnoldgnloaaGreatDoor
open Go.RowKit
set_option maxHeartbeats 4000000
set_option maxRecDepth 100000


theorem ext_one (a : UInt8) (b : Bs) (n : Nat) (hn : n = (a :: b).length) : (strOf (a :: b)).extract 1 n = strOf b := ext_drop [a] b n hn
theorem ext_tail (a : UInt8) (b c : Bs) (m n : Nat) (hm : m = 1 + b.length) (hn : n = (a :: (b ++ c)).length) : (strOf (a :: (b ++ c))).extract m n = strOf c := by
  have : m = (a :: b).length := by rw [hm, List.length_cons]; omega
  rw [this]
  exact ext_drop (a :: b) c n hn
theorem ext_head (a z : UInt8) (b c : Bs) (m : Nat) (hm : m = b.length + 2) : (strOf (a :: (b ++ z :: c))).extract 0 m = strOf (a :: (b ++ [z])) := by
  subst hm
  have h := ext_take (a :: (b ++ [z])) c
  simpa using h
theorem quoted_any (r : Nat) (x rest : Bs) (hr1 : 32 ≤ r) (hr2 : r ≠ 39) (hr3 : r ≠ 92) (hr4 : r ≠ 65533) (hr5 : r ≤ 1114111) (hx : x.length ≤ 4) (hd : Lib.decodeGo (strOf (x ++ 39 :: rest)) = (r, x.length)) (hz : (39 :: (x ++ 39 :: rest)).length ≤ 1000000) (w : World) (hl : ZLib w) :
    Calls Tryz.prog 93 #[.string (strOf (39 :: (x ++ 39 :: rest)))] w fun e w' => e = .returned (.tuple #[tokV 3 (39 :: (x ++ [39])) r 0, .bool true]) ∧ Below w.heap.size w w' := by
  have q1 : ((r : Int) == 39) = false := by rw [beq_eq_false_iff_ne]; omega
  have q2 : ((r : Int) == 92) = false := by rw [beq_eq_false_iff_ne]; omega
  have q3 : ((r : Int) == 65533) = false := by rw [beq_eq_false_iff_ne]; omega
  have q4 : (32 : Int) ≤ (r : Int) := by omega
  have q6 : ¬ ((r : Int) < 32) := by omega
  have q7 : decide ((r : Int) < 32) = false := decide_eq_false q6
  have q5 : (r : Int) ≤ 1114111 := by omega
  have xI : (x.length : Int) ≤ 4 := by omega
  have xJ : (0 : Int) ≤ (x.length : Int) := by omega
  have hL : (39 :: (x ++ 39 :: rest)).length = x.length + 2 + rest.length := by simp; omega
  have HX1 := Lib.hid (ext_one 39 (x ++ 39 :: rest))
  have HX2 := Lib.hid (ext_tail 39 x (39 :: rest))
  have HX3 := Lib.hid (ext_head 39 39 x rest)
  have HP := Lib.hid (show Lib.hasPrefix (39 :: rest) [39] = true by simp [Lib.hasPrefix])
  have HD := Lib.hid hd; have HL := Lib.hid hl; have HZ := Lib.hid hz; have HLE := Lib.hid hL
  have HO := Lib.hid (OwnAt.new w [.int .i64 0, .string ⟨#[]⟩, .int .i64 0, .int .i64 0] 50)
  have HB0 := Lib.hid ((Below.refl w.heap.size w).alloc (Nat.le_refl _) (.cells #[.int .i64 0, .string ⟨#[]⟩, .int .i64 0, .int .i64 0] 50))
  have l1 : x.length + 2 ≤ (39 :: (x ++ 39 :: rest)).length := by omega
  have l2 : (x.length : Int) + 2 ≤ ((39 :: (x ++ 39 :: rest)).length : Int) := by omega
  have l3 : 1 ≤ (39 :: (x ++ 39 :: rest)).length := by omega
  have l4 : (1 : Int) ≤ ((39 :: (x ++ 39 :: rest)).length : Int) := by omega
  clear hd hl hz hL hr2 hr3 hr4
  obtain ⟨s, hs⟩ : ∃ s, 39 :: (x ++ 39 :: rest) = s := ⟨_, rfl⟩
  obtain ⟨u, hu⟩ : ∃ u, x ++ 39 :: rest = u := ⟨_, rfl⟩
  obtain ⟨v, hv⟩ : ∃ v, (39 :: rest : Bs) = v := ⟨_, rfl⟩
  obtain ⟨k, hk⟩ : ∃ k, (39 :: (x ++ [39]) : Bs) = k := ⟨_, rfl⟩
  rw [hs] at HX1 HX2 HX3 HZ HLE l1 l2 l3 l4 ⊢
  rw [hu] at HX1 HD
  rw [hv] at HX2 HP
  rw [hk] at HX3 ⊢
  clear hs hu hv hk
  go_enter Tryz.func93, Tryz.ntmps93
  go_wp2_with fail
  rw [HX1.out _ rfl]
  refine (Tryz.utf8_DecodeRuneInString (strOf u) _ (HL.out.old HB0.out).utf).mono ?_
  rw [HD.out]
  rintro e w1 ⟨rfl, hb1⟩
  have HO1 := Lib.hid (HO.out.old hb1)
  have HB1 := Lib.hid (HB0.out.trans (hb1.mono HB0.out.size))
  clear hb1
  go_wp2_with fail
  rw [HX2.out _ _ rfl rfl]
  refine (Tryz.strings_HasPrefix (strOf v) (strOf [39]) w1).mono ?_
  rintro e w2 ⟨he, hw2⟩
  have he2 : e = .returned (.bool true) := by rw [he]; show Ending.returned (.bool (Lib.hasPrefix v [39])) = _; rw [HP.out]
  subst he2
  obtain rfl : w1 = w2 := hw2.symm
  clear he
  have g0 := HO1.out.at 0 _ rfl
  have f0 := HO1.out.fz 0
  have g1 := HO1.out.at 1 _ rfl
  have f1 := HO1.out.fz 1
  have g2 := HO1.out.at 2 _ rfl
  have f2 := HO1.out.fz 2
  have g3 := HO1.out.at 3 _ rfl
  have f3 := HO1.out.fz 3
  have gl := HO1.out.lt
  have hx3 := HX3.out _ rfl
  go_wp2_with fail
  have HS := Lib.hid ((((HO1.out.set 0 (.int .i64 3)).set 1 (.string (strOf k))).set 2 (.int .i64 r)).set 3 (.int .i64 0))
  have e0 := HS.out.at 0 _ rfl
  have e1 := HS.out.at 1 _ rfl
  have e2 := HS.out.at 2 _ rfl
  have e3 := HS.out.at 3 _ rfl
  exact bodyPost_ret (v := .tuple #[tokV 3 k r 0, .bool true]) (by simp [results, Tryz.results93, go_sem, tokV, e0, e1, e2, e3]) rfl ⟨rfl, set4 w _ HB1.out _ _ _ _⟩
end Go.Proofs.YtcfpfnoldgnloaaGreatDoor

namespace Go.Proofs.YtcfpfnoldgnloaaGreatDoor
open Go.RowKit
set_option maxHeartbeats 4000000
set_option maxRecDepth 100000


/-- What is a token, its kind, its number. -/
inductive PcOk : Bs → Int → Int → Prop
  | name (x : Bs) (hx : isName x = true) (hk : isWord x = false) (c : UInt8) (t : Bs) (hc : x = c :: t) (hl : isLetter c = true) (ha : ∀ c, c ∈ x → c.toNat < 128 ∧ wordR (c.toNat : Nat) = true) : PcOk x 1 0
  | word (x : Bs) (hk : isWord x = true) (c : UInt8) (t : Bs) (hc : x = c :: t) (hl : isLetter c = true) (ha : ∀ c, c ∈ x → c.toNat < 128 ∧ wordR (c.toNat : Nat) = true) : PcOk x 2 0
  | num (u : Nat) (hu : (Lib.decDigits u).length ≤ 18) (hi : u ≤ 9223372036854775807) (c : UInt8) (t : Bs) (hc : Lib.decDigits u = c :: t) (hd : isDigit c = true) : PcOk (Lib.decDigits u) 3 u
  | quote (r : Nat) (x : Bs) (hr1 : 32 ≤ r) (hr2 : r ≠ 39) (hr3 : r ≠ 92) (hr4 : r ≠ 65533) (hr5 : r ≤ 1114111) (hx : x.length ≤ 4) (hd : ∀ rest, Lib.decodeGo (strOf (x ++ 39 :: rest)) = (r, x.length)) : PcOk (39 :: (x ++ [39])) 3 r
  | sign (x : Bs) (hs : isSign x = true) (c : UInt8) (t : Bs) (hc : x = c :: t) (h7 : c.toNat < 128) (hn : isLetter c = false ∧ isDigit c = false ∧ c ≠ 39) : PcOk x 4 0
theorem letter_lt {c : UInt8} (h : isLetter c = true) : c.toNat < 128 := by
  simp [isLetter, UInt8.le_iff_toNat_le] at h
  by_cases e : c = 95
  · rw [e]; decide
  · simp only [e, false_or, or_false] at h
    omega
theorem digit_lt {c : UInt8} (h : isDigit c = true) : c.toNat < 128 := by
  simp [isDigit, UInt8.le_iff_toNat_le] at h; omega
theorem token_any {x : Bs} {k n : Int} (h : PcOk x k n) (b : UInt8) (r : Bs) (hb : isBlank b = true) (hz : (x ++ b :: r).length ≤ 1000000) (w : World) (hl : ZLib w) :
    Calls Tryz.prog 41 #[.string (strOf (x ++ b :: r))] w fun e w' => e = .returned (.tuple #[tokV k x n 0, .bool true]) ∧ Below w.heap.size w w' := by
  have hbl := isBlank_of hb
  have hbc : b = 32 ∨ b = 9 ∨ b = 10 ∨ b = 13 := by
    simp only [isBlank, Bool.or_eq_true, beq_iff_eq] at hb
    rcases hb with ((h | h) | h) | h <;> simp [h]
  have hw : EndsAt wordR (b :: r) := .inr ⟨b, r, rfl, hbl.1, by rcases hbc with rfl | rfl | rfl | rfl <;> decide⟩
  have hd : EndsAt digitR (b :: r) := .inr ⟨b, r, rfl, hbl.1, by rcases hbc with rfl | rfl | rfl | rfl <;> decide⟩
  cases h with
  | name x hx hk c t hc hll ha =>
    have hT := fun w1 (_ : Below w.heap.size w w1) => wordT_any x (b :: r) ha hw hk hx w1
    rw [hc] at hT ⊢
    exact token_word c (t ++ b :: r) hll (letter_lt hll) 1 (c :: t) 0 w hT
  | word x hk c t hc hll ha =>
    have hT := fun w1 (_ : Below w.heap.size w w1) => wordW_any x (b :: r) ha hw hk w1
    rw [hc] at hT ⊢
    exact token_word c (t ++ b :: r) hll (letter_lt hll) 2 (c :: t) 0 w hT
  | num u hu hi c t hc hdd =>
    have hT := fun w1 (hb1 : Below w.heap.size w w1) => numberT_any u (b :: r) hu hi hd w1 (hl.old hb1).lt (hl.old hb1).pow
    rw [hc] at hT ⊢
    exact token_number c (t ++ b :: r) hdd (digit_lt hdd) 3 (c :: t) u w hT
  | quote q y hr1 hr2 hr3 hr4 hr5 hx hdq =>
    have e : 39 :: (y ++ [39]) ++ b :: r = 39 :: (y ++ 39 :: (b :: r)) := by simp
    rw [e] at hz ⊢
    exact token_quote 39 (y ++ 39 :: (b :: r)) rfl (by decide) 3 (39 :: (y ++ [39])) q w (fun w1 hb1 => quoted_any q y (b :: r) hr1 hr2 hr3 hr4 hr5 hx (hdq _) hz w1 (hl.old hb1))
  | sign x hs c t hc h7 hn =>
    have hT := fun w1 (_ : Below w.heap.size w w1) => signT_any x (b :: r) hs (fun _ => ⟨b, r, rfl, by rcases hbc with rfl | rfl | rfl | rfl <;> decide, by rcases hbc with rfl | rfl | rfl | rfl <;> decide, by rcases hbc with rfl | rfl | rfl | rfl <;> decide⟩) w1
    rw [hc] at hT ⊢
    exact token_sign c (t ++ b :: r) hn h7 4 (c :: t) 0 w hT
end Go.Proofs.YtcfpfnoldgnloaaGreatDoor

namespace Go.Proofs.YtcfpfnoldgnloaaGreatDoor
end Go.Proofs.YtcfpfnoldgnloaaGreatDoor

namespace Go.Proofs.YtcfpfnoldgnloaaGreatDoor
open Go.RowKit
set_option maxHeartbeats 4000000
set_option maxRecDepth 100000


/-- A token and the gap behind it. -/
structure It where
  x : Bs
  k : Int
  n : Int
  b : Bs
  l : List (Bs × Bs)
def It.gap (i : It) : Bs := gapText i.b i.l
structure ItOk (i : It) : Prop where
  tok : PcOk i.x i.k i.n
  gap : GapOk i.b i.l
  head : ∃ c t, i.b = c :: t
def itText (l : List It) : Bs := l.flatMap (fun i => i.x ++ i.gap)
def toks (line : Nat) : List It → List Tk
  | [] => []
  | i :: l => ⟨i.k, i.x, i.n, line⟩ :: toks (line + feeds i.gap) l
theorem itText_cons (i : It) (l : List It) : itText (i :: l) = i.x ++ (i.gap ++ itText l) := by
  unfold itText; simp
theorem toks_len (line : Nat) (l : List It) : (toks line l).length = l.length := by
  induction l generalizing line with
  | nil => rfl
  | cons i l ih => simp [toks, ih]
theorem ItOk.blank {i : It} (h : ItOk i) (r : Bs) : ∃ c t, i.gap ++ r = c :: t ∧ isBlank c = true := by
  obtain ⟨c, t, e⟩ := h.head
  refine ⟨c, t ++ (i.l.flatMap (fun p => p.1 ++ p.2) ++ r), ?_, h.gap.blank c (by rw [e]; exact List.mem_cons_self)⟩
  unfold It.gap gapText; rw [e]; simp
end Go.Proofs.YtcfpfnoldgnloaaGreatDoor

namespace Go.Proofs.YtcfpfnoldgnloaaGreatDoor
open Go.RowKit
set_option maxHeartbeats 4000000
set_option maxRecDepth 100000


theorem notBlank (c : UInt8) (h : c.toNat ≠ 32 ∧ c.toNat ≠ 9 ∧ c.toNat ≠ 10 ∧ c.toNat ≠ 13) : blankR (c.toNat : Nat) = false := by
  obtain ⟨h1, h2, h3, h4⟩ := h
  unfold blankR
  have g1 : ((c.toNat : Int) == 32) = false := by rw [beq_eq_false_iff_ne]; omega
  have g2 : ((c.toNat : Int) == 9) = false := by rw [beq_eq_false_iff_ne]; omega
  have g3 : ((c.toNat : Int) == 10) = false := by rw [beq_eq_false_iff_ne]; omega
  have g4 : ((c.toNat : Int) == 13) = false := by rw [beq_eq_false_iff_ne]; omega
  simp [g1, g2, g3, g4]
  try omega
theorem letter_ge {c : UInt8} (h : isLetter c = true) : 65 ≤ c.toNat := by
  simp [isLetter, UInt8.le_iff_toNat_le] at h
  by_cases e : c = 95
  · rw [e]; decide
  · simp only [e, false_or, or_false] at h
    omega
theorem digit_ge {c : UInt8} (h : isDigit c = true) : 48 ≤ c.toNat := by
  simp [isDigit, UInt8.le_iff_toNat_le] at h; omega
theorem ends_of {c : UInt8} {t : Bs} (h7 : c.toNat < 128) (h : c.toNat ≠ 32 ∧ c.toNat ≠ 9 ∧ c.toNat ≠ 10 ∧ c.toNat ≠ 13) : EndsAt blankR (c :: t) := .inr ⟨c, t, rfl, h7, notBlank c h⟩
theorem PcOk.ends {x : Bs} {k n : Int} (h : PcOk x k n) (r : Bs) : EndsAt blankR (x ++ r) := by
  cases h with
  | name x hx hk c t hc hl ha => rw [hc]; have := letter_ge hl; exact ends_of (letter_lt hl) (by omega)
  | word x hk c t hc hl ha => rw [hc]; have := letter_ge hl; exact ends_of (letter_lt hl) (by omega)
  | num u hu hi c t hc hd => rw [hc]; have := digit_ge hd; exact ends_of (digit_lt hd) (by omega)
  | quote q y => exact ends_of (c := 39) (t := y ++ [39] ++ r) (by decide) (by decide)
  | sign x hs c t hc h7 hn =>
    rcases sign_cases hs with rfl | rfl | rfl | rfl | rfl | rfl | rfl | rfl | rfl | rfl | rfl | rfl | rfl | rfl | rfl | rfl | rfl | rfl | rfl | rfl | rfl | rfl | rfl | rfl | rfl | rfl | rfl <;> (rw [List.cons_append]; exact ends_of (by decide) (by decide))
theorem PcOk.noComment {x : Bs} {k n : Int} (h : PcOk x k n) (b : UInt8) (hb : isBlank b = true) (r : Bs) : Lib.hasPrefix (x ++ b :: r) [47, 47] = false := by
  have hne : b ≠ 47 := by rintro rfl; simp [isBlank] at hb
  have key : ∀ (c : UInt8) (t : Bs), c ≠ 47 → Lib.hasPrefix (c :: t) [47, 47] = false := fun c t hc => by
    have h1 : ((47 : UInt8) == c) = false := by rw [beq_eq_false_iff_ne]; exact fun e => hc e.symm
    show ([47, 47] : List UInt8).isPrefixOf (c :: t) = false
    rw [List.isPrefixOf, h1]; rfl
  have key2 : ∀ (t : Bs), Lib.hasPrefix (47 :: b :: t) [47, 47] = false := fun t => by
    have h1 : ((47 : UInt8) == b) = false := by rw [beq_eq_false_iff_ne]; exact fun e => hne e.symm
    show ([47, 47] : List UInt8).isPrefixOf (47 :: b :: t) = false
    rw [List.isPrefixOf, List.isPrefixOf, h1]; rfl
  cases h with
  | name x hx hk c t hc hl ha => rw [hc, List.cons_append]; exact key _ _ (by rintro rfl; simp [isLetter] at hl)
  | word x hk c t hc hl ha => rw [hc, List.cons_append]; exact key _ _ (by rintro rfl; simp [isLetter] at hl)
  | num u hu hi c t hc hd => rw [hc, List.cons_append]; exact key _ _ (by rintro rfl; simp [isDigit] at hd)
  | quote q y => exact key 39 (y ++ [39] ++ b :: r) (by decide)
  | sign x hs c t hc h7 hn =>
    rcases sign_cases hs with rfl | rfl | rfl | rfl | rfl | rfl | rfl | rfl | rfl | rfl | rfl | rfl | rfl | rfl | rfl | rfl | rfl | rfl | rfl | rfl | rfl | rfl | rfl | rfl | rfl | rfl | rfl <;> first | (rw [List.cons_append]; exact key _ _ (by decide)) | exact key2 r
end Go.Proofs.YtcfpfnoldgnloaaGreatDoor
