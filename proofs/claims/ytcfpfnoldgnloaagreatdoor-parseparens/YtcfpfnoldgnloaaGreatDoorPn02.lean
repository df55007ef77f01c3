/-
  token: the one at a text's beginning: to which function it goes. Conditions: as each says.
  comment: one at a text's beginning. Conditions: it is one of characters that may be; the library's tables lie in memory.
  What comes in: the library's variables. Condition: the tables that a row of folder 04 lists are laid as the program's text lays them.
  Arrays and functions in memory: shapes, cells. No condition.
  Small trees in memory, put together. No condition.
  Plain functions: raw programs, made of raw numbers. No program in sight.
-/
import Derived.Test.YtcfpfnoldgnloaaGreatDoorPn01
import Derived.Test.YtcfpfnoldgnloaaGreatDoorRows
import Derived.Test.YtcfpfnoldgnloaaGreatDoorPn00
import Derived.ChangeSlices
import Derived.WideKeyArgs
import Derived.Lib.LaidU8T
import Derived.PinnedBridge
import Derived.Shelf.Vars
set_option linter.unusedVariables false
set_option linter.unusedSimpArgs false
namespace Go.Proofs.YtcfpfnoldgnloaaGreatDoor
open Go.RowKit
set_option maxHeartbeats 4000000
set_option maxRecDepth 100000

theorem token_word (c : UInt8) (s : Bs) (hc : isLetter c = true) (h7 : c.toNat < 128) (v1 : Int) (v2 : Bs) (v3 : Int) (w : World) (hT : ∀ w1, Below w.heap.size w w1 → Calls Tryz.prog 90 #[.string (strOf (c :: s))] w1 fun e w' => e = .returned (.tuple #[tokV v1 v2 v3 0, .bool true]) ∧ Below w1.heap.size w1 w') :
    Calls Tryz.prog 41 #[.string (strOf (c :: s))] w fun e w' => e = .returned (.tuple #[tokV v1 v2 v3 0, .bool true]) ∧ Below w.heap.size w w' := by
  have HT := Lib.hid hT
  have h0 : 0 < (strOf (c :: s)).size := by show 0 < (c :: s).length; simp
  have hz : (0 : Int) < ((c :: s).length : Int) := by rw [List.length_cons]; omega
  have hzN : 0 < (c :: s).length := by simp
  have hwr : wrap32 (((strOf (c :: s))[0]'h0).toNat : Int) = (c.toNat : Int) := by
    show wrap32 (c.toNat : Int) = _
    unfold wrap32; omega
  have HWR := Lib.hid hwr
  have HO := Lib.hid (OwnAt.new w [.int .i64 0, .string ⟨#[]⟩, .int .i64 0, .int .i64 0] 50)
  have HB0 := Lib.hid ((Below.refl w.heap.size w).alloc (Nat.le_refl _) (.cells #[.int .i64 0, .string ⟨#[]⟩, .int .i64 0, .int .i64 0] 50))
  have HL := Lib.hid (show letterR (c.toNat : Nat) = true by rw [letterR_of]; exact hc)
  clear hc
  clear hT hwr
  go_enter Tryz.func41, Tryz.ntmps41
  go_wp2_with fail
  rw [HWR.out]
  refine (letter_any _ _).mono ?_
  rw [HL.out]
  rintro e w1 ⟨rfl, rfl⟩
  go_wp2_with fail
  refine (HT.out _ HB0.out).mono ?_
  rintro e w3 ⟨rfl, hb3⟩
  unfold tokV
  have HO3 := Lib.hid (HO.out.old hb3)
  have HB3 := Lib.hid (HB0.out.trans (hb3.mono HB0.out.size))
  clear hb3
  have q0 := HO3.out.at 0 _ rfl
  have f0 := HO3.out.fz 0
  have q1 := HO3.out.at 1 _ rfl
  have f1 := HO3.out.fz 1
  have q2 := HO3.out.at 2 _ rfl
  have f2 := HO3.out.fz 2
  have q3 := HO3.out.at 3 _ rfl
  have f3 := HO3.out.fz 3
  have ql := HO3.out.lt
  go_wp2_with fail
  have HS := Lib.hid ((((HO3.out.set 0 (.int .i64 v1)).set 1 (.string (strOf v2))).set 2 (.int .i64 v3)).set 3 (.int .i64 0))
  have e0 := HS.out.at 0 _ rfl
  have e1 := HS.out.at 1 _ rfl
  have e2 := HS.out.at 2 _ rfl
  have e3 := HS.out.at 3 _ rfl
  exact bodyPost_ret (v := .tuple #[.agg #[.int .i64 v1, .string (strOf v2), .int .i64 v3, .int .i64 0], .bool true]) (by simp [results, Tryz.results41, go_sem, e0, e1, e2, e3]) rfl ⟨rfl, set4 w _ HB3.out _ _ _ _⟩
theorem token_number (c : UInt8) (s : Bs) (hc : isDigit c = true) (h7 : c.toNat < 128) (v1 : Int) (v2 : Bs) (v3 : Int) (w : World) (hT : ∀ w1, Below w.heap.size w w1 → Calls Tryz.prog 92 #[.string (strOf (c :: s))] w1 fun e w' => e = .returned (.tuple #[tokV v1 v2 v3 0, .bool true]) ∧ Below w1.heap.size w1 w') :
    Calls Tryz.prog 41 #[.string (strOf (c :: s))] w fun e w' => e = .returned (.tuple #[tokV v1 v2 v3 0, .bool true]) ∧ Below w.heap.size w w' := by
  have HT := Lib.hid hT
  have h0 : 0 < (strOf (c :: s)).size := by show 0 < (c :: s).length; simp
  have hz : (0 : Int) < ((c :: s).length : Int) := by rw [List.length_cons]; omega
  have hzN : 0 < (c :: s).length := by simp
  have hwr : wrap32 (((strOf (c :: s))[0]'h0).toNat : Int) = (c.toNat : Int) := by
    show wrap32 (c.toNat : Int) = _
    unfold wrap32; omega
  have HWR := Lib.hid hwr
  have HO := Lib.hid (OwnAt.new w [.int .i64 0, .string ⟨#[]⟩, .int .i64 0, .int .i64 0] 50)
  have HB0 := Lib.hid ((Below.refl w.heap.size w).alloc (Nat.le_refl _) (.cells #[.int .i64 0, .string ⟨#[]⟩, .int .i64 0, .int .i64 0] 50))
  have HL := Lib.hid (show letterR (c.toNat : Nat) = false by rw [letterR_of]; simp [isLetter, isDigit, UInt8.le_iff_toNat_le, ← UInt8.toNat_inj] at hc ⊢; omega)
  have HD := Lib.hid (show digitR (c.toNat : Nat) = true by rw [digitR_of]; exact hc)
  clear hc
  clear hT hwr
  go_enter Tryz.func41, Tryz.ntmps41
  go_wp2_with fail
  rw [HWR.out]
  refine (letter_any _ _).mono ?_
  rw [HL.out]
  rintro e w1 ⟨rfl, rfl⟩
  go_wp2_with fail
  refine (digit_any _ _).mono ?_
  rw [HD.out]
  rintro e w1 ⟨rfl, rfl⟩
  go_wp2_with fail
  refine (HT.out _ HB0.out).mono ?_
  rintro e w3 ⟨rfl, hb3⟩
  unfold tokV
  have HO3 := Lib.hid (HO.out.old hb3)
  have HB3 := Lib.hid (HB0.out.trans (hb3.mono HB0.out.size))
  clear hb3
  have q0 := HO3.out.at 0 _ rfl
  have f0 := HO3.out.fz 0
  have q1 := HO3.out.at 1 _ rfl
  have f1 := HO3.out.fz 1
  have q2 := HO3.out.at 2 _ rfl
  have f2 := HO3.out.fz 2
  have q3 := HO3.out.at 3 _ rfl
  have f3 := HO3.out.fz 3
  have ql := HO3.out.lt
  go_wp2_with fail
  have HS := Lib.hid ((((HO3.out.set 0 (.int .i64 v1)).set 1 (.string (strOf v2))).set 2 (.int .i64 v3)).set 3 (.int .i64 0))
  have e0 := HS.out.at 0 _ rfl
  have e1 := HS.out.at 1 _ rfl
  have e2 := HS.out.at 2 _ rfl
  have e3 := HS.out.at 3 _ rfl
  exact bodyPost_ret (v := .tuple #[.agg #[.int .i64 v1, .string (strOf v2), .int .i64 v3, .int .i64 0], .bool true]) (by simp [results, Tryz.results41, go_sem, e0, e1, e2, e3]) rfl ⟨rfl, set4 w _ HB3.out _ _ _ _⟩
theorem token_quote (c : UInt8) (s : Bs) (hc : c = 39) (h7 : c.toNat < 128) (v1 : Int) (v2 : Bs) (v3 : Int) (w : World) (hT : ∀ w1, Below w.heap.size w w1 → Calls Tryz.prog 93 #[.string (strOf (c :: s))] w1 fun e w' => e = .returned (.tuple #[tokV v1 v2 v3 0, .bool true]) ∧ Below w1.heap.size w1 w') :
    Calls Tryz.prog 41 #[.string (strOf (c :: s))] w fun e w' => e = .returned (.tuple #[tokV v1 v2 v3 0, .bool true]) ∧ Below w.heap.size w w' := by
  have HT := Lib.hid hT
  have h0 : 0 < (strOf (c :: s)).size := by show 0 < (c :: s).length; simp
  have hz : (0 : Int) < ((c :: s).length : Int) := by rw [List.length_cons]; omega
  have hzN : 0 < (c :: s).length := by simp
  have hwr : wrap32 (((strOf (c :: s))[0]'h0).toNat : Int) = (c.toNat : Int) := by
    show wrap32 (c.toNat : Int) = _
    unfold wrap32; omega
  have HWR := Lib.hid hwr
  have HO := Lib.hid (OwnAt.new w [.int .i64 0, .string ⟨#[]⟩, .int .i64 0, .int .i64 0] 50)
  have HB0 := Lib.hid ((Below.refl w.heap.size w).alloc (Nat.le_refl _) (.cells #[.int .i64 0, .string ⟨#[]⟩, .int .i64 0, .int .i64 0] 50))
  have HL := Lib.hid (show letterR (c.toNat : Nat) = false by rw [hc]; rfl)
  have HD := Lib.hid (show digitR (c.toNat : Nat) = false by rw [hc]; rfl)
  have hq : ((c.toNat : Int) == 39) = true := by rw [hc]; rfl
  clear hc
  clear hT hwr
  go_enter Tryz.func41, Tryz.ntmps41
  go_wp2_with fail
  rw [HWR.out]
  refine (letter_any _ _).mono ?_
  rw [HL.out]
  rintro e w1 ⟨rfl, rfl⟩
  go_wp2_with fail
  refine (digit_any _ _).mono ?_
  rw [HD.out]
  rintro e w1 ⟨rfl, rfl⟩
  go_wp2_with fail
  refine (HT.out _ HB0.out).mono ?_
  rintro e w3 ⟨rfl, hb3⟩
  unfold tokV
  have HO3 := Lib.hid (HO.out.old hb3)
  have HB3 := Lib.hid (HB0.out.trans (hb3.mono HB0.out.size))
  clear hb3
  have q0 := HO3.out.at 0 _ rfl
  have f0 := HO3.out.fz 0
  have q1 := HO3.out.at 1 _ rfl
  have f1 := HO3.out.fz 1
  have q2 := HO3.out.at 2 _ rfl
  have f2 := HO3.out.fz 2
  have q3 := HO3.out.at 3 _ rfl
  have f3 := HO3.out.fz 3
  have ql := HO3.out.lt
  go_wp2_with fail
  have HS := Lib.hid ((((HO3.out.set 0 (.int .i64 v1)).set 1 (.string (strOf v2))).set 2 (.int .i64 v3)).set 3 (.int .i64 0))
  have e0 := HS.out.at 0 _ rfl
  have e1 := HS.out.at 1 _ rfl
  have e2 := HS.out.at 2 _ rfl
  have e3 := HS.out.at 3 _ rfl
  exact bodyPost_ret (v := .tuple #[.agg #[.int .i64 v1, .string (strOf v2), .int .i64 v3, .int .i64 0], .bool true]) (by simp [results, Tryz.results41, go_sem, e0, e1, e2, e3]) rfl ⟨rfl, set4 w _ HB3.out _ _ _ _⟩
theorem token_sign (c : UInt8) (s : Bs) (hc : isLetter c = false ∧ isDigit c = false ∧ c ≠ 39) (h7 : c.toNat < 128) (v1 : Int) (v2 : Bs) (v3 : Int) (w : World) (hT : ∀ w1, Below w.heap.size w w1 → Calls Tryz.prog 94 #[.string (strOf (c :: s))] w1 fun e w' => e = .returned (.tuple #[tokV v1 v2 v3 0, .bool true]) ∧ Below w1.heap.size w1 w') :
    Calls Tryz.prog 41 #[.string (strOf (c :: s))] w fun e w' => e = .returned (.tuple #[tokV v1 v2 v3 0, .bool true]) ∧ Below w.heap.size w w' := by
  have HT := Lib.hid hT
  have h0 : 0 < (strOf (c :: s)).size := by show 0 < (c :: s).length; simp
  have hz : (0 : Int) < ((c :: s).length : Int) := by rw [List.length_cons]; omega
  have hzN : 0 < (c :: s).length := by simp
  have hwr : wrap32 (((strOf (c :: s))[0]'h0).toNat : Int) = (c.toNat : Int) := by
    show wrap32 (c.toNat : Int) = _
    unfold wrap32; omega
  have HWR := Lib.hid hwr
  have HO := Lib.hid (OwnAt.new w [.int .i64 0, .string ⟨#[]⟩, .int .i64 0, .int .i64 0] 50)
  have HB0 := Lib.hid ((Below.refl w.heap.size w).alloc (Nat.le_refl _) (.cells #[.int .i64 0, .string ⟨#[]⟩, .int .i64 0, .int .i64 0] 50))
  have HL := Lib.hid (show letterR (c.toNat : Nat) = false by rw [letterR_of]; exact hc.1)
  have HD := Lib.hid (show digitR (c.toNat : Nat) = false by rw [digitR_of]; exact hc.2.1)
  have hq : ((c.toNat : Int) == 39) = false := by
    rw [beq_eq_false_iff_ne]; intro e; exact hc.2.2 (by rw [← UInt8.toNat_inj]; show c.toNat = 39; omega)
  clear hc
  clear hT hwr
  go_enter Tryz.func41, Tryz.ntmps41
  go_wp2_with fail
  rw [HWR.out]
  refine (letter_any _ _).mono ?_
  rw [HL.out]
  rintro e w1 ⟨rfl, rfl⟩
  go_wp2_with fail
  refine (digit_any _ _).mono ?_
  rw [HD.out]
  rintro e w1 ⟨rfl, rfl⟩
  go_wp2_with fail
  refine (HT.out _ HB0.out).mono ?_
  rintro e w3 ⟨rfl, hb3⟩
  unfold tokV
  have HO3 := Lib.hid (HO.out.old hb3)
  have HB3 := Lib.hid (HB0.out.trans (hb3.mono HB0.out.size))
  clear hb3
  have q0 := HO3.out.at 0 _ rfl
  have f0 := HO3.out.fz 0
  have q1 := HO3.out.at 1 _ rfl
  have f1 := HO3.out.fz 1
  have q2 := HO3.out.at 2 _ rfl
  have f2 := HO3.out.fz 2
  have q3 := HO3.out.at 3 _ rfl
  have f3 := HO3.out.fz 3
  have ql := HO3.out.lt
  go_wp2_with fail
  have HS := Lib.hid ((((HO3.out.set 0 (.int .i64 v1)).set 1 (.string (strOf v2))).set 2 (.int .i64 v3)).set 3 (.int .i64 0))
  have e0 := HS.out.at 0 _ rfl
  have e1 := HS.out.at 1 _ rfl
  have e2 := HS.out.at 2 _ rfl
  have e3 := HS.out.at 3 _ rfl
  exact bodyPost_ret (v := .tuple #[.agg #[.int .i64 v1, .string (strOf v2), .int .i64 v3, .int .i64 0], .bool true]) (by simp [results, Tryz.results41, go_sem, e0, e1, e2, e3]) rfl ⟨rfl, set4 w _ HB3.out _ _ _ _⟩
end Go.Proofs.YtcfpfnoldgnloaaGreatDoor

namespace Go.Proofs.YtcfpfnoldgnloaaGreatDoor
open Go.RowKit
set_option maxHeartbeats 4000000
set_option maxRecDepth 100000

/-- The library's variables that a scan reads. -/
structure ZLib (w : World) : Prop where
  pow : ZTab w
  max : ∃ m, w.cell? ⟨0, 0, none⟩ = some (.int .i64 m)
  utf : Lib.Utf8Tabs 1 2 w
theorem ZLib.lt {w : World} (h : ZLib w) : 3 < w.heap.size := by
  have gTab : Tryz.prog.globalNamed "internal/strconv.uint64pow10" = some 3 := by kernel_rfl
  exact World.block_lt_of_cell? _ _ (Lib.TabIs.cell h.pow gTab 0 (by decide))
theorem ZLib.old {w w' : World} (h : ZLib w) (hb : Below w.heap.size w w') : ZLib w' :=
  ⟨h.pow.keep (hb.block _ h.lt), by obtain ⟨m, hm⟩ := h.max; exact ⟨m, below_keeps hb hm⟩, Utf8Tabs_below h.utf hb⟩
theorem below_drewN {B : Nat} {a w : World} (h : Below B a w) (n : Nat) : Below B a (w.drewN n) := ⟨h.os, h.tape, h.output, h.size, h.block⟩
theorem comment_any (c s : Bs) (hcut : Lib.cut (c ++ s) [10] = (c, s.drop 1, true)) (hval : Lib.validD c = true) (hcon : Lib.contains c [239, 191, 189] = false) (hz : (c ++ s).length ≤ 1000000) (w : World) (hl : ZLib w) :
    Calls Tryz.prog 88 #[.string (strOf (c ++ s))] w fun e w' => e = .returned (.tuple #[.string (strOf c), .bool true]) ∧ Below w.heap.size w w' := by
  have HL := Lib.hid hl; have HV := Lib.hid hval; have HC := Lib.hid hcon; have HZ := Lib.hid hz
  obtain ⟨m, hm⟩ := hl.max
  have HM := Lib.hid hm
  have hcut' : Lib.cut (strOf (c ++ s)).data.toList (strOf [10]).data.toList = (c, s.drop 1, true) := by simpa [strOf] using hcut
  have HK := Lib.hid hcut'
  clear hcut hval hcon hl hm hz hcut'
  go_enter Tryz.func88, Tryz.ntmps88
  go_wp2_with fail
  refine (Tryz.strings_Cut (strOf (c ++ s)) (strOf [10]) m w (by have := HZ.out; show (c ++ s).length < _; omega) HM.out).mono ?_
  rw [HK.out]
  rintro e w1 ⟨rfl, n1, rfl⟩
  have hl1 : ZLib (w.drewN n1) := HL.out.old (below_drewN (Below.refl w.heap.size w) n1)
  have hcz : c.length ≤ 1000000 := by have := HZ.out; rw [List.length_append] at this; omega
  go_wp2_with fail
  refine (Tryz.utf8_ValidString (strOf c) (w.drewN n1) (by show c.length ≤ _; omega) hl1.utf).mono ?_
  rintro e w2 ⟨he, hb2⟩
  have he2 : e = .returned (.bool true) := by rw [he]; show Ending.returned (.bool (Lib.validD c)) = _; rw [HV.out]
  subst he2
  have hl2 := hl1.old (hb2 : Below (w.drewN n1).heap.size (w.drewN n1) w2)
  obtain ⟨m2, hm2⟩ := hl2.max
  have HM2 := Lib.hid hm2
  have HB2 := Lib.hid ((below_drewN (Below.refl w.heap.size w) n1).trans hb2)
  clear he hb2 hl1 hl2 hm2
  go_wp2_with fail
  refine (Tryz.strings_Contains (strOf c) (strOf [239, 191, 189]) m2 w2 (by show c.length < _; omega) HM2.out).mono ?_
  rintro e w3 ⟨he, hw3⟩
  have he2 : e = .returned (.bool false) := by rw [he]; show Ending.returned (.bool (Lib.contains c [239, 191, 189])) = _; rw [HC.out]
  subst he2
  obtain rfl : w2 = w3 := hw3.symm
  clear he
  go_wp2_with fail
  go_ret2
  exact ⟨rfl, HB2.out⟩
end Go.Proofs.YtcfpfnoldgnloaaGreatDoor

namespace Go.Proofs.YtcfpfnoldgnloaaGreatDoor
open Go.ChangeShapes Go.WideShapes Go.ChangeAt Go.RowKit
set_option maxHeartbeats 4000000
set_option maxRecDepth 100000

theorem zi64 {n : Int} (h : (Lit.int .i64 n).wf = true) : I64 n := by
  simp only [Lit.wf, Bool.and_eq_true, decide_eq_true_eq] at h
  exact h
theorem yopen_rawint {H : Type} {enc : TypeId × Value → H} {W : World} {base : Nat} {x : Value} {d : DataW H} {p : List MemPlace} (hv : Value.okWide Tryz.prog W .any base 3 x) (h : DataW.Trod enc Tryz.prog W 0 (fun _ => true) true 3 x d p) : ∃ n, x = .int .i64 n ∧ I64 n := by
  obtain ⟨n, rfl⟩ := okWide_int Tryz.underlying3 hv
  obtain ⟨fuel, hf⟩ := h
  obtain ⟨m, e, _, hw⟩ := DataW.trod_int Tryz.underlying3 hf
  simp [Value.cells] at e
  subst e
  exact ⟨_, rfl, zi64 hw⟩

/-- What the rows list gives. -/
theorem zgTab : Tryz.prog.globalNamed "internal/strconv.uint64pow10" = some 3 := by kernel_rfl
theorem zgTabType : (Tryz.prog.globals[3]?).map (·.type) = some 211 := by kernel_rfl
theorem zcellsTab : Tryz.prog.cellsOf 211 = 20 := by kernel_rfl
theorem zcellsU : Tryz.prog.cellsOf 194 = 1 := by kernel_rfl
theorem zU8 : U8Extra Tryz.prog Tryz.lays196_ren := ⟨by kernel_rfl, by kernel_rfl, by kernel_rfl, by kernel_rfl, by kernel_rfl, by kernel_rfl, by kernel_rfl⟩
theorem zaccept : Rows.laid_unicode_utf8_acceptRanges = Lib.acceptData := by kernel_rfl
theorem zlib_of {W : World} (h : laidMetH Tryz.prog Rows.parseDeepRow.laid W) (hsh : W.ShapedOpen Tryz.prog) : ZLib W := by
  have h' : laidMet Tryz.prog Rows.parseDeepRow.laid W := h
  refine ⟨?_, ?_, ?_⟩
  · exact Lib.tabIs_of_head (rest := _) zgTab zgTabType Tryz.underlying211 Tryz.underlying194 zcellsU zcellsTab (laidMet_tail (laidMet_tail h'))
  · exact cell_of_shapedOpen_int (zero := #[.int .i64 0]) (t := 3) hsh (of_decide_eq_true (by kernel_rfl)) (by kernel_rfl) rfl (by kernel_rfl) (by kernel_rfl) Tryz.underlying3
  · refine utf8Tabs_of_readsT (U8Types.of196 Tryz.lays196) zU8 ?_ ?_
    · have := Lib.laidMet.reads h' (n := "unicode/utf8.first") (d := Rows.laid_unicode_utf8_first) (.tail _ (.tail _ (.tail _ (.tail _ (.tail _ (.tail _ (.head _)))))))
      rw [← Pinned.utf8First_eq]; exact this
    · have := Lib.laidMet.reads h' (n := "unicode/utf8.acceptRanges") (d := Rows.laid_unicode_utf8_acceptRanges) (.tail _ (.tail _ (.tail _ (.head _))))
      rw [← zaccept]; exact this
theorem zlaidOut : laidOutB Tryz.prog = true := by kernel_rfl
/-- An argument reads as it did. -/
theorem zagain {H : Type} {enc : TypeId × Value → H} {t : TypeId} (hr : Tryz.prog.readableRec t = true) (hrow : t < Tryz.prog.types.size) {W W' : World} {x : Value} {d : DataW H} {p : List MemPlace} (h : DataW.Trod enc Tryz.prog W 0 (fun _ => true) true t x d p) (hb : Below W.heap.size W W') (sp : Nat → Bool) (hsp : ∀ q, q ∈ p → sp q.block = true) : DataW.Trod enc Tryz.prog W' 0 sp true t x d p := by
  obtain ⟨fuel, hf⟩ := h
  have hlt := DataW.trod_lt _ _ _ _ hf
  exact WideElems.Trod_stays zlaidOut hr hrow ⟨fuel, hf⟩ (fun q hq => hb.same (hlt q hq)) hsp
end Go.Proofs.YtcfpfnoldgnloaaGreatDoor

namespace Go.Proofs.YtcfpfnoldgnloaaGreatDoor
open Go.RowKit
set_option maxHeartbeats 4000000
set_option maxRecDepth 100000

theorem strsAt_at {D : Nat → Prop} {w : World} {l : List Bs} {a : Option Addr} {n cap : Nat} (h : StrsAt D w l (.slice a n cap)) (i : Nat) (hl : i < l.length) : ∃ b off, a = some ⟨b, off, none⟩ ∧ D b ∧ b < w.heap.size ∧ w.cell? ⟨b, off + i, none⟩ = some (.string (strOf (l.getD i []))) := by
  obtain ⟨a', cap', b, off, hv, h1, h2, h3, h4⟩ := h
  cases hv
  rcases h3 with h3 | ⟨h3, hD⟩
  · omega
  · exact ⟨b, off, h3, hD, World.block_lt_of_cell? _ _ (h4 i hl), h4 i hl⟩
theorem StrsAt.shape {D : Nat → Prop} {w : World} {l : List Bs} {v : Value} (h : StrsAt D w l v) : ∃ a cap, v = .slice a l.length cap := by
  obtain ⟨a', cap', b, off, hv, _⟩ := h; exact ⟨_, _, hv⟩
theorem StrsAt.fits {D : Nat → Prop} {w : World} {l : List Bs} {v : Value} (h : StrsAt D w l v) : Fits l.length := by
  obtain ⟨a', cap', b, off, hv, h1, h2, _⟩ := h; exact h2
theorem ArsAt.mono {D D' : Nat → Prop} {w : World} (hD : ∀ b, D b → D' b) {l : List Ar} {v : Value} (h : ArsAt D w l v) : ArsAt D' w l v := by
  obtain ⟨a, cap, b, off, hv, h1, h2, h3, h4⟩ := h
  exact ⟨a, cap, b, off, hv, h1, h2, h3.imp id fun h => ⟨h.1, hD _ h.2⟩, h4⟩
theorem FusAt.mono {D D' : Nat → Prop} {w : World} (hD : ∀ b, D b → D' b) {l : List Fu} {v : Value} (h : FusAt D w l v) : FusAt D' w l v := by
  obtain ⟨a, cap, b, off, pv, lv, bv, hv, h1, h2, h3, h4⟩ := h
  exact ⟨a, cap, b, off, pv, lv, bv, hv, h1, h2, h3.imp id fun h => ⟨h.1, hD _ h.2⟩, fun i hi => ⟨(h4 i hi).1, (h4 i hi).2.1.mono hD, (h4 i hi).2.2.1.mono hD, (h4 i hi).2.2.2.mono hD⟩⟩
theorem ArsAt.shape {D : Nat → Prop} {w : World} {l : List Ar} {v : Value} (h : ArsAt D w l v) : ∃ a cap, v = .slice a l.length cap := by
  obtain ⟨a, cap, b, off, hv, _⟩ := h; exact ⟨a, cap, hv⟩
theorem FusAt.shape {D : Nat → Prop} {w : World} {l : List Fu} {v : Value} (h : FusAt D w l v) : ∃ a cap, v = .slice a l.length cap := by
  obtain ⟨a, cap, b, off, pv, lv, bv, hv, _⟩ := h; exact ⟨a, cap, hv⟩
theorem ArsAt.fits {D : Nat → Prop} {w : World} {l : List Ar} {v : Value} (h : ArsAt D w l v) : Fits l.length := by
  obtain ⟨a, cap, b, off, hv, h1, h2, _⟩ := h; exact h2
theorem FusAt.fits {D : Nat → Prop} {w : World} {l : List Fu} {v : Value} (h : FusAt D w l v) : Fits l.length := by
  obtain ⟨a, cap, b, off, pv, lv, bv, hv, h1, h2, _⟩ := h; exact h2
theorem ArsAt.cellAt {D : Nat → Prop} {w : World} {l : List Ar} {a : Option Addr} {n cap : Nat} (h : ArsAt D w l (.slice a n cap)) (i : Nat) (hl : i < l.length) : ∃ b off, a = some ⟨b, off, none⟩ ∧ D b ∧ b < w.heap.size ∧
    w.cell? ⟨b, off + i * 2, none⟩ = some (.string (strOf (arAt l i).name)) ∧ w.cell? ⟨b, off + i * 2 + 1, none⟩ = some (.int .i64 (arAt l i).size) := by
  obtain ⟨a', cap', b, off, hv, h1, h2, h3, h4⟩ := h
  cases hv
  rcases h3 with h3 | ⟨h3, hD⟩
  · omega
  · exact ⟨b, off, h3, hD, World.block_lt_of_cell? _ _ (h4 i hl).1, (h4 i hl).1, (h4 i hl).2⟩
theorem FusAt.cellAt {D : Nat → Prop} {w : World} {l : List Fu} {a : Option Addr} {n cap : Nat} (h : FusAt D w l (.slice a n cap)) (i : Nat) (hl : i < l.length) : ∃ b off p v s, a = some ⟨b, off, none⟩ ∧ D b ∧ b < w.heap.size ∧
    w.cell? ⟨b, off + i * 4, none⟩ = some (.string (strOf (fuAt l i).name)) ∧ w.cell? ⟨b, off + i * 4 + 1, none⟩ = some p ∧ w.cell? ⟨b, off + i * 4 + 2, none⟩ = some v ∧ w.cell? ⟨b, off + i * 4 + 3, none⟩ = some s ∧
    StrsAt D w (fuAt l i).params p ∧ StrsAt D w (fuAt l i).locals v ∧ StsAt D w (fuAt l i).body s := by
  obtain ⟨a', cap', b, off, pv, lv, bv, hv, h1, h2, h3, h4⟩ := h
  cases hv
  rcases h3 with h3 | ⟨h3, hD⟩
  · omega
  · obtain ⟨⟨c0, c1, c2, c3⟩, e1, e2, e3⟩ := h4 i hl
    exact ⟨b, off, pv i, lv i, bv i, h3, hD, World.block_lt_of_cell? _ _ c0, c0, c1, c2, c3, e1, e2, e3⟩

end Go.Proofs.YtcfpfnoldgnloaaGreatDoor

namespace Go.Proofs.YtcfpfnoldgnloaaGreatDoor
open Go.RowKit
set_option maxHeartbeats 4000000
set_option maxRecDepth 100000

abbrev exV (e : Ex) (s : Value) : Value := .agg #[.int .i64 e.kind, .int .i64 e.op, .int .i64 e.n, .string (strOf e.name), s]
theorem i64_small {n : Int} (h : -1000000 ≤ n ∧ n ≤ 1000000) : I64 n := ⟨by omega, by omega⟩
theorem infoEx : (Tryz.prog.info? 27).map (fun i => (i.zero, i.size, i.bytes)) = some (some (.agg #[.int .i64 0, .int .i64 0, .int .i64 0, .string ⟨#[]⟩, .slice none 0 0]), 5, 64) := by kernel_rfl
theorem ExsAt.zero {D : Nat → Prop} {w : World} : ExsAt D w [] (.slice none 0 0) :=
  .mk [] none 0 0 0 (fun _ => undef) (Nat.le_refl _) (by show _ ≤ _; simp) (.inl rfl) (fun i hi => absurd hi (Nat.not_lt_zero _)) (fun i hi => absurd hi (Nat.not_lt_zero _)) (fun i hi => absurd hi (Nat.not_lt_zero _)) (fun i hi => absurd hi (Nat.not_lt_zero _)) (fun i hi => absurd hi (Nat.not_lt_zero _)) (fun i hi => absurd hi (Nat.not_lt_zero _)) (fun i hi => absurd hi (Nat.not_lt_zero _))
theorem StsAt.zero {D : Nat → Prop} {w : World} : StsAt D w [] (.slice none 0 0) :=
  .mk [] none 0 0 0 (fun _ => undef) (fun _ => undef) (fun _ => undef) (Nat.le_refl _) (by show _ ≤ _; simp) (.inl rfl) (fun i hi => absurd hi (Nat.not_lt_zero _)) (fun i hi => absurd hi (Nat.not_lt_zero _)) (fun i hi => absurd hi (Nat.not_lt_zero _)) (fun i hi => absurd hi (Nat.not_lt_zero _)) (fun i hi => absurd hi (Nat.not_lt_zero _)) (fun i hi => absurd hi (Nat.not_lt_zero _)) (fun i hi => absurd hi (Nat.not_lt_zero _)) (fun i hi => absurd hi (Nat.not_lt_zero _))
theorem StrsAt.zero {D : Nat → Prop} {w : World} : StrsAt D w [] (.slice none 0 0) :=
  ⟨_, 0, 0, 0, rfl, Nat.le_refl _, by show _ ≤ _; simp, .inl rfl, fun i hi => absurd hi (Nat.not_lt_zero _)⟩
theorem ArsAt.zero {D : Nat → Prop} {w : World} : ArsAt D w [] (.slice none 0 0) :=
  ⟨_, 0, 0, 0, rfl, Nat.le_refl _, by show _ ≤ _; simp, .inl rfl, fun i hi => absurd hi (Nat.not_lt_zero _)⟩
theorem FusAt.zero {D : Nat → Prop} {w : World} : FusAt D w [] (.slice none 0 0) :=
  ⟨_, 0, 0, 0, fun _ => undef, fun _ => undef, fun _ => undef, rfl, Nat.le_refl _, by show _ ≤ _; simp, .inl rfl, fun i hi => absurd hi (Nat.not_lt_zero _)⟩

/-- The cells of an expression, a statement, a function. -/
def exCells (e : Ex) (s : Value) : List Value := [.int .i64 e.kind, .int .i64 e.op, .int .i64 e.n, .string (strOf e.name), s]
theorem RowAt.new (w : World) (cs : List Value) (T : TypeId) : RowAt (w.alloc (.cells cs.toArray T)) w.heap.size 0 cs := fun i hi => by simp
theorem RowAt.at {w : World} {b : Nat} {cs : List Value} (h : RowAt w b 0 cs) (i : Nat) (v : Value) (hi : cs[i]? = some v) : w.cell? ⟨b, i, none⟩ = some v := by
  obtain ⟨hl, e⟩ := List.getElem?_eq_some_iff.1 hi
  have := h i hl
  rw [e] at this; simpa using this
theorem ExsAt.one {D : Nat → Prop} {w : World} {b : Nat} (e : Ex) (s : Value) (hD : D b) (h : RowAt w b 0 (exCells e s)) (hs : ExsAt D w e.args s) (hn : I64 e.n) : ExsAt D w [e] (.slice (some ⟨b, 0, none⟩) 1 1) := by
  refine .mk [e] _ 1 b 0 (fun _ => s) (Nat.le_refl _) (by show _ ≤ _; simp) (.inr ⟨rfl, hD⟩) ?_ ?_ ?_ ?_ ?_ ?_ ?_
  all_goals
    intro i hi
    have hi0 : i = 0 := by simp at hi; omega
    subst hi0
  · exact h.at 0 _ rfl
  · exact h.at 1 _ rfl
  · exact h.at 2 _ rfl
  · exact h.at 3 _ rfl
  · exact h.at 4 _ rfl
  · exact hs
  · exact hn
theorem ExsAt.two {D : Nat → Prop} {w : World} {b : Nat} (e f : Ex) (s t : Value) (hD : D b) (h : RowAt w b 0 (exCells e s ++ exCells f t)) (hs : ExsAt D w e.args s) (hn : I64 e.n) (ht : ExsAt D w f.args t) (hm : I64 f.n) : ExsAt D w [e, f] (.slice (some ⟨b, 0, none⟩) 2 2) := by
  refine .mk [e, f] _ 2 b 0 (fun i => if i = 0 then s else t) (Nat.le_refl _) (by show _ ≤ _; simp) (.inr ⟨rfl, hD⟩) ?_ ?_ ?_ ?_ ?_ ?_ ?_
  all_goals
    intro i hi
    have hi0 : i = 0 ∨ i = 1 := by simp at hi; omega
    rcases hi0 with rfl | rfl
  · exact h.at 0 _ rfl
  · exact h.at 5 _ rfl
  · exact h.at 1 _ rfl
  · exact h.at 6 _ rfl
  · exact h.at 2 _ rfl
  · exact h.at 7 _ rfl
  · exact h.at 3 _ rfl
  · exact h.at 8 _ rfl
  · exact h.at 4 _ rfl
  · exact h.at 9 _ rfl
  · exact hs
  · exact ht
  · exact hn
  · exact hm
def stCells (x : St) (a t e : Value) : List Value := [.int .i64 x.kind, .string (strOf x.name), a, t, e]
theorem StsAt.one {D : Nat → Prop} {w : World} {b : Nat} (x : St) (a t e : Value) (hD : D b) (h : RowAt w b 0 (stCells x a t e)) (ha : ExsAt D w x.args a) (ht : StsAt D w x.thn t) (he : StsAt D w x.els e) : StsAt D w [x] (.slice (some ⟨b, 0, none⟩) 1 1) := by
  refine .mk [x] _ 1 b 0 (fun _ => a) (fun _ => t) (fun _ => e) (Nat.le_refl _) (by show _ ≤ _; simp) (.inr ⟨rfl, hD⟩) ?_ ?_ ?_ ?_ ?_ ?_ ?_ ?_
  all_goals
    intro i hi
    have hi0 : i = 0 := by simp at hi; omega
    subst hi0
  · exact h.at 0 _ rfl
  · exact h.at 1 _ rfl
  · exact h.at 2 _ rfl
  · exact h.at 3 _ rfl
  · exact h.at 4 _ rfl
  · exact ha
  · exact ht
  · exact he
def fuCells (f : Fu) (p l s : Value) : List Value := [.string (strOf f.name), p, l, s]
theorem FusAt.one {D : Nat → Prop} {w : World} {b : Nat} (f : Fu) (p l s : Value) (hD : D b) (h : RowAt w b 0 (fuCells f p l s)) (hp : StrsAt D w f.params p) (hl : StrsAt D w f.locals l) (hs : StsAt D w f.body s) : FusAt D w [f] (.slice (some ⟨b, 0, none⟩) 1 1) := by
  refine ⟨_, 1, b, 0, fun _ => p, fun _ => l, fun _ => s, rfl, Nat.le_refl _, by show _ ≤ _; simp, .inr ⟨rfl, hD⟩, ?_⟩
  intro i hi
  have hi0 : i = 0 := by simp at hi; omega
  subst hi0
  exact ⟨⟨h.at 0 _ rfl, h.at 1 _ rfl, h.at 2 _ rfl, h.at 3 _ rfl⟩, hp, hl, hs⟩
theorem RowAt.alloc {w : World} {b : Nat} {cs : List Value} (h : RowAt w b 0 cs) (o : Obj) : RowAt (w.alloc o) b 0 cs := h.below ((Below.refl _ _).alloc (Nat.le_refl _) _)
end Go.Proofs.YtcfpfnoldgnloaaGreatDoor

namespace Go.Proofs.YtcfpfnoldgnloaaGreatDoor

/-- Which of n things a raw number speaks of. -/
def pickOf (c n : Int) : Int := (if c < 0 then -(c + 1) else c) % n
theorem pickOf_range (c n : Int) (h : 0 < n) : 0 ≤ pickOf c n ∧ pickOf c n < n := ⟨Int.emod_nonneg _ (by omega), Int.emod_lt_of_pos _ h⟩
/-- The next raw number, of n things; where the next one stands. -/
def gNext (raw : List Int) (a : Nat) (n : Int) : Int × Nat := if raw.length ≤ a then (0, a) else (pickOf (raw.getD a 0) n, a + 1)
theorem gNext_range (raw : List Int) (a : Nat) (n : Int) (h : 0 < n) : 0 ≤ (gNext raw a n).1 ∧ (gNext raw a n).1 < n := by
  unfold gNext; split
  · exact ⟨Int.le_refl _, h⟩
  · exact pickOf_range _ _ h
theorem gNext_le (raw : List Int) (a : Nat) (n : Int) (h : a ≤ raw.length) : (gNext raw a n).2 ≤ raw.length := by
  unfold gNext; split
  · exact h
  · show a + 1 ≤ _; omega
def sufs : List Bs := [[], [49], [95], [90, 57], [105, 102], [120], [48], [97, 97], [105, 110, 116, 105, 110, 116], [113, 55], [66], [48, 48]]
def varOf (c : Int) : Bs := UInt8.ofNat (97 + (pickOf c 312 % 26).toNat) :: sufs.getD (pickOf c 312 / 26).toNat []
theorem var_all : ∀ k : Fin 312, isName (UInt8.ofNat (97 + (k.val % 26)) :: sufs.getD (k.val / 26) []) = true := by decide +kernel
theorem varOf_name (c : Int) : isName (varOf c) = true := by
  have h := pickOf_range c 312 (by decide)
  have q := var_all ⟨(pickOf c 312).toNat, by omega⟩
  unfold varOf
  have e1 : (pickOf c 312 % 26).toNat = (pickOf c 312).toNat % 26 := by omega
  have e2 : (pickOf c 312 / 26).toNat = (pickOf c 312).toNat / 26 := by omega
  rw [e1, e2]; exact q
structure Sc where
  vars : List Bs
  arrays : List Ar
  funcs : List Fu
  free : Bool
  loop : Bool
def gName (free : Bool) (l : List Bs) (raw : List Int) (a : Nat) : Bs × Nat :=
  if free || l.isEmpty then (varOf (gNext raw a 312).1, (gNext raw a 312).2) else (l.getD (gNext raw a l.length).1.toNat [], (gNext raw a l.length).2)
def gArray (free : Bool) (l : List Ar) (raw : List Int) (a : Nat) : Ar × Nat :=
  if free || l.isEmpty then (⟨varOf (gNext raw a 312).1, 1 + (gNext raw (gNext raw a 312).2 1000).1⟩, (gNext raw (gNext raw a 312).2 1000).2) else (arAt l (gNext raw a l.length).1.toNat, (gNext raw a l.length).2)
def numOf (n j : Int) : Int :=
  if j = 0 then 0 else if j = 1 then 1 else if j = 2 then 2 else if j = 3 then 3 else if j = 4 then n else if j = 5 then n * n else if j = 6 then 2 ^ (n % 63).toNat else 9223372036854775807
/-- So many, one behind the other. -/
def gMany (g : Nat → Ex × Nat) : Nat → Nat → List Ex × Nat
  | 0, a => ([], a)
  | c + 1, a => ((gMany g c a).1 ++ [(g (gMany g c a).2).1], (g (gMany g c a).2).2)
def gCall (sc : Sc) (raw : List Int) (g : Nat → Ex × Nat) (a : Nat) : Ex × Nat :=
  if sc.free || sc.funcs.isEmpty then
    let r := gNext raw a 312; let q := gNext raw r.2 7; let m := gMany g q.1.toNat q.2
    (.mk 5 0 0 (varOf r.1) m.1, m.2)
  else
    let r := gNext raw a sc.funcs.length; let f := fuAt sc.funcs r.1.toNat; let m := gMany g f.params.length r.2
    (.mk 5 0 0 f.name m.1, m.2)
def Sc.hasVars (sc : Sc) : Bool := !sc.vars.isEmpty || sc.free
def Sc.hasArrays (sc : Sc) : Bool := !sc.arrays.isEmpty || sc.free
def Sc.hasFuncs (sc : Sc) : Bool := !sc.funcs.isEmpty || sc.free
def gK (raw : List Int) (d a : Nat) : Int := if d < 2 then (gNext raw a 12).1 % 4 else (gNext raw a 12).1
/-- What is made of the kind k, where the next number stands at a. -/
def gKind (sc : Sc) (raw : List Int) (g : Nat → Ex × Nat) (k : Int) (a : Nat) : Ex × Nat :=
  if (k = 1 ∨ k = 2) ∧ sc.hasVars = true then
    let n := gName sc.free sc.vars raw a
    (.mk 2 0 0 n.1 [], n.2)
  else if k = 3 ∧ (gNext raw a 3).1 = 2 then (.mk 7 0 0 [] [], (gNext raw a 3).2)
  else if k < 4 then
    let b := if k = 3 then (gNext raw a 3).2 else a
    let n := gNext raw b 1000; let j := gNext raw n.2 8
    (.mk 1 0 (numOf n.1 j.1) [] [], j.2)
  else if k = 4 then
    let o := gNext raw a 3; let x := g o.2
    (.mk 3 (17 + o.1) 0 [] [x.1], x.2)
  else if k = 5 ∧ sc.hasArrays = true then
    let n := gArray sc.free sc.arrays raw a; let x := g n.2
    (.mk 6 0 0 n.1.name [x.1], x.2)
  else if k = 6 ∧ sc.hasFuncs = true then gCall sc raw g a
  else
    let o := gNext raw a 16; let x := g o.2; let y := g x.2
    (.mk 4 (1 + o.1) 0 [] [x.1, y.1], y.2)
def gStep (sc : Sc) (raw : List Int) (d : Nat) (g : Nat → Ex × Nat) (a : Nat) : Ex × Nat := gKind sc raw g (gK raw d a) (gNext raw a 12).2
def gExpr (sc : Sc) (raw : List Int) : Nat → Nat → Ex × Nat
  | 0 => gStep sc raw 0 (fun a => (Ex.nil, a))
  | d + 1 => gStep sc raw (d + 1) (gExpr sc raw d)

/-- A scope whose names are names. -/
structure Sc.Ok (sc : Sc) : Prop where
  vars : ∀ x, x ∈ sc.vars → isName x = true
  arrays : ∀ x, x ∈ sc.arrays → isName x.name = true
  funcs : ∀ x, x ∈ sc.funcs → isName x.name = true ∧ x.params.length ≤ 6
theorem gmem {α : Type} {l : List α} {d : α} {i : Nat} (h : i < l.length) : l.getD i d ∈ l := by
  rw [List.getD_eq_getElem?_getD, List.getElem?_eq_getElem h]; exact List.getElem_mem h
theorem gpos {α : Type} {l : List α} {b : Bool} (h : ¬ (b || l.isEmpty) = true) : 0 < l.length := by
  cases l with
  | nil => simp at h
  | cons x l => simp
theorem gName_ok {sc : Sc} (h : sc.Ok) (raw : List Int) (a : Nat) : isName (gName sc.free sc.vars raw a).1 = true := by
  unfold gName; split
  · exact varOf_name _
  · rename_i hn
    have hl := gpos hn
    have := gNext_range raw a sc.vars.length (by omega)
    exact h.vars _ (gmem (by omega))
theorem gArray_ok {sc : Sc} (h : sc.Ok) (raw : List Int) (a : Nat) : isName (gArray sc.free sc.arrays raw a).1.name = true := by
  unfold gArray; split
  · exact varOf_name _
  · rename_i hn
    have hl := gpos hn
    have := gNext_range raw a sc.arrays.length (by omega)
    exact h.arrays _ (gmem (by omega))
def GoodEx (d : Nat) (e : Ex) : Prop := deepOk (max d 1) e = true ∧ wellOk e = true
theorem gMany_len (g : Nat → Ex × Nat) : ∀ c a, (gMany g c a).1.length = c
  | 0, a => rfl
  | c + 1, a => by rw [gMany]; simp [gMany_len g c a]
theorem gMany_all (g : Nat → Ex × Nat) (P : Ex → Prop) (hg : ∀ a, P (g a).1) : ∀ c a, ∀ x, x ∈ (gMany g c a).1 → P x
  | 0, a, x, hx => by cases hx
  | c + 1, a, x, hx => by
    rw [gMany] at hx
    rcases List.mem_append.1 hx with h | h
    · exact gMany_all g P hg c a x h
    · rw [List.mem_singleton.1 h]; exact hg _
theorem good_mk {d : Nat} {k o n : Int} {nm : Bs} {args : List Ex} (hh : wellHere (.mk k o n nm args) = true) (ha : ∀ x, x ∈ args → GoodEx d x) (hd : args = [] ∨ 1 ≤ d) : GoodEx (d + 1) (.mk k o n nm args) := by
  refine ⟨?_, ?_⟩
  · rw [show max (d + 1) 1 = d + 1 by omega]
    show args.all (deepOk d) = true
    rw [List.all_eq_true]
    intro x hx
    have h1 := (ha x hx).1
    rcases hd with rfl | hd
    · cases hx
    · rwa [show max d 1 = d by omega] at h1
  · rw [wellOk_eq, hh, Bool.true_and, List.all_eq_true]
    exact fun x hx => (ha x hx).2
theorem good_leaf {d : Nat} {k o n : Int} {nm : Bs} (hh : wellHere (.mk k o n nm []) = true) : GoodEx d (.mk k o n nm []) := by
  refine ⟨?_, ?_⟩
  · obtain ⟨m, hm⟩ : ∃ m, max d 1 = m + 1 := ⟨max d 1 - 1, by omega⟩
    rw [hm]; rfl
  · rw [wellOk_eq, hh, Bool.true_and]; rfl
theorem numOf_range (n j : Int) (h : 0 ≤ n ∧ n < 1000) : 0 ≤ numOf n j ∧ numOf n j ≤ 9223372036854775807 := by
  unfold numOf
  repeat' split
  all_goals try omega
  · constructor
    · exact Int.mul_nonneg h.1 h.1
    · have : n * n ≤ 999 * 999 := Int.mul_le_mul (by omega) (by omega) (by omega) (by omega)
      omega
  · have h1 : (n % 63).toNat ≤ 62 := by omega
    have h2 : (2 : Nat) ^ (n % 63).toNat ≤ 2 ^ 62 := Nat.pow_le_pow_right (by decide) h1
    have h3 : ((2 : Int) ^ (n % 63).toNat) = ((2 ^ (n % 63).toNat : Nat) : Int) := by simp
    rw [h3]
    constructor
    · exact Int.natCast_nonneg _
    · have : (2 : Nat) ^ 62 ≤ 9223372036854775807 := by decide
      exact Int.ofNat_le.2 (Nat.le_trans h2 this)
theorem levelOf_ops : ∀ i : Fin 16, 0 < levelOf (1 + (i.val : Int)) := by decide +kernel
theorem level_op (o : Int) (h : 0 ≤ o ∧ o < 16) : 0 < levelOf (1 + o) := by
  have := levelOf_ops ⟨o.toNat, by omega⟩
  simpa only [Int.toNat_of_nonneg h.1] using this
theorem gKind_ok {sc : Sc} (hs : sc.Ok) (raw : List Int) (d : Nat) (g : Nat → Ex × Nat) (k : Int) (hk : 4 ≤ k → 1 ≤ d ∧ ∀ a, GoodEx d (g a).1) (a : Nat) : GoodEx (d + 1) (gKind sc raw g k a).1 := by
  unfold gKind
  split
  · refine good_leaf ?_
    have := gName_ok hs raw a
    simp [wellHere, onlyOk, onlyOp, onlyN, onlyName, onlyArgs, Ex.kind, Ex.op, Ex.n, Ex.name, Ex.args, this]
  split
  · exact good_leaf (by decide)
  split
  · refine good_leaf ?_
    have h1 := gNext_range raw (if k = 3 then (gNext raw a 3).2 else a) 1000 (by decide)
    have h2 := (numOf_range _ (gNext raw (gNext raw (if k = 3 then (gNext raw a 3).2 else a) 1000).2 8).1 h1).1
    simp only [wellHere, onlyOk, onlyOp, onlyN, onlyName, onlyArgs, Ex.kind, Ex.op, Ex.n, Ex.name, Ex.args]
    simp [h2]
  rename_i h1 h2 h3
  obtain ⟨hk, hg⟩ := hk (by omega)
  split
  · refine good_mk ?_ (fun x hx => by rw [List.mem_singleton.1 hx]; exact hg _) (.inr hk)
    have := gNext_range raw a 3 (by decide)
    have e : 17 + (gNext raw a 3).1 = 17 ∨ 17 + (gNext raw a 3).1 = 18 ∨ 17 + (gNext raw a 3).1 = 19 := by omega
    simp only [wellHere, onlyOk, onlyOp, onlyN, onlyName, onlyArgs, Ex.kind, Ex.op, Ex.n, Ex.name, Ex.args]
    simp [e]
  split
  · refine good_mk ?_ (fun x hx => by rw [List.mem_singleton.1 hx]; exact hg _) (.inr hk)
    have := gArray_ok hs raw a
    simp [wellHere, onlyOk, onlyOp, onlyN, onlyName, onlyArgs, Ex.kind, Ex.op, Ex.n, Ex.name, Ex.args, this]
  split
  · unfold gCall
    split
    · refine good_mk ?_ (gMany_all g _ hg _ _) (.inr hk)
      have h7 := gNext_range raw (gNext raw a 312).2 7 (by decide)
      have hn := varOf_name (gNext raw a 312).1
      simp only [wellHere, onlyOk, onlyOp, onlyN, onlyName, onlyArgs, Ex.kind, Ex.op, Ex.n, Ex.name, Ex.args, gMany_len]
      simp [hn]; omega
    · rename_i hn
      have hl := gpos hn
      have hr := gNext_range raw a sc.funcs.length (by omega)
      have hf : isName (fuAt sc.funcs (gNext raw a sc.funcs.length).1.toNat).name = true ∧ (fuAt sc.funcs (gNext raw a sc.funcs.length).1.toNat).params.length ≤ 6 := hs.funcs _ (gmem (d := Fu.nil) (i := (gNext raw a sc.funcs.length).1.toNat) (by omega))
      dsimp only
      generalize fuAt sc.funcs (gNext raw a sc.funcs.length).1.toNat = f at hf ⊢
      refine good_mk ?_ (gMany_all g _ hg _ _) (.inr hk)
      simp only [wellHere, onlyOk, onlyOp, onlyN, onlyName, onlyArgs, Ex.kind, Ex.op, Ex.n, Ex.name, Ex.args, gMany_len]
      simp only [hf.1]
      simp; omega
  · refine good_mk ?_ (fun x hx => ?_) (.inr hk)
    · have := level_op _ (gNext_range raw a 16 (by decide))
      simp only [wellHere, onlyOk, onlyOp, onlyN, onlyName, onlyArgs, Ex.kind, Ex.op, Ex.n, Ex.name, Ex.args]
      simp [this]
    · rcases List.mem_cons.1 hx with rfl | hx
      · exact hg _
      · rw [List.mem_singleton.1 hx]; exact hg _
theorem gK_low (raw : List Int) (d a : Nat) (h : d < 2) : gK raw d a < 4 := by
  unfold gK; rw [if_pos h]
  have := gNext_range raw a 12 (by decide)
  omega
theorem gExpr_ok {sc : Sc} (hs : sc.Ok) (raw : List Int) : ∀ d a, GoodEx d (gExpr sc raw d a).1
  | 0, a => by
    rw [gExpr]; unfold gStep
    exact gKind_ok hs raw 0 _ _ (fun h4 => by have := gK_low raw 0 a (by omega); omega) _
  | d + 1, a => by
    rw [gExpr]; unfold gStep
    refine gKind_ok hs raw d _ _ (fun h4 => ⟨?_, fun b => gExpr_ok hs raw d b⟩) _
    rcases Nat.lt_or_ge (d + 1) 2 with h | h
    · have := gK_low raw (d + 1) a h; omega
    · omega
/-- How long a text may be. -/
def exBound : Nat → Nat
  | 0 => 21
  | d + 1 => 6 * exBound d + 64
end Go.Proofs.YtcfpfnoldgnloaaGreatDoor
