/-
  MachFaults: a place that is none, an unknown ecall, a way back to nowhere, the end of code are faults. Conditions: ints; the library's variables lie in memory.
-/
import Derived.Test.YtpgjfpphigeliaaGreatDoorMachF
set_option linter.unusedVariables false
set_option linter.unusedSimpArgs false
namespace Go.Proofs.YtpgjfpphigeliaaGreatDoor
open Go.RowKit
set_option maxHeartbeats 4000000
set_option maxRecDepth 100000

theorem fa_0 (wh by' : Int) (hw : I64 wh) (hb : I64 by') (hk : ipick wh 6 = 0) (w : World) (hl : ILib w) :
    Calls Tryz.prog 6 #[.int .i64 wh, .int .i64 by'] w fun e w' => e = .returned (.bool true) ∧ Below w.heap.size w w' := by
  obtain ⟨n0, n1⟩ := ipick_range by' 1000 (by decide)
  have hr := fa0_run (ipick by' 1000) n0 n1
  have hf := fa0_ok (ipick by' 1000) n0 n1
  have HAW := Lib.hid (jawake_any w hl)
  have HPK := Lib.hid (fun w => jpick_any wh 6 hw (by decide) (by decide) w)
  rw [hk] at HPK
  have HPB := Lib.hid (fun w => jpick_any by' 1000 hb (by decide) (by decide) w)
  have HRUN := Lib.hid (fun va vl w hc => run_tells (fa0 (ipick by' 1000)) hf.1.2 hf.2 [] (fun z hz => by cases hz) 99 (by decide) (by decide) 6 0 2 [] hr va vl _ w hc (inp_nil w))
  have HS := Lib.hid (fun v1 v2 w h1 h2 => jsame_eq 6 0 2 [] v1 v2 w h1 h2)
  clear hl hr hk hf
  generalize ipick by' 1000 = n at *
  go_enter Tryz.func6, Tryz.ntmps6
  go_wp2_with fail
  refine (HAW.out).mono ?_
  rintro e w1 ⟨rfl, hb1'⟩
  have HB := Lib.hid hb1'
  clear hb1' HAW
  go_wp2_with fail
  refine (HPB.out _).mono ?_
  rintro e w2 ⟨rfl, rfl⟩
  clear HPB
  go_upto_region 4 with (fail)
  have hbX1 : Below w1.heap.size w1 (w1.alloc (.cells #[.string ⟨#[97]⟩, .int .i64 10] 37)) := (Below.refl _ _).alloc (Nat.le_refl _) _
  have hoX := OwnAt.new w1 [.string ⟨#[97]⟩, .int .i64 10] 37
  obtain ⟨WA, hWX⟩ : ∃ WA, w1.alloc (.cells #[.string ⟨#[97]⟩, .int .i64 10] 37) = WA := ⟨_, rfl⟩
  have hsWA : WA.heap.size = w1.heap.size + 1 := by rw [← hWX]; simp
  rw [hWX] at hbX1 hoX ⊢
  replace HB := Lib.hid (HB.out.trans (hbX1.mono HB.out.size))
  have HAR := Lib.hid hoX
  clear hbX1 hWX hoX
  have hlo : w.heap.size ≤ w1.heap.size + 1 := by have := HB.out.size; omega
  have hbX2 : Below WA.heap.size WA (WA.alloc (.cells #[.slice (some ⟨w1.heap.size, 0, none⟩) 1 1, .slice none 0 0] 27)) := (Below.refl _ _).alloc (Nat.le_refl _) _
  have hoX := OwnAt.new WA [.slice (some ⟨w1.heap.size, 0, none⟩) 1 1, .slice none 0 0] 27
  obtain ⟨WC, hWX⟩ : ∃ WC, WA.alloc (.cells #[.slice (some ⟨w1.heap.size, 0, none⟩) 1 1, .slice none 0 0] 27) = WC := ⟨_, rfl⟩
  rw [hsWA] at hoX
  clear hsWA
  rw [hWX] at hbX2 hoX ⊢
  replace HB := Lib.hid (HB.out.trans (hbX2.mono HB.out.size))
  replace HAR := Lib.hid (HAR.out.old hbX2)
  have HO := Lib.hid hoX
  clear hbX2 hWX hoX
  go_wp2_with fail
  refine (HPK.out _).mono ?_
  rintro e w3 ⟨rfl, rfl⟩
  clear HPK
  go_wp2_with fail
  refine (mline_any _ _ _ _ _ _ _).mono ?_
  rintro e u0 ⟨rfl, hbl0⟩
  replace HB := Lib.hid (HB.out.trans (hbl0.mono HB.out.size))
  replace HAR := Lib.hid (HAR.out.old hbl0)
  replace HO := Lib.hid (HO.out.old hbl0)
  clear hbl0
  go_wp2_with fail
  refine (mline_any _ _ _ _ _ _ _).mono ?_
  rintro e u1 ⟨rfl, hbl1⟩
  replace HB := Lib.hid (HB.out.trans (hbl1.mono HB.out.size))
  replace HAR := Lib.hid (HAR.out.old hbl1)
  replace HO := Lib.hid (HO.out.old hbl1)
  clear hbl1
  have ol := HO.out.lt
  have of1 := HO.out.fz 1
  have o1 := HO.out.at 1 _ rfl
  go_upto_region 18 with (fail)
  clear of1 o1
  obtain ⟨WS, hWS⟩ : ∃ WS, u1.setCell ⟨w1.heap.size + 1, 1, none⟩ (.slice (some ⟨u1.heap.size, 0, none⟩) 2 2) = WS := ⟨_, rfl⟩
  have HO2 : Hid (OwnAt WS (w1.heap.size + 1) [.slice (some ⟨w1.heap.size, 0, none⟩) 1 1, .slice (some ⟨u1.heap.size, 0, none⟩) 2 2] 27) := Lib.hid (by rw [← hWS]; exact HO.out.set 1 _)
  have HAR2 : Hid (OwnAt WS w1.heap.size [.string ⟨#[97]⟩, .int .i64 10] 37) := Lib.hid (by rw [← hWS]; exact HAR.out.other (by omega) 1 _)
  replace HB := Lib.hid (by have := zbelow_set HB.out hlo 1 (.slice (some ⟨u1.heap.size, 0, none⟩) 2 2); rw [hWS] at this; exact this)
  have hsS : WS.heap.size = u1.heap.size := by rw [← hWS]; simp
  rw [hWS]
  clear hWS HO HAR ol hlo
  have hbX3 : Below WS.heap.size WS (WS.alloc (.cells #[.string ⟨#[]⟩, .int .i64 16, .int .i64 5, .int .i64 0, .int .i64 0, .int .i64 (65616 + 8 * n), .string ⟨#[]⟩, .string ⟨#[]⟩, .int .i64 19, .int .i64 6, .int .i64 5, .int .i64 0, .int .i64 0, .string ⟨#[]⟩] 41)) := (Below.refl _ _).alloc (Nat.le_refl _) _
  have hoX := OwnAt.new WS [.string ⟨#[]⟩, .int .i64 16, .int .i64 5, .int .i64 0, .int .i64 0, .int .i64 (65616 + 8 * n), .string ⟨#[]⟩, .string ⟨#[]⟩, .int .i64 19, .int .i64 6, .int .i64 5, .int .i64 0, .int .i64 0, .string ⟨#[]⟩] 41
  obtain ⟨WL, hWX⟩ : ∃ WL, WS.alloc (.cells #[.string ⟨#[]⟩, .int .i64 16, .int .i64 5, .int .i64 0, .int .i64 0, .int .i64 (65616 + 8 * n), .string ⟨#[]⟩, .string ⟨#[]⟩, .int .i64 19, .int .i64 6, .int .i64 5, .int .i64 0, .int .i64 0, .string ⟨#[]⟩] 41) = WL := ⟨_, rfl⟩
  rw [hsS] at hoX
  clear hsS
  rw [hWX] at hbX3 hoX ⊢
  replace HB := Lib.hid (HB.out.trans (hbX3.mono HB.out.size))
  replace HAR2 := Lib.hid (HAR2.out.old hbX3)
  replace HO2 := Lib.hid (HO2.out.old hbX3)
  have HLN := Lib.hid hoX
  clear hbX3 hWX hoX
  have HC : Hid (CodeAt WL (fa0 n) (.slice (some ⟨w1.heap.size, 0, none⟩) 1 1) (.slice (some ⟨u1.heap.size, 0, none⟩) 2 2)) := Lib.hid ⟨ars_block (L := arrA) HAR2.out (of_decide_eq_true rfl), lns_block (L := (fa0 n).lines) HLN.out (of_decide_eq_true rfl)⟩
  clear HLN HAR2
  generalize fa0 n = C at *
  have d0 := HO2.out.at 0 _ rfl
  have d1 := HO2.out.at 1 _ rfl
  go_wp2_with fail
  refine (HRUN.out _ _ _ HC.out).mono ?_
  rintro e wr ⟨ra, rc, rfl, hn1, hbr⟩
  replace HB := Lib.hid (HB.out.trans (hbr.mono HB.out.size))
  replace HO2 := Lib.hid (HO2.out.old hbr)
  replace HC := Lib.hid (HC.out.old hbr)
  clear hbr
  have HN := Lib.hid (RwOwn.nilv hn1 (of_decide_eq_true rfl) intCells_len)
  clear hn1 d0 d1 HRUN
  go_wp2_with fail
  refine (HS.out _ _ _ HN.out (RwAt.nil _ _ _)).mono ?_
  rintro e ws ⟨rfl, hbs⟩
  replace HB := Lib.hid (HB.out.trans (hbs.mono HB.out.size))
  replace HO2 := Lib.hid (HO2.out.old hbs)
  replace HC := Lib.hid (HC.out.old hbs)
  replace HN := Lib.hid (HN.out.old hbs)
  clear hbs
  go_wp2_with fail
  go_ret
  exact ⟨rfl, HB.out⟩
theorem fa_1 (wh by' : Int) (hw : I64 wh) (hb : I64 by') (hk : ipick wh 6 = 1) (w : World) (hl : ILib w) :
    Calls Tryz.prog 6 #[.int .i64 wh, .int .i64 by'] w fun e w' => e = .returned (.bool true) ∧ Below w.heap.size w w' := by
  obtain ⟨n0, n1⟩ := ipick_range by' 1000 (by decide)
  have hr := fa1_run (ipick by' 1000) n0 n1
  have hf := fa1_ok (ipick by' 1000) n0 n1
  have HAW := Lib.hid (jawake_any w hl)
  have HPK := Lib.hid (fun w => jpick_any wh 6 hw (by decide) (by decide) w)
  rw [hk] at HPK
  have HPB := Lib.hid (fun w => jpick_any by' 1000 hb (by decide) (by decide) w)
  have HRUN := Lib.hid (fun va vl w hc => run_tells (fa1 (ipick by' 1000)) hf.1.2 hf.2 [] (fun z hz => by cases hz) 99 (by decide) (by decide) 6 0 2 [] hr va vl _ w hc (inp_nil w))
  have HS := Lib.hid (fun v1 v2 w h1 h2 => jsame_eq 6 0 2 [] v1 v2 w h1 h2)
  clear hl hr hk hf
  generalize ipick by' 1000 = n at *
  go_enter Tryz.func6, Tryz.ntmps6
  go_wp2_with fail
  refine (HAW.out).mono ?_
  rintro e w1 ⟨rfl, hb1'⟩
  have HB := Lib.hid hb1'
  clear hb1' HAW
  go_wp2_with fail
  refine (HPB.out _).mono ?_
  rintro e w2 ⟨rfl, rfl⟩
  clear HPB
  go_upto_region 4 with (fail)
  have hbX1 : Below w1.heap.size w1 (w1.alloc (.cells #[.string ⟨#[97]⟩, .int .i64 10] 37)) := (Below.refl _ _).alloc (Nat.le_refl _) _
  have hoX := OwnAt.new w1 [.string ⟨#[97]⟩, .int .i64 10] 37
  obtain ⟨WA, hWX⟩ : ∃ WA, w1.alloc (.cells #[.string ⟨#[97]⟩, .int .i64 10] 37) = WA := ⟨_, rfl⟩
  have hsWA : WA.heap.size = w1.heap.size + 1 := by rw [← hWX]; simp
  rw [hWX] at hbX1 hoX ⊢
  replace HB := Lib.hid (HB.out.trans (hbX1.mono HB.out.size))
  have HAR := Lib.hid hoX
  clear hbX1 hWX hoX
  have hlo : w.heap.size ≤ w1.heap.size + 1 := by have := HB.out.size; omega
  have hbX2 : Below WA.heap.size WA (WA.alloc (.cells #[.slice (some ⟨w1.heap.size, 0, none⟩) 1 1, .slice none 0 0] 27)) := (Below.refl _ _).alloc (Nat.le_refl _) _
  have hoX := OwnAt.new WA [.slice (some ⟨w1.heap.size, 0, none⟩) 1 1, .slice none 0 0] 27
  obtain ⟨WC, hWX⟩ : ∃ WC, WA.alloc (.cells #[.slice (some ⟨w1.heap.size, 0, none⟩) 1 1, .slice none 0 0] 27) = WC := ⟨_, rfl⟩
  rw [hsWA] at hoX
  clear hsWA
  rw [hWX] at hbX2 hoX ⊢
  replace HB := Lib.hid (HB.out.trans (hbX2.mono HB.out.size))
  replace HAR := Lib.hid (HAR.out.old hbX2)
  have HO := Lib.hid hoX
  clear hbX2 hWX hoX
  go_wp2_with fail
  refine (HPK.out _).mono ?_
  rintro e w3 ⟨rfl, rfl⟩
  clear HPK
  go_wp2_with fail
  refine (mline_any _ _ _ _ _ _ _).mono ?_
  rintro e u0 ⟨rfl, hbl0⟩
  replace HB := Lib.hid (HB.out.trans (hbl0.mono HB.out.size))
  replace HAR := Lib.hid (HAR.out.old hbl0)
  replace HO := Lib.hid (HO.out.old hbl0)
  clear hbl0
  go_wp2_with fail
  refine (mline_any _ _ _ _ _ _ _).mono ?_
  rintro e u1 ⟨rfl, hbl1⟩
  replace HB := Lib.hid (HB.out.trans (hbl1.mono HB.out.size))
  replace HAR := Lib.hid (HAR.out.old hbl1)
  replace HO := Lib.hid (HO.out.old hbl1)
  clear hbl1
  have ol := HO.out.lt
  have of1 := HO.out.fz 1
  have o1 := HO.out.at 1 _ rfl
  go_upto_region 18 with (fail)
  clear of1 o1
  obtain ⟨WS, hWS⟩ : ∃ WS, u1.setCell ⟨w1.heap.size + 1, 1, none⟩ (.slice (some ⟨u1.heap.size, 0, none⟩) 2 2) = WS := ⟨_, rfl⟩
  have HO2 : Hid (OwnAt WS (w1.heap.size + 1) [.slice (some ⟨w1.heap.size, 0, none⟩) 1 1, .slice (some ⟨u1.heap.size, 0, none⟩) 2 2] 27) := Lib.hid (by rw [← hWS]; exact HO.out.set 1 _)
  have HAR2 : Hid (OwnAt WS w1.heap.size [.string ⟨#[97]⟩, .int .i64 10] 37) := Lib.hid (by rw [← hWS]; exact HAR.out.other (by omega) 1 _)
  replace HB := Lib.hid (by have := zbelow_set HB.out hlo 1 (.slice (some ⟨u1.heap.size, 0, none⟩) 2 2); rw [hWS] at this; exact this)
  have hsS : WS.heap.size = u1.heap.size := by rw [← hWS]; simp
  rw [hWS]
  clear hWS HO HAR ol hlo
  have hbX3 : Below WS.heap.size WS (WS.alloc (.cells #[.string ⟨#[]⟩, .int .i64 17, .int .i64 5, .int .i64 0, .int .i64 0, .int .i64 0, .string ⟨#[97]⟩, .string ⟨#[]⟩, .int .i64 20, .int .i64 0, .int .i64 5, .int .i64 5, .int .i64 (1 + n % 7), .string ⟨#[]⟩] 41)) := (Below.refl _ _).alloc (Nat.le_refl _) _
  have hoX := OwnAt.new WS [.string ⟨#[]⟩, .int .i64 17, .int .i64 5, .int .i64 0, .int .i64 0, .int .i64 0, .string ⟨#[97]⟩, .string ⟨#[]⟩, .int .i64 20, .int .i64 0, .int .i64 5, .int .i64 5, .int .i64 (1 + n % 7), .string ⟨#[]⟩] 41
  obtain ⟨WL, hWX⟩ : ∃ WL, WS.alloc (.cells #[.string ⟨#[]⟩, .int .i64 17, .int .i64 5, .int .i64 0, .int .i64 0, .int .i64 0, .string ⟨#[97]⟩, .string ⟨#[]⟩, .int .i64 20, .int .i64 0, .int .i64 5, .int .i64 5, .int .i64 (1 + n % 7), .string ⟨#[]⟩] 41) = WL := ⟨_, rfl⟩
  rw [hsS] at hoX
  clear hsS
  rw [hWX] at hbX3 hoX ⊢
  replace HB := Lib.hid (HB.out.trans (hbX3.mono HB.out.size))
  replace HAR2 := Lib.hid (HAR2.out.old hbX3)
  replace HO2 := Lib.hid (HO2.out.old hbX3)
  have HLN := Lib.hid hoX
  clear hbX3 hWX hoX
  have HC : Hid (CodeAt WL (fa1 n) (.slice (some ⟨w1.heap.size, 0, none⟩) 1 1) (.slice (some ⟨u1.heap.size, 0, none⟩) 2 2)) := Lib.hid ⟨ars_block (L := arrA) HAR2.out (of_decide_eq_true rfl), lns_block (L := (fa1 n).lines) HLN.out (of_decide_eq_true rfl)⟩
  clear HLN HAR2
  generalize fa1 n = C at *
  have d0 := HO2.out.at 0 _ rfl
  have d1 := HO2.out.at 1 _ rfl
  go_wp2_with fail
  refine (HRUN.out _ _ _ HC.out).mono ?_
  rintro e wr ⟨ra, rc, rfl, hn1, hbr⟩
  replace HB := Lib.hid (HB.out.trans (hbr.mono HB.out.size))
  replace HO2 := Lib.hid (HO2.out.old hbr)
  replace HC := Lib.hid (HC.out.old hbr)
  clear hbr
  have HN := Lib.hid (RwOwn.nilv hn1 (of_decide_eq_true rfl) intCells_len)
  clear hn1 d0 d1 HRUN
  go_wp2_with fail
  refine (HS.out _ _ _ HN.out (RwAt.nil _ _ _)).mono ?_
  rintro e ws ⟨rfl, hbs⟩
  replace HB := Lib.hid (HB.out.trans (hbs.mono HB.out.size))
  replace HO2 := Lib.hid (HO2.out.old hbs)
  replace HC := Lib.hid (HC.out.old hbs)
  replace HN := Lib.hid (HN.out.old hbs)
  clear hbs
  go_wp2_with fail
  go_ret
  exact ⟨rfl, HB.out⟩
theorem fa_2 (wh by' : Int) (hw : I64 wh) (hb : I64 by') (hk : ipick wh 6 = 2) (w : World) (hl : ILib w) :
    Calls Tryz.prog 6 #[.int .i64 wh, .int .i64 by'] w fun e w' => e = .returned (.bool true) ∧ Below w.heap.size w w' := by
  obtain ⟨n0, n1⟩ := ipick_range by' 1000 (by decide)
  have hr := fa2_run (ipick by' 1000) n0 n1
  have hf := fa2_ok (ipick by' 1000) n0 n1
  have HAW := Lib.hid (jawake_any w hl)
  have HPK := Lib.hid (fun w => jpick_any wh 6 hw (by decide) (by decide) w)
  rw [hk] at HPK
  have HPB := Lib.hid (fun w => jpick_any by' 1000 hb (by decide) (by decide) w)
  have HRUN := Lib.hid (fun va vl w hc => run_tells (fa2 (ipick by' 1000)) hf.1.2 hf.2 [] (fun z hz => by cases hz) 99 (by decide) (by decide) 6 0 2 [] hr va vl _ w hc (inp_nil w))
  have HS := Lib.hid (fun v1 v2 w h1 h2 => jsame_eq 6 0 2 [] v1 v2 w h1 h2)
  clear hl hr hk hf
  generalize ipick by' 1000 = n at *
  go_enter Tryz.func6, Tryz.ntmps6
  go_wp2_with fail
  refine (HAW.out).mono ?_
  rintro e w1 ⟨rfl, hb1'⟩
  have HB := Lib.hid hb1'
  clear hb1' HAW
  go_wp2_with fail
  refine (HPB.out _).mono ?_
  rintro e w2 ⟨rfl, rfl⟩
  clear HPB
  go_upto_region 4 with (fail)
  have hbX1 : Below w1.heap.size w1 (w1.alloc (.cells #[.string ⟨#[97]⟩, .int .i64 10] 37)) := (Below.refl _ _).alloc (Nat.le_refl _) _
  have hoX := OwnAt.new w1 [.string ⟨#[97]⟩, .int .i64 10] 37
  obtain ⟨WA, hWX⟩ : ∃ WA, w1.alloc (.cells #[.string ⟨#[97]⟩, .int .i64 10] 37) = WA := ⟨_, rfl⟩
  have hsWA : WA.heap.size = w1.heap.size + 1 := by rw [← hWX]; simp
  rw [hWX] at hbX1 hoX ⊢
  replace HB := Lib.hid (HB.out.trans (hbX1.mono HB.out.size))
  have HAR := Lib.hid hoX
  clear hbX1 hWX hoX
  have hlo : w.heap.size ≤ w1.heap.size + 1 := by have := HB.out.size; omega
  have hbX2 : Below WA.heap.size WA (WA.alloc (.cells #[.slice (some ⟨w1.heap.size, 0, none⟩) 1 1, .slice none 0 0] 27)) := (Below.refl _ _).alloc (Nat.le_refl _) _
  have hoX := OwnAt.new WA [.slice (some ⟨w1.heap.size, 0, none⟩) 1 1, .slice none 0 0] 27
  obtain ⟨WC, hWX⟩ : ∃ WC, WA.alloc (.cells #[.slice (some ⟨w1.heap.size, 0, none⟩) 1 1, .slice none 0 0] 27) = WC := ⟨_, rfl⟩
  rw [hsWA] at hoX
  clear hsWA
  rw [hWX] at hbX2 hoX ⊢
  replace HB := Lib.hid (HB.out.trans (hbX2.mono HB.out.size))
  replace HAR := Lib.hid (HAR.out.old hbX2)
  have HO := Lib.hid hoX
  clear hbX2 hWX hoX
  go_wp2_with fail
  refine (HPK.out _).mono ?_
  rintro e w3 ⟨rfl, rfl⟩
  clear HPK
  go_wp2_with fail
  refine (mline_any _ _ _ _ _ _ _).mono ?_
  rintro e u0 ⟨rfl, hbl0⟩
  replace HB := Lib.hid (HB.out.trans (hbl0.mono HB.out.size))
  replace HAR := Lib.hid (HAR.out.old hbl0)
  replace HO := Lib.hid (HO.out.old hbl0)
  clear hbl0
  go_wp2_with fail
  refine (mline_any _ _ _ _ _ _ _).mono ?_
  rintro e u1 ⟨rfl, hbl1⟩
  replace HB := Lib.hid (HB.out.trans (hbl1.mono HB.out.size))
  replace HAR := Lib.hid (HAR.out.old hbl1)
  replace HO := Lib.hid (HO.out.old hbl1)
  clear hbl1
  have ol := HO.out.lt
  have of1 := HO.out.fz 1
  have o1 := HO.out.at 1 _ rfl
  go_upto_region 18 with (fail)
  clear of1 o1
  obtain ⟨WS, hWS⟩ : ∃ WS, u1.setCell ⟨w1.heap.size + 1, 1, none⟩ (.slice (some ⟨u1.heap.size, 0, none⟩) 2 2) = WS := ⟨_, rfl⟩
  have HO2 : Hid (OwnAt WS (w1.heap.size + 1) [.slice (some ⟨w1.heap.size, 0, none⟩) 1 1, .slice (some ⟨u1.heap.size, 0, none⟩) 2 2] 27) := Lib.hid (by rw [← hWS]; exact HO.out.set 1 _)
  have HAR2 : Hid (OwnAt WS w1.heap.size [.string ⟨#[97]⟩, .int .i64 10] 37) := Lib.hid (by rw [← hWS]; exact HAR.out.other (by omega) 1 _)
  replace HB := Lib.hid (by have := zbelow_set HB.out hlo 1 (.slice (some ⟨u1.heap.size, 0, none⟩) 2 2); rw [hWS] at this; exact this)
  have hsS : WS.heap.size = u1.heap.size := by rw [← hWS]; simp
  rw [hWS]
  clear hWS HO HAR ol hlo
  have hbX3 : Below WS.heap.size WS (WS.alloc (.cells #[.string ⟨#[]⟩, .int .i64 16, .int .i64 17, .int .i64 0, .int .i64 0, .int .i64 (6 + n), .string ⟨#[]⟩, .string ⟨#[]⟩, .int .i64 28, .int .i64 0, .int .i64 0, .int .i64 0, .int .i64 0, .string ⟨#[]⟩] 41)) := (Below.refl _ _).alloc (Nat.le_refl _) _
  have hoX := OwnAt.new WS [.string ⟨#[]⟩, .int .i64 16, .int .i64 17, .int .i64 0, .int .i64 0, .int .i64 (6 + n), .string ⟨#[]⟩, .string ⟨#[]⟩, .int .i64 28, .int .i64 0, .int .i64 0, .int .i64 0, .int .i64 0, .string ⟨#[]⟩] 41
  obtain ⟨WL, hWX⟩ : ∃ WL, WS.alloc (.cells #[.string ⟨#[]⟩, .int .i64 16, .int .i64 17, .int .i64 0, .int .i64 0, .int .i64 (6 + n), .string ⟨#[]⟩, .string ⟨#[]⟩, .int .i64 28, .int .i64 0, .int .i64 0, .int .i64 0, .int .i64 0, .string ⟨#[]⟩] 41) = WL := ⟨_, rfl⟩
  rw [hsS] at hoX
  clear hsS
  rw [hWX] at hbX3 hoX ⊢
  replace HB := Lib.hid (HB.out.trans (hbX3.mono HB.out.size))
  replace HAR2 := Lib.hid (HAR2.out.old hbX3)
  replace HO2 := Lib.hid (HO2.out.old hbX3)
  have HLN := Lib.hid hoX
  clear hbX3 hWX hoX
  have HC : Hid (CodeAt WL (fa2 n) (.slice (some ⟨w1.heap.size, 0, none⟩) 1 1) (.slice (some ⟨u1.heap.size, 0, none⟩) 2 2)) := Lib.hid ⟨ars_block (L := arrA) HAR2.out (of_decide_eq_true rfl), lns_block (L := (fa2 n).lines) HLN.out (of_decide_eq_true rfl)⟩
  clear HLN HAR2
  generalize fa2 n = C at *
  have d0 := HO2.out.at 0 _ rfl
  have d1 := HO2.out.at 1 _ rfl
  go_wp2_with fail
  refine (HRUN.out _ _ _ HC.out).mono ?_
  rintro e wr ⟨ra, rc, rfl, hn1, hbr⟩
  replace HB := Lib.hid (HB.out.trans (hbr.mono HB.out.size))
  replace HO2 := Lib.hid (HO2.out.old hbr)
  replace HC := Lib.hid (HC.out.old hbr)
  clear hbr
  have HN := Lib.hid (RwOwn.nilv hn1 (of_decide_eq_true rfl) intCells_len)
  clear hn1 d0 d1 HRUN
  go_wp2_with fail
  refine (HS.out _ _ _ HN.out (RwAt.nil _ _ _)).mono ?_
  rintro e ws ⟨rfl, hbs⟩
  replace HB := Lib.hid (HB.out.trans (hbs.mono HB.out.size))
  replace HO2 := Lib.hid (HO2.out.old hbs)
  replace HC := Lib.hid (HC.out.old hbs)
  replace HN := Lib.hid (HN.out.old hbs)
  clear hbs
  go_wp2_with fail
  go_ret
  exact ⟨rfl, HB.out⟩
theorem fa_3 (wh by' : Int) (hw : I64 wh) (hb : I64 by') (hk : ipick wh 6 = 3) (w : World) (hl : ILib w) :
    Calls Tryz.prog 6 #[.int .i64 wh, .int .i64 by'] w fun e w' => e = .returned (.bool true) ∧ Below w.heap.size w w' := by
  obtain ⟨n0, n1⟩ := ipick_range by' 1000 (by decide)
  have hr := fa3_run (ipick by' 1000) n0 n1
  have hf := fa3_ok (ipick by' 1000) n0 n1
  have HAW := Lib.hid (jawake_any w hl)
  have HPK := Lib.hid (fun w => jpick_any wh 6 hw (by decide) (by decide) w)
  rw [hk] at HPK
  have HPB := Lib.hid (fun w => jpick_any by' 1000 hb (by decide) (by decide) w)
  have HRUN := Lib.hid (fun va vl w hc => run_tells (fa3 (ipick by' 1000)) hf.1.2 hf.2 [] (fun z hz => by cases hz) 99 (by decide) (by decide) 6 0 2 [] hr va vl _ w hc (inp_nil w))
  have HS := Lib.hid (fun v1 v2 w h1 h2 => jsame_eq 6 0 2 [] v1 v2 w h1 h2)
  clear hl hr hk hf
  generalize ipick by' 1000 = n at *
  go_enter Tryz.func6, Tryz.ntmps6
  go_wp2_with fail
  refine (HAW.out).mono ?_
  rintro e w1 ⟨rfl, hb1'⟩
  have HB := Lib.hid hb1'
  clear hb1' HAW
  go_wp2_with fail
  refine (HPB.out _).mono ?_
  rintro e w2 ⟨rfl, rfl⟩
  clear HPB
  go_upto_region 4 with (fail)
  have hbX1 : Below w1.heap.size w1 (w1.alloc (.cells #[.string ⟨#[97]⟩, .int .i64 10] 37)) := (Below.refl _ _).alloc (Nat.le_refl _) _
  have hoX := OwnAt.new w1 [.string ⟨#[97]⟩, .int .i64 10] 37
  obtain ⟨WA, hWX⟩ : ∃ WA, w1.alloc (.cells #[.string ⟨#[97]⟩, .int .i64 10] 37) = WA := ⟨_, rfl⟩
  have hsWA : WA.heap.size = w1.heap.size + 1 := by rw [← hWX]; simp
  rw [hWX] at hbX1 hoX ⊢
  replace HB := Lib.hid (HB.out.trans (hbX1.mono HB.out.size))
  have HAR := Lib.hid hoX
  clear hbX1 hWX hoX
  have hlo : w.heap.size ≤ w1.heap.size + 1 := by have := HB.out.size; omega
  have hbX2 : Below WA.heap.size WA (WA.alloc (.cells #[.slice (some ⟨w1.heap.size, 0, none⟩) 1 1, .slice none 0 0] 27)) := (Below.refl _ _).alloc (Nat.le_refl _) _
  have hoX := OwnAt.new WA [.slice (some ⟨w1.heap.size, 0, none⟩) 1 1, .slice none 0 0] 27
  obtain ⟨WC, hWX⟩ : ∃ WC, WA.alloc (.cells #[.slice (some ⟨w1.heap.size, 0, none⟩) 1 1, .slice none 0 0] 27) = WC := ⟨_, rfl⟩
  rw [hsWA] at hoX
  clear hsWA
  rw [hWX] at hbX2 hoX ⊢
  replace HB := Lib.hid (HB.out.trans (hbX2.mono HB.out.size))
  replace HAR := Lib.hid (HAR.out.old hbX2)
  have HO := Lib.hid hoX
  clear hbX2 hWX hoX
  go_wp2_with fail
  refine (HPK.out _).mono ?_
  rintro e w3 ⟨rfl, rfl⟩
  clear HPK
  go_wp2_with fail
  refine (mline_any _ _ _ _ _ _ _).mono ?_
  rintro e u0 ⟨rfl, hbl0⟩
  replace HB := Lib.hid (HB.out.trans (hbl0.mono HB.out.size))
  replace HAR := Lib.hid (HAR.out.old hbl0)
  replace HO := Lib.hid (HO.out.old hbl0)
  clear hbl0
  go_wp2_with fail
  refine (mline_any _ _ _ _ _ _ _).mono ?_
  rintro e u1 ⟨rfl, hbl1⟩
  replace HB := Lib.hid (HB.out.trans (hbl1.mono HB.out.size))
  replace HAR := Lib.hid (HAR.out.old hbl1)
  replace HO := Lib.hid (HO.out.old hbl1)
  clear hbl1
  have ol := HO.out.lt
  have of1 := HO.out.fz 1
  have o1 := HO.out.at 1 _ rfl
  go_upto_region 18 with (fail)
  clear of1 o1
  obtain ⟨WS, hWS⟩ : ∃ WS, u1.setCell ⟨w1.heap.size + 1, 1, none⟩ (.slice (some ⟨u1.heap.size, 0, none⟩) 2 2) = WS := ⟨_, rfl⟩
  have HO2 : Hid (OwnAt WS (w1.heap.size + 1) [.slice (some ⟨w1.heap.size, 0, none⟩) 1 1, .slice (some ⟨u1.heap.size, 0, none⟩) 2 2] 27) := Lib.hid (by rw [← hWS]; exact HO.out.set 1 _)
  have HAR2 : Hid (OwnAt WS w1.heap.size [.string ⟨#[97]⟩, .int .i64 10] 37) := Lib.hid (by rw [← hWS]; exact HAR.out.other (by omega) 1 _)
  replace HB := Lib.hid (by have := zbelow_set HB.out hlo 1 (.slice (some ⟨u1.heap.size, 0, none⟩) 2 2); rw [hWS] at this; exact this)
  have hsS : WS.heap.size = u1.heap.size := by rw [← hWS]; simp
  rw [hWS]
  clear hWS HO HAR ol hlo
  have hbX3 : Below WS.heap.size WS (WS.alloc (.cells #[.string ⟨#[]⟩, .int .i64 16, .int .i64 1, .int .i64 0, .int .i64 0, .int .i64 n, .string ⟨#[]⟩, .string ⟨#[]⟩, .int .i64 27, .int .i64 0, .int .i64 0, .int .i64 0, .int .i64 0, .string ⟨#[]⟩] 41)) := (Below.refl _ _).alloc (Nat.le_refl _) _
  have hoX := OwnAt.new WS [.string ⟨#[]⟩, .int .i64 16, .int .i64 1, .int .i64 0, .int .i64 0, .int .i64 n, .string ⟨#[]⟩, .string ⟨#[]⟩, .int .i64 27, .int .i64 0, .int .i64 0, .int .i64 0, .int .i64 0, .string ⟨#[]⟩] 41
  obtain ⟨WL, hWX⟩ : ∃ WL, WS.alloc (.cells #[.string ⟨#[]⟩, .int .i64 16, .int .i64 1, .int .i64 0, .int .i64 0, .int .i64 n, .string ⟨#[]⟩, .string ⟨#[]⟩, .int .i64 27, .int .i64 0, .int .i64 0, .int .i64 0, .int .i64 0, .string ⟨#[]⟩] 41) = WL := ⟨_, rfl⟩
  rw [hsS] at hoX
  clear hsS
  rw [hWX] at hbX3 hoX ⊢
  replace HB := Lib.hid (HB.out.trans (hbX3.mono HB.out.size))
  replace HAR2 := Lib.hid (HAR2.out.old hbX3)
  replace HO2 := Lib.hid (HO2.out.old hbX3)
  have HLN := Lib.hid hoX
  clear hbX3 hWX hoX
  have HC : Hid (CodeAt WL (fa3 n) (.slice (some ⟨w1.heap.size, 0, none⟩) 1 1) (.slice (some ⟨u1.heap.size, 0, none⟩) 2 2)) := Lib.hid ⟨ars_block (L := arrA) HAR2.out (of_decide_eq_true rfl), lns_block (L := (fa3 n).lines) HLN.out (of_decide_eq_true rfl)⟩
  clear HLN HAR2
  generalize fa3 n = C at *
  have d0 := HO2.out.at 0 _ rfl
  have d1 := HO2.out.at 1 _ rfl
  go_wp2_with fail
  refine (HRUN.out _ _ _ HC.out).mono ?_
  rintro e wr ⟨ra, rc, rfl, hn1, hbr⟩
  replace HB := Lib.hid (HB.out.trans (hbr.mono HB.out.size))
  replace HO2 := Lib.hid (HO2.out.old hbr)
  replace HC := Lib.hid (HC.out.old hbr)
  clear hbr
  have HN := Lib.hid (RwOwn.nilv hn1 (of_decide_eq_true rfl) intCells_len)
  clear hn1 d0 d1 HRUN
  go_wp2_with fail
  refine (HS.out _ _ _ HN.out (RwAt.nil _ _ _)).mono ?_
  rintro e ws ⟨rfl, hbs⟩
  replace HB := Lib.hid (HB.out.trans (hbs.mono HB.out.size))
  replace HO2 := Lib.hid (HO2.out.old hbs)
  replace HC := Lib.hid (HC.out.old hbs)
  replace HN := Lib.hid (HN.out.old hbs)
  clear hbs
  go_wp2_with fail
  go_ret
  exact ⟨rfl, HB.out⟩
theorem fa_4 (wh by' : Int) (hw : I64 wh) (hb : I64 by') (hk : ipick wh 6 = 4) (w : World) (hl : ILib w) :
    Calls Tryz.prog 6 #[.int .i64 wh, .int .i64 by'] w fun e w' => e = .returned (.bool true) ∧ Below w.heap.size w w' := by
  obtain ⟨n0, n1⟩ := ipick_range by' 1000 (by decide)
  have hr := fa4_run (ipick by' 1000) n0 n1
  have hf := fa4_ok (ipick by' 1000) n0 n1
  have HAW := Lib.hid (jawake_any w hl)
  have HPK := Lib.hid (fun w => jpick_any wh 6 hw (by decide) (by decide) w)
  rw [hk] at HPK
  have HPB := Lib.hid (fun w => jpick_any by' 1000 hb (by decide) (by decide) w)
  have HRUN := Lib.hid (fun va vl w hc => run_tells (fa4 (ipick by' 1000)) hf.1.2 hf.2 [] (fun z hz => by cases hz) 99 (by decide) (by decide) 6 0 3 [] hr va vl _ w hc (inp_nil w))
  have HS := Lib.hid (fun v1 v2 w h1 h2 => jsame_eq 6 0 3 [] v1 v2 w h1 h2)
  clear hl hr hk hf
  generalize ipick by' 1000 = n at *
  go_enter Tryz.func6, Tryz.ntmps6
  go_wp2_with fail
  refine (HAW.out).mono ?_
  rintro e w1 ⟨rfl, hb1'⟩
  have HB := Lib.hid hb1'
  clear hb1' HAW
  go_wp2_with fail
  refine (HPB.out _).mono ?_
  rintro e w2 ⟨rfl, rfl⟩
  clear HPB
  go_upto_region 4 with (fail)
  have hbX1 : Below w1.heap.size w1 (w1.alloc (.cells #[.string ⟨#[97]⟩, .int .i64 10] 37)) := (Below.refl _ _).alloc (Nat.le_refl _) _
  have hoX := OwnAt.new w1 [.string ⟨#[97]⟩, .int .i64 10] 37
  obtain ⟨WA, hWX⟩ : ∃ WA, w1.alloc (.cells #[.string ⟨#[97]⟩, .int .i64 10] 37) = WA := ⟨_, rfl⟩
  have hsWA : WA.heap.size = w1.heap.size + 1 := by rw [← hWX]; simp
  rw [hWX] at hbX1 hoX ⊢
  replace HB := Lib.hid (HB.out.trans (hbX1.mono HB.out.size))
  have HAR := Lib.hid hoX
  clear hbX1 hWX hoX
  have hlo : w.heap.size ≤ w1.heap.size + 1 := by have := HB.out.size; omega
  have hbX2 : Below WA.heap.size WA (WA.alloc (.cells #[.slice (some ⟨w1.heap.size, 0, none⟩) 1 1, .slice none 0 0] 27)) := (Below.refl _ _).alloc (Nat.le_refl _) _
  have hoX := OwnAt.new WA [.slice (some ⟨w1.heap.size, 0, none⟩) 1 1, .slice none 0 0] 27
  obtain ⟨WC, hWX⟩ : ∃ WC, WA.alloc (.cells #[.slice (some ⟨w1.heap.size, 0, none⟩) 1 1, .slice none 0 0] 27) = WC := ⟨_, rfl⟩
  rw [hsWA] at hoX
  clear hsWA
  rw [hWX] at hbX2 hoX ⊢
  replace HB := Lib.hid (HB.out.trans (hbX2.mono HB.out.size))
  replace HAR := Lib.hid (HAR.out.old hbX2)
  have HO := Lib.hid hoX
  clear hbX2 hWX hoX
  go_wp2_with fail
  refine (HPK.out _).mono ?_
  rintro e w3 ⟨rfl, rfl⟩
  clear HPK
  go_wp2_with fail
  refine (mline_any _ _ _ _ _ _ _).mono ?_
  rintro e u0 ⟨rfl, hbl0⟩
  replace HB := Lib.hid (HB.out.trans (hbl0.mono HB.out.size))
  replace HAR := Lib.hid (HAR.out.old hbl0)
  replace HO := Lib.hid (HO.out.old hbl0)
  clear hbl0
  go_wp2_with fail
  refine (mline_any _ _ _ _ _ _ _).mono ?_
  rintro e u1 ⟨rfl, hbl1⟩
  replace HB := Lib.hid (HB.out.trans (hbl1.mono HB.out.size))
  replace HAR := Lib.hid (HAR.out.old hbl1)
  replace HO := Lib.hid (HO.out.old hbl1)
  clear hbl1
  go_wp2_with fail
  refine (mline_any _ _ _ _ _ _ _).mono ?_
  rintro e u2 ⟨rfl, hbl2⟩
  replace HB := Lib.hid (HB.out.trans (hbl2.mono HB.out.size))
  replace HAR := Lib.hid (HAR.out.old hbl2)
  replace HO := Lib.hid (HO.out.old hbl2)
  clear hbl2
  have ol := HO.out.lt
  have of1 := HO.out.fz 1
  have o1 := HO.out.at 1 _ rfl
  go_upto_region 18 with (fail)
  clear of1 o1
  obtain ⟨WS, hWS⟩ : ∃ WS, u2.setCell ⟨w1.heap.size + 1, 1, none⟩ (.slice (some ⟨u2.heap.size, 0, none⟩) 3 3) = WS := ⟨_, rfl⟩
  have HO2 : Hid (OwnAt WS (w1.heap.size + 1) [.slice (some ⟨w1.heap.size, 0, none⟩) 1 1, .slice (some ⟨u2.heap.size, 0, none⟩) 3 3] 27) := Lib.hid (by rw [← hWS]; exact HO.out.set 1 _)
  have HAR2 : Hid (OwnAt WS w1.heap.size [.string ⟨#[97]⟩, .int .i64 10] 37) := Lib.hid (by rw [← hWS]; exact HAR.out.other (by omega) 1 _)
  replace HB := Lib.hid (by have := zbelow_set HB.out hlo 1 (.slice (some ⟨u2.heap.size, 0, none⟩) 3 3); rw [hWS] at this; exact this)
  have hsS : WS.heap.size = u2.heap.size := by rw [← hWS]; simp
  rw [hWS]
  clear hWS HO HAR ol hlo
  have hbX3 : Below WS.heap.size WS (WS.alloc (.cells #[.string ⟨#[]⟩, .int .i64 16, .int .i64 10, .int .i64 0, .int .i64 0, .int .i64 (5 + n), .string ⟨#[]⟩, .string ⟨#[]⟩, .int .i64 16, .int .i64 17, .int .i64 0, .int .i64 0, .int .i64 4, .string ⟨#[]⟩, .string ⟨#[]⟩, .int .i64 28, .int .i64 0, .int .i64 0, .int .i64 0, .int .i64 0, .string ⟨#[]⟩] 41)) := (Below.refl _ _).alloc (Nat.le_refl _) _
  have hoX := OwnAt.new WS [.string ⟨#[]⟩, .int .i64 16, .int .i64 10, .int .i64 0, .int .i64 0, .int .i64 (5 + n), .string ⟨#[]⟩, .string ⟨#[]⟩, .int .i64 16, .int .i64 17, .int .i64 0, .int .i64 0, .int .i64 4, .string ⟨#[]⟩, .string ⟨#[]⟩, .int .i64 28, .int .i64 0, .int .i64 0, .int .i64 0, .int .i64 0, .string ⟨#[]⟩] 41
  obtain ⟨WL, hWX⟩ : ∃ WL, WS.alloc (.cells #[.string ⟨#[]⟩, .int .i64 16, .int .i64 10, .int .i64 0, .int .i64 0, .int .i64 (5 + n), .string ⟨#[]⟩, .string ⟨#[]⟩, .int .i64 16, .int .i64 17, .int .i64 0, .int .i64 0, .int .i64 4, .string ⟨#[]⟩, .string ⟨#[]⟩, .int .i64 28, .int .i64 0, .int .i64 0, .int .i64 0, .int .i64 0, .string ⟨#[]⟩] 41) = WL := ⟨_, rfl⟩
  rw [hsS] at hoX
  clear hsS
  rw [hWX] at hbX3 hoX ⊢
  replace HB := Lib.hid (HB.out.trans (hbX3.mono HB.out.size))
  replace HAR2 := Lib.hid (HAR2.out.old hbX3)
  replace HO2 := Lib.hid (HO2.out.old hbX3)
  have HLN := Lib.hid hoX
  clear hbX3 hWX hoX
  have HC : Hid (CodeAt WL (fa4 n) (.slice (some ⟨w1.heap.size, 0, none⟩) 1 1) (.slice (some ⟨u2.heap.size, 0, none⟩) 3 3)) := Lib.hid ⟨ars_block (L := arrA) HAR2.out (of_decide_eq_true rfl), lns_block (L := (fa4 n).lines) HLN.out (of_decide_eq_true rfl)⟩
  clear HLN HAR2
  generalize fa4 n = C at *
  have d0 := HO2.out.at 0 _ rfl
  have d1 := HO2.out.at 1 _ rfl
  go_wp2_with fail
  refine (HRUN.out _ _ _ HC.out).mono ?_
  rintro e wr ⟨ra, rc, rfl, hn1, hbr⟩
  replace HB := Lib.hid (HB.out.trans (hbr.mono HB.out.size))
  replace HO2 := Lib.hid (HO2.out.old hbr)
  replace HC := Lib.hid (HC.out.old hbr)
  clear hbr
  have HN := Lib.hid (RwOwn.nilv hn1 (of_decide_eq_true rfl) intCells_len)
  clear hn1 d0 d1 HRUN
  go_wp2_with fail
  refine (HS.out _ _ _ HN.out (RwAt.nil _ _ _)).mono ?_
  rintro e ws ⟨rfl, hbs⟩
  replace HB := Lib.hid (HB.out.trans (hbs.mono HB.out.size))
  replace HO2 := Lib.hid (HO2.out.old hbs)
  replace HC := Lib.hid (HC.out.old hbs)
  replace HN := Lib.hid (HN.out.old hbs)
  clear hbs
  go_wp2_with fail
  go_ret
  exact ⟨rfl, HB.out⟩
theorem fa_5 (wh by' : Int) (hw : I64 wh) (hb : I64 by') (hk : ipick wh 6 = 5) (w : World) (hl : ILib w) :
    Calls Tryz.prog 6 #[.int .i64 wh, .int .i64 by'] w fun e w' => e = .returned (.bool true) ∧ Below w.heap.size w w' := by
  obtain ⟨n0, n1⟩ := ipick_range by' 1000 (by decide)
  have hr := fa5_run (ipick by' 1000) n0 n1
  have hf := fa5_ok (ipick by' 1000) n0 n1
  have HAW := Lib.hid (jawake_any w hl)
  have HPK := Lib.hid (fun w => jpick_any wh 6 hw (by decide) (by decide) w)
  rw [hk] at HPK
  have HPB := Lib.hid (fun w => jpick_any by' 1000 hb (by decide) (by decide) w)
  have HRUN := Lib.hid (fun va vl w hc => run_tells (fa5 (ipick by' 1000)) hf.1.2 hf.2 [] (fun z hz => by cases hz) 99 (by decide) (by decide) 6 0 2 [] hr va vl _ w hc (inp_nil w))
  have HS := Lib.hid (fun v1 v2 w h1 h2 => jsame_eq 6 0 2 [] v1 v2 w h1 h2)
  clear hl hr hk hf
  generalize ipick by' 1000 = n at *
  go_enter Tryz.func6, Tryz.ntmps6
  go_wp2_with fail
  refine (HAW.out).mono ?_
  rintro e w1 ⟨rfl, hb1'⟩
  have HB := Lib.hid hb1'
  clear hb1' HAW
  go_wp2_with fail
  refine (HPB.out _).mono ?_
  rintro e w2 ⟨rfl, rfl⟩
  clear HPB
  go_upto_region 4 with (fail)
  have hbX1 : Below w1.heap.size w1 (w1.alloc (.cells #[.string ⟨#[97]⟩, .int .i64 10] 37)) := (Below.refl _ _).alloc (Nat.le_refl _) _
  have hoX := OwnAt.new w1 [.string ⟨#[97]⟩, .int .i64 10] 37
  obtain ⟨WA, hWX⟩ : ∃ WA, w1.alloc (.cells #[.string ⟨#[97]⟩, .int .i64 10] 37) = WA := ⟨_, rfl⟩
  have hsWA : WA.heap.size = w1.heap.size + 1 := by rw [← hWX]; simp
  rw [hWX] at hbX1 hoX ⊢
  replace HB := Lib.hid (HB.out.trans (hbX1.mono HB.out.size))
  have HAR := Lib.hid hoX
  clear hbX1 hWX hoX
  have hlo : w.heap.size ≤ w1.heap.size + 1 := by have := HB.out.size; omega
  have hbX2 : Below WA.heap.size WA (WA.alloc (.cells #[.slice (some ⟨w1.heap.size, 0, none⟩) 1 1, .slice none 0 0] 27)) := (Below.refl _ _).alloc (Nat.le_refl _) _
  have hoX := OwnAt.new WA [.slice (some ⟨w1.heap.size, 0, none⟩) 1 1, .slice none 0 0] 27
  obtain ⟨WC, hWX⟩ : ∃ WC, WA.alloc (.cells #[.slice (some ⟨w1.heap.size, 0, none⟩) 1 1, .slice none 0 0] 27) = WC := ⟨_, rfl⟩
  rw [hsWA] at hoX
  clear hsWA
  rw [hWX] at hbX2 hoX ⊢
  replace HB := Lib.hid (HB.out.trans (hbX2.mono HB.out.size))
  replace HAR := Lib.hid (HAR.out.old hbX2)
  have HO := Lib.hid hoX
  clear hbX2 hWX hoX
  go_wp2_with fail
  refine (HPK.out _).mono ?_
  rintro e w3 ⟨rfl, rfl⟩
  clear HPK
  go_wp2_with fail
  refine (mline_any _ _ _ _ _ _ _).mono ?_
  rintro e u0 ⟨rfl, hbl0⟩
  replace HB := Lib.hid (HB.out.trans (hbl0.mono HB.out.size))
  replace HAR := Lib.hid (HAR.out.old hbl0)
  replace HO := Lib.hid (HO.out.old hbl0)
  clear hbl0
  go_wp2_with fail
  refine (mline_any _ _ _ _ _ _ _).mono ?_
  rintro e u1 ⟨rfl, hbl1⟩
  replace HB := Lib.hid (HB.out.trans (hbl1.mono HB.out.size))
  replace HAR := Lib.hid (HAR.out.old hbl1)
  replace HO := Lib.hid (HO.out.old hbl1)
  clear hbl1
  have ol := HO.out.lt
  have of1 := HO.out.fz 1
  have o1 := HO.out.at 1 _ rfl
  go_upto_region 18 with (fail)
  clear of1 o1
  obtain ⟨WS, hWS⟩ : ∃ WS, u1.setCell ⟨w1.heap.size + 1, 1, none⟩ (.slice (some ⟨u1.heap.size, 0, none⟩) 2 2) = WS := ⟨_, rfl⟩
  have HO2 : Hid (OwnAt WS (w1.heap.size + 1) [.slice (some ⟨w1.heap.size, 0, none⟩) 1 1, .slice (some ⟨u1.heap.size, 0, none⟩) 2 2] 27) := Lib.hid (by rw [← hWS]; exact HO.out.set 1 _)
  have HAR2 : Hid (OwnAt WS w1.heap.size [.string ⟨#[97]⟩, .int .i64 10] 37) := Lib.hid (by rw [← hWS]; exact HAR.out.other (by omega) 1 _)
  replace HB := Lib.hid (by have := zbelow_set HB.out hlo 1 (.slice (some ⟨u1.heap.size, 0, none⟩) 2 2); rw [hWS] at this; exact this)
  have hsS : WS.heap.size = u1.heap.size := by rw [← hWS]; simp
  rw [hWS]
  clear hWS HO HAR ol hlo
  have hbX3 : Below WS.heap.size WS (WS.alloc (.cells #[.string ⟨#[]⟩, .int .i64 16, .int .i64 10, .int .i64 0, .int .i64 0, .int .i64 n, .string ⟨#[]⟩, .string ⟨#[]⟩, .int .i64 15, .int .i64 0, .int .i64 10, .int .i64 0, .int .i64 0, .string ⟨#[]⟩] 41)) := (Below.refl _ _).alloc (Nat.le_refl _) _
  have hoX := OwnAt.new WS [.string ⟨#[]⟩, .int .i64 16, .int .i64 10, .int .i64 0, .int .i64 0, .int .i64 n, .string ⟨#[]⟩, .string ⟨#[]⟩, .int .i64 15, .int .i64 0, .int .i64 10, .int .i64 0, .int .i64 0, .string ⟨#[]⟩] 41
  obtain ⟨WL, hWX⟩ : ∃ WL, WS.alloc (.cells #[.string ⟨#[]⟩, .int .i64 16, .int .i64 10, .int .i64 0, .int .i64 0, .int .i64 n, .string ⟨#[]⟩, .string ⟨#[]⟩, .int .i64 15, .int .i64 0, .int .i64 10, .int .i64 0, .int .i64 0, .string ⟨#[]⟩] 41) = WL := ⟨_, rfl⟩
  rw [hsS] at hoX
  clear hsS
  rw [hWX] at hbX3 hoX ⊢
  replace HB := Lib.hid (HB.out.trans (hbX3.mono HB.out.size))
  replace HAR2 := Lib.hid (HAR2.out.old hbX3)
  replace HO2 := Lib.hid (HO2.out.old hbX3)
  have HLN := Lib.hid hoX
  clear hbX3 hWX hoX
  have HC : Hid (CodeAt WL (fa5 n) (.slice (some ⟨w1.heap.size, 0, none⟩) 1 1) (.slice (some ⟨u1.heap.size, 0, none⟩) 2 2)) := Lib.hid ⟨ars_block (L := arrA) HAR2.out (of_decide_eq_true rfl), lns_block (L := (fa5 n).lines) HLN.out (of_decide_eq_true rfl)⟩
  clear HLN HAR2
  generalize fa5 n = C at *
  have d0 := HO2.out.at 0 _ rfl
  have d1 := HO2.out.at 1 _ rfl
  go_wp2_with fail
  refine (HRUN.out _ _ _ HC.out).mono ?_
  rintro e wr ⟨ra, rc, rfl, hn1, hbr⟩
  replace HB := Lib.hid (HB.out.trans (hbr.mono HB.out.size))
  replace HO2 := Lib.hid (HO2.out.old hbr)
  replace HC := Lib.hid (HC.out.old hbr)
  clear hbr
  have HN := Lib.hid (RwOwn.nilv hn1 (of_decide_eq_true rfl) intCells_len)
  clear hn1 d0 d1 HRUN
  go_wp2_with fail
  refine (HS.out _ _ _ HN.out (RwAt.nil _ _ _)).mono ?_
  rintro e ws ⟨rfl, hbs⟩
  replace HB := Lib.hid (HB.out.trans (hbs.mono HB.out.size))
  replace HO2 := Lib.hid (HO2.out.old hbs)
  replace HC := Lib.hid (HC.out.old hbs)
  replace HN := Lib.hid (HN.out.old hbs)
  clear hbs
  go_wp2_with fail
  go_ret
  exact ⟨rfl, HB.out⟩
theorem mfaults_any (wh by' : Int) (hw : I64 wh) (hb : I64 by') (w : World) (hl : ILib w) :
    Calls Tryz.prog 6 #[.int .i64 wh, .int .i64 by'] w fun e w' => e = .returned (.bool true) ∧ Below w.heap.size w w' := by
  have h6 : ipick wh 6 = 0 ∨ ipick wh 6 = 1 ∨ ipick wh 6 = 2 ∨ ipick wh 6 = 3 ∨ ipick wh 6 = 4 ∨ ipick wh 6 = 5 := by
    have := ipick_range wh 6 (by decide)
    omega
  rcases h6 with h | h | h | h | h | h
  · exact fa_0 wh by' hw hb h w hl
  · exact fa_1 wh by' hw hb h w hl
  · exact fa_2 wh by' hw hb h w hl
  · exact fa_3 wh by' hw hb h w hl
  · exact fa_4 wh by' hw hb h w hl
  · exact fa_5 wh by' hw hb h w hl
end Go.Proofs.YtpgjfpphigeliaaGreatDoor
