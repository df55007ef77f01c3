/-
  MachBranch: a branch goes just where its numbers are as it says. Conditions: ints; the library's variables lie in memory.
-/
import Derived.Test.YtpgjfpphigeliaaGreatDoorMachF
set_option linter.unusedVariables false
set_option linter.unusedSimpArgs false
namespace Go.Proofs.YtpgjfpphigeliaaGreatDoor
open Go.RowKit
set_option maxHeartbeats 4000000
set_option maxRecDepth 100000

theorem br_01 (a b wh : Int) (ha : I64 a) (hb : I64 b) (hw : I64 wh) (hk : ipick wh 4 = 0) (hab : a = b) (w : World) (hl : ILib w) :
    Calls Tryz.prog 8 #[.int .i64 a, .int .i64 b, .int .i64 wh] w fun e w' => e = .returned (.bool true) ∧ Below w.heap.size w w' := by
  subst hab
  have hq1 : (a == a) = true := beq_self_eq_true a
  have hr : (runC (brC 21 a a) [] 9).tells = (1, 1, [], 6) := br_run 21 a a (by decide) true hq1
  have HAW := Lib.hid (jawake_any w hl)
  have HPK := Lib.hid (fun w => jpick_any wh 4 hw (by decide) (by decide) w)
  rw [hk] at HPK
  have HRUN := Lib.hid (fun va vl w hc => run_tells (brC 21 a a) (br_fine 21 a a (by decide)) (br_i64 21 a a ha ha) [] (fun z hz => by cases hz) 9 (by decide) (by decide) 1 1 6 [] hr va vl _ w hc (inp_nil w))
  have HS := Lib.hid (fun v1 v2 w h1 h2 => jsame_eq 1 1 6 [] v1 v2 w h1 h2)
  obtain ⟨ha1, ha2⟩ := ha
  obtain ⟨hb1, hb2⟩ := hb
  clear hl hr hk 
  go_enter Tryz.func8, Tryz.ntmps8
  go_wp2_with fail
  refine (HAW.out).mono ?_
  rintro e w1 ⟨rfl, hb1'⟩
  have HB := Lib.hid hb1'
  clear hb1' HAW
  go_wp2_with fail
  refine (HPK.out _).mono ?_
  rintro e w2 ⟨rfl, rfl⟩
  clear HPK
  go_wp2_with fail
  refine (mline_any _ _ _ _ _ _ _).mono ?_
  rintro e u0 ⟨rfl, hbl0⟩
  replace HB := Lib.hid (HB.out.trans (hbl0.mono HB.out.size))
  clear hbl0
  go_wp2_with fail
  refine (mline_any _ _ _ _ _ _ _).mono ?_
  rintro e u1 ⟨rfl, hbl1⟩
  replace HB := Lib.hid (HB.out.trans (hbl1.mono HB.out.size))
  clear hbl1
  go_wp2_with fail
  refine (mline_any _ _ _ _ _ _ _).mono ?_
  rintro e u2 ⟨rfl, hbl2⟩
  replace HB := Lib.hid (HB.out.trans (hbl2.mono HB.out.size))
  clear hbl2
  go_wp2_with fail
  refine (mline_any _ _ _ _ _ _ _).mono ?_
  rintro e u3 ⟨rfl, hbl3⟩
  replace HB := Lib.hid (HB.out.trans (hbl3.mono HB.out.size))
  clear hbl3
  go_wp2_with fail
  refine (mline_any _ _ _ _ _ _ _).mono ?_
  rintro e u4 ⟨rfl, hbl4⟩
  replace HB := Lib.hid (HB.out.trans (hbl4.mono HB.out.size))
  clear hbl4
  go_wp2_with fail
  refine (mline_any _ _ _ _ _ _ _).mono ?_
  rintro e u5 ⟨rfl, hbl5⟩
  replace HB := Lib.hid (HB.out.trans (hbl5.mono HB.out.size))
  clear hbl5
  go_wp2_with fail
  refine (mline_any _ _ _ _ _ _ _).mono ?_
  rintro e u6 ⟨rfl, hbl6⟩
  replace HB := Lib.hid (HB.out.trans (hbl6.mono HB.out.size))
  clear hbl6
  go_upto_region 4 with (fail)
  have hbX1 : Below u6.heap.size u6 (u6.alloc (.cells #[.string ⟨#[]⟩, .int .i64 16, .int .i64 5, .int .i64 0, .int .i64 0, .int .i64 a, .string ⟨#[]⟩, .string ⟨#[]⟩, .int .i64 16, .int .i64 6, .int .i64 0, .int .i64 0, .int .i64 a, .string ⟨#[]⟩, .string ⟨#[]⟩, .int .i64 16, .int .i64 17, .int .i64 0, .int .i64 0, .int .i64 3, .string ⟨#[]⟩, .string ⟨#[]⟩, .int .i64 21, .int .i64 0, .int .i64 5, .int .i64 6, .int .i64 0, .string ⟨#[102, 97, 114]⟩, .string ⟨#[]⟩, .int .i64 28, .int .i64 0, .int .i64 0, .int .i64 0, .int .i64 0, .string ⟨#[]⟩, .string ⟨#[102, 97, 114]⟩, .int .i64 0, .int .i64 0, .int .i64 0, .int .i64 0, .int .i64 0, .string ⟨#[]⟩, .string ⟨#[]⟩, .int .i64 16, .int .i64 10, .int .i64 0, .int .i64 0, .int .i64 1, .string ⟨#[]⟩, .string ⟨#[]⟩, .int .i64 28, .int .i64 0, .int .i64 0, .int .i64 0, .int .i64 0, .string ⟨#[]⟩] 41)) := (Below.refl _ _).alloc (Nat.le_refl _) _
  have hoX := OwnAt.new u6 [.string ⟨#[]⟩, .int .i64 16, .int .i64 5, .int .i64 0, .int .i64 0, .int .i64 a, .string ⟨#[]⟩, .string ⟨#[]⟩, .int .i64 16, .int .i64 6, .int .i64 0, .int .i64 0, .int .i64 a, .string ⟨#[]⟩, .string ⟨#[]⟩, .int .i64 16, .int .i64 17, .int .i64 0, .int .i64 0, .int .i64 3, .string ⟨#[]⟩, .string ⟨#[]⟩, .int .i64 21, .int .i64 0, .int .i64 5, .int .i64 6, .int .i64 0, .string ⟨#[102, 97, 114]⟩, .string ⟨#[]⟩, .int .i64 28, .int .i64 0, .int .i64 0, .int .i64 0, .int .i64 0, .string ⟨#[]⟩, .string ⟨#[102, 97, 114]⟩, .int .i64 0, .int .i64 0, .int .i64 0, .int .i64 0, .int .i64 0, .string ⟨#[]⟩, .string ⟨#[]⟩, .int .i64 16, .int .i64 10, .int .i64 0, .int .i64 0, .int .i64 1, .string ⟨#[]⟩, .string ⟨#[]⟩, .int .i64 28, .int .i64 0, .int .i64 0, .int .i64 0, .int .i64 0, .string ⟨#[]⟩] 41
  obtain ⟨WL, hWX⟩ : ∃ WL, u6.alloc (.cells #[.string ⟨#[]⟩, .int .i64 16, .int .i64 5, .int .i64 0, .int .i64 0, .int .i64 a, .string ⟨#[]⟩, .string ⟨#[]⟩, .int .i64 16, .int .i64 6, .int .i64 0, .int .i64 0, .int .i64 a, .string ⟨#[]⟩, .string ⟨#[]⟩, .int .i64 16, .int .i64 17, .int .i64 0, .int .i64 0, .int .i64 3, .string ⟨#[]⟩, .string ⟨#[]⟩, .int .i64 21, .int .i64 0, .int .i64 5, .int .i64 6, .int .i64 0, .string ⟨#[102, 97, 114]⟩, .string ⟨#[]⟩, .int .i64 28, .int .i64 0, .int .i64 0, .int .i64 0, .int .i64 0, .string ⟨#[]⟩, .string ⟨#[102, 97, 114]⟩, .int .i64 0, .int .i64 0, .int .i64 0, .int .i64 0, .int .i64 0, .string ⟨#[]⟩, .string ⟨#[]⟩, .int .i64 16, .int .i64 10, .int .i64 0, .int .i64 0, .int .i64 1, .string ⟨#[]⟩, .string ⟨#[]⟩, .int .i64 28, .int .i64 0, .int .i64 0, .int .i64 0, .int .i64 0, .string ⟨#[]⟩] 41) = WL := ⟨_, rfl⟩
  have hsWL : WL.heap.size = u6.heap.size + 1 := by rw [← hWX]; simp
  rw [hWX] at hbX1 hoX ⊢
  replace HB := Lib.hid (HB.out.trans (hbX1.mono HB.out.size))
  have HLN := Lib.hid hoX
  clear hbX1 hWX hoX
  have hbX2 : Below WL.heap.size WL (WL.alloc (.cells #[.slice none 0 0, .slice (some ⟨u6.heap.size, 0, none⟩) 8 8] 27)) := (Below.refl _ _).alloc (Nat.le_refl _) _
  have hoX := OwnAt.new WL [.slice none 0 0, .slice (some ⟨u6.heap.size, 0, none⟩) 8 8] 27
  obtain ⟨WC, hWX⟩ : ∃ WC, WL.alloc (.cells #[.slice none 0 0, .slice (some ⟨u6.heap.size, 0, none⟩) 8 8] 27) = WC := ⟨_, rfl⟩
  rw [hsWL] at hoX
  clear hsWL
  rw [hWX] at hbX2 hoX ⊢
  replace HB := Lib.hid (HB.out.trans (hbX2.mono HB.out.size))
  replace HLN := Lib.hid (HLN.out.old hbX2)
  have HO := Lib.hid hoX
  clear hbX2 hWX hoX
  have HC : Hid (CodeAt WC (brC 21 a a) (.slice none 0 0) (.slice (some ⟨u6.heap.size, 0, none⟩) 8 8)) := Lib.hid ⟨RwAt.nil _ _ _, lns_block (L := (brC 21 a a).lines) HLN.out (of_decide_eq_true rfl)⟩
  clear HLN
  generalize brC 21 a a = C at *
  go_upto_region 5 with (fail)
  generalize hWX : World.alloc WC _ = WB
  have hbX3 : Below WC.heap.size WC WB := by rw [← hWX]; exact (Below.refl _ _).alloc (Nat.le_refl _) _
  replace HB := Lib.hid (HB.out.trans (hbX3.mono HB.out.size))
  replace HO := Lib.hid (HO.out.old hbX3)
  replace HC := Lib.hid (HC.out.old hbX3)
  clear hbX3 hWX
  have d0 := HO.out.at 0 _ rfl
  have d1 := HO.out.at 1 _ rfl
  go_wp2_with fail
  refine (HRUN.out _ _ _ HC.out).mono ?_
  rintro e wr ⟨ra, rc, rfl, hn1, hbr⟩
  replace HB := Lib.hid (HB.out.trans (hbr.mono HB.out.size))
  replace HO := Lib.hid (HO.out.old hbr)
  replace HC := Lib.hid (HC.out.old hbr)
  clear hbr
  have HN := Lib.hid (RwOwn.nilv hn1 (of_decide_eq_true rfl) intCells_len)
  clear hn1 d0 d1 HRUN
  go_upto_region 7 with (fail)
  have hbX4 : Below wr.heap.size wr (wr.alloc (.cells #[.int .i64 1, .int .i64 1, .slice ra 0 rc, .int .i64 6] 31)) := (Below.refl _ _).alloc (Nat.le_refl _) _
  have hoX := OwnAt.new wr [.int .i64 1, .int .i64 1, .slice ra 0 rc, .int .i64 6] 31
  obtain ⟨WR, hWX⟩ : ∃ WR, wr.alloc (.cells #[.int .i64 1, .int .i64 1, .slice ra 0 rc, .int .i64 6] 31) = WR := ⟨_, rfl⟩
  rw [hWX] at hbX4 hoX ⊢
  replace HB := Lib.hid (HB.out.trans (hbX4.mono HB.out.size))
  replace HO := Lib.hid (HO.out.old hbX4)
  replace HC := Lib.hid (HC.out.old hbX4)
  replace HN := Lib.hid (HN.out.old hbX4)
  have HR := Lib.hid hoX
  clear hbX4 hWX hoX
  have d0 := HR.out.at 0 _ rfl
  have d1 := HR.out.at 1 _ rfl
  have d2 := HR.out.at 2 _ rfl
  have d3 := HR.out.at 3 _ rfl
  go_wp2_with fail
  refine (HS.out _ _ _ HN.out (RwAt.nil _ _ _)).mono ?_
  rintro e ws ⟨rfl, hbs⟩
  replace HB := Lib.hid (HB.out.trans (hbs.mono HB.out.size))
  replace HO := Lib.hid (HO.out.old hbs)
  replace HC := Lib.hid (HC.out.old hbs)
  replace HN := Lib.hid (HN.out.old hbs)
  replace HR := Lib.hid (HR.out.old hbs)
  clear hbs
  go_wp2_with fail
  go_ret
  exact ⟨rfl, HB.out⟩
theorem br_00 (a b wh : Int) (ha : I64 a) (hb : I64 b) (hw : I64 wh) (hk : ipick wh 4 = 0) (hab : ¬ (a = b)) (w : World) (hl : ILib w) :
    Calls Tryz.prog 8 #[.int .i64 a, .int .i64 b, .int .i64 wh] w fun e w' => e = .returned (.bool true) ∧ Below w.heap.size w w' := by
  have hq1 : (a == b) = false := by simpa using hab
  have hr : (runC (brC 21 a b) [] 9).tells = (1, 0, [], 5) := br_run 21 a b (by decide) false hq1
  have HAW := Lib.hid (jawake_any w hl)
  have HPK := Lib.hid (fun w => jpick_any wh 4 hw (by decide) (by decide) w)
  rw [hk] at HPK
  have HRUN := Lib.hid (fun va vl w hc => run_tells (brC 21 a b) (br_fine 21 a b (by decide)) (br_i64 21 a b ha hb) [] (fun z hz => by cases hz) 9 (by decide) (by decide) 1 0 5 [] hr va vl _ w hc (inp_nil w))
  have HS := Lib.hid (fun v1 v2 w h1 h2 => jsame_eq 1 0 5 [] v1 v2 w h1 h2)
  obtain ⟨ha1, ha2⟩ := ha
  obtain ⟨hb1, hb2⟩ := hb
  clear hl hr hk 
  go_enter Tryz.func8, Tryz.ntmps8
  go_wp2_with fail
  refine (HAW.out).mono ?_
  rintro e w1 ⟨rfl, hb1'⟩
  have HB := Lib.hid hb1'
  clear hb1' HAW
  go_wp2_with fail
  refine (HPK.out _).mono ?_
  rintro e w2 ⟨rfl, rfl⟩
  clear HPK
  go_wp2_with fail
  refine (mline_any _ _ _ _ _ _ _).mono ?_
  rintro e u0 ⟨rfl, hbl0⟩
  replace HB := Lib.hid (HB.out.trans (hbl0.mono HB.out.size))
  clear hbl0
  go_wp2_with fail
  refine (mline_any _ _ _ _ _ _ _).mono ?_
  rintro e u1 ⟨rfl, hbl1⟩
  replace HB := Lib.hid (HB.out.trans (hbl1.mono HB.out.size))
  clear hbl1
  go_wp2_with fail
  refine (mline_any _ _ _ _ _ _ _).mono ?_
  rintro e u2 ⟨rfl, hbl2⟩
  replace HB := Lib.hid (HB.out.trans (hbl2.mono HB.out.size))
  clear hbl2
  go_wp2_with fail
  refine (mline_any _ _ _ _ _ _ _).mono ?_
  rintro e u3 ⟨rfl, hbl3⟩
  replace HB := Lib.hid (HB.out.trans (hbl3.mono HB.out.size))
  clear hbl3
  go_wp2_with fail
  refine (mline_any _ _ _ _ _ _ _).mono ?_
  rintro e u4 ⟨rfl, hbl4⟩
  replace HB := Lib.hid (HB.out.trans (hbl4.mono HB.out.size))
  clear hbl4
  go_wp2_with fail
  refine (mline_any _ _ _ _ _ _ _).mono ?_
  rintro e u5 ⟨rfl, hbl5⟩
  replace HB := Lib.hid (HB.out.trans (hbl5.mono HB.out.size))
  clear hbl5
  go_wp2_with fail
  refine (mline_any _ _ _ _ _ _ _).mono ?_
  rintro e u6 ⟨rfl, hbl6⟩
  replace HB := Lib.hid (HB.out.trans (hbl6.mono HB.out.size))
  clear hbl6
  go_upto_region 4 with (fail)
  have hbX1 : Below u6.heap.size u6 (u6.alloc (.cells #[.string ⟨#[]⟩, .int .i64 16, .int .i64 5, .int .i64 0, .int .i64 0, .int .i64 a, .string ⟨#[]⟩, .string ⟨#[]⟩, .int .i64 16, .int .i64 6, .int .i64 0, .int .i64 0, .int .i64 b, .string ⟨#[]⟩, .string ⟨#[]⟩, .int .i64 16, .int .i64 17, .int .i64 0, .int .i64 0, .int .i64 3, .string ⟨#[]⟩, .string ⟨#[]⟩, .int .i64 21, .int .i64 0, .int .i64 5, .int .i64 6, .int .i64 0, .string ⟨#[102, 97, 114]⟩, .string ⟨#[]⟩, .int .i64 28, .int .i64 0, .int .i64 0, .int .i64 0, .int .i64 0, .string ⟨#[]⟩, .string ⟨#[102, 97, 114]⟩, .int .i64 0, .int .i64 0, .int .i64 0, .int .i64 0, .int .i64 0, .string ⟨#[]⟩, .string ⟨#[]⟩, .int .i64 16, .int .i64 10, .int .i64 0, .int .i64 0, .int .i64 1, .string ⟨#[]⟩, .string ⟨#[]⟩, .int .i64 28, .int .i64 0, .int .i64 0, .int .i64 0, .int .i64 0, .string ⟨#[]⟩] 41)) := (Below.refl _ _).alloc (Nat.le_refl _) _
  have hoX := OwnAt.new u6 [.string ⟨#[]⟩, .int .i64 16, .int .i64 5, .int .i64 0, .int .i64 0, .int .i64 a, .string ⟨#[]⟩, .string ⟨#[]⟩, .int .i64 16, .int .i64 6, .int .i64 0, .int .i64 0, .int .i64 b, .string ⟨#[]⟩, .string ⟨#[]⟩, .int .i64 16, .int .i64 17, .int .i64 0, .int .i64 0, .int .i64 3, .string ⟨#[]⟩, .string ⟨#[]⟩, .int .i64 21, .int .i64 0, .int .i64 5, .int .i64 6, .int .i64 0, .string ⟨#[102, 97, 114]⟩, .string ⟨#[]⟩, .int .i64 28, .int .i64 0, .int .i64 0, .int .i64 0, .int .i64 0, .string ⟨#[]⟩, .string ⟨#[102, 97, 114]⟩, .int .i64 0, .int .i64 0, .int .i64 0, .int .i64 0, .int .i64 0, .string ⟨#[]⟩, .string ⟨#[]⟩, .int .i64 16, .int .i64 10, .int .i64 0, .int .i64 0, .int .i64 1, .string ⟨#[]⟩, .string ⟨#[]⟩, .int .i64 28, .int .i64 0, .int .i64 0, .int .i64 0, .int .i64 0, .string ⟨#[]⟩] 41
  obtain ⟨WL, hWX⟩ : ∃ WL, u6.alloc (.cells #[.string ⟨#[]⟩, .int .i64 16, .int .i64 5, .int .i64 0, .int .i64 0, .int .i64 a, .string ⟨#[]⟩, .string ⟨#[]⟩, .int .i64 16, .int .i64 6, .int .i64 0, .int .i64 0, .int .i64 b, .string ⟨#[]⟩, .string ⟨#[]⟩, .int .i64 16, .int .i64 17, .int .i64 0, .int .i64 0, .int .i64 3, .string ⟨#[]⟩, .string ⟨#[]⟩, .int .i64 21, .int .i64 0, .int .i64 5, .int .i64 6, .int .i64 0, .string ⟨#[102, 97, 114]⟩, .string ⟨#[]⟩, .int .i64 28, .int .i64 0, .int .i64 0, .int .i64 0, .int .i64 0, .string ⟨#[]⟩, .string ⟨#[102, 97, 114]⟩, .int .i64 0, .int .i64 0, .int .i64 0, .int .i64 0, .int .i64 0, .string ⟨#[]⟩, .string ⟨#[]⟩, .int .i64 16, .int .i64 10, .int .i64 0, .int .i64 0, .int .i64 1, .string ⟨#[]⟩, .string ⟨#[]⟩, .int .i64 28, .int .i64 0, .int .i64 0, .int .i64 0, .int .i64 0, .string ⟨#[]⟩] 41) = WL := ⟨_, rfl⟩
  have hsWL : WL.heap.size = u6.heap.size + 1 := by rw [← hWX]; simp
  rw [hWX] at hbX1 hoX ⊢
  replace HB := Lib.hid (HB.out.trans (hbX1.mono HB.out.size))
  have HLN := Lib.hid hoX
  clear hbX1 hWX hoX
  have hbX2 : Below WL.heap.size WL (WL.alloc (.cells #[.slice none 0 0, .slice (some ⟨u6.heap.size, 0, none⟩) 8 8] 27)) := (Below.refl _ _).alloc (Nat.le_refl _) _
  have hoX := OwnAt.new WL [.slice none 0 0, .slice (some ⟨u6.heap.size, 0, none⟩) 8 8] 27
  obtain ⟨WC, hWX⟩ : ∃ WC, WL.alloc (.cells #[.slice none 0 0, .slice (some ⟨u6.heap.size, 0, none⟩) 8 8] 27) = WC := ⟨_, rfl⟩
  rw [hsWL] at hoX
  clear hsWL
  rw [hWX] at hbX2 hoX ⊢
  replace HB := Lib.hid (HB.out.trans (hbX2.mono HB.out.size))
  replace HLN := Lib.hid (HLN.out.old hbX2)
  have HO := Lib.hid hoX
  clear hbX2 hWX hoX
  have HC : Hid (CodeAt WC (brC 21 a b) (.slice none 0 0) (.slice (some ⟨u6.heap.size, 0, none⟩) 8 8)) := Lib.hid ⟨RwAt.nil _ _ _, lns_block (L := (brC 21 a b).lines) HLN.out (of_decide_eq_true rfl)⟩
  clear HLN
  generalize brC 21 a b = C at *
  go_upto_region 5 with (fail)
  generalize hWX : World.alloc WC _ = WB
  have hbX3 : Below WC.heap.size WC WB := by rw [← hWX]; exact (Below.refl _ _).alloc (Nat.le_refl _) _
  replace HB := Lib.hid (HB.out.trans (hbX3.mono HB.out.size))
  replace HO := Lib.hid (HO.out.old hbX3)
  replace HC := Lib.hid (HC.out.old hbX3)
  clear hbX3 hWX
  have d0 := HO.out.at 0 _ rfl
  have d1 := HO.out.at 1 _ rfl
  go_wp2_with fail
  refine (HRUN.out _ _ _ HC.out).mono ?_
  rintro e wr ⟨ra, rc, rfl, hn1, hbr⟩
  replace HB := Lib.hid (HB.out.trans (hbr.mono HB.out.size))
  replace HO := Lib.hid (HO.out.old hbr)
  replace HC := Lib.hid (HC.out.old hbr)
  clear hbr
  have HN := Lib.hid (RwOwn.nilv hn1 (of_decide_eq_true rfl) intCells_len)
  clear hn1 d0 d1 HRUN
  go_upto_region 8 with (fail)
  have hbX4 : Below wr.heap.size wr (wr.alloc (.cells #[.int .i64 1, .int .i64 0, .slice ra 0 rc, .int .i64 5] 31)) := (Below.refl _ _).alloc (Nat.le_refl _) _
  have hoX := OwnAt.new wr [.int .i64 1, .int .i64 0, .slice ra 0 rc, .int .i64 5] 31
  obtain ⟨WR, hWX⟩ : ∃ WR, wr.alloc (.cells #[.int .i64 1, .int .i64 0, .slice ra 0 rc, .int .i64 5] 31) = WR := ⟨_, rfl⟩
  rw [hWX] at hbX4 hoX ⊢
  replace HB := Lib.hid (HB.out.trans (hbX4.mono HB.out.size))
  replace HO := Lib.hid (HO.out.old hbX4)
  replace HC := Lib.hid (HC.out.old hbX4)
  replace HN := Lib.hid (HN.out.old hbX4)
  have HR := Lib.hid hoX
  clear hbX4 hWX hoX
  have d0 := HR.out.at 0 _ rfl
  have d1 := HR.out.at 1 _ rfl
  have d2 := HR.out.at 2 _ rfl
  have d3 := HR.out.at 3 _ rfl
  go_wp2_with fail
  refine (HS.out _ _ _ HN.out (RwAt.nil _ _ _)).mono ?_
  rintro e ws ⟨rfl, hbs⟩
  replace HB := Lib.hid (HB.out.trans (hbs.mono HB.out.size))
  replace HO := Lib.hid (HO.out.old hbs)
  replace HC := Lib.hid (HC.out.old hbs)
  replace HN := Lib.hid (HN.out.old hbs)
  replace HR := Lib.hid (HR.out.old hbs)
  clear hbs
  go_wp2_with fail
  go_ret
  exact ⟨rfl, HB.out⟩
theorem br_11 (a b wh : Int) (ha : I64 a) (hb : I64 b) (hw : I64 wh) (hk : ipick wh 4 = 1) (hab : a ≠ b) (w : World) (hl : ILib w) :
    Calls Tryz.prog 8 #[.int .i64 a, .int .i64 b, .int .i64 wh] w fun e w' => e = .returned (.bool true) ∧ Below w.heap.size w w' := by
  have hq1 : (a == b) = false := by simpa using hab
  have hq2 : (a != b) = true := by simp [bne, hq1]
  have hr : (runC (brC 22 a b) [] 9).tells = (1, 1, [], 6) := br_run 22 a b (by decide) true hq2
  have HAW := Lib.hid (jawake_any w hl)
  have HPK := Lib.hid (fun w => jpick_any wh 4 hw (by decide) (by decide) w)
  rw [hk] at HPK
  have HRUN := Lib.hid (fun va vl w hc => run_tells (brC 22 a b) (br_fine 22 a b (by decide)) (br_i64 22 a b ha hb) [] (fun z hz => by cases hz) 9 (by decide) (by decide) 1 1 6 [] hr va vl _ w hc (inp_nil w))
  have HS := Lib.hid (fun v1 v2 w h1 h2 => jsame_eq 1 1 6 [] v1 v2 w h1 h2)
  obtain ⟨ha1, ha2⟩ := ha
  obtain ⟨hb1, hb2⟩ := hb
  clear hl hr hk 
  go_enter Tryz.func8, Tryz.ntmps8
  go_wp2_with fail
  refine (HAW.out).mono ?_
  rintro e w1 ⟨rfl, hb1'⟩
  have HB := Lib.hid hb1'
  clear hb1' HAW
  go_wp2_with fail
  refine (HPK.out _).mono ?_
  rintro e w2 ⟨rfl, rfl⟩
  clear HPK
  go_wp2_with fail
  refine (mline_any _ _ _ _ _ _ _).mono ?_
  rintro e u0 ⟨rfl, hbl0⟩
  replace HB := Lib.hid (HB.out.trans (hbl0.mono HB.out.size))
  clear hbl0
  go_wp2_with fail
  refine (mline_any _ _ _ _ _ _ _).mono ?_
  rintro e u1 ⟨rfl, hbl1⟩
  replace HB := Lib.hid (HB.out.trans (hbl1.mono HB.out.size))
  clear hbl1
  go_wp2_with fail
  refine (mline_any _ _ _ _ _ _ _).mono ?_
  rintro e u2 ⟨rfl, hbl2⟩
  replace HB := Lib.hid (HB.out.trans (hbl2.mono HB.out.size))
  clear hbl2
  go_wp2_with fail
  refine (mline_any _ _ _ _ _ _ _).mono ?_
  rintro e u3 ⟨rfl, hbl3⟩
  replace HB := Lib.hid (HB.out.trans (hbl3.mono HB.out.size))
  clear hbl3
  go_wp2_with fail
  refine (mline_any _ _ _ _ _ _ _).mono ?_
  rintro e u4 ⟨rfl, hbl4⟩
  replace HB := Lib.hid (HB.out.trans (hbl4.mono HB.out.size))
  clear hbl4
  go_wp2_with fail
  refine (mline_any _ _ _ _ _ _ _).mono ?_
  rintro e u5 ⟨rfl, hbl5⟩
  replace HB := Lib.hid (HB.out.trans (hbl5.mono HB.out.size))
  clear hbl5
  go_wp2_with fail
  refine (mline_any _ _ _ _ _ _ _).mono ?_
  rintro e u6 ⟨rfl, hbl6⟩
  replace HB := Lib.hid (HB.out.trans (hbl6.mono HB.out.size))
  clear hbl6
  go_upto_region 4 with (fail)
  have hbX1 : Below u6.heap.size u6 (u6.alloc (.cells #[.string ⟨#[]⟩, .int .i64 16, .int .i64 5, .int .i64 0, .int .i64 0, .int .i64 a, .string ⟨#[]⟩, .string ⟨#[]⟩, .int .i64 16, .int .i64 6, .int .i64 0, .int .i64 0, .int .i64 b, .string ⟨#[]⟩, .string ⟨#[]⟩, .int .i64 16, .int .i64 17, .int .i64 0, .int .i64 0, .int .i64 3, .string ⟨#[]⟩, .string ⟨#[]⟩, .int .i64 22, .int .i64 0, .int .i64 5, .int .i64 6, .int .i64 0, .string ⟨#[102, 97, 114]⟩, .string ⟨#[]⟩, .int .i64 28, .int .i64 0, .int .i64 0, .int .i64 0, .int .i64 0, .string ⟨#[]⟩, .string ⟨#[102, 97, 114]⟩, .int .i64 0, .int .i64 0, .int .i64 0, .int .i64 0, .int .i64 0, .string ⟨#[]⟩, .string ⟨#[]⟩, .int .i64 16, .int .i64 10, .int .i64 0, .int .i64 0, .int .i64 1, .string ⟨#[]⟩, .string ⟨#[]⟩, .int .i64 28, .int .i64 0, .int .i64 0, .int .i64 0, .int .i64 0, .string ⟨#[]⟩] 41)) := (Below.refl _ _).alloc (Nat.le_refl _) _
  have hoX := OwnAt.new u6 [.string ⟨#[]⟩, .int .i64 16, .int .i64 5, .int .i64 0, .int .i64 0, .int .i64 a, .string ⟨#[]⟩, .string ⟨#[]⟩, .int .i64 16, .int .i64 6, .int .i64 0, .int .i64 0, .int .i64 b, .string ⟨#[]⟩, .string ⟨#[]⟩, .int .i64 16, .int .i64 17, .int .i64 0, .int .i64 0, .int .i64 3, .string ⟨#[]⟩, .string ⟨#[]⟩, .int .i64 22, .int .i64 0, .int .i64 5, .int .i64 6, .int .i64 0, .string ⟨#[102, 97, 114]⟩, .string ⟨#[]⟩, .int .i64 28, .int .i64 0, .int .i64 0, .int .i64 0, .int .i64 0, .string ⟨#[]⟩, .string ⟨#[102, 97, 114]⟩, .int .i64 0, .int .i64 0, .int .i64 0, .int .i64 0, .int .i64 0, .string ⟨#[]⟩, .string ⟨#[]⟩, .int .i64 16, .int .i64 10, .int .i64 0, .int .i64 0, .int .i64 1, .string ⟨#[]⟩, .string ⟨#[]⟩, .int .i64 28, .int .i64 0, .int .i64 0, .int .i64 0, .int .i64 0, .string ⟨#[]⟩] 41
  obtain ⟨WL, hWX⟩ : ∃ WL, u6.alloc (.cells #[.string ⟨#[]⟩, .int .i64 16, .int .i64 5, .int .i64 0, .int .i64 0, .int .i64 a, .string ⟨#[]⟩, .string ⟨#[]⟩, .int .i64 16, .int .i64 6, .int .i64 0, .int .i64 0, .int .i64 b, .string ⟨#[]⟩, .string ⟨#[]⟩, .int .i64 16, .int .i64 17, .int .i64 0, .int .i64 0, .int .i64 3, .string ⟨#[]⟩, .string ⟨#[]⟩, .int .i64 22, .int .i64 0, .int .i64 5, .int .i64 6, .int .i64 0, .string ⟨#[102, 97, 114]⟩, .string ⟨#[]⟩, .int .i64 28, .int .i64 0, .int .i64 0, .int .i64 0, .int .i64 0, .string ⟨#[]⟩, .string ⟨#[102, 97, 114]⟩, .int .i64 0, .int .i64 0, .int .i64 0, .int .i64 0, .int .i64 0, .string ⟨#[]⟩, .string ⟨#[]⟩, .int .i64 16, .int .i64 10, .int .i64 0, .int .i64 0, .int .i64 1, .string ⟨#[]⟩, .string ⟨#[]⟩, .int .i64 28, .int .i64 0, .int .i64 0, .int .i64 0, .int .i64 0, .string ⟨#[]⟩] 41) = WL := ⟨_, rfl⟩
  have hsWL : WL.heap.size = u6.heap.size + 1 := by rw [← hWX]; simp
  rw [hWX] at hbX1 hoX ⊢
  replace HB := Lib.hid (HB.out.trans (hbX1.mono HB.out.size))
  have HLN := Lib.hid hoX
  clear hbX1 hWX hoX
  have hbX2 : Below WL.heap.size WL (WL.alloc (.cells #[.slice none 0 0, .slice (some ⟨u6.heap.size, 0, none⟩) 8 8] 27)) := (Below.refl _ _).alloc (Nat.le_refl _) _
  have hoX := OwnAt.new WL [.slice none 0 0, .slice (some ⟨u6.heap.size, 0, none⟩) 8 8] 27
  obtain ⟨WC, hWX⟩ : ∃ WC, WL.alloc (.cells #[.slice none 0 0, .slice (some ⟨u6.heap.size, 0, none⟩) 8 8] 27) = WC := ⟨_, rfl⟩
  rw [hsWL] at hoX
  clear hsWL
  rw [hWX] at hbX2 hoX ⊢
  replace HB := Lib.hid (HB.out.trans (hbX2.mono HB.out.size))
  replace HLN := Lib.hid (HLN.out.old hbX2)
  have HO := Lib.hid hoX
  clear hbX2 hWX hoX
  have HC : Hid (CodeAt WC (brC 22 a b) (.slice none 0 0) (.slice (some ⟨u6.heap.size, 0, none⟩) 8 8)) := Lib.hid ⟨RwAt.nil _ _ _, lns_block (L := (brC 22 a b).lines) HLN.out (of_decide_eq_true rfl)⟩
  clear HLN
  generalize brC 22 a b = C at *
  go_upto_region 5 with (fail)
  generalize hWX : World.alloc WC _ = WB
  have hbX3 : Below WC.heap.size WC WB := by rw [← hWX]; exact (Below.refl _ _).alloc (Nat.le_refl _) _
  replace HB := Lib.hid (HB.out.trans (hbX3.mono HB.out.size))
  replace HO := Lib.hid (HO.out.old hbX3)
  replace HC := Lib.hid (HC.out.old hbX3)
  clear hbX3 hWX
  have d0 := HO.out.at 0 _ rfl
  have d1 := HO.out.at 1 _ rfl
  go_wp2_with fail
  refine (HRUN.out _ _ _ HC.out).mono ?_
  rintro e wr ⟨ra, rc, rfl, hn1, hbr⟩
  replace HB := Lib.hid (HB.out.trans (hbr.mono HB.out.size))
  replace HO := Lib.hid (HO.out.old hbr)
  replace HC := Lib.hid (HC.out.old hbr)
  clear hbr
  have HN := Lib.hid (RwOwn.nilv hn1 (of_decide_eq_true rfl) intCells_len)
  clear hn1 d0 d1 HRUN
  go_upto_region 7 with (fail)
  have hbX4 : Below wr.heap.size wr (wr.alloc (.cells #[.int .i64 1, .int .i64 1, .slice ra 0 rc, .int .i64 6] 31)) := (Below.refl _ _).alloc (Nat.le_refl _) _
  have hoX := OwnAt.new wr [.int .i64 1, .int .i64 1, .slice ra 0 rc, .int .i64 6] 31
  obtain ⟨WR, hWX⟩ : ∃ WR, wr.alloc (.cells #[.int .i64 1, .int .i64 1, .slice ra 0 rc, .int .i64 6] 31) = WR := ⟨_, rfl⟩
  rw [hWX] at hbX4 hoX ⊢
  replace HB := Lib.hid (HB.out.trans (hbX4.mono HB.out.size))
  replace HO := Lib.hid (HO.out.old hbX4)
  replace HC := Lib.hid (HC.out.old hbX4)
  replace HN := Lib.hid (HN.out.old hbX4)
  have HR := Lib.hid hoX
  clear hbX4 hWX hoX
  have d0 := HR.out.at 0 _ rfl
  have d1 := HR.out.at 1 _ rfl
  have d2 := HR.out.at 2 _ rfl
  have d3 := HR.out.at 3 _ rfl
  go_wp2_with fail
  refine (HS.out _ _ _ HN.out (RwAt.nil _ _ _)).mono ?_
  rintro e ws ⟨rfl, hbs⟩
  replace HB := Lib.hid (HB.out.trans (hbs.mono HB.out.size))
  replace HO := Lib.hid (HO.out.old hbs)
  replace HC := Lib.hid (HC.out.old hbs)
  replace HN := Lib.hid (HN.out.old hbs)
  replace HR := Lib.hid (HR.out.old hbs)
  clear hbs
  go_wp2_with fail
  go_ret
  exact ⟨rfl, HB.out⟩
theorem br_10 (a b wh : Int) (ha : I64 a) (hb : I64 b) (hw : I64 wh) (hk : ipick wh 4 = 1) (hab : ¬ (a ≠ b)) (w : World) (hl : ILib w) :
    Calls Tryz.prog 8 #[.int .i64 a, .int .i64 b, .int .i64 wh] w fun e w' => e = .returned (.bool true) ∧ Below w.heap.size w w' := by
  obtain rfl := Classical.not_not.1 hab
  have hq1 : (a == a) = true := beq_self_eq_true a
  have hq2 : (a != a) = false := by simp [bne, hq1]
  have hr : (runC (brC 22 a a) [] 9).tells = (1, 0, [], 5) := br_run 22 a a (by decide) false hq2
  have HAW := Lib.hid (jawake_any w hl)
  have HPK := Lib.hid (fun w => jpick_any wh 4 hw (by decide) (by decide) w)
  rw [hk] at HPK
  have HRUN := Lib.hid (fun va vl w hc => run_tells (brC 22 a a) (br_fine 22 a a (by decide)) (br_i64 22 a a ha ha) [] (fun z hz => by cases hz) 9 (by decide) (by decide) 1 0 5 [] hr va vl _ w hc (inp_nil w))
  have HS := Lib.hid (fun v1 v2 w h1 h2 => jsame_eq 1 0 5 [] v1 v2 w h1 h2)
  obtain ⟨ha1, ha2⟩ := ha
  obtain ⟨hb1, hb2⟩ := hb
  clear hl hr hk 
  go_enter Tryz.func8, Tryz.ntmps8
  go_wp2_with fail
  refine (HAW.out).mono ?_
  rintro e w1 ⟨rfl, hb1'⟩
  have HB := Lib.hid hb1'
  clear hb1' HAW
  go_wp2_with fail
  refine (HPK.out _).mono ?_
  rintro e w2 ⟨rfl, rfl⟩
  clear HPK
  go_wp2_with fail
  refine (mline_any _ _ _ _ _ _ _).mono ?_
  rintro e u0 ⟨rfl, hbl0⟩
  replace HB := Lib.hid (HB.out.trans (hbl0.mono HB.out.size))
  clear hbl0
  go_wp2_with fail
  refine (mline_any _ _ _ _ _ _ _).mono ?_
  rintro e u1 ⟨rfl, hbl1⟩
  replace HB := Lib.hid (HB.out.trans (hbl1.mono HB.out.size))
  clear hbl1
  go_wp2_with fail
  refine (mline_any _ _ _ _ _ _ _).mono ?_
  rintro e u2 ⟨rfl, hbl2⟩
  replace HB := Lib.hid (HB.out.trans (hbl2.mono HB.out.size))
  clear hbl2
  go_wp2_with fail
  refine (mline_any _ _ _ _ _ _ _).mono ?_
  rintro e u3 ⟨rfl, hbl3⟩
  replace HB := Lib.hid (HB.out.trans (hbl3.mono HB.out.size))
  clear hbl3
  go_wp2_with fail
  refine (mline_any _ _ _ _ _ _ _).mono ?_
  rintro e u4 ⟨rfl, hbl4⟩
  replace HB := Lib.hid (HB.out.trans (hbl4.mono HB.out.size))
  clear hbl4
  go_wp2_with fail
  refine (mline_any _ _ _ _ _ _ _).mono ?_
  rintro e u5 ⟨rfl, hbl5⟩
  replace HB := Lib.hid (HB.out.trans (hbl5.mono HB.out.size))
  clear hbl5
  go_wp2_with fail
  refine (mline_any _ _ _ _ _ _ _).mono ?_
  rintro e u6 ⟨rfl, hbl6⟩
  replace HB := Lib.hid (HB.out.trans (hbl6.mono HB.out.size))
  clear hbl6
  go_upto_region 4 with (fail)
  have hbX1 : Below u6.heap.size u6 (u6.alloc (.cells #[.string ⟨#[]⟩, .int .i64 16, .int .i64 5, .int .i64 0, .int .i64 0, .int .i64 a, .string ⟨#[]⟩, .string ⟨#[]⟩, .int .i64 16, .int .i64 6, .int .i64 0, .int .i64 0, .int .i64 a, .string ⟨#[]⟩, .string ⟨#[]⟩, .int .i64 16, .int .i64 17, .int .i64 0, .int .i64 0, .int .i64 3, .string ⟨#[]⟩, .string ⟨#[]⟩, .int .i64 22, .int .i64 0, .int .i64 5, .int .i64 6, .int .i64 0, .string ⟨#[102, 97, 114]⟩, .string ⟨#[]⟩, .int .i64 28, .int .i64 0, .int .i64 0, .int .i64 0, .int .i64 0, .string ⟨#[]⟩, .string ⟨#[102, 97, 114]⟩, .int .i64 0, .int .i64 0, .int .i64 0, .int .i64 0, .int .i64 0, .string ⟨#[]⟩, .string ⟨#[]⟩, .int .i64 16, .int .i64 10, .int .i64 0, .int .i64 0, .int .i64 1, .string ⟨#[]⟩, .string ⟨#[]⟩, .int .i64 28, .int .i64 0, .int .i64 0, .int .i64 0, .int .i64 0, .string ⟨#[]⟩] 41)) := (Below.refl _ _).alloc (Nat.le_refl _) _
  have hoX := OwnAt.new u6 [.string ⟨#[]⟩, .int .i64 16, .int .i64 5, .int .i64 0, .int .i64 0, .int .i64 a, .string ⟨#[]⟩, .string ⟨#[]⟩, .int .i64 16, .int .i64 6, .int .i64 0, .int .i64 0, .int .i64 a, .string ⟨#[]⟩, .string ⟨#[]⟩, .int .i64 16, .int .i64 17, .int .i64 0, .int .i64 0, .int .i64 3, .string ⟨#[]⟩, .string ⟨#[]⟩, .int .i64 22, .int .i64 0, .int .i64 5, .int .i64 6, .int .i64 0, .string ⟨#[102, 97, 114]⟩, .string ⟨#[]⟩, .int .i64 28, .int .i64 0, .int .i64 0, .int .i64 0, .int .i64 0, .string ⟨#[]⟩, .string ⟨#[102, 97, 114]⟩, .int .i64 0, .int .i64 0, .int .i64 0, .int .i64 0, .int .i64 0, .string ⟨#[]⟩, .string ⟨#[]⟩, .int .i64 16, .int .i64 10, .int .i64 0, .int .i64 0, .int .i64 1, .string ⟨#[]⟩, .string ⟨#[]⟩, .int .i64 28, .int .i64 0, .int .i64 0, .int .i64 0, .int .i64 0, .string ⟨#[]⟩] 41
  obtain ⟨WL, hWX⟩ : ∃ WL, u6.alloc (.cells #[.string ⟨#[]⟩, .int .i64 16, .int .i64 5, .int .i64 0, .int .i64 0, .int .i64 a, .string ⟨#[]⟩, .string ⟨#[]⟩, .int .i64 16, .int .i64 6, .int .i64 0, .int .i64 0, .int .i64 a, .string ⟨#[]⟩, .string ⟨#[]⟩, .int .i64 16, .int .i64 17, .int .i64 0, .int .i64 0, .int .i64 3, .string ⟨#[]⟩, .string ⟨#[]⟩, .int .i64 22, .int .i64 0, .int .i64 5, .int .i64 6, .int .i64 0, .string ⟨#[102, 97, 114]⟩, .string ⟨#[]⟩, .int .i64 28, .int .i64 0, .int .i64 0, .int .i64 0, .int .i64 0, .string ⟨#[]⟩, .string ⟨#[102, 97, 114]⟩, .int .i64 0, .int .i64 0, .int .i64 0, .int .i64 0, .int .i64 0, .string ⟨#[]⟩, .string ⟨#[]⟩, .int .i64 16, .int .i64 10, .int .i64 0, .int .i64 0, .int .i64 1, .string ⟨#[]⟩, .string ⟨#[]⟩, .int .i64 28, .int .i64 0, .int .i64 0, .int .i64 0, .int .i64 0, .string ⟨#[]⟩] 41) = WL := ⟨_, rfl⟩
  have hsWL : WL.heap.size = u6.heap.size + 1 := by rw [← hWX]; simp
  rw [hWX] at hbX1 hoX ⊢
  replace HB := Lib.hid (HB.out.trans (hbX1.mono HB.out.size))
  have HLN := Lib.hid hoX
  clear hbX1 hWX hoX
  have hbX2 : Below WL.heap.size WL (WL.alloc (.cells #[.slice none 0 0, .slice (some ⟨u6.heap.size, 0, none⟩) 8 8] 27)) := (Below.refl _ _).alloc (Nat.le_refl _) _
  have hoX := OwnAt.new WL [.slice none 0 0, .slice (some ⟨u6.heap.size, 0, none⟩) 8 8] 27
  obtain ⟨WC, hWX⟩ : ∃ WC, WL.alloc (.cells #[.slice none 0 0, .slice (some ⟨u6.heap.size, 0, none⟩) 8 8] 27) = WC := ⟨_, rfl⟩
  rw [hsWL] at hoX
  clear hsWL
  rw [hWX] at hbX2 hoX ⊢
  replace HB := Lib.hid (HB.out.trans (hbX2.mono HB.out.size))
  replace HLN := Lib.hid (HLN.out.old hbX2)
  have HO := Lib.hid hoX
  clear hbX2 hWX hoX
  have HC : Hid (CodeAt WC (brC 22 a a) (.slice none 0 0) (.slice (some ⟨u6.heap.size, 0, none⟩) 8 8)) := Lib.hid ⟨RwAt.nil _ _ _, lns_block (L := (brC 22 a a).lines) HLN.out (of_decide_eq_true rfl)⟩
  clear HLN
  generalize brC 22 a a = C at *
  go_upto_region 5 with (fail)
  generalize hWX : World.alloc WC _ = WB
  have hbX3 : Below WC.heap.size WC WB := by rw [← hWX]; exact (Below.refl _ _).alloc (Nat.le_refl _) _
  replace HB := Lib.hid (HB.out.trans (hbX3.mono HB.out.size))
  replace HO := Lib.hid (HO.out.old hbX3)
  replace HC := Lib.hid (HC.out.old hbX3)
  clear hbX3 hWX
  have d0 := HO.out.at 0 _ rfl
  have d1 := HO.out.at 1 _ rfl
  go_wp2_with fail
  refine (HRUN.out _ _ _ HC.out).mono ?_
  rintro e wr ⟨ra, rc, rfl, hn1, hbr⟩
  replace HB := Lib.hid (HB.out.trans (hbr.mono HB.out.size))
  replace HO := Lib.hid (HO.out.old hbr)
  replace HC := Lib.hid (HC.out.old hbr)
  clear hbr
  have HN := Lib.hid (RwOwn.nilv hn1 (of_decide_eq_true rfl) intCells_len)
  clear hn1 d0 d1 HRUN
  go_upto_region 8 with (fail)
  have hbX4 : Below wr.heap.size wr (wr.alloc (.cells #[.int .i64 1, .int .i64 0, .slice ra 0 rc, .int .i64 5] 31)) := (Below.refl _ _).alloc (Nat.le_refl _) _
  have hoX := OwnAt.new wr [.int .i64 1, .int .i64 0, .slice ra 0 rc, .int .i64 5] 31
  obtain ⟨WR, hWX⟩ : ∃ WR, wr.alloc (.cells #[.int .i64 1, .int .i64 0, .slice ra 0 rc, .int .i64 5] 31) = WR := ⟨_, rfl⟩
  rw [hWX] at hbX4 hoX ⊢
  replace HB := Lib.hid (HB.out.trans (hbX4.mono HB.out.size))
  replace HO := Lib.hid (HO.out.old hbX4)
  replace HC := Lib.hid (HC.out.old hbX4)
  replace HN := Lib.hid (HN.out.old hbX4)
  have HR := Lib.hid hoX
  clear hbX4 hWX hoX
  have d0 := HR.out.at 0 _ rfl
  have d1 := HR.out.at 1 _ rfl
  have d2 := HR.out.at 2 _ rfl
  have d3 := HR.out.at 3 _ rfl
  go_wp2_with fail
  refine (HS.out _ _ _ HN.out (RwAt.nil _ _ _)).mono ?_
  rintro e ws ⟨rfl, hbs⟩
  replace HB := Lib.hid (HB.out.trans (hbs.mono HB.out.size))
  replace HO := Lib.hid (HO.out.old hbs)
  replace HC := Lib.hid (HC.out.old hbs)
  replace HN := Lib.hid (HN.out.old hbs)
  replace HR := Lib.hid (HR.out.old hbs)
  clear hbs
  go_wp2_with fail
  go_ret
  exact ⟨rfl, HB.out⟩
theorem br_21 (a b wh : Int) (ha : I64 a) (hb : I64 b) (hw : I64 wh) (hk : ipick wh 4 = 2) (hab : a < b) (w : World) (hl : ILib w) :
    Calls Tryz.prog 8 #[.int .i64 a, .int .i64 b, .int .i64 wh] w fun e w' => e = .returned (.bool true) ∧ Below w.heap.size w w' := by
  have hq1 : decide (a < b) = true := decide_eq_true hab
  have hr : (runC (brC 23 a b) [] 9).tells = (1, 1, [], 6) := br_run 23 a b (by decide) true hq1
  have HAW := Lib.hid (jawake_any w hl)
  have HPK := Lib.hid (fun w => jpick_any wh 4 hw (by decide) (by decide) w)
  rw [hk] at HPK
  have HRUN := Lib.hid (fun va vl w hc => run_tells (brC 23 a b) (br_fine 23 a b (by decide)) (br_i64 23 a b ha hb) [] (fun z hz => by cases hz) 9 (by decide) (by decide) 1 1 6 [] hr va vl _ w hc (inp_nil w))
  have HS := Lib.hid (fun v1 v2 w h1 h2 => jsame_eq 1 1 6 [] v1 v2 w h1 h2)
  obtain ⟨ha1, ha2⟩ := ha
  obtain ⟨hb1, hb2⟩ := hb
  clear hl hr hk 
  go_enter Tryz.func8, Tryz.ntmps8
  go_wp2_with fail
  refine (HAW.out).mono ?_
  rintro e w1 ⟨rfl, hb1'⟩
  have HB := Lib.hid hb1'
  clear hb1' HAW
  go_wp2_with fail
  refine (HPK.out _).mono ?_
  rintro e w2 ⟨rfl, rfl⟩
  clear HPK
  go_wp2_with fail
  refine (mline_any _ _ _ _ _ _ _).mono ?_
  rintro e u0 ⟨rfl, hbl0⟩
  replace HB := Lib.hid (HB.out.trans (hbl0.mono HB.out.size))
  clear hbl0
  go_wp2_with fail
  refine (mline_any _ _ _ _ _ _ _).mono ?_
  rintro e u1 ⟨rfl, hbl1⟩
  replace HB := Lib.hid (HB.out.trans (hbl1.mono HB.out.size))
  clear hbl1
  go_wp2_with fail
  refine (mline_any _ _ _ _ _ _ _).mono ?_
  rintro e u2 ⟨rfl, hbl2⟩
  replace HB := Lib.hid (HB.out.trans (hbl2.mono HB.out.size))
  clear hbl2
  go_wp2_with fail
  refine (mline_any _ _ _ _ _ _ _).mono ?_
  rintro e u3 ⟨rfl, hbl3⟩
  replace HB := Lib.hid (HB.out.trans (hbl3.mono HB.out.size))
  clear hbl3
  go_wp2_with fail
  refine (mline_any _ _ _ _ _ _ _).mono ?_
  rintro e u4 ⟨rfl, hbl4⟩
  replace HB := Lib.hid (HB.out.trans (hbl4.mono HB.out.size))
  clear hbl4
  go_wp2_with fail
  refine (mline_any _ _ _ _ _ _ _).mono ?_
  rintro e u5 ⟨rfl, hbl5⟩
  replace HB := Lib.hid (HB.out.trans (hbl5.mono HB.out.size))
  clear hbl5
  go_wp2_with fail
  refine (mline_any _ _ _ _ _ _ _).mono ?_
  rintro e u6 ⟨rfl, hbl6⟩
  replace HB := Lib.hid (HB.out.trans (hbl6.mono HB.out.size))
  clear hbl6
  go_upto_region 4 with (fail)
  have hbX1 : Below u6.heap.size u6 (u6.alloc (.cells #[.string ⟨#[]⟩, .int .i64 16, .int .i64 5, .int .i64 0, .int .i64 0, .int .i64 a, .string ⟨#[]⟩, .string ⟨#[]⟩, .int .i64 16, .int .i64 6, .int .i64 0, .int .i64 0, .int .i64 b, .string ⟨#[]⟩, .string ⟨#[]⟩, .int .i64 16, .int .i64 17, .int .i64 0, .int .i64 0, .int .i64 3, .string ⟨#[]⟩, .string ⟨#[]⟩, .int .i64 23, .int .i64 0, .int .i64 5, .int .i64 6, .int .i64 0, .string ⟨#[102, 97, 114]⟩, .string ⟨#[]⟩, .int .i64 28, .int .i64 0, .int .i64 0, .int .i64 0, .int .i64 0, .string ⟨#[]⟩, .string ⟨#[102, 97, 114]⟩, .int .i64 0, .int .i64 0, .int .i64 0, .int .i64 0, .int .i64 0, .string ⟨#[]⟩, .string ⟨#[]⟩, .int .i64 16, .int .i64 10, .int .i64 0, .int .i64 0, .int .i64 1, .string ⟨#[]⟩, .string ⟨#[]⟩, .int .i64 28, .int .i64 0, .int .i64 0, .int .i64 0, .int .i64 0, .string ⟨#[]⟩] 41)) := (Below.refl _ _).alloc (Nat.le_refl _) _
  have hoX := OwnAt.new u6 [.string ⟨#[]⟩, .int .i64 16, .int .i64 5, .int .i64 0, .int .i64 0, .int .i64 a, .string ⟨#[]⟩, .string ⟨#[]⟩, .int .i64 16, .int .i64 6, .int .i64 0, .int .i64 0, .int .i64 b, .string ⟨#[]⟩, .string ⟨#[]⟩, .int .i64 16, .int .i64 17, .int .i64 0, .int .i64 0, .int .i64 3, .string ⟨#[]⟩, .string ⟨#[]⟩, .int .i64 23, .int .i64 0, .int .i64 5, .int .i64 6, .int .i64 0, .string ⟨#[102, 97, 114]⟩, .string ⟨#[]⟩, .int .i64 28, .int .i64 0, .int .i64 0, .int .i64 0, .int .i64 0, .string ⟨#[]⟩, .string ⟨#[102, 97, 114]⟩, .int .i64 0, .int .i64 0, .int .i64 0, .int .i64 0, .int .i64 0, .string ⟨#[]⟩, .string ⟨#[]⟩, .int .i64 16, .int .i64 10, .int .i64 0, .int .i64 0, .int .i64 1, .string ⟨#[]⟩, .string ⟨#[]⟩, .int .i64 28, .int .i64 0, .int .i64 0, .int .i64 0, .int .i64 0, .string ⟨#[]⟩] 41
  obtain ⟨WL, hWX⟩ : ∃ WL, u6.alloc (.cells #[.string ⟨#[]⟩, .int .i64 16, .int .i64 5, .int .i64 0, .int .i64 0, .int .i64 a, .string ⟨#[]⟩, .string ⟨#[]⟩, .int .i64 16, .int .i64 6, .int .i64 0, .int .i64 0, .int .i64 b, .string ⟨#[]⟩, .string ⟨#[]⟩, .int .i64 16, .int .i64 17, .int .i64 0, .int .i64 0, .int .i64 3, .string ⟨#[]⟩, .string ⟨#[]⟩, .int .i64 23, .int .i64 0, .int .i64 5, .int .i64 6, .int .i64 0, .string ⟨#[102, 97, 114]⟩, .string ⟨#[]⟩, .int .i64 28, .int .i64 0, .int .i64 0, .int .i64 0, .int .i64 0, .string ⟨#[]⟩, .string ⟨#[102, 97, 114]⟩, .int .i64 0, .int .i64 0, .int .i64 0, .int .i64 0, .int .i64 0, .string ⟨#[]⟩, .string ⟨#[]⟩, .int .i64 16, .int .i64 10, .int .i64 0, .int .i64 0, .int .i64 1, .string ⟨#[]⟩, .string ⟨#[]⟩, .int .i64 28, .int .i64 0, .int .i64 0, .int .i64 0, .int .i64 0, .string ⟨#[]⟩] 41) = WL := ⟨_, rfl⟩
  have hsWL : WL.heap.size = u6.heap.size + 1 := by rw [← hWX]; simp
  rw [hWX] at hbX1 hoX ⊢
  replace HB := Lib.hid (HB.out.trans (hbX1.mono HB.out.size))
  have HLN := Lib.hid hoX
  clear hbX1 hWX hoX
  have hbX2 : Below WL.heap.size WL (WL.alloc (.cells #[.slice none 0 0, .slice (some ⟨u6.heap.size, 0, none⟩) 8 8] 27)) := (Below.refl _ _).alloc (Nat.le_refl _) _
  have hoX := OwnAt.new WL [.slice none 0 0, .slice (some ⟨u6.heap.size, 0, none⟩) 8 8] 27
  obtain ⟨WC, hWX⟩ : ∃ WC, WL.alloc (.cells #[.slice none 0 0, .slice (some ⟨u6.heap.size, 0, none⟩) 8 8] 27) = WC := ⟨_, rfl⟩
  rw [hsWL] at hoX
  clear hsWL
  rw [hWX] at hbX2 hoX ⊢
  replace HB := Lib.hid (HB.out.trans (hbX2.mono HB.out.size))
  replace HLN := Lib.hid (HLN.out.old hbX2)
  have HO := Lib.hid hoX
  clear hbX2 hWX hoX
  have HC : Hid (CodeAt WC (brC 23 a b) (.slice none 0 0) (.slice (some ⟨u6.heap.size, 0, none⟩) 8 8)) := Lib.hid ⟨RwAt.nil _ _ _, lns_block (L := (brC 23 a b).lines) HLN.out (of_decide_eq_true rfl)⟩
  clear HLN
  generalize brC 23 a b = C at *
  go_upto_region 5 with (fail)
  generalize hWX : World.alloc WC _ = WB
  have hbX3 : Below WC.heap.size WC WB := by rw [← hWX]; exact (Below.refl _ _).alloc (Nat.le_refl _) _
  replace HB := Lib.hid (HB.out.trans (hbX3.mono HB.out.size))
  replace HO := Lib.hid (HO.out.old hbX3)
  replace HC := Lib.hid (HC.out.old hbX3)
  clear hbX3 hWX
  have d0 := HO.out.at 0 _ rfl
  have d1 := HO.out.at 1 _ rfl
  go_wp2_with fail
  refine (HRUN.out _ _ _ HC.out).mono ?_
  rintro e wr ⟨ra, rc, rfl, hn1, hbr⟩
  replace HB := Lib.hid (HB.out.trans (hbr.mono HB.out.size))
  replace HO := Lib.hid (HO.out.old hbr)
  replace HC := Lib.hid (HC.out.old hbr)
  clear hbr
  have HN := Lib.hid (RwOwn.nilv hn1 (of_decide_eq_true rfl) intCells_len)
  clear hn1 d0 d1 HRUN
  go_upto_region 7 with (fail)
  have hbX4 : Below wr.heap.size wr (wr.alloc (.cells #[.int .i64 1, .int .i64 1, .slice ra 0 rc, .int .i64 6] 31)) := (Below.refl _ _).alloc (Nat.le_refl _) _
  have hoX := OwnAt.new wr [.int .i64 1, .int .i64 1, .slice ra 0 rc, .int .i64 6] 31
  obtain ⟨WR, hWX⟩ : ∃ WR, wr.alloc (.cells #[.int .i64 1, .int .i64 1, .slice ra 0 rc, .int .i64 6] 31) = WR := ⟨_, rfl⟩
  rw [hWX] at hbX4 hoX ⊢
  replace HB := Lib.hid (HB.out.trans (hbX4.mono HB.out.size))
  replace HO := Lib.hid (HO.out.old hbX4)
  replace HC := Lib.hid (HC.out.old hbX4)
  replace HN := Lib.hid (HN.out.old hbX4)
  have HR := Lib.hid hoX
  clear hbX4 hWX hoX
  have d0 := HR.out.at 0 _ rfl
  have d1 := HR.out.at 1 _ rfl
  have d2 := HR.out.at 2 _ rfl
  have d3 := HR.out.at 3 _ rfl
  go_wp2_with fail
  refine (HS.out _ _ _ HN.out (RwAt.nil _ _ _)).mono ?_
  rintro e ws ⟨rfl, hbs⟩
  replace HB := Lib.hid (HB.out.trans (hbs.mono HB.out.size))
  replace HO := Lib.hid (HO.out.old hbs)
  replace HC := Lib.hid (HC.out.old hbs)
  replace HN := Lib.hid (HN.out.old hbs)
  replace HR := Lib.hid (HR.out.old hbs)
  clear hbs
  go_wp2_with fail
  go_ret
  exact ⟨rfl, HB.out⟩
theorem br_20 (a b wh : Int) (ha : I64 a) (hb : I64 b) (hw : I64 wh) (hk : ipick wh 4 = 2) (hab : ¬ (a < b)) (w : World) (hl : ILib w) :
    Calls Tryz.prog 8 #[.int .i64 a, .int .i64 b, .int .i64 wh] w fun e w' => e = .returned (.bool true) ∧ Below w.heap.size w w' := by
  have hq1 : decide (a < b) = false := decide_eq_false hab
  have hr : (runC (brC 23 a b) [] 9).tells = (1, 0, [], 5) := br_run 23 a b (by decide) false hq1
  have HAW := Lib.hid (jawake_any w hl)
  have HPK := Lib.hid (fun w => jpick_any wh 4 hw (by decide) (by decide) w)
  rw [hk] at HPK
  have HRUN := Lib.hid (fun va vl w hc => run_tells (brC 23 a b) (br_fine 23 a b (by decide)) (br_i64 23 a b ha hb) [] (fun z hz => by cases hz) 9 (by decide) (by decide) 1 0 5 [] hr va vl _ w hc (inp_nil w))
  have HS := Lib.hid (fun v1 v2 w h1 h2 => jsame_eq 1 0 5 [] v1 v2 w h1 h2)
  obtain ⟨ha1, ha2⟩ := ha
  obtain ⟨hb1, hb2⟩ := hb
  clear hl hr hk 
  go_enter Tryz.func8, Tryz.ntmps8
  go_wp2_with fail
  refine (HAW.out).mono ?_
  rintro e w1 ⟨rfl, hb1'⟩
  have HB := Lib.hid hb1'
  clear hb1' HAW
  go_wp2_with fail
  refine (HPK.out _).mono ?_
  rintro e w2 ⟨rfl, rfl⟩
  clear HPK
  go_wp2_with fail
  refine (mline_any _ _ _ _ _ _ _).mono ?_
  rintro e u0 ⟨rfl, hbl0⟩
  replace HB := Lib.hid (HB.out.trans (hbl0.mono HB.out.size))
  clear hbl0
  go_wp2_with fail
  refine (mline_any _ _ _ _ _ _ _).mono ?_
  rintro e u1 ⟨rfl, hbl1⟩
  replace HB := Lib.hid (HB.out.trans (hbl1.mono HB.out.size))
  clear hbl1
  go_wp2_with fail
  refine (mline_any _ _ _ _ _ _ _).mono ?_
  rintro e u2 ⟨rfl, hbl2⟩
  replace HB := Lib.hid (HB.out.trans (hbl2.mono HB.out.size))
  clear hbl2
  go_wp2_with fail
  refine (mline_any _ _ _ _ _ _ _).mono ?_
  rintro e u3 ⟨rfl, hbl3⟩
  replace HB := Lib.hid (HB.out.trans (hbl3.mono HB.out.size))
  clear hbl3
  go_wp2_with fail
  refine (mline_any _ _ _ _ _ _ _).mono ?_
  rintro e u4 ⟨rfl, hbl4⟩
  replace HB := Lib.hid (HB.out.trans (hbl4.mono HB.out.size))
  clear hbl4
  go_wp2_with fail
  refine (mline_any _ _ _ _ _ _ _).mono ?_
  rintro e u5 ⟨rfl, hbl5⟩
  replace HB := Lib.hid (HB.out.trans (hbl5.mono HB.out.size))
  clear hbl5
  go_wp2_with fail
  refine (mline_any _ _ _ _ _ _ _).mono ?_
  rintro e u6 ⟨rfl, hbl6⟩
  replace HB := Lib.hid (HB.out.trans (hbl6.mono HB.out.size))
  clear hbl6
  go_upto_region 4 with (fail)
  have hbX1 : Below u6.heap.size u6 (u6.alloc (.cells #[.string ⟨#[]⟩, .int .i64 16, .int .i64 5, .int .i64 0, .int .i64 0, .int .i64 a, .string ⟨#[]⟩, .string ⟨#[]⟩, .int .i64 16, .int .i64 6, .int .i64 0, .int .i64 0, .int .i64 b, .string ⟨#[]⟩, .string ⟨#[]⟩, .int .i64 16, .int .i64 17, .int .i64 0, .int .i64 0, .int .i64 3, .string ⟨#[]⟩, .string ⟨#[]⟩, .int .i64 23, .int .i64 0, .int .i64 5, .int .i64 6, .int .i64 0, .string ⟨#[102, 97, 114]⟩, .string ⟨#[]⟩, .int .i64 28, .int .i64 0, .int .i64 0, .int .i64 0, .int .i64 0, .string ⟨#[]⟩, .string ⟨#[102, 97, 114]⟩, .int .i64 0, .int .i64 0, .int .i64 0, .int .i64 0, .int .i64 0, .string ⟨#[]⟩, .string ⟨#[]⟩, .int .i64 16, .int .i64 10, .int .i64 0, .int .i64 0, .int .i64 1, .string ⟨#[]⟩, .string ⟨#[]⟩, .int .i64 28, .int .i64 0, .int .i64 0, .int .i64 0, .int .i64 0, .string ⟨#[]⟩] 41)) := (Below.refl _ _).alloc (Nat.le_refl _) _
  have hoX := OwnAt.new u6 [.string ⟨#[]⟩, .int .i64 16, .int .i64 5, .int .i64 0, .int .i64 0, .int .i64 a, .string ⟨#[]⟩, .string ⟨#[]⟩, .int .i64 16, .int .i64 6, .int .i64 0, .int .i64 0, .int .i64 b, .string ⟨#[]⟩, .string ⟨#[]⟩, .int .i64 16, .int .i64 17, .int .i64 0, .int .i64 0, .int .i64 3, .string ⟨#[]⟩, .string ⟨#[]⟩, .int .i64 23, .int .i64 0, .int .i64 5, .int .i64 6, .int .i64 0, .string ⟨#[102, 97, 114]⟩, .string ⟨#[]⟩, .int .i64 28, .int .i64 0, .int .i64 0, .int .i64 0, .int .i64 0, .string ⟨#[]⟩, .string ⟨#[102, 97, 114]⟩, .int .i64 0, .int .i64 0, .int .i64 0, .int .i64 0, .int .i64 0, .string ⟨#[]⟩, .string ⟨#[]⟩, .int .i64 16, .int .i64 10, .int .i64 0, .int .i64 0, .int .i64 1, .string ⟨#[]⟩, .string ⟨#[]⟩, .int .i64 28, .int .i64 0, .int .i64 0, .int .i64 0, .int .i64 0, .string ⟨#[]⟩] 41
  obtain ⟨WL, hWX⟩ : ∃ WL, u6.alloc (.cells #[.string ⟨#[]⟩, .int .i64 16, .int .i64 5, .int .i64 0, .int .i64 0, .int .i64 a, .string ⟨#[]⟩, .string ⟨#[]⟩, .int .i64 16, .int .i64 6, .int .i64 0, .int .i64 0, .int .i64 b, .string ⟨#[]⟩, .string ⟨#[]⟩, .int .i64 16, .int .i64 17, .int .i64 0, .int .i64 0, .int .i64 3, .string ⟨#[]⟩, .string ⟨#[]⟩, .int .i64 23, .int .i64 0, .int .i64 5, .int .i64 6, .int .i64 0, .string ⟨#[102, 97, 114]⟩, .string ⟨#[]⟩, .int .i64 28, .int .i64 0, .int .i64 0, .int .i64 0, .int .i64 0, .string ⟨#[]⟩, .string ⟨#[102, 97, 114]⟩, .int .i64 0, .int .i64 0, .int .i64 0, .int .i64 0, .int .i64 0, .string ⟨#[]⟩, .string ⟨#[]⟩, .int .i64 16, .int .i64 10, .int .i64 0, .int .i64 0, .int .i64 1, .string ⟨#[]⟩, .string ⟨#[]⟩, .int .i64 28, .int .i64 0, .int .i64 0, .int .i64 0, .int .i64 0, .string ⟨#[]⟩] 41) = WL := ⟨_, rfl⟩
  have hsWL : WL.heap.size = u6.heap.size + 1 := by rw [← hWX]; simp
  rw [hWX] at hbX1 hoX ⊢
  replace HB := Lib.hid (HB.out.trans (hbX1.mono HB.out.size))
  have HLN := Lib.hid hoX
  clear hbX1 hWX hoX
  have hbX2 : Below WL.heap.size WL (WL.alloc (.cells #[.slice none 0 0, .slice (some ⟨u6.heap.size, 0, none⟩) 8 8] 27)) := (Below.refl _ _).alloc (Nat.le_refl _) _
  have hoX := OwnAt.new WL [.slice none 0 0, .slice (some ⟨u6.heap.size, 0, none⟩) 8 8] 27
  obtain ⟨WC, hWX⟩ : ∃ WC, WL.alloc (.cells #[.slice none 0 0, .slice (some ⟨u6.heap.size, 0, none⟩) 8 8] 27) = WC := ⟨_, rfl⟩
  rw [hsWL] at hoX
  clear hsWL
  rw [hWX] at hbX2 hoX ⊢
  replace HB := Lib.hid (HB.out.trans (hbX2.mono HB.out.size))
  replace HLN := Lib.hid (HLN.out.old hbX2)
  have HO := Lib.hid hoX
  clear hbX2 hWX hoX
  have HC : Hid (CodeAt WC (brC 23 a b) (.slice none 0 0) (.slice (some ⟨u6.heap.size, 0, none⟩) 8 8)) := Lib.hid ⟨RwAt.nil _ _ _, lns_block (L := (brC 23 a b).lines) HLN.out (of_decide_eq_true rfl)⟩
  clear HLN
  generalize brC 23 a b = C at *
  go_upto_region 5 with (fail)
  generalize hWX : World.alloc WC _ = WB
  have hbX3 : Below WC.heap.size WC WB := by rw [← hWX]; exact (Below.refl _ _).alloc (Nat.le_refl _) _
  replace HB := Lib.hid (HB.out.trans (hbX3.mono HB.out.size))
  replace HO := Lib.hid (HO.out.old hbX3)
  replace HC := Lib.hid (HC.out.old hbX3)
  clear hbX3 hWX
  have d0 := HO.out.at 0 _ rfl
  have d1 := HO.out.at 1 _ rfl
  go_wp2_with fail
  refine (HRUN.out _ _ _ HC.out).mono ?_
  rintro e wr ⟨ra, rc, rfl, hn1, hbr⟩
  replace HB := Lib.hid (HB.out.trans (hbr.mono HB.out.size))
  replace HO := Lib.hid (HO.out.old hbr)
  replace HC := Lib.hid (HC.out.old hbr)
  clear hbr
  have HN := Lib.hid (RwOwn.nilv hn1 (of_decide_eq_true rfl) intCells_len)
  clear hn1 d0 d1 HRUN
  go_upto_region 8 with (fail)
  have hbX4 : Below wr.heap.size wr (wr.alloc (.cells #[.int .i64 1, .int .i64 0, .slice ra 0 rc, .int .i64 5] 31)) := (Below.refl _ _).alloc (Nat.le_refl _) _
  have hoX := OwnAt.new wr [.int .i64 1, .int .i64 0, .slice ra 0 rc, .int .i64 5] 31
  obtain ⟨WR, hWX⟩ : ∃ WR, wr.alloc (.cells #[.int .i64 1, .int .i64 0, .slice ra 0 rc, .int .i64 5] 31) = WR := ⟨_, rfl⟩
  rw [hWX] at hbX4 hoX ⊢
  replace HB := Lib.hid (HB.out.trans (hbX4.mono HB.out.size))
  replace HO := Lib.hid (HO.out.old hbX4)
  replace HC := Lib.hid (HC.out.old hbX4)
  replace HN := Lib.hid (HN.out.old hbX4)
  have HR := Lib.hid hoX
  clear hbX4 hWX hoX
  have d0 := HR.out.at 0 _ rfl
  have d1 := HR.out.at 1 _ rfl
  have d2 := HR.out.at 2 _ rfl
  have d3 := HR.out.at 3 _ rfl
  go_wp2_with fail
  refine (HS.out _ _ _ HN.out (RwAt.nil _ _ _)).mono ?_
  rintro e ws ⟨rfl, hbs⟩
  replace HB := Lib.hid (HB.out.trans (hbs.mono HB.out.size))
  replace HO := Lib.hid (HO.out.old hbs)
  replace HC := Lib.hid (HC.out.old hbs)
  replace HN := Lib.hid (HN.out.old hbs)
  replace HR := Lib.hid (HR.out.old hbs)
  clear hbs
  go_wp2_with fail
  go_ret
  exact ⟨rfl, HB.out⟩
theorem br_31 (a b wh : Int) (ha : I64 a) (hb : I64 b) (hw : I64 wh) (hk : ipick wh 4 = 3) (hab : b ≤ a) (w : World) (hl : ILib w) :
    Calls Tryz.prog 8 #[.int .i64 a, .int .i64 b, .int .i64 wh] w fun e w' => e = .returned (.bool true) ∧ Below w.heap.size w w' := by
  have hq1 : decide (b ≤ a) = true := decide_eq_true hab
  have hr : (runC (brC 24 a b) [] 9).tells = (1, 1, [], 6) := br_run 24 a b (by decide) true hq1
  have HAW := Lib.hid (jawake_any w hl)
  have HPK := Lib.hid (fun w => jpick_any wh 4 hw (by decide) (by decide) w)
  rw [hk] at HPK
  have HRUN := Lib.hid (fun va vl w hc => run_tells (brC 24 a b) (br_fine 24 a b (by decide)) (br_i64 24 a b ha hb) [] (fun z hz => by cases hz) 9 (by decide) (by decide) 1 1 6 [] hr va vl _ w hc (inp_nil w))
  have HS := Lib.hid (fun v1 v2 w h1 h2 => jsame_eq 1 1 6 [] v1 v2 w h1 h2)
  obtain ⟨ha1, ha2⟩ := ha
  obtain ⟨hb1, hb2⟩ := hb
  clear hl hr hk 
  go_enter Tryz.func8, Tryz.ntmps8
  go_wp2_with fail
  refine (HAW.out).mono ?_
  rintro e w1 ⟨rfl, hb1'⟩
  have HB := Lib.hid hb1'
  clear hb1' HAW
  go_wp2_with fail
  refine (HPK.out _).mono ?_
  rintro e w2 ⟨rfl, rfl⟩
  clear HPK
  go_wp2_with fail
  refine (mline_any _ _ _ _ _ _ _).mono ?_
  rintro e u0 ⟨rfl, hbl0⟩
  replace HB := Lib.hid (HB.out.trans (hbl0.mono HB.out.size))
  clear hbl0
  go_wp2_with fail
  refine (mline_any _ _ _ _ _ _ _).mono ?_
  rintro e u1 ⟨rfl, hbl1⟩
  replace HB := Lib.hid (HB.out.trans (hbl1.mono HB.out.size))
  clear hbl1
  go_wp2_with fail
  refine (mline_any _ _ _ _ _ _ _).mono ?_
  rintro e u2 ⟨rfl, hbl2⟩
  replace HB := Lib.hid (HB.out.trans (hbl2.mono HB.out.size))
  clear hbl2
  go_wp2_with fail
  refine (mline_any _ _ _ _ _ _ _).mono ?_
  rintro e u3 ⟨rfl, hbl3⟩
  replace HB := Lib.hid (HB.out.trans (hbl3.mono HB.out.size))
  clear hbl3
  go_wp2_with fail
  refine (mline_any _ _ _ _ _ _ _).mono ?_
  rintro e u4 ⟨rfl, hbl4⟩
  replace HB := Lib.hid (HB.out.trans (hbl4.mono HB.out.size))
  clear hbl4
  go_wp2_with fail
  refine (mline_any _ _ _ _ _ _ _).mono ?_
  rintro e u5 ⟨rfl, hbl5⟩
  replace HB := Lib.hid (HB.out.trans (hbl5.mono HB.out.size))
  clear hbl5
  go_wp2_with fail
  refine (mline_any _ _ _ _ _ _ _).mono ?_
  rintro e u6 ⟨rfl, hbl6⟩
  replace HB := Lib.hid (HB.out.trans (hbl6.mono HB.out.size))
  clear hbl6
  go_upto_region 4 with (fail)
  have hbX1 : Below u6.heap.size u6 (u6.alloc (.cells #[.string ⟨#[]⟩, .int .i64 16, .int .i64 5, .int .i64 0, .int .i64 0, .int .i64 a, .string ⟨#[]⟩, .string ⟨#[]⟩, .int .i64 16, .int .i64 6, .int .i64 0, .int .i64 0, .int .i64 b, .string ⟨#[]⟩, .string ⟨#[]⟩, .int .i64 16, .int .i64 17, .int .i64 0, .int .i64 0, .int .i64 3, .string ⟨#[]⟩, .string ⟨#[]⟩, .int .i64 24, .int .i64 0, .int .i64 5, .int .i64 6, .int .i64 0, .string ⟨#[102, 97, 114]⟩, .string ⟨#[]⟩, .int .i64 28, .int .i64 0, .int .i64 0, .int .i64 0, .int .i64 0, .string ⟨#[]⟩, .string ⟨#[102, 97, 114]⟩, .int .i64 0, .int .i64 0, .int .i64 0, .int .i64 0, .int .i64 0, .string ⟨#[]⟩, .string ⟨#[]⟩, .int .i64 16, .int .i64 10, .int .i64 0, .int .i64 0, .int .i64 1, .string ⟨#[]⟩, .string ⟨#[]⟩, .int .i64 28, .int .i64 0, .int .i64 0, .int .i64 0, .int .i64 0, .string ⟨#[]⟩] 41)) := (Below.refl _ _).alloc (Nat.le_refl _) _
  have hoX := OwnAt.new u6 [.string ⟨#[]⟩, .int .i64 16, .int .i64 5, .int .i64 0, .int .i64 0, .int .i64 a, .string ⟨#[]⟩, .string ⟨#[]⟩, .int .i64 16, .int .i64 6, .int .i64 0, .int .i64 0, .int .i64 b, .string ⟨#[]⟩, .string ⟨#[]⟩, .int .i64 16, .int .i64 17, .int .i64 0, .int .i64 0, .int .i64 3, .string ⟨#[]⟩, .string ⟨#[]⟩, .int .i64 24, .int .i64 0, .int .i64 5, .int .i64 6, .int .i64 0, .string ⟨#[102, 97, 114]⟩, .string ⟨#[]⟩, .int .i64 28, .int .i64 0, .int .i64 0, .int .i64 0, .int .i64 0, .string ⟨#[]⟩, .string ⟨#[102, 97, 114]⟩, .int .i64 0, .int .i64 0, .int .i64 0, .int .i64 0, .int .i64 0, .string ⟨#[]⟩, .string ⟨#[]⟩, .int .i64 16, .int .i64 10, .int .i64 0, .int .i64 0, .int .i64 1, .string ⟨#[]⟩, .string ⟨#[]⟩, .int .i64 28, .int .i64 0, .int .i64 0, .int .i64 0, .int .i64 0, .string ⟨#[]⟩] 41
  obtain ⟨WL, hWX⟩ : ∃ WL, u6.alloc (.cells #[.string ⟨#[]⟩, .int .i64 16, .int .i64 5, .int .i64 0, .int .i64 0, .int .i64 a, .string ⟨#[]⟩, .string ⟨#[]⟩, .int .i64 16, .int .i64 6, .int .i64 0, .int .i64 0, .int .i64 b, .string ⟨#[]⟩, .string ⟨#[]⟩, .int .i64 16, .int .i64 17, .int .i64 0, .int .i64 0, .int .i64 3, .string ⟨#[]⟩, .string ⟨#[]⟩, .int .i64 24, .int .i64 0, .int .i64 5, .int .i64 6, .int .i64 0, .string ⟨#[102, 97, 114]⟩, .string ⟨#[]⟩, .int .i64 28, .int .i64 0, .int .i64 0, .int .i64 0, .int .i64 0, .string ⟨#[]⟩, .string ⟨#[102, 97, 114]⟩, .int .i64 0, .int .i64 0, .int .i64 0, .int .i64 0, .int .i64 0, .string ⟨#[]⟩, .string ⟨#[]⟩, .int .i64 16, .int .i64 10, .int .i64 0, .int .i64 0, .int .i64 1, .string ⟨#[]⟩, .string ⟨#[]⟩, .int .i64 28, .int .i64 0, .int .i64 0, .int .i64 0, .int .i64 0, .string ⟨#[]⟩] 41) = WL := ⟨_, rfl⟩
  have hsWL : WL.heap.size = u6.heap.size + 1 := by rw [← hWX]; simp
  rw [hWX] at hbX1 hoX ⊢
  replace HB := Lib.hid (HB.out.trans (hbX1.mono HB.out.size))
  have HLN := Lib.hid hoX
  clear hbX1 hWX hoX
  have hbX2 : Below WL.heap.size WL (WL.alloc (.cells #[.slice none 0 0, .slice (some ⟨u6.heap.size, 0, none⟩) 8 8] 27)) := (Below.refl _ _).alloc (Nat.le_refl _) _
  have hoX := OwnAt.new WL [.slice none 0 0, .slice (some ⟨u6.heap.size, 0, none⟩) 8 8] 27
  obtain ⟨WC, hWX⟩ : ∃ WC, WL.alloc (.cells #[.slice none 0 0, .slice (some ⟨u6.heap.size, 0, none⟩) 8 8] 27) = WC := ⟨_, rfl⟩
  rw [hsWL] at hoX
  clear hsWL
  rw [hWX] at hbX2 hoX ⊢
  replace HB := Lib.hid (HB.out.trans (hbX2.mono HB.out.size))
  replace HLN := Lib.hid (HLN.out.old hbX2)
  have HO := Lib.hid hoX
  clear hbX2 hWX hoX
  have HC : Hid (CodeAt WC (brC 24 a b) (.slice none 0 0) (.slice (some ⟨u6.heap.size, 0, none⟩) 8 8)) := Lib.hid ⟨RwAt.nil _ _ _, lns_block (L := (brC 24 a b).lines) HLN.out (of_decide_eq_true rfl)⟩
  clear HLN
  generalize brC 24 a b = C at *
  go_upto_region 5 with (fail)
  generalize hWX : World.alloc WC _ = WB
  have hbX3 : Below WC.heap.size WC WB := by rw [← hWX]; exact (Below.refl _ _).alloc (Nat.le_refl _) _
  replace HB := Lib.hid (HB.out.trans (hbX3.mono HB.out.size))
  replace HO := Lib.hid (HO.out.old hbX3)
  replace HC := Lib.hid (HC.out.old hbX3)
  clear hbX3 hWX
  have d0 := HO.out.at 0 _ rfl
  have d1 := HO.out.at 1 _ rfl
  go_wp2_with fail
  refine (HRUN.out _ _ _ HC.out).mono ?_
  rintro e wr ⟨ra, rc, rfl, hn1, hbr⟩
  replace HB := Lib.hid (HB.out.trans (hbr.mono HB.out.size))
  replace HO := Lib.hid (HO.out.old hbr)
  replace HC := Lib.hid (HC.out.old hbr)
  clear hbr
  have HN := Lib.hid (RwOwn.nilv hn1 (of_decide_eq_true rfl) intCells_len)
  clear hn1 d0 d1 HRUN
  go_upto_region 7 with (fail)
  have hbX4 : Below wr.heap.size wr (wr.alloc (.cells #[.int .i64 1, .int .i64 1, .slice ra 0 rc, .int .i64 6] 31)) := (Below.refl _ _).alloc (Nat.le_refl _) _
  have hoX := OwnAt.new wr [.int .i64 1, .int .i64 1, .slice ra 0 rc, .int .i64 6] 31
  obtain ⟨WR, hWX⟩ : ∃ WR, wr.alloc (.cells #[.int .i64 1, .int .i64 1, .slice ra 0 rc, .int .i64 6] 31) = WR := ⟨_, rfl⟩
  rw [hWX] at hbX4 hoX ⊢
  replace HB := Lib.hid (HB.out.trans (hbX4.mono HB.out.size))
  replace HO := Lib.hid (HO.out.old hbX4)
  replace HC := Lib.hid (HC.out.old hbX4)
  replace HN := Lib.hid (HN.out.old hbX4)
  have HR := Lib.hid hoX
  clear hbX4 hWX hoX
  have d0 := HR.out.at 0 _ rfl
  have d1 := HR.out.at 1 _ rfl
  have d2 := HR.out.at 2 _ rfl
  have d3 := HR.out.at 3 _ rfl
  go_wp2_with fail
  refine (HS.out _ _ _ HN.out (RwAt.nil _ _ _)).mono ?_
  rintro e ws ⟨rfl, hbs⟩
  replace HB := Lib.hid (HB.out.trans (hbs.mono HB.out.size))
  replace HO := Lib.hid (HO.out.old hbs)
  replace HC := Lib.hid (HC.out.old hbs)
  replace HN := Lib.hid (HN.out.old hbs)
  replace HR := Lib.hid (HR.out.old hbs)
  clear hbs
  go_wp2_with fail
  go_ret
  exact ⟨rfl, HB.out⟩
theorem br_30 (a b wh : Int) (ha : I64 a) (hb : I64 b) (hw : I64 wh) (hk : ipick wh 4 = 3) (hab : ¬ (b ≤ a)) (w : World) (hl : ILib w) :
    Calls Tryz.prog 8 #[.int .i64 a, .int .i64 b, .int .i64 wh] w fun e w' => e = .returned (.bool true) ∧ Below w.heap.size w w' := by
  have hq1 : decide (b ≤ a) = false := decide_eq_false hab
  have hr : (runC (brC 24 a b) [] 9).tells = (1, 0, [], 5) := br_run 24 a b (by decide) false hq1
  have HAW := Lib.hid (jawake_any w hl)
  have HPK := Lib.hid (fun w => jpick_any wh 4 hw (by decide) (by decide) w)
  rw [hk] at HPK
  have HRUN := Lib.hid (fun va vl w hc => run_tells (brC 24 a b) (br_fine 24 a b (by decide)) (br_i64 24 a b ha hb) [] (fun z hz => by cases hz) 9 (by decide) (by decide) 1 0 5 [] hr va vl _ w hc (inp_nil w))
  have HS := Lib.hid (fun v1 v2 w h1 h2 => jsame_eq 1 0 5 [] v1 v2 w h1 h2)
  obtain ⟨ha1, ha2⟩ := ha
  obtain ⟨hb1, hb2⟩ := hb
  clear hl hr hk 
  go_enter Tryz.func8, Tryz.ntmps8
  go_wp2_with fail
  refine (HAW.out).mono ?_
  rintro e w1 ⟨rfl, hb1'⟩
  have HB := Lib.hid hb1'
  clear hb1' HAW
  go_wp2_with fail
  refine (HPK.out _).mono ?_
  rintro e w2 ⟨rfl, rfl⟩
  clear HPK
  go_wp2_with fail
  refine (mline_any _ _ _ _ _ _ _).mono ?_
  rintro e u0 ⟨rfl, hbl0⟩
  replace HB := Lib.hid (HB.out.trans (hbl0.mono HB.out.size))
  clear hbl0
  go_wp2_with fail
  refine (mline_any _ _ _ _ _ _ _).mono ?_
  rintro e u1 ⟨rfl, hbl1⟩
  replace HB := Lib.hid (HB.out.trans (hbl1.mono HB.out.size))
  clear hbl1
  go_wp2_with fail
  refine (mline_any _ _ _ _ _ _ _).mono ?_
  rintro e u2 ⟨rfl, hbl2⟩
  replace HB := Lib.hid (HB.out.trans (hbl2.mono HB.out.size))
  clear hbl2
  go_wp2_with fail
  refine (mline_any _ _ _ _ _ _ _).mono ?_
  rintro e u3 ⟨rfl, hbl3⟩
  replace HB := Lib.hid (HB.out.trans (hbl3.mono HB.out.size))
  clear hbl3
  go_wp2_with fail
  refine (mline_any _ _ _ _ _ _ _).mono ?_
  rintro e u4 ⟨rfl, hbl4⟩
  replace HB := Lib.hid (HB.out.trans (hbl4.mono HB.out.size))
  clear hbl4
  go_wp2_with fail
  refine (mline_any _ _ _ _ _ _ _).mono ?_
  rintro e u5 ⟨rfl, hbl5⟩
  replace HB := Lib.hid (HB.out.trans (hbl5.mono HB.out.size))
  clear hbl5
  go_wp2_with fail
  refine (mline_any _ _ _ _ _ _ _).mono ?_
  rintro e u6 ⟨rfl, hbl6⟩
  replace HB := Lib.hid (HB.out.trans (hbl6.mono HB.out.size))
  clear hbl6
  go_upto_region 4 with (fail)
  have hbX1 : Below u6.heap.size u6 (u6.alloc (.cells #[.string ⟨#[]⟩, .int .i64 16, .int .i64 5, .int .i64 0, .int .i64 0, .int .i64 a, .string ⟨#[]⟩, .string ⟨#[]⟩, .int .i64 16, .int .i64 6, .int .i64 0, .int .i64 0, .int .i64 b, .string ⟨#[]⟩, .string ⟨#[]⟩, .int .i64 16, .int .i64 17, .int .i64 0, .int .i64 0, .int .i64 3, .string ⟨#[]⟩, .string ⟨#[]⟩, .int .i64 24, .int .i64 0, .int .i64 5, .int .i64 6, .int .i64 0, .string ⟨#[102, 97, 114]⟩, .string ⟨#[]⟩, .int .i64 28, .int .i64 0, .int .i64 0, .int .i64 0, .int .i64 0, .string ⟨#[]⟩, .string ⟨#[102, 97, 114]⟩, .int .i64 0, .int .i64 0, .int .i64 0, .int .i64 0, .int .i64 0, .string ⟨#[]⟩, .string ⟨#[]⟩, .int .i64 16, .int .i64 10, .int .i64 0, .int .i64 0, .int .i64 1, .string ⟨#[]⟩, .string ⟨#[]⟩, .int .i64 28, .int .i64 0, .int .i64 0, .int .i64 0, .int .i64 0, .string ⟨#[]⟩] 41)) := (Below.refl _ _).alloc (Nat.le_refl _) _
  have hoX := OwnAt.new u6 [.string ⟨#[]⟩, .int .i64 16, .int .i64 5, .int .i64 0, .int .i64 0, .int .i64 a, .string ⟨#[]⟩, .string ⟨#[]⟩, .int .i64 16, .int .i64 6, .int .i64 0, .int .i64 0, .int .i64 b, .string ⟨#[]⟩, .string ⟨#[]⟩, .int .i64 16, .int .i64 17, .int .i64 0, .int .i64 0, .int .i64 3, .string ⟨#[]⟩, .string ⟨#[]⟩, .int .i64 24, .int .i64 0, .int .i64 5, .int .i64 6, .int .i64 0, .string ⟨#[102, 97, 114]⟩, .string ⟨#[]⟩, .int .i64 28, .int .i64 0, .int .i64 0, .int .i64 0, .int .i64 0, .string ⟨#[]⟩, .string ⟨#[102, 97, 114]⟩, .int .i64 0, .int .i64 0, .int .i64 0, .int .i64 0, .int .i64 0, .string ⟨#[]⟩, .string ⟨#[]⟩, .int .i64 16, .int .i64 10, .int .i64 0, .int .i64 0, .int .i64 1, .string ⟨#[]⟩, .string ⟨#[]⟩, .int .i64 28, .int .i64 0, .int .i64 0, .int .i64 0, .int .i64 0, .string ⟨#[]⟩] 41
  obtain ⟨WL, hWX⟩ : ∃ WL, u6.alloc (.cells #[.string ⟨#[]⟩, .int .i64 16, .int .i64 5, .int .i64 0, .int .i64 0, .int .i64 a, .string ⟨#[]⟩, .string ⟨#[]⟩, .int .i64 16, .int .i64 6, .int .i64 0, .int .i64 0, .int .i64 b, .string ⟨#[]⟩, .string ⟨#[]⟩, .int .i64 16, .int .i64 17, .int .i64 0, .int .i64 0, .int .i64 3, .string ⟨#[]⟩, .string ⟨#[]⟩, .int .i64 24, .int .i64 0, .int .i64 5, .int .i64 6, .int .i64 0, .string ⟨#[102, 97, 114]⟩, .string ⟨#[]⟩, .int .i64 28, .int .i64 0, .int .i64 0, .int .i64 0, .int .i64 0, .string ⟨#[]⟩, .string ⟨#[102, 97, 114]⟩, .int .i64 0, .int .i64 0, .int .i64 0, .int .i64 0, .int .i64 0, .string ⟨#[]⟩, .string ⟨#[]⟩, .int .i64 16, .int .i64 10, .int .i64 0, .int .i64 0, .int .i64 1, .string ⟨#[]⟩, .string ⟨#[]⟩, .int .i64 28, .int .i64 0, .int .i64 0, .int .i64 0, .int .i64 0, .string ⟨#[]⟩] 41) = WL := ⟨_, rfl⟩
  have hsWL : WL.heap.size = u6.heap.size + 1 := by rw [← hWX]; simp
  rw [hWX] at hbX1 hoX ⊢
  replace HB := Lib.hid (HB.out.trans (hbX1.mono HB.out.size))
  have HLN := Lib.hid hoX
  clear hbX1 hWX hoX
  have hbX2 : Below WL.heap.size WL (WL.alloc (.cells #[.slice none 0 0, .slice (some ⟨u6.heap.size, 0, none⟩) 8 8] 27)) := (Below.refl _ _).alloc (Nat.le_refl _) _
  have hoX := OwnAt.new WL [.slice none 0 0, .slice (some ⟨u6.heap.size, 0, none⟩) 8 8] 27
  obtain ⟨WC, hWX⟩ : ∃ WC, WL.alloc (.cells #[.slice none 0 0, .slice (some ⟨u6.heap.size, 0, none⟩) 8 8] 27) = WC := ⟨_, rfl⟩
  rw [hsWL] at hoX
  clear hsWL
  rw [hWX] at hbX2 hoX ⊢
  replace HB := Lib.hid (HB.out.trans (hbX2.mono HB.out.size))
  replace HLN := Lib.hid (HLN.out.old hbX2)
  have HO := Lib.hid hoX
  clear hbX2 hWX hoX
  have HC : Hid (CodeAt WC (brC 24 a b) (.slice none 0 0) (.slice (some ⟨u6.heap.size, 0, none⟩) 8 8)) := Lib.hid ⟨RwAt.nil _ _ _, lns_block (L := (brC 24 a b).lines) HLN.out (of_decide_eq_true rfl)⟩
  clear HLN
  generalize brC 24 a b = C at *
  go_upto_region 5 with (fail)
  generalize hWX : World.alloc WC _ = WB
  have hbX3 : Below WC.heap.size WC WB := by rw [← hWX]; exact (Below.refl _ _).alloc (Nat.le_refl _) _
  replace HB := Lib.hid (HB.out.trans (hbX3.mono HB.out.size))
  replace HO := Lib.hid (HO.out.old hbX3)
  replace HC := Lib.hid (HC.out.old hbX3)
  clear hbX3 hWX
  have d0 := HO.out.at 0 _ rfl
  have d1 := HO.out.at 1 _ rfl
  go_wp2_with fail
  refine (HRUN.out _ _ _ HC.out).mono ?_
  rintro e wr ⟨ra, rc, rfl, hn1, hbr⟩
  replace HB := Lib.hid (HB.out.trans (hbr.mono HB.out.size))
  replace HO := Lib.hid (HO.out.old hbr)
  replace HC := Lib.hid (HC.out.old hbr)
  clear hbr
  have HN := Lib.hid (RwOwn.nilv hn1 (of_decide_eq_true rfl) intCells_len)
  clear hn1 d0 d1 HRUN
  go_upto_region 8 with (fail)
  have hbX4 : Below wr.heap.size wr (wr.alloc (.cells #[.int .i64 1, .int .i64 0, .slice ra 0 rc, .int .i64 5] 31)) := (Below.refl _ _).alloc (Nat.le_refl _) _
  have hoX := OwnAt.new wr [.int .i64 1, .int .i64 0, .slice ra 0 rc, .int .i64 5] 31
  obtain ⟨WR, hWX⟩ : ∃ WR, wr.alloc (.cells #[.int .i64 1, .int .i64 0, .slice ra 0 rc, .int .i64 5] 31) = WR := ⟨_, rfl⟩
  rw [hWX] at hbX4 hoX ⊢
  replace HB := Lib.hid (HB.out.trans (hbX4.mono HB.out.size))
  replace HO := Lib.hid (HO.out.old hbX4)
  replace HC := Lib.hid (HC.out.old hbX4)
  replace HN := Lib.hid (HN.out.old hbX4)
  have HR := Lib.hid hoX
  clear hbX4 hWX hoX
  have d0 := HR.out.at 0 _ rfl
  have d1 := HR.out.at 1 _ rfl
  have d2 := HR.out.at 2 _ rfl
  have d3 := HR.out.at 3 _ rfl
  go_wp2_with fail
  refine (HS.out _ _ _ HN.out (RwAt.nil _ _ _)).mono ?_
  rintro e ws ⟨rfl, hbs⟩
  replace HB := Lib.hid (HB.out.trans (hbs.mono HB.out.size))
  replace HO := Lib.hid (HO.out.old hbs)
  replace HC := Lib.hid (HC.out.old hbs)
  replace HN := Lib.hid (HN.out.old hbs)
  replace HR := Lib.hid (HR.out.old hbs)
  clear hbs
  go_wp2_with fail
  go_ret
  exact ⟨rfl, HB.out⟩
theorem mbranch_any (a b wh : Int) (ha : I64 a) (hb : I64 b) (hw : I64 wh) (w : World) (hl : ILib w) :
    Calls Tryz.prog 8 #[.int .i64 a, .int .i64 b, .int .i64 wh] w fun e w' => e = .returned (.bool true) ∧ Below w.heap.size w w' := by
  have h4 : ipick wh 4 = 0 ∨ ipick wh 4 = 1 ∨ ipick wh 4 = 2 ∨ ipick wh 4 = 3 := by
    have := ipick_range wh 4 (by decide)
    omega
  rcases h4 with h | h | h | h
  · by_cases hab : a = b
    · exact br_01 a b wh ha hb hw h hab w hl
    · exact br_00 a b wh ha hb hw h hab w hl
  · by_cases hab : a ≠ b
    · exact br_11 a b wh ha hb hw h hab w hl
    · exact br_10 a b wh ha hb hw h hab w hl
  · by_cases hab : a < b
    · exact br_21 a b wh ha hb hw h hab w hl
    · exact br_20 a b wh ha hb hw h hab w hl
  · by_cases hab : b ≤ a
    · exact br_31 a b wh ha hb hw h hab w hl
    · exact br_30 a b wh ha hb hw h hab w hl
end Go.Proofs.YtpgjfpphigeliaaGreatDoor
