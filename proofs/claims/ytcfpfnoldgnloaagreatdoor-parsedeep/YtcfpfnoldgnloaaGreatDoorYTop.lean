/-
  Expr, Parse: whole, then Right. Conditions: what whole gives is known.
-/
import Derived.Test.YtcfpfnoldgnloaaGreatDoorYWhole
import Derived.Test.YtcfpfnoldgnloaaGreatDoorTreeC
set_option linter.unusedVariables false
set_option linter.unusedSimpArgs false
namespace Go.Proofs.YtcfpfnoldgnloaaGreatDoor
open Go.RowKit
set_option maxRecDepth 100000
set_option maxHeartbeats 4000000

def finE : Ex × Int × Int → Ex × Int × Int
  | (x, e, n) => if e = 0 ∧ rightEx x = false then (exZ, 41, 1) else (x, e, n)
theorem topE_of (z : Bs) (w : World) (r : Ex × Int × Int) (HSC : Hid (∀ w1, Below w.heap.size w w1 → Calls Tryz.prog 26 #[.string (strOf z), .func (.func 27) #[] #[]] w1 (WhE w1 r))) :
    Calls Tryz.prog 13 #[.string (strOf z)] w (WhE w (finE r)) := by
  obtain ⟨x, e0, n0⟩ := r
  obtain ⟨W, hW⟩ : ∃ W, w.alloc (.cells #[.int .i64 0, .int .i64 0, .int .i64 0, .string ⟨#[]⟩, .slice none 0 0] 27) = W := ⟨_, rfl⟩
  have hb0 : Below w.heap.size w W := hW ▸ (Below.refl _ _).alloc (Nat.le_refl _) _
  have h0 : OwnAt W w.heap.size [.int .i64 0, .int .i64 0, .int .i64 0, .string ⟨#[]⟩, .slice none 0 0] 27 := hW ▸ OwnAt.new w [.int .i64 0, .int .i64 0, .int .i64 0, .string ⟨#[]⟩, .slice none 0 0] 27
  have HS := Lib.hid (HSC.out W hb0)
  have HB0 := Lib.hid hb0
  have H0 := Lib.hid h0
  have HW := Lib.hid hW
  clear hb0 h0 hW
  go_enter Tryz.func13, Tryz.ntmps13
  go_upto_region 1 with (fail)
  rw [HW.out]
  clear HW
  go_wp2_with fail
  refine HS.out.mono ?_
  rintro e w1 ⟨hb, v, rfl, hv⟩
  dsimp only at hv
  obtain ⟨s5, rfl, hx, hn5⟩ := hv
  obtain ⟨a1, a2, rfl⟩ := hx.shape
  have HB1 := Lib.hid (HB0.out.trans (hb.mono HB0.out.size))
  have HLT : Hid (w.heap.size < w1.heap.size) := (H0.out.old hb).lt
  have HA0 := Lib.hid (H0.out.old hb)
  have HT := Lib.hid (show ExsAt (w.heap.size < ·) w1 x.args _ ∧ I64 x.n from ⟨hx.mono (fun b hb => by have := HB0.out.size; have h2 := H0.out.lt; have : W.heap.size ≤ b := hb; show w.heap.size < b; omega), hn5⟩)
  clear hb hx hn5 HS HSC HB0 H0
  go_upto_region 2 with (fail)
  have HN := Lib.hid (OwnAt.new w1 [.int .i64 x.kind, .int .i64 x.op, .int .i64 x.n, .string (strOf x.name), .slice a1 x.args.length a2] 27)
  have HA1 := Lib.hid (HA0.out.alloc (.cells #[.int .i64 x.kind, .int .i64 x.op, .int .i64 x.n, .string (strOf x.name), .slice a1 x.args.length a2] 27))
  have HB2 := Lib.hid (HB1.out.alloc HB1.out.size (.cells #[.int .i64 x.kind, .int .i64 x.op, .int .i64 x.n, .string (strOf x.name), .slice a1 x.args.length a2] 27))
  have hal : Below w1.heap.size w1 (w1.alloc (.cells #[.int .i64 x.kind, .int .i64 x.op, .int .i64 x.n, .string (strOf x.name), .slice a1 x.args.length a2] 27)) := (Below.refl _ _).alloc (Nat.le_refl _) _
  have HT2 := Lib.hid (show ExsAt (w.heap.size < ·) _ x.args _ ∧ I64 x.n from ⟨(HT.out.1).keep (keeps_below hal), HT.out.2⟩)
  clear hal HT HB1 HA0
  generalize w1.alloc (.cells #[.int .i64 x.kind, .int .i64 x.op, .int .i64 x.n, .string (strOf x.name), .slice a1 x.args.length a2] 27) = w2 at *
  obtain ⟨b2, hb2⟩ : ∃ b2, w1.heap.size = b2 := ⟨_, rfl⟩
  rw [hb2] at HLT HN ⊢
  clear hb2
  have y0 := HN.out.at 0 _ rfl; have f0 := HN.out.fz 0
  have y1 := HN.out.at 1 _ rfl; have f1 := HN.out.fz 1
  have y2 := HN.out.at 2 _ rfl; have f2 := HN.out.fz 2
  have y3 := HN.out.at 3 _ rfl; have f3 := HN.out.fz 3
  have y4 := HN.out.at 4 _ rfl; have f4 := HN.out.fz 4
  have o0 := HA1.out.at 0 _ rfl; have q0 := HA1.out.fz 0
  have o1 := HA1.out.at 1 _ rfl; have q1 := HA1.out.fz 1
  have o2 := HA1.out.at 2 _ rfl; have q2 := HA1.out.fz 2
  have o3 := HA1.out.at 3 _ rfl; have q3 := HA1.out.fz 3
  have o4 := HA1.out.at 4 _ rfl; have q4 := HA1.out.fz 4
  by_cases he : e0 = 0
  · subst he
    go_wp2_with fail
    refine (rightExpr_any x (w.heap.size < ·) _ _ HT2.out.1).mono ?_
    rintro e w3 ⟨rfl, hb3⟩
    have HN3 := Lib.hid (HN.out.old hb3)
    have HA3 := Lib.hid (HA1.out.old hb3)
    have HB3 := Lib.hid (HB2.out.trans (hb3.mono HB2.out.size))
    have HT3 := Lib.hid (show ExsAt (w.heap.size < ·) w3 x.args _ ∧ I64 x.n from ⟨(HT2.out.1).keep (keeps_below hb3), HT2.out.2⟩)
    clear hb3 y0 f0 o0 q0 y1 f1 o1 q1 y2 f2 o2 q2 y3 f3 o3 q3 y4 f4 o4 q4
    have y0 := HN3.out.at 0 _ rfl; have f0 := HN3.out.fz 0
    have y1 := HN3.out.at 1 _ rfl; have f1 := HN3.out.fz 1
    have y2 := HN3.out.at 2 _ rfl; have f2 := HN3.out.fz 2
    have y3 := HN3.out.at 3 _ rfl; have f3 := HN3.out.fz 3
    have y4 := HN3.out.at 4 _ rfl; have f4 := HN3.out.fz 4
    have o0 := HA3.out.at 0 _ rfl; have q0 := HA3.out.fz 0
    have o1 := HA3.out.at 1 _ rfl; have q1 := HA3.out.fz 1
    have o2 := HA3.out.at 2 _ rfl; have q2 := HA3.out.fz 2
    have o3 := HA3.out.at 3 _ rfl; have q3 := HA3.out.fz 3
    have o4 := HA3.out.at 4 _ rfl; have q4 := HA3.out.fz 4
    cases hr : rightEx x
    · go_wp2_with fail
      have hs := (((((HA3.out.set 0 (.int .i64 0)).set 1 (.int .i64 0)).set 2 (.int .i64 0)).set 3 (.string ⟨#[]⟩)).set 4 (.slice none 0 0))
      have s0 := hs.at 0 _ rfl
      have s1 := hs.at 1 _ rfl
      have s2 := hs.at 2 _ rfl
      have s3 := hs.at 3 _ rfl
      have s4 := hs.at 4 _ rfl
      exact bodyPost_ret (v := .tuple #[.agg #[.int .i64 0, .int .i64 0, .int .i64 0, .string ⟨#[]⟩, .slice none 0 0], .int .i64 41, .int .i64 1]) (by simp [results, Tryz.results13, go_sem, s0, s1, s2, s3, s4]) rfl (by
        rw [show finE (x, 0, n0) = (exZ, 41, 1) by simp [finE, hr]]
        exact ⟨(((((HB3.out.setCell (p := ⟨w.heap.size, 0, none⟩) (Nat.le_refl _) (.int .i64 0)).setCell (p := ⟨w.heap.size, 1, none⟩) (Nat.le_refl _) (.int .i64 0)).setCell (p := ⟨w.heap.size, 2, none⟩) (Nat.le_refl _) (.int .i64 0)).setCell (p := ⟨w.heap.size, 3, none⟩) (Nat.le_refl _) (.string ⟨#[]⟩)).setCell (p := ⟨w.heap.size, 4, none⟩) (Nat.le_refl _) (.slice none 0 0)), _, rfl, ⟨_, rfl, ExsAt.zero, yi64_0⟩⟩)
    · go_wp2_with fail
      have hs := (((((HA3.out.set 0 (.int .i64 x.kind)).set 1 (.int .i64 x.op)).set 2 (.int .i64 x.n)).set 3 (.string (strOf x.name))).set 4 (.slice a1 x.args.length a2))
      have s0 := hs.at 0 _ rfl
      have s1 := hs.at 1 _ rfl
      have s2 := hs.at 2 _ rfl
      have s3 := hs.at 3 _ rfl
      have s4 := hs.at 4 _ rfl
      exact bodyPost_ret (v := .tuple #[.agg #[.int .i64 x.kind, .int .i64 x.op, .int .i64 x.n, .string (strOf x.name), .slice a1 x.args.length a2], .int .i64 0, .int .i64 n0]) (by simp [results, Tryz.results13, go_sem, s0, s1, s2, s3, s4]) rfl (by
        rw [show finE (x, 0, n0) = (x, 0, n0) by simp [finE, hr]]
        exact ⟨(((((HB3.out.setCell (p := ⟨w.heap.size, 0, none⟩) (Nat.le_refl _) (.int .i64 x.kind)).setCell (p := ⟨w.heap.size, 1, none⟩) (Nat.le_refl _) (.int .i64 x.op)).setCell (p := ⟨w.heap.size, 2, none⟩) (Nat.le_refl _) (.int .i64 x.n)).setCell (p := ⟨w.heap.size, 3, none⟩) (Nat.le_refl _) (.string (strOf x.name))).setCell (p := ⟨w.heap.size, 4, none⟩) (Nat.le_refl _) (.slice a1 x.args.length a2)), _, rfl, ⟨_, rfl, ((HT3.out.1).keep (keeps5 _ (by show ¬ w.heap.size < w.heap.size; omega) _ _ _ _ _)).mono (fun b hb => Nat.le_of_lt hb), HT3.out.2⟩⟩)
  · have HA3 := HA1; have HN3 := HN; have HB3 := HB2
    go_wp2_with fail
    have hs := (((((HA3.out.set 0 (.int .i64 x.kind)).set 1 (.int .i64 x.op)).set 2 (.int .i64 x.n)).set 3 (.string (strOf x.name))).set 4 (.slice a1 x.args.length a2))
    have s0 := hs.at 0 _ rfl
    have s1 := hs.at 1 _ rfl
    have s2 := hs.at 2 _ rfl
    have s3 := hs.at 3 _ rfl
    have s4 := hs.at 4 _ rfl
    exact bodyPost_ret (v := .tuple #[.agg #[.int .i64 x.kind, .int .i64 x.op, .int .i64 x.n, .string (strOf x.name), .slice a1 x.args.length a2], .int .i64 e0, .int .i64 n0]) (by simp [results, Tryz.results13, go_sem, s0, s1, s2, s3, s4]) rfl (by
      rw [show finE (x, e0, n0) = (x, e0, n0) by simp [finE, he]]
      exact ⟨(((((HB3.out.setCell (p := ⟨w.heap.size, 0, none⟩) (Nat.le_refl _) (.int .i64 x.kind)).setCell (p := ⟨w.heap.size, 1, none⟩) (Nat.le_refl _) (.int .i64 x.op)).setCell (p := ⟨w.heap.size, 2, none⟩) (Nat.le_refl _) (.int .i64 x.n)).setCell (p := ⟨w.heap.size, 3, none⟩) (Nat.le_refl _) (.string (strOf x.name))).setCell (p := ⟨w.heap.size, 4, none⟩) (Nat.le_refl _) (.slice a1 x.args.length a2)), _, rfl, ⟨_, rfl, ((HT2.out.1).keep (keeps5 _ (by show ¬ w.heap.size < w.heap.size; omega) _ _ _ _ _)).mono (fun b hb => Nat.le_of_lt hb), HT2.out.2⟩⟩)
def finP : Pr × Int × Int → Pr × Int × Int
  | (x, e, n) => if e = 0 ∧ rightPr x = false then ((⟨[], []⟩ : Pr), 41, 1) else (x, e, n)
theorem topP_of (z : Bs) (w : World) (r : Pr × Int × Int) (HSC : Hid (∀ w1, Below w.heap.size w w1 → Calls Tryz.prog 29 #[.string (strOf z), .func (.func 30) #[] #[]] w1 (WhP w1 r))) :
    Calls Tryz.prog 14 #[.string (strOf z)] w (WhP w (finP r)) := by
  obtain ⟨x, e0, n0⟩ := r
  obtain ⟨W, hW⟩ : ∃ W, w.alloc (.cells #[.slice none 0 0, .slice none 0 0] 34) = W := ⟨_, rfl⟩
  have hb0 : Below w.heap.size w W := hW ▸ (Below.refl _ _).alloc (Nat.le_refl _) _
  have h0 : OwnAt W w.heap.size [.slice none 0 0, .slice none 0 0] 34 := hW ▸ OwnAt.new w [.slice none 0 0, .slice none 0 0] 34
  have HS := Lib.hid (HSC.out W hb0)
  have HB0 := Lib.hid hb0
  have H0 := Lib.hid h0
  have HW := Lib.hid hW
  clear hb0 h0 hW
  go_enter Tryz.func14, Tryz.ntmps14
  go_upto_region 1 with (fail)
  rw [HW.out]
  clear HW
  go_wp2_with fail
  refine HS.out.mono ?_
  rintro e w1 ⟨hb, v, rfl, hv⟩
  dsimp only at hv
  obtain ⟨av, fv, rfl, hxa, hxf⟩ := hv
  obtain ⟨a1, a2, rfl⟩ := hxa.yshape
  obtain ⟨c1, c2, rfl⟩ := hxf.yshape
  have HB1 := Lib.hid (HB0.out.trans (hb.mono HB0.out.size))
  have HLT : Hid (w.heap.size < w1.heap.size) := (H0.out.old hb).lt
  have HA0 := Lib.hid (H0.out.old hb)
  have HT := Lib.hid (show ArsAt (w.heap.size < ·) w1 x.arrays _ ∧ FusAt (w.heap.size < ·) w1 x.funcs _ from ⟨hxa.ymono (fun b hb => by have := HB0.out.size; have h2 := H0.out.lt; have : W.heap.size ≤ b := hb; show w.heap.size < b; omega), hxf.ymono (fun b hb => by have := HB0.out.size; have h2 := H0.out.lt; have : W.heap.size ≤ b := hb; show w.heap.size < b; omega)⟩)
  clear hb hxa hxf HS HSC HB0 H0
  go_upto_region 2 with (fail)
  have HN := Lib.hid (OwnAt.new w1 [.slice a1 x.arrays.length a2, .slice c1 x.funcs.length c2] 34)
  have HA1 := Lib.hid (HA0.out.alloc (.cells #[.slice a1 x.arrays.length a2, .slice c1 x.funcs.length c2] 34))
  have HB2 := Lib.hid (HB1.out.alloc HB1.out.size (.cells #[.slice a1 x.arrays.length a2, .slice c1 x.funcs.length c2] 34))
  have hal : Below w1.heap.size w1 (w1.alloc (.cells #[.slice a1 x.arrays.length a2, .slice c1 x.funcs.length c2] 34)) := (Below.refl _ _).alloc (Nat.le_refl _) _
  have HT2 := Lib.hid (show ArsAt (w.heap.size < ·) _ x.arrays _ ∧ FusAt (w.heap.size < ·) _ x.funcs _ from ⟨(HT.out.1).keep (keeps_below hal), (HT.out.2).keep (keeps_below hal)⟩)
  clear hal HT HB1 HA0
  generalize w1.alloc (.cells #[.slice a1 x.arrays.length a2, .slice c1 x.funcs.length c2] 34) = w2 at *
  obtain ⟨b2, hb2⟩ : ∃ b2, w1.heap.size = b2 := ⟨_, rfl⟩
  rw [hb2] at HLT HN ⊢
  clear hb2
  have y0 := HN.out.at 0 _ rfl; have f0 := HN.out.fz 0
  have y1 := HN.out.at 1 _ rfl; have f1 := HN.out.fz 1
  have o0 := HA1.out.at 0 _ rfl; have q0 := HA1.out.fz 0
  have o1 := HA1.out.at 1 _ rfl; have q1 := HA1.out.fz 1
  by_cases he : e0 = 0
  · subst he
    go_wp2_with fail
    refine (right_any x (w.heap.size < ·) _ _ _ HT2.out.1 HT2.out.2).mono ?_
    rintro e w3 ⟨rfl, hb3⟩
    have HN3 := Lib.hid (HN.out.old hb3)
    have HA3 := Lib.hid (HA1.out.old hb3)
    have HB3 := Lib.hid (HB2.out.trans (hb3.mono HB2.out.size))
    have HT3 := Lib.hid (show ArsAt (w.heap.size < ·) w3 x.arrays _ ∧ FusAt (w.heap.size < ·) w3 x.funcs _ from ⟨(HT2.out.1).keep (keeps_below hb3), (HT2.out.2).keep (keeps_below hb3)⟩)
    clear hb3 y0 f0 o0 q0 y1 f1 o1 q1
    have y0 := HN3.out.at 0 _ rfl; have f0 := HN3.out.fz 0
    have y1 := HN3.out.at 1 _ rfl; have f1 := HN3.out.fz 1
    have o0 := HA3.out.at 0 _ rfl; have q0 := HA3.out.fz 0
    have o1 := HA3.out.at 1 _ rfl; have q1 := HA3.out.fz 1
    cases hr : rightPr x
    · go_wp2_with fail
      have hs := ((HA3.out.set 0 (.slice none 0 0)).set 1 (.slice none 0 0))
      have s0 := hs.at 0 _ rfl
      have s1 := hs.at 1 _ rfl
      exact bodyPost_ret (v := .tuple #[.agg #[.slice none 0 0, .slice none 0 0], .int .i64 41, .int .i64 1]) (by simp [results, Tryz.results14, go_sem, s0, s1]) rfl (by
        rw [show finP (x, 0, n0) = ((⟨[], []⟩ : Pr), 41, 1) by simp [finP, hr]]
        exact ⟨((HB3.out.setCell (p := ⟨w.heap.size, 0, none⟩) (Nat.le_refl _) (.slice none 0 0)).setCell (p := ⟨w.heap.size, 1, none⟩) (Nat.le_refl _) (.slice none 0 0)), _, rfl, ⟨_, _, rfl, ArsAt.zero, FusAt.zero⟩⟩)
    · go_wp2_with fail
      have hs := ((HA3.out.set 0 (.slice a1 x.arrays.length a2)).set 1 (.slice c1 x.funcs.length c2))
      have s0 := hs.at 0 _ rfl
      have s1 := hs.at 1 _ rfl
      exact bodyPost_ret (v := .tuple #[.agg #[.slice a1 x.arrays.length a2, .slice c1 x.funcs.length c2], .int .i64 0, .int .i64 n0]) (by simp [results, Tryz.results14, go_sem, s0, s1]) rfl (by
        rw [show finP (x, 0, n0) = (x, 0, n0) by simp [finP, hr]]
        exact ⟨((HB3.out.setCell (p := ⟨w.heap.size, 0, none⟩) (Nat.le_refl _) (.slice a1 x.arrays.length a2)).setCell (p := ⟨w.heap.size, 1, none⟩) (Nat.le_refl _) (.slice c1 x.funcs.length c2)), _, rfl, ⟨_, _, rfl, ((HT3.out.1).keep (keeps2 _ (by show ¬ w.heap.size < w.heap.size; omega) _ _)).ymono (fun b hb => Nat.le_of_lt hb), ((HT3.out.2).keep (keeps2 _ (by show ¬ w.heap.size < w.heap.size; omega) _ _)).ymono (fun b hb => Nat.le_of_lt hb)⟩⟩)
  · have HA3 := HA1; have HN3 := HN; have HB3 := HB2
    go_wp2_with fail
    have hs := ((HA3.out.set 0 (.slice a1 x.arrays.length a2)).set 1 (.slice c1 x.funcs.length c2))
    have s0 := hs.at 0 _ rfl
    have s1 := hs.at 1 _ rfl
    exact bodyPost_ret (v := .tuple #[.agg #[.slice a1 x.arrays.length a2, .slice c1 x.funcs.length c2], .int .i64 e0, .int .i64 n0]) (by simp [results, Tryz.results14, go_sem, s0, s1]) rfl (by
      rw [show finP (x, e0, n0) = (x, e0, n0) by simp [finP, he]]
      exact ⟨((HB3.out.setCell (p := ⟨w.heap.size, 0, none⟩) (Nat.le_refl _) (.slice a1 x.arrays.length a2)).setCell (p := ⟨w.heap.size, 1, none⟩) (Nat.le_refl _) (.slice c1 x.funcs.length c2)), _, rfl, ⟨_, _, rfl, ((HT2.out.1).keep (keeps2 _ (by show ¬ w.heap.size < w.heap.size; omega) _ _)).ymono (fun b hb => Nat.le_of_lt hb), ((HT2.out.2).keep (keeps2 _ (by show ¬ w.heap.size < w.heap.size; omega) _ _)).ymono (fun b hb => Nat.le_of_lt hb)⟩⟩)
end Go.Proofs.YtcfpfnoldgnloaaGreatDoor
