/-
  tree.named and tree.Right: which programs may be. No condition beside the cells.
  Expr, Parse: whole, then Right. Conditions: what whole gives is known.
  skip: what stands behind blanks and comments. Conditions: the blanks and comments may be; the library's tables lie in memory.
  quoted: a character between quotes. Conditions: it is one that may be; its bytes are read as it; the library's tables lie in memory.
  a token of any kind at a text's beginning, a blank behind it. Conditions: PcOk says which.
  Scan's list of tokens (text Tk), and what is a token. No condition.
  The texts that Scan is asked of: tokens, each with blanks and comments behind it. No condition.
-/
import Derived.Test.YtcfpfnoldgnloaaGreatDoorPn19
import Derived.Test.YtcfpfnoldgnloaaGreatDoorPn00
import Derived.Test.YtcfpfnoldgnloaaGreatDoorPn17
import Derived.Test.YtcfpfnoldgnloaaGreatDoorPn18
import Derived.Test.YtcfpfnoldgnloaaGreatDoorPn02
import Derived.Test.YtcfpfnoldgnloaaGreatDoorPn03
set_option linter.unusedVariables false
set_option linter.unusedSimpArgs false
namespace Go.Proofs.YtcfpfnoldgnloaaGreatDoor
open Go.RowKit
set_option maxHeartbeats 4000000
set_option maxRecDepth 20000

theorem named_fn (s : Bs) (w : World) :
    Calls Tryz.prog 111 #[.string (strOf s)] w fun r w' => r = .returned (.bool (!isName s)) ∧ Below w.heap.size w w' := by
  go_enter Tryz.func111, Tryz.ntmps111
  go_wp2_with fail
  refine (name_any s _).mono ?_
  rintro r w1 ⟨rfl, hb⟩
  go_wp2_with fail
  go_ret
  exact ⟨rfl, hb⟩
theorem named_any (l : List Bs) (v : Value) (D : Nat → Prop) (w : World) (h : StrsAt D w l v) :
    Calls Tryz.prog 49 #[v] w fun r w' => r = .returned (.bool (l.all isName)) ∧ Below w.heap.size w w' := by
  obtain ⟨a, cap, b, off, rfl, h1, h2, h3, h4⟩ := h
  have HC := Lib.hid (containsFuncS a l.length cap 111 #[] Tryz.call111 w (fun i => .string (strOf (l.getD i []))) (fun i => !isName (l.getD i [])) (h2).out
    (h3.imp id fun h => ⟨b, off, h.1, h4⟩) (fun i _ w1 _ => named_fn _ w1))
  clear h1 h2 h3 h4
  have E : Hid ((!anyN (fun i => !isName (l.getD i [])) l.length) = l.all isName) := by
    show _ = _
    rw [anyN_list (fun s => !isName s) _ l (fun i hi => by simp [List.getElem?_eq_getElem hi])]
    simp [List.any_eq_not_all_not]
  go_enter Tryz.func49, Tryz.ntmps49
  go_wp2_with fail
  refine HC.out.mono ?_
  rintro r w1 ⟨rfl, hb⟩
  go_wp2_with fail
  go_ret
  exact ⟨ret_bool E.out, hb⟩

theorem right_any (p : Pr) (D : Nat → Prop) (sa sf : Value) (w : World) (ha : ArsAt D w p.arrays sa) (hf : FusAt D w p.funcs sf) :
    Calls Tryz.prog 24 #[.agg #[sa, sf]] w fun r w' => r = .returned (.bool (rightPr p)) ∧ Below w.heap.size w w' := by
  obtain ⟨aa, ca, ba, oa, rfl, a1, a2, a3, a4⟩ := ha
  obtain ⟨af, cf, bf, of', pv, lv, bv, rfl, f1, f2, f3, f4⟩ := hf
  have la := a2.lt
  have lf := f2.lt
  have A3 := Lib.hid a3; have A4 := Lib.hid a4; have F3 := Lib.hid f3; have F4 := Lib.hid f4
  have E : Hid (rightPr p = (p.arrays.all rightAr && p.funcs.all rightFu)) := rfl
  clear a1 a2 a3 a4 f1 f2 f3 f4
  go_enter Tryz.func24, Tryz.ntmps24
  go_wp2_with fail
  have HW : Hid (Below w.heap.size w (w.alloc (.cells #[.slice aa p.arrays.length ca, .slice af p.funcs.length cf] 34))) := (Below.refl _ _).alloc (Nat.le_refl _) _
  have c1 : (w.alloc (.cells #[.slice aa p.arrays.length ca, .slice af p.funcs.length cf] 34)).cell? ⟨w.heap.size, 1, none⟩ = some (.slice af p.funcs.length cf) := by simp
  have hz0 : w.heap.size < (w.alloc (.cells #[.slice aa p.arrays.length ca, .slice af p.funcs.length cf] 34)).heap.size := by simp
  generalize w.alloc (.cells #[.slice aa p.arrays.length ca, .slice af p.funcs.length cf] 34) = W at HW c1 hz0 ⊢
  go_loopw [2, 4, 10] (fun s2 _ s10 wr => ∃ k : Nat, k ≤ p.arrays.length ∧ s10 = .int .i64 k ∧ s2 = .bool false ∧ (∀ i, i < k → rightAr (arAt p.arrays i) = true) ∧ Below W.heap.size W wr) (fun _ _ s10 _ => p.arrays.length - (intOf s10).toNat)
  case atStart => exact ⟨0, Nat.zero_le _, rfl, rfl, fun i hi => by omega, Below.refl _ _⟩
  case round =>
    obtain ⟨k, hk, rfl, rfl, hall, hb⟩ := hrel
    have ALL := Lib.hid hall; clear hall
    have HB := Lib.hid (HW.out.trans (hb.mono (by omega)))
    have HBW := Lib.hid hb
    have hzr : w.heap.size < wr.heap.size := by have := hb.size; omega
    have c2 := below_keeps hb c1
    clear hb
    by_cases hlt : k < p.arrays.length
    · obtain ⟨rfl, _⟩ : aa = some ⟨ba, oa, none⟩ ∧ D ba := by rcases A3.out with h | h; omega; exact h
      obtain ⟨g0, g1⟩ := A4.out k hlt
      have e0 := below_keeps HB.out g0
      have e1 := below_keeps HB.out g1
      clear g0 g1
      generalize hAk : arAt p.arrays k = A at e0 e1
      have HAK := Lib.hid hAk; clear hAk
      have RA : Hid (rightAr A = (isName A.name && decide (1 ≤ A.size ∧ A.size ≤ 1048576))) := rfl
      go_wp2_with fail
      refine (named_any [A.name] _ (fun _ => True) _ ⟨some ⟨wr.heap.size + 1, 0, none⟩, 1, wr.heap.size + 1, 0, rfl, Nat.le_refl _, by show _ ≤ _; simp, .inr ⟨rfl, trivial⟩, fun i hi => by obtain rfl : i = 0 := (by simp at hi; omega); simp⟩).mono ?_
      rintro r w3 ⟨rfl, hb3⟩
      have hbr : Below wr.heap.size wr w3 := (((Below.refl _ _).alloc (Nat.le_refl _) _).alloc (by simp) _).trans (hb3.mono (by simp; omega))
      have d1 : w3.cell? ⟨wr.heap.size, 1, none⟩ = some (.int .i64 A.size) := below_keeps hb3 (by simp [World.cell?_alloc_lt])
      have HBR := Lib.hid hbr
      have HB3 := Lib.hid (HB.out.trans (hbr.mono (by omega)))
      clear hb3 hbr
      rw [show ([A.name].all isName) = isName A.name from by simp]
      have bad : Hid (rightAr A = false → rightPr p = false) := fun h => by
        rw [E.out, all_false_at p.arrays Ar.nil rightAr k hlt (by rw [show p.arrays.getD k Ar.nil = A from HAK.out]; exact h)]; rfl
      cases q1 : isName A.name
      · have Q1 := Lib.hid q1; clear q1
        go_wp2_with fail
        go_ret
        exact ⟨ret_bool (bad.out (by rw [RA.out, Q1.out]; rfl)).symm, HB3.out⟩
      have Q1 := Lib.hid q1; clear q1
      by_cases q2 : 1 ≤ A.size
      · by_cases q3 : A.size ≤ 1048576
        · go_wp2_with fail
          go_roundw
          case rel =>
            refine ⟨k + 1, by omega, by go_num, rfl, fun i hi => ?_, HBW.out.trans (HBR.out.mono HBW.out.size)⟩
            rcases Nat.lt_succ_iff_lt_or_eq.1 hi with h | rfl
            · exact ALL.out i h
            · rw [HAK.out, RA.out, Q1.out]; simp [q2, q3]
          case measure => simp [intOf]; omega
        · go_wp2_with fail
          go_ret
          exact ⟨ret_bool (bad.out (by rw [RA.out, Q1.out]; simp; omega)).symm, HB3.out⟩
      · go_wp2_with fail
        go_ret
        exact ⟨ret_bool (bad.out (by rw [RA.out, Q1.out]; simp; omega)).symm, HB3.out⟩
    · have hkn : k = p.arrays.length := by omega
      have EA : Hid (p.arrays.all rightAr = true) := all_of_at p.arrays Ar.nil rightAr (fun i hi => ALL.out i (by omega))
      clear hkn
      go_wp2_with fail
      go_loopw [2, 6, 33] (fun s2 _ s33 wx => ∃ j : Nat, j ≤ p.funcs.length ∧ s33 = .int .i64 j ∧ s2 = .bool false ∧ (∀ i, i < j → rightFu (fuAt p.funcs i) = true) ∧ Below wr.heap.size wr wx) (fun _ _ s33 _ => p.funcs.length - (intOf s33).toNat)
      case atStart => exact ⟨0, Nat.zero_le _, rfl, rfl, fun i hi => by omega, Below.refl _ _⟩
      case round =>
        clear c1 c2
        obtain ⟨j, hj, rfl, rfl, hall, hb⟩ := hrel
        have ALF := Lib.hid hall; clear hall
        rename World => wx
        have HBX := Lib.hid (HB.out.trans (hb.mono (by omega)))
        have HBY := Lib.hid hb
        clear hb
        by_cases hlj : j < p.funcs.length
        · obtain ⟨rfl, _⟩ : af = some ⟨bf, of', none⟩ ∧ D bf := by rcases F3.out with h | h; omega; exact h
          obtain ⟨⟨g0, g1, g2, g3⟩, gp, gl, gb⟩ := F4.out j hlj
          have e0 := below_keeps HBX.out g0
          have e1 := below_keeps HBX.out g1
          have e2 := below_keeps HBX.out g2
          have e3 := below_keeps HBX.out g3
          have GP := Lib.hid (gp.old HBX.out); have GL := Lib.hid (gl.old HBX.out); have GB := Lib.hid (gb.old HBX.out)
          clear g0 g1 g2 g3 gp gl gb
          generalize hAk : fuAt p.funcs j = A at e0 GP GL GB
          generalize pv j = P1 at e1 GP
          generalize lv j = L1 at e2 GL
          generalize bv j = B1 at e3 GB
          have HAK := Lib.hid hAk; clear hAk
          obtain ⟨pa, pc, hpv⟩ : ∃ a cap, P1 = .slice a A.params.length cap := by obtain ⟨a, cap, _, _, h, _⟩ := GP.out; exact ⟨a, cap, h⟩
          subst hpv
          obtain ⟨qa, qc, hqv⟩ : ∃ a cap, L1 = .slice a A.locals.length cap := by obtain ⟨a, cap, _, _, h, _⟩ := GL.out; exact ⟨a, cap, h⟩
          subst hqv
          obtain ⟨ra, rc, hrv⟩ : ∃ a cap, B1 = .slice a A.body.length cap := GB.out.shape
          subst hrv
          have RA : Hid (rightFu A = (isName A.name && A.params.all isName && A.locals.all isName && decide (A.params.length ≤ 6) && A.body.all (stOk 40))) := rfl
          have bad : Hid (rightFu A = false → rightPr p = false) := fun h => by
            rw [E.out, EA.out, all_false_at p.funcs Fu.nil rightFu j hlj (by rw [show p.funcs.getD j Fu.nil = A from HAK.out]; exact h)]; rfl
          go_wp2_with fail
          refine (named_any [A.name] _ (fun _ => True) _ ⟨some ⟨wx.heap.size + 1, 0, none⟩, 1, wx.heap.size + 1, 0, rfl, Nat.le_refl _, by show _ ≤ _; simp, .inr ⟨rfl, trivial⟩, fun i hi => by obtain rfl : i = 0 := (by simp at hi; omega); simp⟩).mono ?_
          rintro r w3 ⟨rfl, hb3⟩
          have hbr : Below wx.heap.size wx w3 := (((Below.refl _ _).alloc (Nat.le_refl _) _).alloc (by simp) _).trans (hb3.mono (by simp; omega))
          have d1 : w3.cell? ⟨wx.heap.size, 1, none⟩ = some (.slice pa A.params.length pc) := below_keeps hb3 (by simp [World.cell?_alloc_lt])
          have d2 : w3.cell? ⟨wx.heap.size, 2, none⟩ = some (.slice qa A.locals.length qc) := below_keeps hb3 (by simp [World.cell?_alloc_lt])
          have d3 : w3.cell? ⟨wx.heap.size, 3, none⟩ = some (.slice ra A.body.length rc) := below_keeps hb3 (by simp [World.cell?_alloc_lt])
          have HBR := Lib.hid hbr
          have hs3 := hbr.size
          clear hb3 hbr e0 e1 e2 e3
          rw [show ([A.name].all isName) = isName A.name from by simp]
          have HBZ := Lib.hid (HBX.out.trans (HBR.out.mono (by have := HBX.out.size; omega)))
          cases q1 : isName A.name
          · have Q1 := Lib.hid q1; clear q1
            go_wp2_with fail
            go_ret
            exact ⟨ret_bool (bad.out (by rw [RA.out, Q1.out]; rfl)).symm, HBZ.out⟩
          have Q1 := Lib.hid q1; clear q1
          go_wp2_with fail
          refine (named_any A.params _ D _ (GP.out.old HBR.out)).mono ?_
          rintro r w4 ⟨rfl, hb4⟩
          have HB4 := Lib.hid (HBR.out.trans (hb4.mono hs3))
          have k1 := below_keeps hb4 d1; have k2 := below_keeps hb4 d2; have k3 := below_keeps hb4 d3
          have hs4 := hb4.size
          clear hb4 d1 d2 d3
          have HBZ4 := Lib.hid (HBX.out.trans (HB4.out.mono (by have := HBX.out.size; omega)))
          cases q2 : A.params.all isName
          · have Q2 := Lib.hid q2; clear q2
            go_wp2_with fail
            go_ret
            exact ⟨ret_bool (bad.out (by rw [RA.out, Q2.out]; simp)).symm, HBZ4.out⟩
          have Q2 := Lib.hid q2; clear q2
          go_wp2_with fail
          refine (named_any A.locals _ D _ (GL.out.old HB4.out)).mono ?_
          rintro r w5 ⟨rfl, hb5⟩
          have HB5 := Lib.hid (HB4.out.trans (hb5.mono (by omega)))
          have m1 := below_keeps hb5 k1; have m3 := below_keeps hb5 k3
          have hs5 := hb5.size
          clear hb5 k1 k2 k3
          have HBZ5 := Lib.hid (HBX.out.trans (HB5.out.mono (by have := HBX.out.size; omega)))
          cases q3 : A.locals.all isName
          · have Q3 := Lib.hid q3; clear q3
            go_wp2_with fail
            go_ret
            exact ⟨ret_bool (bad.out (by rw [RA.out, Q3.out]; simp)).symm, HBZ5.out⟩
          have Q3 := Lib.hid q3; clear q3
          by_cases q4 : A.params.length ≤ 6
          · go_wp2_with fail
            refine ((stmt_all 40 (by omega)).2 D A.body _ _ (GB.out.old HB5.out)).mono ?_
            rintro r w6 ⟨rfl, hb6⟩
            have HB6 := Lib.hid (HB5.out.trans (hb6.mono (by omega)))
            clear hb6 m1 m3
            have HBZ6 := Lib.hid (HBX.out.trans (HB6.out.mono (by have := HBX.out.size; omega)))
            cases q5 : A.body.all (stOk 40)
            · have Q5 := Lib.hid q5; clear q5
              go_wp2_with fail
              go_ret
              exact ⟨ret_bool (bad.out (by rw [RA.out, Q5.out]; simp)).symm, HBZ6.out⟩
            · have Q5 := Lib.hid q5; clear q5
              go_wp2_with fail
              go_roundw
              case rel =>
                refine ⟨j + 1, by omega, by go_num, rfl, fun i hi => ?_, HBY.out.trans (HB6.out.mono HBY.out.size)⟩
                rcases Nat.lt_succ_iff_lt_or_eq.1 hi with h | rfl
                · exact ALF.out i h
                · rw [HAK.out, RA.out, Q1.out, Q2.out, Q3.out, Q5.out]; simp [q4]
              case measure => simp [intOf]; omega
          · have q4' : 6 < A.params.length := by omega
            go_wp2_with fail
            go_ret
            exact ⟨ret_bool (bad.out (by rw [RA.out]; simp [q4])).symm, HBZ5.out⟩
        · have hjn : j = p.funcs.length := by omega
          have EF : Hid (p.funcs.all rightFu = true) := all_of_at p.funcs Fu.nil rightFu (fun i hi => ALF.out i (by omega))
          clear hjn
          go_wp2_with fail
          go_ret
          exact ⟨ret_bool (by rw [E.out, EA.out, EF.out]; rfl), HBX.out⟩
end Go.Proofs.YtcfpfnoldgnloaaGreatDoor

namespace Go.Proofs.YtcfpfnoldgnloaaGreatDoor
open Go.RowKit
set_option maxRecDepth 100000
set_option maxHeartbeats 4000000

def finE : Ex × Int × Int → Ex × Int × Int
  | (x, e, n) => if e = 0 ∧ rightEx x = false then (exZ, 41, 1) else (x, e, n)
theorem topE_of (z : Bs) (w : World) (r : Ex × Int × Int) (HSC : Hid (∀ w1, Below w.heap.size w w1 → Calls Tryz.prog 26 #[.string (strOf z), .func (.func 27) #[] #[]] w1 (WhE w1 r))) :
    Calls Tryz.prog 13 #[.string (strOf z)] w (WhE w (finE r)) := by
  obtain ⟨x, e0, n0⟩ := r
  obtain ⟨W, hW⟩ : ∃ W, w.alloc (.cells #[.int .i64 0, .int .i64 0, .int .i64 0, .string ⟨#[]⟩, .slice none 0 0] 27) = W := ⟨_, rfl⟩
  have hb0 : Below w.heap.size w W := hW ▸ (Below.refl _ _).alloc (Nat.le_refl _) _
  have h0 : OwnAt W w.heap.size [.int .i64 0, .int .i64 0, .int .i64 0, .string ⟨#[]⟩, .slice none 0 0] 27 := hW ▸ OwnAt.new w [.int .i64 0, .int .i64 0, .int .i64 0, .string ⟨#[]⟩, .slice none 0 0] 27
  have HS := Lib.hid (HSC.out W hb0)
  have HB0 := Lib.hid hb0
  have H0 := Lib.hid h0
  have HW := Lib.hid hW
  clear hb0 h0 hW
  go_enter Tryz.func13, Tryz.ntmps13
  go_upto_region 1 with (fail)
  rw [HW.out]
  clear HW
  go_wp2_with fail
  refine HS.out.mono ?_
  rintro e w1 ⟨hb, v, rfl, hv⟩
  dsimp only at hv
  obtain ⟨s5, rfl, hx, hn5⟩ := hv
  obtain ⟨a1, a2, rfl⟩ := hx.shape
  have HB1 := Lib.hid (HB0.out.trans (hb.mono HB0.out.size))
  have HLT : Hid (w.heap.size < w1.heap.size) := (H0.out.old hb).lt
  have HA0 := Lib.hid (H0.out.old hb)
  have HT := Lib.hid (show ExsAt (w.heap.size < ·) w1 x.args _ ∧ I64 x.n from ⟨hx.mono (fun b hb => by have := HB0.out.size; have h2 := H0.out.lt; have : W.heap.size ≤ b := hb; show w.heap.size < b; omega), hn5⟩)
  clear hb hx hn5 HS HSC HB0 H0
  go_upto_region 2 with (fail)
  have HN := Lib.hid (OwnAt.new w1 [.int .i64 x.kind, .int .i64 x.op, .int .i64 x.n, .string (strOf x.name), .slice a1 x.args.length a2] 27)
  have HA1 := Lib.hid (HA0.out.alloc (.cells #[.int .i64 x.kind, .int .i64 x.op, .int .i64 x.n, .string (strOf x.name), .slice a1 x.args.length a2] 27))
  have HB2 := Lib.hid (HB1.out.alloc HB1.out.size (.cells #[.int .i64 x.kind, .int .i64 x.op, .int .i64 x.n, .string (strOf x.name), .slice a1 x.args.length a2] 27))
  have hal : Below w1.heap.size w1 (w1.alloc (.cells #[.int .i64 x.kind, .int .i64 x.op, .int .i64 x.n, .string (strOf x.name), .slice a1 x.args.length a2] 27)) := (Below.refl _ _).alloc (Nat.le_refl _) _
  have HT2 := Lib.hid (show ExsAt (w.heap.size < ·) _ x.args _ ∧ I64 x.n from ⟨(HT.out.1).keep (keeps_below hal), HT.out.2⟩)
  clear hal HT HB1 HA0
  generalize w1.alloc (.cells #[.int .i64 x.kind, .int .i64 x.op, .int .i64 x.n, .string (strOf x.name), .slice a1 x.args.length a2] 27) = w2 at *
  obtain ⟨b2, hb2⟩ : ∃ b2, w1.heap.size = b2 := ⟨_, rfl⟩
  rw [hb2] at HLT HN ⊢
  clear hb2
  have y0 := HN.out.at 0 _ rfl; have f0 := HN.out.fz 0
  have y1 := HN.out.at 1 _ rfl; have f1 := HN.out.fz 1
  have y2 := HN.out.at 2 _ rfl; have f2 := HN.out.fz 2
  have y3 := HN.out.at 3 _ rfl; have f3 := HN.out.fz 3
  have y4 := HN.out.at 4 _ rfl; have f4 := HN.out.fz 4
  have o0 := HA1.out.at 0 _ rfl; have q0 := HA1.out.fz 0
  have o1 := HA1.out.at 1 _ rfl; have q1 := HA1.out.fz 1
  have o2 := HA1.out.at 2 _ rfl; have q2 := HA1.out.fz 2
  have o3 := HA1.out.at 3 _ rfl; have q3 := HA1.out.fz 3
  have o4 := HA1.out.at 4 _ rfl; have q4 := HA1.out.fz 4
  by_cases he : e0 = 0
  · subst he
    go_wp2_with fail
    refine (rightExpr_any x (w.heap.size < ·) _ _ HT2.out.1).mono ?_
    rintro e w3 ⟨rfl, hb3⟩
    have HN3 := Lib.hid (HN.out.old hb3)
    have HA3 := Lib.hid (HA1.out.old hb3)
    have HB3 := Lib.hid (HB2.out.trans (hb3.mono HB2.out.size))
    have HT3 := Lib.hid (show ExsAt (w.heap.size < ·) w3 x.args _ ∧ I64 x.n from ⟨(HT2.out.1).keep (keeps_below hb3), HT2.out.2⟩)
    clear hb3 y0 f0 o0 q0 y1 f1 o1 q1 y2 f2 o2 q2 y3 f3 o3 q3 y4 f4 o4 q4
    have y0 := HN3.out.at 0 _ rfl; have f0 := HN3.out.fz 0
    have y1 := HN3.out.at 1 _ rfl; have f1 := HN3.out.fz 1
    have y2 := HN3.out.at 2 _ rfl; have f2 := HN3.out.fz 2
    have y3 := HN3.out.at 3 _ rfl; have f3 := HN3.out.fz 3
    have y4 := HN3.out.at 4 _ rfl; have f4 := HN3.out.fz 4
    have o0 := HA3.out.at 0 _ rfl; have q0 := HA3.out.fz 0
    have o1 := HA3.out.at 1 _ rfl; have q1 := HA3.out.fz 1
    have o2 := HA3.out.at 2 _ rfl; have q2 := HA3.out.fz 2
    have o3 := HA3.out.at 3 _ rfl; have q3 := HA3.out.fz 3
    have o4 := HA3.out.at 4 _ rfl; have q4 := HA3.out.fz 4
    cases hr : rightEx x
    · go_wp2_with fail
      have hs := (((((HA3.out.set 0 (.int .i64 0)).set 1 (.int .i64 0)).set 2 (.int .i64 0)).set 3 (.string ⟨#[]⟩)).set 4 (.slice none 0 0))
      have s0 := hs.at 0 _ rfl
      have s1 := hs.at 1 _ rfl
      have s2 := hs.at 2 _ rfl
      have s3 := hs.at 3 _ rfl
      have s4 := hs.at 4 _ rfl
      exact bodyPost_ret (v := .tuple #[.agg #[.int .i64 0, .int .i64 0, .int .i64 0, .string ⟨#[]⟩, .slice none 0 0], .int .i64 41, .int .i64 1]) (by simp [results, Tryz.results13, go_sem, s0, s1, s2, s3, s4]) rfl (by
        rw [show finE (x, 0, n0) = (exZ, 41, 1) by simp [finE, hr]]
        exact ⟨(((((HB3.out.setCell (p := ⟨w.heap.size, 0, none⟩) (Nat.le_refl _) (.int .i64 0)).setCell (p := ⟨w.heap.size, 1, none⟩) (Nat.le_refl _) (.int .i64 0)).setCell (p := ⟨w.heap.size, 2, none⟩) (Nat.le_refl _) (.int .i64 0)).setCell (p := ⟨w.heap.size, 3, none⟩) (Nat.le_refl _) (.string ⟨#[]⟩)).setCell (p := ⟨w.heap.size, 4, none⟩) (Nat.le_refl _) (.slice none 0 0)), _, rfl, ⟨_, rfl, ExsAt.zero, yi64_0⟩⟩)
    · go_wp2_with fail
      have hs := (((((HA3.out.set 0 (.int .i64 x.kind)).set 1 (.int .i64 x.op)).set 2 (.int .i64 x.n)).set 3 (.string (strOf x.name))).set 4 (.slice a1 x.args.length a2))
      have s0 := hs.at 0 _ rfl
      have s1 := hs.at 1 _ rfl
      have s2 := hs.at 2 _ rfl
      have s3 := hs.at 3 _ rfl
      have s4 := hs.at 4 _ rfl
      exact bodyPost_ret (v := .tuple #[.agg #[.int .i64 x.kind, .int .i64 x.op, .int .i64 x.n, .string (strOf x.name), .slice a1 x.args.length a2], .int .i64 0, .int .i64 n0]) (by simp [results, Tryz.results13, go_sem, s0, s1, s2, s3, s4]) rfl (by
        rw [show finE (x, 0, n0) = (x, 0, n0) by simp [finE, hr]]
        exact ⟨(((((HB3.out.setCell (p := ⟨w.heap.size, 0, none⟩) (Nat.le_refl _) (.int .i64 x.kind)).setCell (p := ⟨w.heap.size, 1, none⟩) (Nat.le_refl _) (.int .i64 x.op)).setCell (p := ⟨w.heap.size, 2, none⟩) (Nat.le_refl _) (.int .i64 x.n)).setCell (p := ⟨w.heap.size, 3, none⟩) (Nat.le_refl _) (.string (strOf x.name))).setCell (p := ⟨w.heap.size, 4, none⟩) (Nat.le_refl _) (.slice a1 x.args.length a2)), _, rfl, ⟨_, rfl, ((HT3.out.1).keep (keeps5 _ (by show ¬ w.heap.size < w.heap.size; omega) _ _ _ _ _)).mono (fun b hb => Nat.le_of_lt hb), HT3.out.2⟩⟩)
  · have HA3 := HA1; have HN3 := HN; have HB3 := HB2
    go_wp2_with fail
    have hs := (((((HA3.out.set 0 (.int .i64 x.kind)).set 1 (.int .i64 x.op)).set 2 (.int .i64 x.n)).set 3 (.string (strOf x.name))).set 4 (.slice a1 x.args.length a2))
    have s0 := hs.at 0 _ rfl
    have s1 := hs.at 1 _ rfl
    have s2 := hs.at 2 _ rfl
    have s3 := hs.at 3 _ rfl
    have s4 := hs.at 4 _ rfl
    exact bodyPost_ret (v := .tuple #[.agg #[.int .i64 x.kind, .int .i64 x.op, .int .i64 x.n, .string (strOf x.name), .slice a1 x.args.length a2], .int .i64 e0, .int .i64 n0]) (by simp [results, Tryz.results13, go_sem, s0, s1, s2, s3, s4]) rfl (by
      rw [show finE (x, e0, n0) = (x, e0, n0) by simp [finE, he]]
      exact ⟨(((((HB3.out.setCell (p := ⟨w.heap.size, 0, none⟩) (Nat.le_refl _) (.int .i64 x.kind)).setCell (p := ⟨w.heap.size, 1, none⟩) (Nat.le_refl _) (.int .i64 x.op)).setCell (p := ⟨w.heap.size, 2, none⟩) (Nat.le_refl _) (.int .i64 x.n)).setCell (p := ⟨w.heap.size, 3, none⟩) (Nat.le_refl _) (.string (strOf x.name))).setCell (p := ⟨w.heap.size, 4, none⟩) (Nat.le_refl _) (.slice a1 x.args.length a2)), _, rfl, ⟨_, rfl, ((HT2.out.1).keep (keeps5 _ (by show ¬ w.heap.size < w.heap.size; omega) _ _ _ _ _)).mono (fun b hb => Nat.le_of_lt hb), HT2.out.2⟩⟩)
def finP : Pr × Int × Int → Pr × Int × Int
  | (x, e, n) => if e = 0 ∧ rightPr x = false then ((⟨[], []⟩ : Pr), 41, 1) else (x, e, n)
theorem topP_of (z : Bs) (w : World) (r : Pr × Int × Int) (HSC : Hid (∀ w1, Below w.heap.size w w1 → Calls Tryz.prog 29 #[.string (strOf z), .func (.func 30) #[] #[]] w1 (WhP w1 r))) :
    Calls Tryz.prog 14 #[.string (strOf z)] w (WhP w (finP r)) := by
  obtain ⟨x, e0, n0⟩ := r
  obtain ⟨W, hW⟩ : ∃ W, w.alloc (.cells #[.slice none 0 0, .slice none 0 0] 34) = W := ⟨_, rfl⟩
  have hb0 : Below w.heap.size w W := hW ▸ (Below.refl _ _).alloc (Nat.le_refl _) _
  have h0 : OwnAt W w.heap.size [.slice none 0 0, .slice none 0 0] 34 := hW ▸ OwnAt.new w [.slice none 0 0, .slice none 0 0] 34
  have HS := Lib.hid (HSC.out W hb0)
  have HB0 := Lib.hid hb0
  have H0 := Lib.hid h0
  have HW := Lib.hid hW
  clear hb0 h0 hW
  go_enter Tryz.func14, Tryz.ntmps14
  go_upto_region 1 with (fail)
  rw [HW.out]
  clear HW
  go_wp2_with fail
  refine HS.out.mono ?_
  rintro e w1 ⟨hb, v, rfl, hv⟩
  dsimp only at hv
  obtain ⟨av, fv, rfl, hxa, hxf⟩ := hv
  obtain ⟨a1, a2, rfl⟩ := hxa.yshape
  obtain ⟨c1, c2, rfl⟩ := hxf.yshape
  have HB1 := Lib.hid (HB0.out.trans (hb.mono HB0.out.size))
  have HLT : Hid (w.heap.size < w1.heap.size) := (H0.out.old hb).lt
  have HA0 := Lib.hid (H0.out.old hb)
  have HT := Lib.hid (show ArsAt (w.heap.size < ·) w1 x.arrays _ ∧ FusAt (w.heap.size < ·) w1 x.funcs _ from ⟨hxa.ymono (fun b hb => by have := HB0.out.size; have h2 := H0.out.lt; have : W.heap.size ≤ b := hb; show w.heap.size < b; omega), hxf.ymono (fun b hb => by have := HB0.out.size; have h2 := H0.out.lt; have : W.heap.size ≤ b := hb; show w.heap.size < b; omega)⟩)
  clear hb hxa hxf HS HSC HB0 H0
  go_upto_region 2 with (fail)
  have HN := Lib.hid (OwnAt.new w1 [.slice a1 x.arrays.length a2, .slice c1 x.funcs.length c2] 34)
  have HA1 := Lib.hid (HA0.out.alloc (.cells #[.slice a1 x.arrays.length a2, .slice c1 x.funcs.length c2] 34))
  have HB2 := Lib.hid (HB1.out.alloc HB1.out.size (.cells #[.slice a1 x.arrays.length a2, .slice c1 x.funcs.length c2] 34))
  have hal : Below w1.heap.size w1 (w1.alloc (.cells #[.slice a1 x.arrays.length a2, .slice c1 x.funcs.length c2] 34)) := (Below.refl _ _).alloc (Nat.le_refl _) _
  have HT2 := Lib.hid (show ArsAt (w.heap.size < ·) _ x.arrays _ ∧ FusAt (w.heap.size < ·) _ x.funcs _ from ⟨(HT.out.1).keep (keeps_below hal), (HT.out.2).keep (keeps_below hal)⟩)
  clear hal HT HB1 HA0
  generalize w1.alloc (.cells #[.slice a1 x.arrays.length a2, .slice c1 x.funcs.length c2] 34) = w2 at *
  obtain ⟨b2, hb2⟩ : ∃ b2, w1.heap.size = b2 := ⟨_, rfl⟩
  rw [hb2] at HLT HN ⊢
  clear hb2
  have y0 := HN.out.at 0 _ rfl; have f0 := HN.out.fz 0
  have y1 := HN.out.at 1 _ rfl; have f1 := HN.out.fz 1
  have o0 := HA1.out.at 0 _ rfl; have q0 := HA1.out.fz 0
  have o1 := HA1.out.at 1 _ rfl; have q1 := HA1.out.fz 1
  by_cases he : e0 = 0
  · subst he
    go_wp2_with fail
    refine (right_any x (w.heap.size < ·) _ _ _ HT2.out.1 HT2.out.2).mono ?_
    rintro e w3 ⟨rfl, hb3⟩
    have HN3 := Lib.hid (HN.out.old hb3)
    have HA3 := Lib.hid (HA1.out.old hb3)
    have HB3 := Lib.hid (HB2.out.trans (hb3.mono HB2.out.size))
    have HT3 := Lib.hid (show ArsAt (w.heap.size < ·) w3 x.arrays _ ∧ FusAt (w.heap.size < ·) w3 x.funcs _ from ⟨(HT2.out.1).keep (keeps_below hb3), (HT2.out.2).keep (keeps_below hb3)⟩)
    clear hb3 y0 f0 o0 q0 y1 f1 o1 q1
    have y0 := HN3.out.at 0 _ rfl; have f0 := HN3.out.fz 0
    have y1 := HN3.out.at 1 _ rfl; have f1 := HN3.out.fz 1
    have o0 := HA3.out.at 0 _ rfl; have q0 := HA3.out.fz 0
    have o1 := HA3.out.at 1 _ rfl; have q1 := HA3.out.fz 1
    cases hr : rightPr x
    · go_wp2_with fail
      have hs := ((HA3.out.set 0 (.slice none 0 0)).set 1 (.slice none 0 0))
      have s0 := hs.at 0 _ rfl
      have s1 := hs.at 1 _ rfl
      exact bodyPost_ret (v := .tuple #[.agg #[.slice none 0 0, .slice none 0 0], .int .i64 41, .int .i64 1]) (by simp [results, Tryz.results14, go_sem, s0, s1]) rfl (by
        rw [show finP (x, 0, n0) = ((⟨[], []⟩ : Pr), 41, 1) by simp [finP, hr]]
        exact ⟨((HB3.out.setCell (p := ⟨w.heap.size, 0, none⟩) (Nat.le_refl _) (.slice none 0 0)).setCell (p := ⟨w.heap.size, 1, none⟩) (Nat.le_refl _) (.slice none 0 0)), _, rfl, ⟨_, _, rfl, ArsAt.zero, FusAt.zero⟩⟩)
    · go_wp2_with fail
      have hs := ((HA3.out.set 0 (.slice a1 x.arrays.length a2)).set 1 (.slice c1 x.funcs.length c2))
      have s0 := hs.at 0 _ rfl
      have s1 := hs.at 1 _ rfl
      exact bodyPost_ret (v := .tuple #[.agg #[.slice a1 x.arrays.length a2, .slice c1 x.funcs.length c2], .int .i64 0, .int .i64 n0]) (by simp [results, Tryz.results14, go_sem, s0, s1]) rfl (by
        rw [show finP (x, 0, n0) = (x, 0, n0) by simp [finP, hr]]
        exact ⟨((HB3.out.setCell (p := ⟨w.heap.size, 0, none⟩) (Nat.le_refl _) (.slice a1 x.arrays.length a2)).setCell (p := ⟨w.heap.size, 1, none⟩) (Nat.le_refl _) (.slice c1 x.funcs.length c2)), _, rfl, ⟨_, _, rfl, ((HT3.out.1).keep (keeps2 _ (by show ¬ w.heap.size < w.heap.size; omega) _ _)).ymono (fun b hb => Nat.le_of_lt hb), ((HT3.out.2).keep (keeps2 _ (by show ¬ w.heap.size < w.heap.size; omega) _ _)).ymono (fun b hb => Nat.le_of_lt hb)⟩⟩)
  · have HA3 := HA1; have HN3 := HN; have HB3 := HB2
    go_wp2_with fail
    have hs := ((HA3.out.set 0 (.slice a1 x.arrays.length a2)).set 1 (.slice c1 x.funcs.length c2))
    have s0 := hs.at 0 _ rfl
    have s1 := hs.at 1 _ rfl
    exact bodyPost_ret (v := .tuple #[.agg #[.slice a1 x.arrays.length a2, .slice c1 x.funcs.length c2], .int .i64 e0, .int .i64 n0]) (by simp [results, Tryz.results14, go_sem, s0, s1]) rfl (by
      rw [show finP (x, e0, n0) = (x, e0, n0) by simp [finP, he]]
      exact ⟨((HB3.out.setCell (p := ⟨w.heap.size, 0, none⟩) (Nat.le_refl _) (.slice a1 x.arrays.length a2)).setCell (p := ⟨w.heap.size, 1, none⟩) (Nat.le_refl _) (.slice c1 x.funcs.length c2)), _, rfl, ⟨_, _, rfl, ((HT2.out.1).keep (keeps2 _ (by show ¬ w.heap.size < w.heap.size; omega) _ _)).ymono (fun b hb => Nat.le_of_lt hb), ((HT2.out.2).keep (keeps2 _ (by show ¬ w.heap.size < w.heap.size; omega) _ _)).ymono (fun b hb => Nat.le_of_lt hb)⟩⟩)
end Go.Proofs.YtcfpfnoldgnloaaGreatDoor

namespace Go.Proofs.YtcfpfnoldgnloaaGreatDoor
open Go.RowKit
set_option maxHeartbeats 4000000
set_option maxRecDepth 100000

/-- Blanks, then comments with blanks behind each. -/
def gapText (b0 : Bs) (l : List (Bs × Bs)) : Bs := b0 ++ l.flatMap (fun p => p.1 ++ p.2)
def feeds (l : Bs) : Nat := l.count 10
def isBlank (c : UInt8) : Bool := c == 32 || c == 9 || c == 10 || c == 13
structure CommOk (c : Bs) : Prop where
  pre : ∃ r, c = 47 :: 47 :: r
  nofeed : (10 : UInt8) ∉ c
  valid : Lib.validD c = true
  mark : Lib.contains c [239, 191, 189] = false
structure GapOk (b0 : Bs) (l : List (Bs × Bs)) : Prop where
  blank : ∀ c, c ∈ b0 → isBlank c = true
  comm : ∀ p, p ∈ l → CommOk p.1 ∧ (∀ c, c ∈ p.2 → isBlank c = true) ∧ ∃ r, p.2 = 10 :: r
theorem isBlank_of {c : UInt8} (h : isBlank c = true) : c.toNat < 128 ∧ blankR (c.toNat : Nat) = true := by
  simp only [isBlank, Bool.or_eq_true, beq_iff_eq] at h
  rcases h with ((rfl | rfl) | rfl) | rfl <;> exact ⟨by decide, by decide⟩
theorem index_at (c : Bs) (s : Bs) (h : (10 : UInt8) ∉ c) : Lib.index (c ++ 10 :: s) [10] = (c.length : Int) := by
  induction c with
  | nil => simp [Lib.index]
  | cons x c ih =>
    have hx : x ≠ 10 := fun e => h (by rw [e]; exact List.mem_cons_self)
    have i := ih (fun hm => h (List.mem_cons_of_mem _ hm))
    rw [List.cons_append, Lib.index]
    have hp : ([10] : List UInt8).isPrefixOf (x :: (c ++ 10 :: s)) = false := by
      simp [List.isPrefixOf]; exact fun e => hx e.symm
    rw [hp, i]
    have : ((c.length : Int) == -1) = false := by rw [beq_eq_false_iff_ne]; omega
    rw [this]
    simp
theorem cut_at (c s : Bs) (h : (10 : UInt8) ∉ c) : Lib.cut (c ++ 10 :: s) [10] = (c, s, true) := by
  unfold Lib.cut
  rw [index_at c s h, if_pos (by omega)]
  simp
theorem gap_len (b0 : Bs) (c b : Bs) (l : List (Bs × Bs)) : gapText b0 ((c, b) :: l) = b0 ++ (c ++ gapText b l) := by
  unfold gapText; simp
theorem feeds_app (a b : Bs) : feeds (a ++ b) = feeds a + feeds b := List.count_append
theorem feeds_no (c : Bs) (h : (10 : UInt8) ∉ c) : feeds c = 0 := List.count_eq_zero.2 h
theorem ext_drop (a b : Bs) (n : Nat) (hn : n = (a ++ b).length) : (strOf (a ++ b)).extract a.length n = strOf b := by
  subst hn
  apply ByteArray.ext
  rw [ByteArray.data_extract]
  simp [strOf]
theorem skip_any (b0 : Bs) (l : List (Bs × Bs)) (r : Bs) (hg : GapOk b0 l) (hr : EndsAt blankR r) (hp : Lib.hasPrefix r [47, 47] = false) (hz : (gapText b0 l ++ r).length ≤ 1000000) (w : World) (hl : ZLib w) :
    Calls Tryz.prog 40 #[.string (strOf (gapText b0 l ++ r))] w fun e w' => e = .returned (.tuple #[.string (strOf r), .int .i64 (feeds (gapText b0 l)), .bool true]) ∧ Below w.heap.size w w' := by
  have HGP := Lib.hid hg; have HR := Lib.hid hr; have HP := Lib.hid hp; have HL := Lib.hid hl; have HZ := Lib.hid hz
  obtain ⟨T, hT⟩ : ∃ T, feeds (gapText b0 l) = T := ⟨_, rfl⟩
  rw [hT]
  have hT2 : T ≤ 1000000 := by
    rw [← hT]; unfold feeds
    have := List.count_le_length (a := (10 : UInt8)) (l := gapText b0 l)
    rw [List.length_append] at hz; omega
  have HTT := Lib.hid hT
  clear hg hr hp hl hz hT
  go_enter Tryz.func40, Tryz.ntmps40
  go_wp2_with fail
  go_loopw [0, 3] (fun s0 s3 wr => ∃ (b1 : Bs) (l1 : List (Bs × Bs)) (n : Nat), s0 = .string (strOf (gapText b1 l1 ++ r)) ∧ s3 = .int .i64 n ∧ GapOk b1 l1 ∧ n + feeds (gapText b1 l1) = T ∧ (gapText b1 l1 ++ r).length ≤ 1000000 ∧ l1.length ≤ l.length ∧ Below w.heap.size w wr) (fun s0 _ _ => match s0 with | .string s => s.size | _ => 0)
  case atStart => exact ⟨b0, l, 0, rfl, rfl, HGP.out, by rw [HTT.out]; omega, HZ.out, Nat.le_refl _, Below.refl _ _⟩
  case round =>
    obtain ⟨b1, l1, n, rfl, rfl, hg1, hn, hz1, hll, hb⟩ := hrel
    have HL1 := Lib.hid (HL.out.old hb)
    have HB := Lib.hid hb
    have HG1 := Lib.hid hg1
    have nI : (n : Int) ≤ 1000000 := by omega
    have nJ : (0 : Int) ≤ (n : Int) := by omega
    have HN := Lib.hid hn
    cases l1 with
    | nil =>
      have e1 : gapText b1 [] = b1 := by simp [gapText]
      rw [e1] at hn hz1 ⊢
      have HN := Lib.hid hn
      have HR1 := Lib.hid (fun w1 => run_blank b1 r (fun c hc => isBlank_of (hg1.blank c hc)) HR.out w1)
      have HX1 := Lib.hid (ext_take b1 r)
      have hl1 : (b1.length : Int) ≤ ((b1 ++ r).length : Int) := by rw [List.length_append]; omega
      have hl2 : b1.length ≤ (b1 ++ r).length := by rw [List.length_append]; omega
      have HZ1 := Lib.hid hz1
      clear hg1 hb hn hz1 e1
      go_wp2_with fail
      refine (HR1.out _).mono ?_
      rintro e w1 ⟨rfl, hb1⟩
      have HB1 := Lib.hid (HB.out.trans (hb1.mono HB.out.size))
      have HL2 := Lib.hid (HL1.out.old hb1)
      clear hb1
      go_wp2_with fail
      rw [HX1.out]
      refine (Tryz.strings_Count_one (strOf b1) 10 w1).mono ?_
      rintro e w2 ⟨he, hw2⟩
      have he2 : e = .returned (.int .i64 (feeds b1 : Int)) := he
      subst he2
      obtain rfl : w1 = w2 := hw2.symm
      clear he
      have fI : (n : Int) + (feeds b1 : Int) ≤ 1000000 := by have := HN.out; omega
      have fJ : (0 : Int) ≤ (feeds b1 : Int) := by omega
      go_wp2_with fail
      have hxd := ext_drop b1 r _ rfl
      first | rw [hxd] | (simp only [List.length_append] at hxd; rw [hxd])
      clear hxd
      refine (Tryz.strings_HasPrefix (strOf (r)) (strOf [47, 47]) w1).mono ?_
      rintro e w2 ⟨he, hw2⟩
      have he2 : e = .returned (.bool false) := by rw [he]; show Ending.returned (.bool (Lib.hasPrefix r [47, 47])) = _; rw [HP.out]
      subst he2
      obtain rfl : w1 = w2 := hw2.symm
      clear he
      go_wp2_with fail
      go_ret3
      exact ⟨by rw [show (T : Int) = (n : Int) + (feeds b1 : Int) from by have := HN.out; omega]; rfl, HB1.out⟩
    | cons p l1 =>
      obtain ⟨c, b2⟩ := p
      obtain ⟨hco, hb2, b3, hb3⟩ := hg1.comm _ List.mem_cons_self
      have hb3 : b2 = 10 :: b3 := hb3
      have hco : CommOk c := hco
      obtain ⟨c3, hc3⟩ := hco.pre
      have e1 := gap_len b1 c b2 l1
      have e2 : gapText b1 ((c, b2) :: l1) ++ r = b1 ++ (c ++ (gapText b2 l1 ++ r)) := by rw [e1]; simp
      rw [e2] at hz1 ⊢
      have hfe : feeds (gapText b1 ((c, b2) :: l1)) = feeds b1 + feeds (gapText b2 l1) := by rw [e1, feeds_app, feeds_app, feeds_no c hco.nofeed]; omega
      rw [hfe] at hn
      have hg2 : GapOk b2 l1 := ⟨hb2, fun p hp => hg1.comm p (List.mem_cons_of_mem _ hp)⟩
      have hes : EndsAt blankR (c ++ (gapText b2 l1 ++ r)) := .inr ⟨47, 47 :: (c3 ++ (gapText b2 l1 ++ r)), by rw [hc3]; rfl, by decide, by decide⟩
      have hcut : Lib.cut (c ++ (gapText b2 l1 ++ r)) [10] = (c, (gapText b2 l1 ++ r).drop 1, true) := by
        have : gapText b2 l1 ++ r = 10 :: (b3 ++ (l1.flatMap (fun p => p.1 ++ p.2) ++ r)) := by unfold gapText; rw [hb3]; simp
        rw [this, cut_at c _ hco.nofeed]; rfl
      have hpre : Lib.hasPrefix (c ++ (gapText b2 l1 ++ r)) [47, 47] = true := by rw [hc3]; simp [Lib.hasPrefix]
      have HPR := Lib.hid hpre
      have hz2 : (c ++ (gapText b2 l1 ++ r)).length ≤ 1000000 := by rw [List.length_append] at hz1; omega
      have HCM := Lib.hid (fun w1 h => comment_any c (gapText b2 l1 ++ r) hcut hco.valid hco.mark hz2 w1 h)
      have HR1 := Lib.hid (fun w1 => run_blank b1 (c ++ (gapText b2 l1 ++ r)) (fun x hx => isBlank_of (hg1.blank x hx)) hes w1)
      have HX1 := Lib.hid (ext_take b1 (c ++ (gapText b2 l1 ++ r)))
      have hl1 : (b1.length : Int) ≤ ((b1 ++ (c ++ (gapText b2 l1 ++ r))).length : Int) := by rw [List.length_append]; omega
      have hl2 : b1.length ≤ (b1 ++ (c ++ (gapText b2 l1 ++ r))).length := by rw [List.length_append]; omega
      have hl3 : (c.length : Int) ≤ ((c ++ (gapText b2 l1 ++ r)).length : Int) := by rw [List.length_append]; omega
      have hl4 : c.length ≤ (c ++ (gapText b2 l1 ++ r)).length := by rw [List.length_append]; omega
      have HG2 := Lib.hid hg2
      have HN2 := Lib.hid hn
      have HZ2 : Hid ((gapText b2 l1 ++ r).length ≤ 1000000) := by show _ ≤ _; rw [List.length_append] at hz2; omega
      have HME : Hid ((gapText b2 l1 ++ r).length < (b1 ++ (c ++ (gapText b2 l1 ++ r))).length) := by
        show _ < _; rw [hc3]; simp only [List.length_append, List.length_cons]; omega
      have HLL : Hid (l1.length ≤ l.length) := by show _ ≤ _; rw [List.length_cons] at hll; omega
      clear hg1 hb hn hz1 e1 e2 hfe hg2 hes hcut hpre hz2 hco hb2 hb3 hc3 hll HN
      have HX2 := Lib.hid (ext_drop b1 (c ++ (gapText b2 l1 ++ r)))
      have HX3 := Lib.hid (ext_drop c (gapText b2 l1 ++ r))
      have HREL := Lib.hid (show ∃ q, gapText b2 l1 ++ r = q from ⟨_, rfl⟩)
      obtain ⟨q, hq⟩ := HREL.out
      have HQ := Lib.hid hq
      clear HREL
      rw [hq] at HX2 HX3 HX1 HPR HCM HR1 hl1 hl2 hl3 hl4 HZ2 HME ⊢
      clear hq
      obtain ⟨u, hu⟩ : ∃ u, c ++ q = u := ⟨_, rfl⟩
      rw [hu] at HX2 HX3 HX1 HPR HCM HR1 hl1 hl2 hl3 hl4 HME ⊢
      clear hu
      go_wp2_with fail
      refine (HR1.out _).mono ?_
      rintro e w1 ⟨rfl, hb1⟩
      have HB1 := Lib.hid (HB.out.trans (hb1.mono HB.out.size))
      have HL2 := Lib.hid (HL1.out.old hb1)
      clear hb1
      go_wp2_with fail
      rw [HX1.out]
      refine (Tryz.strings_Count_one (strOf b1) 10 w1).mono ?_
      rintro e w2 ⟨he, hw2⟩
      have he2 : e = .returned (.int .i64 (feeds b1 : Int)) := he
      subst he2
      obtain rfl : w1 = w2 := hw2.symm
      clear he
      have fI : (n : Int) + (feeds b1 : Int) ≤ 1000000 := by have := HN2.out; omega
      have fJ : (0 : Int) ≤ (feeds b1 : Int) := by omega
      go_wp2_with fail
      have hxd := HX2.out _ rfl
      first | rw [hxd] | (simp only [List.length_append] at hxd; rw [hxd])
      clear hxd
      refine (Tryz.strings_HasPrefix (strOf u) (strOf [47, 47]) w1).mono ?_
      rintro e w2 ⟨he, hw2⟩
      have he2 : e = .returned (.bool true) := by rw [he]; show Ending.returned (.bool (Lib.hasPrefix u [47, 47])) = _; rw [HPR.out]
      subst he2
      obtain rfl : w1 = w2 := hw2.symm
      clear he
      go_wp2_with fail
      refine (HCM.out _ HL2.out).mono ?_
      rintro e w2 ⟨rfl, hb2⟩
      have HB2 := Lib.hid (HB1.out.trans (hb2.mono HB1.out.size))
      clear hb2
      go_wp2_with fail
      have hxd := HX3.out _ rfl
      first | rw [hxd] | (simp only [List.length_append] at hxd; rw [hxd])
      clear hxd
      go_roundw
      case rel => exact ⟨b2, l1, n + feeds b1, by rw [HQ.out], by go_num, HG2.out, by have := HN2.out; omega, by rw [HQ.out]; exact HZ2.out, HLL.out, HB2.out⟩
      case measure => exact HME.out
end Go.Proofs.YtcfpfnoldgnloaaGreatDoor

namespace Go.Proofs.YtcfpfnoldgnloaaGreatDoor
open Go.RowKit
set_option maxHeartbeats 4000000
set_option maxRecDepth 100000


theorem ext_one (a : UInt8) (b : Bs) (n : Nat) (hn : n = (a :: b).length) : (strOf (a :: b)).extract 1 n = strOf b := ext_drop [a] b n hn
theorem ext_tail (a : UInt8) (b c : Bs) (m n : Nat) (hm : m = 1 + b.length) (hn : n = (a :: (b ++ c)).length) : (strOf (a :: (b ++ c))).extract m n = strOf c := by
  have : m = (a :: b).length := by rw [hm, List.length_cons]; omega
  rw [this]
  exact ext_drop (a :: b) c n hn
theorem ext_head (a z : UInt8) (b c : Bs) (m : Nat) (hm : m = b.length + 2) : (strOf (a :: (b ++ z :: c))).extract 0 m = strOf (a :: (b ++ [z])) := by
  subst hm
  have h := ext_take (a :: (b ++ [z])) c
  simpa using h
theorem quoted_any (r : Nat) (x rest : Bs) (hr1 : 32 ≤ r) (hr2 : r ≠ 39) (hr3 : r ≠ 92) (hr4 : r ≠ 65533) (hr5 : r ≤ 1114111) (hx : x.length ≤ 4) (hd : Lib.decodeGo (strOf (x ++ 39 :: rest)) = (r, x.length)) (hz : (39 :: (x ++ 39 :: rest)).length ≤ 1000000) (w : World) (hl : ZLib w) :
    Calls Tryz.prog 93 #[.string (strOf (39 :: (x ++ 39 :: rest)))] w fun e w' => e = .returned (.tuple #[tokV 3 (39 :: (x ++ [39])) r 0, .bool true]) ∧ Below w.heap.size w w' := by
  have q1 : ((r : Int) == 39) = false := by rw [beq_eq_false_iff_ne]; omega
  have q2 : ((r : Int) == 92) = false := by rw [beq_eq_false_iff_ne]; omega
  have q3 : ((r : Int) == 65533) = false := by rw [beq_eq_false_iff_ne]; omega
  have q4 : (32 : Int) ≤ (r : Int) := by omega
  have q6 : ¬ ((r : Int) < 32) := by omega
  have q7 : decide ((r : Int) < 32) = false := decide_eq_false q6
  have q5 : (r : Int) ≤ 1114111 := by omega
  have xI : (x.length : Int) ≤ 4 := by omega
  have xJ : (0 : Int) ≤ (x.length : Int) := by omega
  have hL : (39 :: (x ++ 39 :: rest)).length = x.length + 2 + rest.length := by simp; omega
  have HX1 := Lib.hid (ext_one 39 (x ++ 39 :: rest))
  have HX2 := Lib.hid (ext_tail 39 x (39 :: rest))
  have HX3 := Lib.hid (ext_head 39 39 x rest)
  have HP := Lib.hid (show Lib.hasPrefix (39 :: rest) [39] = true by simp [Lib.hasPrefix])
  have HD := Lib.hid hd; have HL := Lib.hid hl; have HZ := Lib.hid hz; have HLE := Lib.hid hL
  have HO := Lib.hid (OwnAt.new w [.int .i64 0, .string ⟨#[]⟩, .int .i64 0, .int .i64 0] 50)
  have HB0 := Lib.hid ((Below.refl w.heap.size w).alloc (Nat.le_refl _) (.cells #[.int .i64 0, .string ⟨#[]⟩, .int .i64 0, .int .i64 0] 50))
  have l1 : x.length + 2 ≤ (39 :: (x ++ 39 :: rest)).length := by omega
  have l2 : (x.length : Int) + 2 ≤ ((39 :: (x ++ 39 :: rest)).length : Int) := by omega
  have l3 : 1 ≤ (39 :: (x ++ 39 :: rest)).length := by omega
  have l4 : (1 : Int) ≤ ((39 :: (x ++ 39 :: rest)).length : Int) := by omega
  clear hd hl hz hL hr2 hr3 hr4
  obtain ⟨s, hs⟩ : ∃ s, 39 :: (x ++ 39 :: rest) = s := ⟨_, rfl⟩
  obtain ⟨u, hu⟩ : ∃ u, x ++ 39 :: rest = u := ⟨_, rfl⟩
  obtain ⟨v, hv⟩ : ∃ v, (39 :: rest : Bs) = v := ⟨_, rfl⟩
  obtain ⟨k, hk⟩ : ∃ k, (39 :: (x ++ [39]) : Bs) = k := ⟨_, rfl⟩
  rw [hs] at HX1 HX2 HX3 HZ HLE l1 l2 l3 l4 ⊢
  rw [hu] at HX1 HD
  rw [hv] at HX2 HP
  rw [hk] at HX3 ⊢
  clear hs hu hv hk
  go_enter Tryz.func93, Tryz.ntmps93
  go_wp2_with fail
  rw [HX1.out _ rfl]
  refine (Tryz.utf8_DecodeRuneInString (strOf u) _ (HL.out.old HB0.out).utf).mono ?_
  rw [HD.out]
  rintro e w1 ⟨rfl, hb1⟩
  have HO1 := Lib.hid (HO.out.old hb1)
  have HB1 := Lib.hid (HB0.out.trans (hb1.mono HB0.out.size))
  clear hb1
  go_wp2_with fail
  rw [HX2.out _ _ rfl rfl]
  refine (Tryz.strings_HasPrefix (strOf v) (strOf [39]) w1).mono ?_
  rintro e w2 ⟨he, hw2⟩
  have he2 : e = .returned (.bool true) := by rw [he]; show Ending.returned (.bool (Lib.hasPrefix v [39])) = _; rw [HP.out]
  subst he2
  obtain rfl : w1 = w2 := hw2.symm
  clear he
  have g0 := HO1.out.at 0 _ rfl
  have f0 := HO1.out.fz 0
  have g1 := HO1.out.at 1 _ rfl
  have f1 := HO1.out.fz 1
  have g2 := HO1.out.at 2 _ rfl
  have f2 := HO1.out.fz 2
  have g3 := HO1.out.at 3 _ rfl
  have f3 := HO1.out.fz 3
  have gl := HO1.out.lt
  have hx3 := HX3.out _ rfl
  go_wp2_with fail
  have HS := Lib.hid ((((HO1.out.set 0 (.int .i64 3)).set 1 (.string (strOf k))).set 2 (.int .i64 r)).set 3 (.int .i64 0))
  have e0 := HS.out.at 0 _ rfl
  have e1 := HS.out.at 1 _ rfl
  have e2 := HS.out.at 2 _ rfl
  have e3 := HS.out.at 3 _ rfl
  exact bodyPost_ret (v := .tuple #[tokV 3 k r 0, .bool true]) (by simp [results, Tryz.results93, go_sem, tokV, e0, e1, e2, e3]) rfl ⟨rfl, set4 w _ HB1.out _ _ _ _⟩
end Go.Proofs.YtcfpfnoldgnloaaGreatDoor

namespace Go.Proofs.YtcfpfnoldgnloaaGreatDoor
open Go.RowKit
set_option maxHeartbeats 4000000
set_option maxRecDepth 100000


/-- What is a token, its kind, its number. -/
inductive PcOk : Bs → Int → Int → Prop
  | name (x : Bs) (hx : isName x = true) (hk : isWord x = false) (c : UInt8) (t : Bs) (hc : x = c :: t) (hl : isLetter c = true) (ha : ∀ c, c ∈ x → c.toNat < 128 ∧ wordR (c.toNat : Nat) = true) : PcOk x 1 0
  | word (x : Bs) (hk : isWord x = true) (c : UInt8) (t : Bs) (hc : x = c :: t) (hl : isLetter c = true) (ha : ∀ c, c ∈ x → c.toNat < 128 ∧ wordR (c.toNat : Nat) = true) : PcOk x 2 0
  | num (u : Nat) (hu : (Lib.decDigits u).length ≤ 19) (hi : u ≤ 9223372036854775807) (c : UInt8) (t : Bs) (hc : Lib.decDigits u = c :: t) (hd : isDigit c = true) : PcOk (Lib.decDigits u) 3 u
  | quote (r : Nat) (x : Bs) (hr1 : 32 ≤ r) (hr2 : r ≠ 39) (hr3 : r ≠ 92) (hr4 : r ≠ 65533) (hr5 : r ≤ 1114111) (hx : x.length ≤ 4) (hd : ∀ rest, Lib.decodeGo (strOf (x ++ 39 :: rest)) = (r, x.length)) : PcOk (39 :: (x ++ [39])) 3 r
  | sign (x : Bs) (hs : isSign x = true) (c : UInt8) (t : Bs) (hc : x = c :: t) (h7 : c.toNat < 128) (hn : isLetter c = false ∧ isDigit c = false ∧ c ≠ 39) : PcOk x 4 0
theorem letter_lt {c : UInt8} (h : isLetter c = true) : c.toNat < 128 := by
  simp [isLetter, UInt8.le_iff_toNat_le] at h
  by_cases e : c = 95
  · rw [e]; decide
  · simp only [e, false_or, or_false] at h
    omega
theorem digit_lt {c : UInt8} (h : isDigit c = true) : c.toNat < 128 := by
  simp [isDigit, UInt8.le_iff_toNat_le] at h; omega
theorem token_any {x : Bs} {k n : Int} (h : PcOk x k n) (b : UInt8) (r : Bs) (hb : isBlank b = true) (hz : (x ++ b :: r).length ≤ 1000000) (w : World) (hl : ZLib w) :
    Calls Tryz.prog 41 #[.string (strOf (x ++ b :: r))] w fun e w' => e = .returned (.tuple #[tokV k x n 0, .bool true]) ∧ Below w.heap.size w w' := by
  have hbl := isBlank_of hb
  have hbc : b = 32 ∨ b = 9 ∨ b = 10 ∨ b = 13 := by
    simp only [isBlank, Bool.or_eq_true, beq_iff_eq] at hb
    rcases hb with ((h | h) | h) | h <;> simp [h]
  have hw : EndsAt wordR (b :: r) := .inr ⟨b, r, rfl, hbl.1, by rcases hbc with rfl | rfl | rfl | rfl <;> decide⟩
  have hd : EndsAt digitR (b :: r) := .inr ⟨b, r, rfl, hbl.1, by rcases hbc with rfl | rfl | rfl | rfl <;> decide⟩
  cases h with
  | name x hx hk c t hc hll ha =>
    have hT := fun w1 (_ : Below w.heap.size w w1) => wordT_any x (b :: r) ha hw hk hx w1
    rw [hc] at hT ⊢
    exact token_word c (t ++ b :: r) hll (letter_lt hll) 1 (c :: t) 0 w hT
  | word x hk c t hc hll ha =>
    have hT := fun w1 (_ : Below w.heap.size w w1) => wordW_any x (b :: r) ha hw hk w1
    rw [hc] at hT ⊢
    exact token_word c (t ++ b :: r) hll (letter_lt hll) 2 (c :: t) 0 w hT
  | num u hu hi c t hc hdd =>
    have hT := fun w1 (hb1 : Below w.heap.size w w1) => numberT_any u (b :: r) hu hi hd w1 (hl.old hb1).lt (hl.old hb1).pow
    rw [hc] at hT ⊢
    exact token_number c (t ++ b :: r) hdd (digit_lt hdd) 3 (c :: t) u w hT
  | quote q y hr1 hr2 hr3 hr4 hr5 hx hdq =>
    have e : 39 :: (y ++ [39]) ++ b :: r = 39 :: (y ++ 39 :: (b :: r)) := by simp
    rw [e] at hz ⊢
    exact token_quote 39 (y ++ 39 :: (b :: r)) rfl (by decide) 3 (39 :: (y ++ [39])) q w (fun w1 hb1 => quoted_any q y (b :: r) hr1 hr2 hr3 hr4 hr5 hx (hdq _) hz w1 (hl.old hb1))
  | sign x hs c t hc h7 hn =>
    have hT := fun w1 (_ : Below w.heap.size w w1) => signT_any x (b :: r) hs (fun _ => ⟨b, r, rfl, by rcases hbc with rfl | rfl | rfl | rfl <;> decide, by rcases hbc with rfl | rfl | rfl | rfl <;> decide, by rcases hbc with rfl | rfl | rfl | rfl <;> decide⟩) w1
    rw [hc] at hT ⊢
    exact token_sign c (t ++ b :: r) hn h7 4 (c :: t) 0 w hT
end Go.Proofs.YtcfpfnoldgnloaaGreatDoor

namespace Go.Proofs.YtcfpfnoldgnloaaGreatDoor
end Go.Proofs.YtcfpfnoldgnloaaGreatDoor

namespace Go.Proofs.YtcfpfnoldgnloaaGreatDoor
open Go.RowKit
set_option maxHeartbeats 4000000
set_option maxRecDepth 100000


/-- A token and the gap behind it. -/
structure It where
  x : Bs
  k : Int
  n : Int
  b : Bs
  l : List (Bs × Bs)
def It.gap (i : It) : Bs := gapText i.b i.l
structure ItOk (i : It) : Prop where
  tok : PcOk i.x i.k i.n
  gap : GapOk i.b i.l
  head : ∃ c t, i.b = c :: t
def itText (l : List It) : Bs := l.flatMap (fun i => i.x ++ i.gap)
def toks (line : Nat) : List It → List Tk
  | [] => []
  | i :: l => ⟨i.k, i.x, i.n, line⟩ :: toks (line + feeds i.gap) l
theorem itText_cons (i : It) (l : List It) : itText (i :: l) = i.x ++ (i.gap ++ itText l) := by
  unfold itText; simp
theorem toks_len (line : Nat) (l : List It) : (toks line l).length = l.length := by
  induction l generalizing line with
  | nil => rfl
  | cons i l ih => simp [toks, ih]
theorem ItOk.blank {i : It} (h : ItOk i) (r : Bs) : ∃ c t, i.gap ++ r = c :: t ∧ isBlank c = true := by
  obtain ⟨c, t, e⟩ := h.head
  refine ⟨c, t ++ (i.l.flatMap (fun p => p.1 ++ p.2) ++ r), ?_, h.gap.blank c (by rw [e]; exact List.mem_cons_self)⟩
  unfold It.gap gapText; rw [e]; simp
end Go.Proofs.YtcfpfnoldgnloaaGreatDoor
