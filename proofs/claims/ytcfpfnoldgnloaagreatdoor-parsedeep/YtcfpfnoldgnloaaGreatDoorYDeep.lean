/-
  ParseDeep: for every input the law returns true. Condition: the library's tables lie in memory.
-/
import Derived.Test.YtcfpfnoldgnloaaGreatDoorParG
set_option linter.unusedVariables false
set_option linter.unusedSimpArgs false
namespace Go.Proofs.YtcfpfnoldgnloaaGreatDoor
open Go.RowKit
set_option maxHeartbeats 4000000
set_option maxRecDepth 100000

theorem ystrOf_app (a b : Bs) : strOf a ++ strOf b = strOf (a ++ b) := by
  apply ByteArray.ext; simp [strOf]
theorem ystrOf_sz (a : Bs) : (strOf a).size = a.length := by show a.toArray.size = _; simp
theorem sgT_len : ∀ k, (sgT k).length = k + 1
  | 0 => rfl
  | k + 1 => by rw [sgT, List.length_cons, sgT_len k]
theorem whT_len : ∀ k, (whT k).length = 11 * k
  | 0 => rfl
  | k + 1 => by rw [whT, List.length_append, whT_len k]; simp; omega
theorem cbT_len : ∀ k, (cbT k).length = k
  | 0 => rfl
  | k + 1 => by rw [cbT, List.length_append, cbT_len k]; rfl
theorem ydE (k : Nat) (hk : k < 61) (w : World) (hl : ZLib w) :
    Calls Tryz.prog 13 #[.string (strOf (sgT k))] w fun e w' => Below w.heap.size w w' ∧ ∃ kk o n s sa sn sc, e = .returned (.tuple #[.agg #[.int .i64 kk, .int .i64 o, .int .i64 n, .string s, .slice sa sn sc], .int .i64 (if k < 40 then 0 else 41), .int .i64 (if k < 40 then 0 else 1)]) := by
  have h := List.all_eq_true.1 deepE_all k (List.mem_range.2 hk)
  simp only [deepEB, Bool.and_eq_true, decide_eq_true_eq] at h
  obtain ⟨⟨⟨⟨h1, h2⟩, h3⟩, h4⟩, h5⟩ := h
  obtain ⟨i1, i2⟩ := itsB_of [] (sgI k) h1
  have hx := expr_its [] [] ygap_nil (sgI k) i1 i2 (by show ([] ++ itText (sgI k)).length ≤ 20000; rw [List.nil_append, h2]; omega) (by omega) 300 (by omega) w hl
  have e0 : gapText [] [] ++ itText (sgI k) = sgT k := by rw [← h2]; rfl
  rw [e0] at hx
  refine hx.mono ?_
  intro e w' hp
  obtain ⟨hb, v, he, s, hv, hxa, hn⟩ := hp
  have e1 : (finE (outE (climbP 300 1 (scanned (1 + feeds (gapText [] [])) (sgI k))))).2 = (if k < 40 then (0, 0) else (41, 1)) := by
    show (finE (outE (climbP 300 1 (scanned 1 (sgI k))))).2 = _
    by_cases hk4 : k < 40
    · rw [if_pos hk4] at h5 ⊢; exact of_decide_eq_true h5
    · rw [if_neg hk4] at h5 ⊢; exact of_decide_eq_true h5
  generalize finE (outE (climbP 300 1 (scanned (1 + feeds (gapText [] [])) (sgI k)))) = R at *
  obtain ⟨sa, sc, rfl⟩ := hxa.shape
  obtain ⟨x, r1, r2⟩ := R
  dsimp only at e1
  refine ⟨hb, x.kind, x.op, x.n, strOf x.name, sa, x.args.length, sc, ?_⟩
  rw [he, hv]
  by_cases hk4 : k < 40
  · rw [if_pos hk4] at e1; rw [if_pos hk4, if_pos hk4]; cases e1; rfl
  · rw [if_neg hk4] at e1; rw [if_neg hk4, if_neg hk4]; cases e1; rfl
theorem ydP (d : Nat) (hd : d < 61) (w : World) (hl : ZLib w) :
    Calls Tryz.prog 14 #[.string (strOf (prT d))] w fun e w' => Below w.heap.size w w' ∧ ∃ aa an ac fa fn fc, e = .returned (.tuple #[.agg #[.slice aa an ac, .slice fa fn fc], .int .i64 (if d ≤ 40 then 0 else 41), .int .i64 (if d ≤ 40 then 0 else 1)]) ∧ (d ≤ 40 → fn = 1) := by
  have h := List.all_eq_true.1 deepP_all d (List.mem_range.2 hd)
  simp only [deepPB, Bool.and_eq_true, decide_eq_true_eq] at h
  obtain ⟨⟨⟨⟨h1, h2⟩, h3⟩, h4⟩, h5⟩ := h
  obtain ⟨i1, i2⟩ := itsB_of [] (prI d) h1
  have hg : GapOk [10] [] := ⟨by decide, fun p hp => (by cases hp)⟩
  have e0 : gapText [10] [] ++ itText (prI d) = prT d := by rw [← h2]; rfl
  have hx := parse_its [10] [] hg (prI d) i1 i2 (by rw [e0]; omega) (by omega) 1700 (by omega) w hl
  rw [e0] at hx
  refine hx.mono ?_
  intro e w' hp
  obtain ⟨hb, v, he, av, fv, hv, hxa, hxf⟩ := hp
  have e1 : (finP (outP (progP 1700 ⟨[], []⟩ (scanned (1 + feeds (gapText [10] [])) (prI d))))).2 = (if d ≤ 40 then (0, 0) else (41, 1)) ∧ (d ≤ 40 → (finP (outP (progP 1700 ⟨[], []⟩ (scanned (1 + feeds (gapText [10] [])) (prI d))))).1.funcs.length = 1) := by
    show (finP (outP (progP 1700 ⟨[], []⟩ (scanned 2 (prI d))))).2 = _ ∧ (d ≤ 40 → (finP (outP (progP 1700 ⟨[], []⟩ (scanned 2 (prI d))))).1.funcs.length = 1)
    by_cases hk4 : d ≤ 40
    · rw [if_pos hk4] at h5 ⊢
      obtain ⟨g1, g2⟩ := (Bool.and_eq_true _ _).mp h5
      exact ⟨of_decide_eq_true g1, fun _ => of_decide_eq_true g2⟩
    · rw [if_neg hk4] at h5 ⊢; exact ⟨of_decide_eq_true h5, fun g => absurd g hk4⟩
  generalize finP (outP (progP 1700 ⟨[], []⟩ (scanned (1 + feeds (gapText [10] [])) (prI d)))) = R at *
  obtain ⟨e1, e2⟩ := e1
  obtain ⟨aa, ac, rfl⟩ := hxa.yshape
  obtain ⟨fa, fc, rfl⟩ := hxf.yshape
  obtain ⟨x, r1, r2⟩ := R
  dsimp only at e1 e2
  refine ⟨hb, aa, x.arrays.length, ac, fa, x.funcs.length, fc, ?_, e2⟩
  rw [he, hv]
  by_cases hk4 : d ≤ 40
  · rw [if_pos hk4] at e1; rw [if_pos hk4, if_pos hk4]; cases e1; rfl
  · rw [if_neg hk4] at e1; rw [if_neg hk4, if_neg hk4]; cases e1; rfl

theorem ydeep_any (n m : Int) (hn : I64 n) (hm : I64 m) (w : World) (hl : ZLib w) :
    Calls Tryz.prog 3 #[.int .i64 n, .int .i64 m] w fun e w' => e = .returned (.bool true) ∧ Below w.heap.size w w' := by
  have HL := Lib.hid hl
  have HN := Lib.hid hn; have HM := Lib.hid hm
  clear hl hn hm
  go_enter Tryz.func3, Tryz.ntmps3
  go_wp2_with fail
  refine (yawake_any w HL.out).mono ?_
  rintro e w1 ⟨rfl, hb1⟩
  have HL1 := Lib.hid (HL.out.old hb1)
  have HB1 := Lib.hid hb1
  clear hb1
  go_wp2_with fail
  refine (ypick_any n 61 HN.out (by decide) (by decide) w1).mono ?_
  rintro e w2 ⟨he, rfl⟩
  obtain ⟨k, hk, hk61⟩ := ypick_range n 61 (by decide)
  rw [hk] at he
  subst he
  clear hk
  go_wp2_with fail
  go_loopw [7, 8] (fun s7 s8 wr => ∃ i : Nat, i ≤ k ∧ s8 = .int .i64 i ∧ s7 = .string (strOf (sgT i)) ∧ Hid (Below w.heap.size w wr)) (fun _ s8 _ => k - (intOf s8).toNat)
  case atStart => exact ⟨0, Nat.zero_le _, rfl, rfl, HB1⟩
  case round =>
    obtain ⟨i, hi, rfl, rfl, HBR⟩ := hrel
    by_cases hlt : i < k
    · have hl1 := sgT_len i
      have hS : Hid (strOf [sgn i] ++ strOf (sgT i) = strOf (sgT (i + 1))) := by show _ = _; rw [ystrOf_app]; rfl
      have hz := ystrOf_sz (sgT i)
      generalize strOf (sgT i) = S at *
      have n1 : ¬ (1 + S.size > 9223372036854775807) := by omega
      have n2 : ¬ (9223372036854775807 < 1 + S.size) := by omega
      have hltI : (i : Int) < (k : Int) := by omega
      have h3 : i % 3 = 0 ∨ i % 3 = 1 ∨ i % 3 = 2 := by omega
      have ht : (i : Int).tmod 3 = ((i % 3 : Nat) : Int) := by rw [Int.tmod_eq_emod_of_nonneg (by omega)]; omega
      clear hl1 hz
      rcases h3 with h3 | h3 | h3
      · rw [h3] at ht
        have hg : sgn i = 45 := by simp [sgn, h3]
        rw [hg] at hS
        go_wp2_with fail
        exact ⟨⟨i + 1, hlt, rfl, congrArg Value.string hS.out, HBR.out.alloc HBR.out.size _⟩, by simp [intOf]; omega⟩
      · rw [h3] at ht
        have hg : sgn i = 33 := by simp [sgn, h3]
        rw [hg] at hS
        go_wp2_with fail
        exact ⟨⟨i + 1, hlt, rfl, congrArg Value.string hS.out, HBR.out.alloc HBR.out.size _⟩, by simp [intOf]; omega⟩
      · rw [h3] at ht
        have hg : sgn i = 126 := by simp [sgn, h3]
        rw [hg] at hS
        go_wp2_with fail
        exact ⟨⟨i + 1, hlt, rfl, congrArg Value.string hS.out, HBR.out.alloc HBR.out.size _⟩, by simp [intOf]; omega⟩
    · have he : i = k := by omega
      subst he
      have hi61 : i < 61 := by omega
      obtain ⟨E1, hE1⟩ : ∃ E1 : Int, (if i < 40 then 0 else 41 : Int) = E1 := ⟨_, rfl⟩
      obtain ⟨N1, hN1⟩ : ∃ N1 : Int, (if i < 40 then 0 else 1 : Int) = N1 := ⟨_, rfl⟩
      have HX := Lib.hid (ydE i hi61 wr (HL.out.old HBR.out))
      rw [hE1, hN1] at HX
      have HE1 := Lib.hid hE1; have HN1 := Lib.hid hN1
      clear hE1 hN1 hlt
      generalize strOf (sgT i) = S at *
      go_wp2_with fail
      refine HX.out.mono ?_
      rintro e w4 ⟨hb4, kk, o, n', s, sa, sn, sc, rfl⟩
      have HB4 := Lib.hid (HBR.out.trans (hb4.mono HBR.out.size))
      have HB5 := Lib.hid (HB4.out.alloc HB4.out.size (.cells #[.int .i64 kk, .int .i64 o, .int .i64 n', .string s, .slice sa sn sc] 27))
      clear hb4
      go_upto_region 9 with (fail)
      generalize w4.alloc (.cells #[.int .i64 kk, .int .i64 o, .int .i64 n', .string s, .slice sa sn sc] 27) = w5 at *
      clear HX
      go_wp2_with fail
      refine (ypick_any m 61 HM.out (by decide) (by decide) w5).mono ?_
      rintro e w6 ⟨he, rfl⟩
      obtain ⟨d, hd, hd61⟩ := ypick_range m 61 (by decide)
      rw [hd] at he
      subst he
      clear hd
      go_wp2_with fail
      go_loopw [13, 14, 15] (fun s13 s14 s15 wr => ∃ j : Nat, j ≤ d ∧ s15 = .int .i64 j ∧ s13 = .string (strOf (whT j)) ∧ s14 = .string (strOf (cbT j)) ∧ w6 = wr) (fun _ _ s15 _ => d - (intOf s15).toNat)
      case atStart => exact ⟨0, Nat.zero_le _, rfl, rfl, rfl, rfl⟩
      case round =>
        obtain ⟨j, hj, rfl, rfl, rfl, rfl⟩ := hrel
        by_cases hlt : j < d
        · have hl1 := whT_len j
          have hl2 := cbT_len j
          have hz1 := ystrOf_sz (whT j)
          have hz2 := ystrOf_sz (cbT j)
          have hS1 : Hid (strOf (whT j) ++ strOf [119, 104, 105, 108, 101, 32, 40, 49, 41, 32, 123] = strOf (whT (j + 1))) := by show _ = _; rw [ystrOf_app]; rfl
          have hS2 : Hid (strOf (cbT j) ++ strOf [125] = strOf (cbT (j + 1))) := by show _ = _; rw [ystrOf_app]; rfl
          generalize strOf (whT j) = S1 at *
          generalize strOf (cbT j) = S2 at *
          have n1 : ¬ (S1.size + 11 > 9223372036854775807) := by omega
          have n2 : ¬ (9223372036854775807 < S1.size + 11) := by omega
          have n3 : ¬ (S2.size + 1 > 9223372036854775807) := by omega
          have n4 : ¬ (9223372036854775807 < S2.size + 1) := by omega
          have hltI : (j : Int) < (d : Int) := by omega
          clear hl1 hl2 hz1 hz2
          go_wp2_with fail
          exact ⟨⟨j + 1, hlt, rfl, congrArg Value.string hS1.out, congrArg Value.string hS2.out, trivial⟩, by simp [intOf]; omega⟩
        · have he : j = d := by omega
          subst he
          have hj61 : j < 61 := by omega
          obtain ⟨E2, hE2⟩ : ∃ E2 : Int, (if j ≤ 40 then 0 else 41 : Int) = E2 := ⟨_, rfl⟩
          obtain ⟨N2, hN2⟩ : ∃ N2 : Int, (if j ≤ 40 then 0 else 1 : Int) = N2 := ⟨_, rfl⟩
          have HX := Lib.hid (ydP j hj61 w6 (HL.out.old HB5.out))
          rw [hE2, hN2] at HX
          have HE2 := Lib.hid hE2; have HN2 := Lib.hid hN2
          have hl1 := whT_len j
          have hl2 := cbT_len j
          have hz1 := ystrOf_sz (whT j)
          have hz2 := ystrOf_sz (cbT j)
          have hP : Hid (strOf [10, 105, 110, 116, 32, 109, 97, 105, 110, 40, 41, 32, 123, 32] ++ strOf (whT j) ++ strOf (cbT j) ++ strOf [125] = strOf (prT j)) := by show _ = _; rw [ystrOf_app, ystrOf_app, ystrOf_app]; rfl
          generalize strOf (prT j) = P at *
          generalize strOf (whT j) = S1 at *
          generalize strOf (cbT j) = S2 at *
          have z1 : (strOf [10, 105, 110, 116, 32, 109, 97, 105, 110, 40, 41, 32, 123, 32] ++ S1).size = 14 + S1.size := by rw [ByteArray.size_append]; rfl
          have z2 : (strOf [10, 105, 110, 116, 32, 109, 97, 105, 110, 40, 41, 32, 123, 32] ++ S1 ++ S2).size = 14 + S1.size + S2.size := by rw [ByteArray.size_append, ByteArray.size_append]; rfl
          have n1 : ¬ (14 + S1.size > 9223372036854775807) := by omega
          have n2 : ¬ (9223372036854775807 < 14 + S1.size) := by omega
          have n3 : ¬ (14 + S1.size + S2.size > 9223372036854775807) := by omega
          have n4 : ¬ (9223372036854775807 < 14 + S1.size + S2.size) := by omega
          have n5 : ¬ (14 + S1.size + S2.size + 1 > 9223372036854775807) := by omega
          have n6 : ¬ (9223372036854775807 < 14 + S1.size + S2.size + 1) := by omega
          have hltI : ¬ ((j : Int) < (j : Int)) := by omega
          clear hE2 hN2 hlt hl1 hl2 hz1 hz2
          go_wp2_with fail
          have hP2 : Hid ((({ data := #[10, 105, 110, 116, 32, 109, 97, 105, 110, 40, 41, 32, 123, 32] } : ByteArray) ++ S1 ++ S2 ++ { data := #[125] }) = P) := hP
          rw [hP2.out]
          clear hP hP2 z1 z2 n1 n2 n3 n4 n5 n6
          refine HX.out.mono ?_
          rintro e w7 ⟨hb7, aa, an, ac, fa, fn, fc, rfl, hfn⟩
          have HB7 := Lib.hid (HB5.out.trans (hb7.mono HB5.out.size))
          have HB8 := Lib.hid (HB7.out.alloc HB7.out.size (.cells #[.slice aa an ac, .slice fa fn fc] 34))
          have HO := Lib.hid (OwnAt.new w7 [.slice aa an ac, .slice fa fn fc] 34)
          have HFN := Lib.hid hfn
          clear hb7 hfn HX
          go_upto_region 18 with (fail)
          generalize w7.alloc (.cells #[.slice aa an ac, .slice fa fn fc] 34) = w8 at *
          obtain ⟨pb, hpb⟩ : ∃ pb, w7.heap.size = pb := ⟨_, rfl⟩
          rw [hpb] at HO ⊢
          clear hpb
          have p1 := HO.out.at 1 _ rfl
          by_cases hk4 : i < 40
          · have e1 : E1 = 0 := by rw [← HE1.out, if_pos hk4]
            have e2 : N1 = 0 := by rw [← HN1.out, if_pos hk4]
            subst e1; subst e2
            have hkI : (i : Int) < 40 := by omega
            by_cases hd4 : j ≤ 40
            · have e3 : E2 = 0 := by rw [← HE2.out, if_pos hd4]
              have e4 : N2 = 0 := by rw [← HN2.out, if_pos hd4]
              have e5 : fn = 1 := HFN.out hd4
              subst e3; subst e4; subst e5
              have hdI : (j : Int) ≤ 40 := by omega
              go_wp2_with fail
              go_ret
              exact ⟨rfl, HB8.out⟩
            · have e3 : E2 = 41 := by rw [← HE2.out, if_neg hd4]
              have e4 : N2 = 1 := by rw [← HN2.out, if_neg hd4]
              subst e3; subst e4
              have hdI : ¬ (j : Int) ≤ 40 := by omega
              go_wp2_with fail
              go_ret
              exact ⟨rfl, HB8.out⟩
          · have e1 : E1 = 41 := by rw [← HE1.out, if_neg hk4]
            have e2 : N1 = 1 := by rw [← HN1.out, if_neg hk4]
            subst e1; subst e2
            have hkI : ¬ (i : Int) < 40 := by omega
            by_cases hd4 : j ≤ 40
            · have e3 : E2 = 0 := by rw [← HE2.out, if_pos hd4]
              have e4 : N2 = 0 := by rw [← HN2.out, if_pos hd4]
              have e5 : fn = 1 := HFN.out hd4
              subst e3; subst e4; subst e5
              have hdI : (j : Int) ≤ 40 := by omega
              go_wp2_with fail
              go_ret
              exact ⟨rfl, HB8.out⟩
            · have e3 : E2 = 41 := by rw [← HE2.out, if_neg hd4]
              have e4 : N2 = 1 := by rw [← HN2.out, if_neg hd4]
              subst e3; subst e4
              have hdI : ¬ (j : Int) ≤ 40 := by omega
              go_wp2_with fail
              go_ret
              exact ⟨rfl, HB8.out⟩
end Go.Proofs.YtcfpfnoldgnloaaGreatDoor
