/-
  ScanJoin: two texts with a line feed between are scanned to the tokens of both: the walk. Condition: the library's tables lie in memory.
-/
import Derived.Test.YtjmidoncojajcaaDoorScanJp
import Derived.Test.YtjmidoncojajcaaDoorScanSe
import Derived.Deep.RegionWith
set_option linter.unusedVariables false
set_option linter.unusedSimpArgs false
namespace Go.Proofs.YtjmidoncojajcaaDoor
open Go.RowKit
set_option maxHeartbeats 4000000
set_option maxRecDepth 100000

theorem zjoin_any (one two : List (Int × Int)) (blanks : List Int) (av dv bv : Value) (w : World) (hr : ZRaw2 w one av) (hr2 : ZRaw2 w two dv) (hb : ZRaw w blanks bv) (hl : ZLib w) :
    Calls Tryd.prog 5 #[av, dv, bv] w fun e w' => e = .returned (.bool true) ∧ Below w.heap.size w w' := by
  obtain ⟨ra, rc, rfl⟩ := hr.slice
  obtain ⟨qa, qc, rfl⟩ := hr2.slice
  have HR := Lib.hid hr; have HQ := Lib.hid hr2; have HBL := Lib.hid hb; have HL := Lib.hid hl
  obtain ⟨i0, hi0, hz0, hz1, hz2⟩ := info_parts infoTk
  have HI0 := Lib.hid hi0; have HZ0 := Lib.hid hz0; have HZ1 := Lib.hid hz1; have HZ2 := Lib.hid hz2
  obtain ⟨GA, hGA⟩ : ∃ G : Nat → Bs × List (Bs × Bs), (fun i => zblank blanks (i + 0)) = G := ⟨_, rfl⟩
  have hga := gaps_raw blanks 0
  rw [hGA] at hga
  have HGA := Lib.hid hga
  have HGT0 : Hid (∀ k, zblankT blanks (k + 0) = gapText (GA k).1 (GA k).2) := fun k => by rw [← hGA]; rfl
  obtain ⟨GB, hGB⟩ : ∃ G : Nat → Bs × List (Bs × Bs), (fun i => zblank blanks (i + 1)) = G := ⟨_, rfl⟩
  have hgb := gaps_raw blanks 1
  rw [hGB] at hgb
  have HGB := Lib.hid hgb
  have HGT1 : Hid (∀ k, zblankT blanks (k + 1) = gapText (GB k).1 (GB k).2) := fun k => by rw [← hGB]; rfl
  clear hr hr2 hb hl hi0 hz0 hz1 hz2 hGA hga hGB hgb
  go_enter Tryd.func5, Tryd.ntmps5
  go_wp2_with fail
  refine (zawake_any w HL.out).mono ?_
  rintro e w1 ⟨rfl, hb1⟩
  have HB1 := Lib.hid hb1
  clear hb1
  go_wp2_with fail
  go_loopw [8, 9] (fun s8 s9 wr => ∃ k : Nat, s8 = .string (strOf (itText (zitsOf GA one k))) ∧ s9 = .int .i64 k ∧ k ≤ one.length ∧ k ≤ 20 ∧ Below w.heap.size w wr) (fun _ s9 _ => match s9 with | .int _ n => 20 - n.toNat | _ => 0)
  case atStart => exact ⟨0, rfl, rfl, Nat.zero_le _, Nat.zero_le _, HB1.out⟩
  case round =>
    obtain ⟨k, rfl, rfl, hk1, hk2, hbw⟩ := hrel
    have HBW := Lib.hid hbw
    by_cases hk : k < one.length ∧ k < 20
    · obtain ⟨hkr, hk20⟩ := hk
      obtain ⟨rb, ro, rfl, hrb, r0, r1, i0, i1⟩ := (HR.out.old hbw).at k hkr
      have HW : Hid (∀ w1, Calls Tryd.prog 8 #[.int .i64 (one.getD k (0, 0)).1, .int .i64 (one.getD k (0, 0)).2] w1 fun e w' => e = .returned (.tuple #[.string (strOf (zw one k).1), .int .i64 (zw one k).2.1]) ∧ Below w1.heap.size w1 w') := fun w1 => zword_any _ _ i0 i1 w1
      have HBK : Hid (∀ w1, Below w.heap.size w w1 → Calls Tryd.prog 12 #[bv, .int .i64 ((k : Int))] w1 fun e w' => e = .returned (.string (strOf (gapText (GA k).1 (GA k).2))) ∧ Below w1.heap.size w1 w') := fun w1 h1 => by
        have h := zblank_any blanks bv (k + 0) w1 (HBL.out.old h1) (by omega)
        rw [HGT0.out] at h
        exact h
      have hxl : (zw one k).1.length ≤ 20 := (zword_ok _ _).2
      have hTl := zits_len HGA.out one k
      have hgl := HGA.out.len k
      have eT := Lib.hid (zits_text GA one k)
      have hkrI : (k : Int) < (one.length : Int) := by omega
      have hk20I : (k : Int) < 20 := by omega
      have hT1 : Hid (strOf (itText (zitsOf GA one k)) ++ strOf (zw one k).1 ++ strOf (gapText (GA k).1 (GA k).2) = strOf (itText (zitsOf GA one (k + 1)))) := by
        show _ = _
        rw [strOf_app, strOf_app, eT.out]
        simp only [List.append_assoc]
      have n5 : ¬ ((strOf (itText (zitsOf GA one k))).size + (strOf (zw one k).1).size > 9223372036854775807) := by rw [strOf_sz, strOf_sz]; omega
      have n6 : ¬ ((strOf (itText (zitsOf GA one k)) ++ strOf (zw one k).1).size + (strOf (gapText (GA k).1 (GA k).2)).size > 9223372036854775807) := by rw [strOf_app, strOf_sz, strOf_sz, List.length_append]; omega
      clear hTl hgl hxl eT i0 i1 hbw
      generalize (zw one k).2.1 = kd at *
      generalize strOf (zw one k).1 = x at *
      generalize strOf (itText (zitsOf GA one k)) = T at *
      generalize strOf (gapText (GA k).1 (GA k).2) = gb at *
      generalize (one.getD k (0, 0)).1 = ca at *
      generalize (one.getD k (0, 0)).2 = cb at *
      go_wp2_with fail
      go_region_held3 (fun w' => w'.cell? ⟨rb, ro + k * 2, none⟩ = some (.int .i64 ca) ∧ w'.cell? ⟨rb, ro + k * 2 + 1, none⟩ = some (.int .i64 cb)) (first | (simp [*]; done) | go_keep) (first
        | (go_at_call 8; refine (HW.out _).mono ?_; rintro e w4 ⟨he, hb4⟩; subst he; have HB4 := Lib.hid (HBW.out.drew.trans (hb4.mono HBW.out.size)); have k0 : w4.cell? ⟨rb, ro + k * 2, none⟩ = some (.int .i64 ca) := below_keeps hb4 r0; have k1 : w4.cell? ⟨rb, ro + k * 2 + 1, none⟩ = some (.int .i64 cb) := below_keeps hb4 r1; clear hb4))
      go_wp2_with fail
      refine (HBK.out _ HB4.out).mono ?_
      rintro e w6 ⟨rfl, hb6⟩
      have HB6 := Lib.hid (HB4.out.trans (hb6.mono HB4.out.size))
      clear hb6
      go_wp2_with fail
      go_roundw
      case rel => exact ⟨k + 1, congrArg Value.string hT1.out, rfl, hkr, hk20, HB6.out⟩
      case measure => simp; omega

    · obtain ⟨m1, hm1⟩ : ∃ m1, k = m1 := ⟨_, rfl⟩
      rw [hm1] at hk1 hk2 hk ⊢
      clear hm1 hbw
      have hTA := zits_len HGA.out one m1
      obtain ⟨TA, hTAe⟩ : ∃ T, itText (zitsOf GA one m1) = T := ⟨_, rfl⟩
      have HTA := Lib.hid hTAe
      rw [hTAe] at hTA ⊢
      clear hTAe
      have HB1 := HBW
      clear HBW
      have hcase : (one.length : Int) ≤ (m1 : Int) ∨ ((m1 : Int) < (one.length : Int) ∧ (20 : Int) ≤ (m1 : Int)) := by omega
      rcases hcase with hc | ⟨hc, hd⟩
      all_goals
        go_wp2_with fail
        go_loopw [12, 13] (fun s12 s13 wr => ∃ k : Nat, s12 = .string (strOf (itText (zitsOf GB two k))) ∧ s13 = .int .i64 k ∧ k ≤ two.length ∧ k ≤ 20 ∧ Below w.heap.size w wr) (fun _ s13 _ => match s13 with | .int _ n => 20 - n.toNat | _ => 0)
        case atStart => exact ⟨0, rfl, rfl, Nat.zero_le _, Nat.zero_le _, HB1.out⟩
        case round =>
          obtain ⟨k, rfl, rfl, hk1, hk2, hbw⟩ := hrel
          have HBW := Lib.hid hbw
          by_cases hk : k < two.length ∧ k < 20
          · obtain ⟨hkr, hk20⟩ := hk
            obtain ⟨rb, ro, rfl, hrb, r0, r1, i0, i1⟩ := (HQ.out.old hbw).at k hkr
            have HW : Hid (∀ w1, Calls Tryd.prog 8 #[.int .i64 (two.getD k (0, 0)).1, .int .i64 (two.getD k (0, 0)).2] w1 fun e w' => e = .returned (.tuple #[.string (strOf (zw two k).1), .int .i64 (zw two k).2.1]) ∧ Below w1.heap.size w1 w') := fun w1 => zword_any _ _ i0 i1 w1
            have HBK : Hid (∀ w1, Below w.heap.size w w1 → Calls Tryd.prog 12 #[bv, .int .i64 ((k : Int) + 1)] w1 fun e w' => e = .returned (.string (strOf (gapText (GB k).1 (GB k).2))) ∧ Below w1.heap.size w1 w') := fun w1 h1 => by
              have h := zblank_any blanks bv (k + 1) w1 (HBL.out.old h1) (by omega)
              rw [HGT1.out] at h
              exact h
            have hxl : (zw two k).1.length ≤ 20 := (zword_ok _ _).2
            have hTl := zits_len HGB.out two k
            have hgl := HGB.out.len k
            have eT := Lib.hid (zits_text GB two k)
            have hkrI : (k : Int) < (two.length : Int) := by omega
            have hk20I : (k : Int) < 20 := by omega
            have hT1 : Hid (strOf (itText (zitsOf GB two k)) ++ strOf (zw two k).1 ++ strOf (gapText (GB k).1 (GB k).2) = strOf (itText (zitsOf GB two (k + 1)))) := by
              show _ = _
              rw [strOf_app, strOf_app, eT.out]
              simp only [List.append_assoc]
            have n5 : ¬ ((strOf (itText (zitsOf GB two k))).size + (strOf (zw two k).1).size > 9223372036854775807) := by rw [strOf_sz, strOf_sz]; omega
            have n6 : ¬ ((strOf (itText (zitsOf GB two k)) ++ strOf (zw two k).1).size + (strOf (gapText (GB k).1 (GB k).2)).size > 9223372036854775807) := by rw [strOf_app, strOf_sz, strOf_sz, List.length_append]; omega
            clear hTl hgl hxl eT i0 i1 hbw
            generalize (zw two k).2.1 = kd at *
            generalize strOf (zw two k).1 = x at *
            generalize strOf (itText (zitsOf GB two k)) = T at *
            generalize strOf (gapText (GB k).1 (GB k).2) = gb at *
            generalize (two.getD k (0, 0)).1 = ca at *
            generalize (two.getD k (0, 0)).2 = cb at *
            go_wp2_with fail
            go_region_held3 (fun w' => w'.cell? ⟨rb, ro + k * 2, none⟩ = some (.int .i64 ca) ∧ w'.cell? ⟨rb, ro + k * 2 + 1, none⟩ = some (.int .i64 cb)) (first | (simp [*]; done) | go_keep) (first
              | (go_at_call 8; refine (HW.out _).mono ?_; rintro e w4 ⟨he, hb4⟩; subst he; have HB4 := Lib.hid (HBW.out.drew.trans (hb4.mono HBW.out.size)); have k0 : w4.cell? ⟨rb, ro + k * 2, none⟩ = some (.int .i64 ca) := below_keeps hb4 r0; have k1 : w4.cell? ⟨rb, ro + k * 2 + 1, none⟩ = some (.int .i64 cb) := below_keeps hb4 r1; clear hb4))
            go_wp2_with fail
            refine (HBK.out _ HB4.out).mono ?_
            rintro e w6 ⟨rfl, hb6⟩
            have HB6 := Lib.hid (HB4.out.trans (hb6.mono HB4.out.size))
            clear hb6
            go_wp2_with fail
            go_roundw
            case rel => exact ⟨k + 1, congrArg Value.string hT1.out, rfl, hkr, hk20, HB6.out⟩
            case measure => simp; omega

          · obtain ⟨m2, hm2⟩ : ∃ m2, k = m2 := ⟨_, rfl⟩
            rw [hm2] at hk1 hk2 hk ⊢
            clear hm2
            have hTB := zits_len HGB.out two m2
            obtain ⟨b0, l0, items, jg, ji, jt, ja⟩ := join_its HGA.out one m1 (zitsOf GB two m2) (zits_ok HGB.out two m2)
            have HS1 := Lib.hid (fun w1 h => scan_good0 (zitsOf GA one m1) (zits_ok HGA.out one m1) (by rw [HTA.out]; omega) w1 h)
            have HS2 := Lib.hid (fun w1 h => scan_good0 (zitsOf GB two m2) (zits_ok HGB.out two m2) (by omega) w1 h)
            have HS3 := Lib.hid (fun w1 h => scan_good b0 l0 jg items ji (by rw [jt, HTA.out, List.length_append, List.length_append]; simp only [List.length_cons, List.length_nil]; omega) w1 h)
            rw [jt, HTA.out] at HS3
            rw [HTA.out] at HS1 ja
            have hfe : feeds TA ≤ 1000 := by have := feeds_le TA; omega
            have HFE : Hid (∀ w1, Calls Tryd.prog 13 #[.string (strOf TA)] w1 fun e w' => e = .returned (.int .i64 (feeds TA)) ∧ w1 = w') := fun w1 => feeds_any TA (by omega) w1
            have HML := Lib.hid (fun j h => zall_lines HGB.out two m2 j hk2 h)
            have hz1 : zall [] [] (zitsOf GA one m1) = toks 1 (zitsOf GA one m1) ++ [⟨5, [], 0, (endL 1 (zitsOf GA one m1) : Nat)⟩] := by
              unfold zall
              have e : feeds (gapText [] []) = 0 := by decide
              rw [e]
            have hLl : (zall [] [] (zitsOf GA one m1)).length = m1 + 1 := by rw [zall_len, zits_count]
            have hMl : (zall [] [] (zitsOf GB two m2)).length = m2 + 1 := by rw [zall_len, zits_count]
            have hW0 : (toks 1 (zitsOf GA one m1)).length = m1 := by rw [toks_len, zits_count]
            obtain ⟨W0, hW0e⟩ : ∃ W0, toks 1 (zitsOf GA one m1) = W0 := ⟨_, rfl⟩
            rw [hW0e] at hz1 hW0 ja
            obtain ⟨L, hLe⟩ : ∃ L, zall [] [] (zitsOf GA one m1) = L := ⟨_, rfl⟩
            rw [hLe] at hz1 hLl HS1
            obtain ⟨M, hMe⟩ : ∃ M, zall [] [] (zitsOf GB two m2) = M := ⟨_, rfl⟩
            rw [hMe] at hMl HS2 ja HML
            obtain ⟨A, hAe⟩ : ∃ A, zall b0 l0 items = A := ⟨_, rfl⟩
            rw [hAe] at HS3 ja
            have hAl : A.length = m1 + (m2 + 1) := by rw [ja, List.length_append, List.length_map, hW0, hMl]
            obtain ⟨TB, hTBe⟩ : ∃ T, itText (zitsOf GB two m2) = T := ⟨_, rfl⟩
            rw [hTBe] at HS2 HS3 hTB ⊢
            have hcat : Hid (strOf TA ++ strOf [10] ++ strOf TB = strOf (TA ++ [10] ++ TB)) := by show _ = _; rw [strOf_app, strOf_app]
            have n4 : ¬ (9223372036854775807 < (strOf TA).size + 1) := by rw [strOf_sz]; omega
            have n7 : ¬ (9223372036854775807 < (strOf TA).size + 1 + (strOf TB).size) := by rw [strOf_sz, strOf_sz]; omega
            have HZ := Lib.hid hz1; have HJA := Lib.hid ja
            have HLw := Lib.hid (HL.out.old hbw)
            clear jg ji jt ja hz1 hW0e hLe hMe hAe hTBe hbw
            generalize hsA : strOf TA = sA at *
            generalize hsB : strOf TB = sB at *
            generalize hsC : strOf (TA ++ [10] ++ TB) = sC at *
            clear hsA hsB hsC
            have hl0 : ((m1 : Int) + 1 == 0) = false := by rw [beq_eq_false_iff_ne]; omega
            have hcase2 : (two.length : Int) ≤ (m2 : Int) ∨ ((m2 : Int) < (two.length : Int) ∧ (20 : Int) ≤ (m2 : Int)) := by omega
            rcases hcase2 with hc2 | ⟨hc2, hd2⟩
            all_goals
              go_wp2_with fail
              refine (HS1.out _ HLw.out).mono ?_
              rintro e w2 ⟨hb2, v, rfl, ht2, ho2⟩
              obtain ⟨va, vc, rfl, hvc⟩ := ht2.slice
              rw [hLl] at ht2 ho2 hvc ⊢
              have HO2 := Lib.hid ho2
              have HB2 := Lib.hid (HBW.out.trans (hb2.mono HBW.out.size))
              have HLw2 := Lib.hid (HLw.out.old hb2)
              clear hb2 ht2 ho2
              go_wp2_with fail
              refine (HS2.out _ HLw2.out).mono ?_
              rintro e w3 ⟨hb3, v, rfl, ht3, _⟩
              obtain ⟨ua, uc, rfl, huc⟩ := ht3.slice
              rw [hMl] at ht3 ⊢
              have HT3 := Lib.hid ht3
              have HO3 := Lib.hid (zrow_old HO2.out hb3)
              have HB3 := Lib.hid (HB2.out.trans (hb3.mono HB2.out.size))
              have HLw3 := Lib.hid (HLw2.out.old hb3)
              clear hb3 ht3
              go_wp2_with fail
              rw [hcat.out]
              refine (HS3.out _ HLw3.out).mono ?_
              rintro e w4 ⟨hb4, v, rfl, ht4, _⟩
              obtain ⟨xa, xc, rfl, hxc⟩ := ht4.slice
              rw [hAl] at ht4 ⊢
              have HA4 := Lib.hid ht4
              have HT4 := Lib.hid (HT3.out.old hb4)
              have HO4 := Lib.hid (zrow_old HO3.out hb4)
              have HB4 := Lib.hid (HB3.out.trans (hb4.mono HB3.out.size))
              clear hb4 ht4
              go_upto_region 19 with (fail)
              obtain ⟨lg, hlg⟩ := TksOwn.form HO4.out (Nat.succ_pos _)
              subst hlg
              have hnews : ∀ j u, (W0.flatMap tkCells)[j]? = some u → w4.cell? ((⟨lg, 0, none⟩ : Addr).add j) = some u := fun j u hu => by
                have h2 : (⟨lg, 0, none⟩ : Addr).add j = ⟨lg, j, none⟩ := by unfold Addr.add; split <;> simp_all
                rw [h2]
                refine TksOwn.at HO4.out hLl j u ?_
                rw [HZ.out, List.flatMap_append, List.getElem?_append_left (by
                  rcases Nat.lt_or_ge j (W0.flatMap tkCells).length with h' | h'
                  · exact h'
                  · rw [List.getElem?_eq_none h'] at hu; cases hu)]
                exact hu
              have HNW := Lib.hid hnews
              have hnl : (W0.flatMap tkCells).length = m1 * 4 := by rw [zflat_len tkCells 4 (fun _ => rfl), hW0]
              have hvI : (m1 : Int) ≤ (vc : Int) := by omega
              have hvN : m1 ≤ vc := by omega
              clear hnews
              go_wp2_with (at_builtin; (refine wpList_append_own (P := Tryd.prog) _ rfl _ _ 29 rfl w4.heap.size 34 i0 _ 4 40 Tryd.underlying29 HI0.out HZ0.out HZ1.out HZ2.out rfl (by decide) (.slice none 0 0) 0 [] rfl (zrow_empty _ _ _ _) ⟨lg, 0, none⟩ m1 _ (W0.flatMap tkCells) rfl hnl HNW.out (tks_one W0) (by unfold maxLen; omega) (by omega) (Nat.le_refl _) ?_; intro v5 w5 hown hgrow hiff; have HB5 := Lib.hid (zbelow_grow (Below.refl w4.heap.size w4) hgrow (fun q e => by cases e) (Nat.le_refl _)); rw [Nat.zero_add, List.nil_append] at hown; have HW5 := Lib.hid (TksOwn.ofRow hW0 hown); clear hown hgrow hiff))
              go_loopw [25, 26] (fun s25 s26 wq => ∃ j : Nat, s26 = .int .i64 j ∧ j ≤ m2 + 1 ∧ TksOwn wq w4.heap.size (W0 ++ (M.take j).map (shiftTk (feeds TA + 1))) s25 ∧ Below w4.heap.size w4 wq) (fun _ s26 _ => match s26 with | .int _ n => m2 + 1 - n.toNat | _ => 0)
              case atStart => exact ⟨0, rfl, Nat.zero_le _, by simpa using HW5.out, HB5.out⟩
              case round =>
                obtain ⟨j, rfl, hj, hown, hbq⟩ := hrel
                have HBQ := Lib.hid hbq
                have hWl : (W0 ++ (M.take j).map (shiftTk (feeds TA + 1))).length = m1 + j := by rw [List.length_append, List.length_map, List.length_take, hW0, hMl]; omega
                obtain ⟨pa, pc, hv⟩ := zrow_slice (hown.row hWl)
                subst hv
                have HOW := Lib.hid (hown.row hWl)
                by_cases hjm : j < m2 + 1
                · obtain ⟨tb, tf, rfl, htb, t0, t1, t2, t3⟩ := (HT4.out.old hbq).at j (by omega)
                  have hln := HML.out j hjm
                  have hsn : (M.take (j + 1)).map (shiftTk (feeds TA + 1)) = (M.take j).map (shiftTk (feeds TA + 1)) ++ [shiftTk (feeds TA + 1) (tkAt M j)] := by
                    rw [List.take_succ_eq_append_getElem (show j < M.length by omega), List.map_append]
                    simp [tkAt, List.getElem?_eq_getElem (show j < M.length by omega)]
                  have HSN := Lib.hid hsn
                  have hsh : shiftTk (feeds TA + 1) (tkAt M j) = ⟨(tkAt M j).kind, (tkAt M j).text, (tkAt M j).num, (tkAt M j).line + (feeds TA : Int) + 1⟩ := by
                    unfold shiftTk
                    congr 1
                    omega
                  have HSH := Lib.hid hsh
                  have hjI : (j : Int) < (m2 : Int) + 1 := by omega
                  clear hsn hsh hown hbq
                  generalize (tkAt M j).kind = kk at *
                  generalize (tkAt M j).text = tt at *
                  generalize (tkAt M j).num = nn at *
                  generalize (tkAt M j).line = ll at *
                  generalize hfF : (feeds TA : Int) = fF at *
                  have f0 : 0 ≤ fF := by omega
                  have f1 : fF ≤ 1000 := by omega
                  clear hfF
                  have hbA : Below wr.heap.size wr (wr.alloc (.cells #[.int .i64 kk, .string (strOf tt), .int .i64 nn, .int .i64 ll] 34)) := (Below.refl _ _).alloc (Nat.le_refl _) _
                  have HO := Lib.hid (OwnAt.new wr [.int .i64 kk, .string (strOf tt), .int .i64 nn, .int .i64 ll] 34)
                  have HBA := Lib.hid (HBQ.out.trans (hbA.mono HBQ.out.size))
                  have HOA := Lib.hid (zrow_old HOW.out hbA)
                  have hge : w4.heap.size ≤ wr.heap.size := HBQ.out.size
                  have hbo : (Value.slice pa (m1 + j) pc).ownBlock ≠ some wr.heap.size := fun e => by have := (zrow_lt HOW.out _ e).2; omega
                  have HBO := Lib.hid hbo
                  clear hbA hbo
                  go_upto_region 24 with (fail)
                  clear t0 t1 t2 t3
                  obtain ⟨W, hW⟩ : ∃ W, wr.alloc (.cells #[.int .i64 kk, .string (strOf tt), .int .i64 nn, .int .i64 ll] 34) = W := ⟨_, rfl⟩
                  obtain ⟨X, hX⟩ : ∃ X, wr.heap.size = X := ⟨_, rfl⟩
                  have HX := Lib.hid hX
                  rw [hX] at HO hge HBO ⊢
                  rw [hW] at HO HBA HOA ⊢
                  clear hW hX
                  have d3 := HO.out.at 3 _ rfl
                  have z3 := HO.out.fz 3
                  have dl := HO.out.lt
                  go_region_with (first
                    | (go_at_call 13; refine (HFE.out _).mono ?_; rintro e w7 ⟨he, hw7⟩; subst he; subst hw7))
                  all_goals
                    have hwr : IntKind.i64.wrap (IntKind.i64.wrap (ll + fF) + 1) = ll + fF + 1 := by rw [IntWalk.i64_in (ll + fF) (by omega), IntWalk.i64_in _ (by omega)]
                    rw [hwr]
                    clear hwr
                    have hdr : Below (W.setCell ⟨X, 3, none⟩ (.int .i64 (ll + fF + 1))).heap.size (W.setCell ⟨X, 3, none⟩ (.int .i64 (ll + fF + 1))) (W.setCell ⟨X, 3, none⟩ (.int .i64 (ll + fF + 1))).drew := (Below.refl _ _).drew
                    have HS := Lib.hid ((HO.out.set 3 (.int .i64 (ll + fF + 1))).old hdr)
                    have HBS := Lib.hid ((zbelow_set HBA.out hge 3 (.int .i64 (ll + fF + 1))).drew)
                    have HOS := Lib.hid (zrow_old (zrow_set HOA.out HBO.out 3 (.int .i64 (ll + fF + 1))) hdr)
                    obtain ⟨V, hV⟩ : ∃ V, (W.setCell ⟨X, 3, none⟩ (.int .i64 (ll + fF + 1))).drew = V := ⟨_, rfl⟩
                    rw [hV] at HS HBS HOS ⊢
                    clear hV hdr d3 z3 dl
                    have hbA : Below V.heap.size V (V.alloc (.cells #[.int .i64 kk, .string (strOf tt), .int .i64 nn, .int .i64 (ll + fF + 1)] 34)) := (Below.refl _ _).alloc (Nat.le_refl _) _
                    have HB7 := Lib.hid (HBS.out.trans (hbA.mono HBS.out.size))
                    have HOW7 := Lib.hid (zrow_old HOS.out hbA)
                    have HNEW := Lib.hid (OwnAt.new V [.int .i64 kk, .string (strOf tt), .int .i64 nn, .int .i64 (ll + fF + 1)] 34)
                    have c0 := HS.out.at 0 _ rfl
                    have c1 := HS.out.at 1 _ rfl
                    have c2 := HS.out.at 2 _ rfl
                    have c3 := HS.out.at 3 _ rfl
                    have cl := HS.out.lt
                    clear hbA
                    go_wp2_with (at_builtin; (refine wpList_append_lies (P := Tryd.prog) _ rfl _ _ 29 rfl w4.heap.size 34 i0 _ 4 40 Tryd.underlying29 HI0.out HZ0.out HZ1.out HZ2.out rfl (by decide) (.slice pa (m1 + j) pc) (m1 + j) ((W0 ++ (M.take j).map (shiftTk (feeds TA + 1))).flatMap tkCells) rfl HOW7.out ⟨V.heap.size, 0, none⟩ 1 1 (tkCells ⟨kk, tt, nn, ll + fF + 1⟩) rfl rfl HNEW.out.news (tkCells_one _) (by decide) (by unfold maxLen; omega) (by omega) (by have := HB7.out.size; exact this) _ rfl ?_; intro g cap w11 hown hgrow hat hlt11; have HB11 := Lib.hid (zbelow_grow HB7.out hgrow (fun q e => (zrow_lt HOW7.out q e).1) HB7.out.size); have HS11 := Lib.hid hown; clear hown hgrow hat))
                    go_roundw
                    case rel =>
                      refine ⟨j + 1, rfl, hjm, ?_, HB11.out⟩
                      refine TksOwn.ofRow (n := m1 + j + 1) (by rw [List.length_append, List.length_map, List.length_take, hW0, hMl]; omega) ?_
                      rw [HSN.out, HSH.out, ← List.append_assoc, List.flatMap_append]
                      have hs := HS11.out
                      simpa using hs
                    case measure => simp; omega
                · have hje : j = m2 + 1 := by omega
                  subst hje
                  have hMt : M.take (m2 + 1) = M := List.take_of_length_le (by omega)
                  rw [hMt] at hown
                  have HWT := Lib.hid (hown.tks (by rw [List.length_append, List.length_map, hW0, hMl]; omega))
                  rw [← HJA.out] at HWT
                  have HAT := Lib.hid (HA4.out.old hbq)
                  have hjI : (m2 : Int) + 1 ≤ ((m2 + 1 : Nat) : Int) := by omega
                  clear hown hbq hMt
                  go_wp2_with fail
                  refine (same_any true A A _ _ (LikeTks.refl _ _) _ HAT.out HWT.out).mono ?_
                  rintro e w9 ⟨rfl, hb9⟩
                  have HB9 := Lib.hid (HBQ.out.trans (hb9.mono HBQ.out.size))
                  clear hb9
                  go_wp2_with fail
                  go_ret
                  exact ⟨rfl, HB4.out.trans (HB9.out.mono HB4.out.size)⟩
end Go.Proofs.YtjmidoncojajcaaDoor
