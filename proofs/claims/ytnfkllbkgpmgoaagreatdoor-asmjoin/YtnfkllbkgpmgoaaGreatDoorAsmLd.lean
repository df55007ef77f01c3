/-
  AsmLeads: its walk. Conditions: what comes in lies in memory.
-/
import Derived.Test.YtnfkllbkgpmgoaaGreatDoorAsmK
set_option linter.unusedVariables false
set_option linter.unusedSimpArgs false
namespace Go.Proofs.YtnfkllbkgpmgoaaGreatDoor
open Go.RowKit
set_option maxHeartbeats 4000000
set_option maxRecDepth 100000

theorem ahead_ins (l : List Ln) (i : Nat) : aheadN l i = (insL (l.take i)).length := by unfold aheadN insL; rw [List.length_map]
theorem insL_app (a b : List Ln) : insL (a ++ b) = insL a ++ insL b := by unfold insL; rw [List.filter_append, List.map_append]
theorem ins_at (l : List Ln) (i : Nat) (hi : i < l.length) (hl : l[i].label = []) : (insL l)[aheadN l i]? = some l[i].ins := by
  have e : insL l = insL (l.take i) ++ (l[i].ins :: insL (l.drop (i + 1))) := by
    conv => lhs; rw [← List.take_append_drop i l, List.drop_eq_getElem_cons hi, insL_app]
    congr 1
    show insL ([l[i]] ++ l.drop (i + 1)) = _
    rw [insL_app]
    have : insL [l[i]] = [l[i].ins] := by unfold insL; simp [hl]
    rw [this]; rfl
  rw [e, ahead_ins, List.getElem?_append_right (Nat.le_refl _), Nat.sub_self]; rfl
theorem good_flat {c : Cd} (h : GoodC c) : flatA c = (insL c.lines, (insL c.lines).map (toA c)) := by
  unfold flatA
  rw [h.check, if_pos rfl]
theorem qleads_any (raw : List Ln) (v : Value) (w : World) (h : RawQ w raw v) (hl : ILib w) :
    Calls Tryz.prog 4 #[v] w fun e w' => e = .returned (.bool true) ∧ Below w.heap.size w w' := by
  have HR := Lib.hid h; have HL := Lib.hid hl
  have HAW := Lib.hid (fun w hl => qawake_any w hl)
  have HFT := Lib.hid (fun w hr => fit_good raw v w hr)
  have HG := Lib.hid (fitC_good h.ok)
  clear h hl
  generalize fitC raw = c at *
  have hcl : c.lines.length ≤ 41 := HG.out.len
  have hclI : (c.lines.length : Int) ≤ 41 := by omega
  have hil := insL_len c.lines
  have HFL := Lib.hid (fun va vl w' h => flat_any c va vl w' h HG.out.short)
  rw [good_flat HG.out] at HFL
  dsimp only at HFL
  have HCA : Hid (c.arrs = arrs2) := Lib.hid HG.out.arrs
  have HSH := Lib.hid HG.out.short
  have HKN := Lib.hid (fun j hj => HG.out.known (j := j) hj)
  have HLN : Hid (((insL c.lines).map (toA c)).length = (insL c.lines).length) := Lib.hid (List.length_map _)
  clear HG
  go_enter Tryz.func4, Tryz.ntmps4
  go_wp2_with fail
  refine (HAW.out _ HL.out).mono ?_
  rintro e w1 ⟨rfl, hb1⟩
  have HB1 := Lib.hid hb1
  have HR1 := Lib.hid (HR.out.old hb1)
  clear hb1 HAW
  go_wp2_with fail
  refine (HFT.out _ HR1.out).mono ?_
  rintro e w2 ⟨A, base, al, cl, rfl, hfo, hb2⟩
  have hbA : Below w2.heap.size w2 (w2.alloc (.cells #[.slice (some ⟨A, 0, none⟩) 2 2, .slice al c.lines.length cl] 27)) := (Below.refl _ _).alloc (Nat.le_refl _) _
  have HC2 := Lib.hid ((hfo.code HCA.out (by omega)).old hbA)
  have HO2 := Lib.hid (OwnAt.new w2 [.slice (some ⟨A, 0, none⟩) 2 2, .slice al c.lines.length cl] 27)
  have hb3 := HB1.out.trans (hb2.mono HB1.out.size)
  have HB2 := Lib.hid (hb3.trans (hbA.mono hb3.size))
  clear hbA hb2 hb3 hfo HB1 HR1 HFT
  go_wp2_with fail
  obtain ⟨W2, hW2⟩ : ∃ W2, (w2.alloc (.cells #[.slice (some ⟨A, 0, none⟩) 2 2, .slice al c.lines.length cl] 27)) = W2 := ⟨_, rfl⟩
  obtain ⟨T4, hT4⟩ : ∃ T4, w2.heap.size = T4 := ⟨_, rfl⟩
  rw [hW2] at HC2 HB2 HO2 ⊢
  rw [hT4] at HO2 ⊢
  clear hW2 hT4
  refine (HFL.out _ _ _ HC2.out).mono ?_
  rintro e w3 ⟨v1, v2, rfl, hv1, hv2, hb3⟩
  have HC3 := Lib.hid (HC2.out.old hb3)
  have HO3 := Lib.hid (HO2.out.old hb3)
  have HB3 := Lib.hid (HB2.out.trans (hb3.mono HB2.out.size))
  obtain ⟨a1, c1, rfl⟩ := RwAt.shape hv1
  obtain ⟨a2, c2, hs2⟩ := RwAt.shape hv2
  rw [HLN.out] at hs2
  subst hs2
  have HV1 := Lib.hid hv1
  have HV2 := Lib.hid hv2
  clear hb3 HC2 HO2 HB2 HFL hv1 hv2
  obtain ⟨N, hN⟩ : ∃ N, (insL c.lines).length = N := ⟨_, rfl⟩
  have HN := Lib.hid hN
  rw [hN] at hil HV1 HV2 HLN ⊢
  clear hN
  have hNI : (N : Int) ≤ 41 := by omega
  go_wp2_with fail
  go_loopw [7, 8] (fun s7 s8 wr => ∃ i : Nat, i ≤ c.lines.length ∧ s8 = .int .i64 i ∧ s7 = .int .i64 (aheadN c.lines i : Nat) ∧ Hid (Below w3.heap.size w3 wr)) (fun _ s8 _ => c.lines.length - (intOf s8).toNat)
  case atStart => exact ⟨0, Nat.zero_le _, rfl, rfl, Lib.hid (Below.refl _ _)⟩
  case round =>
    obtain ⟨i, hi, rfl, rfl, HBR⟩ := hrel
    have HCR := Lib.hid (HC3.out.old HBR.out)
    have HOR := Lib.hid (HO3.out.old HBR.out)
    have x0 := HOR.out.at 0 _ rfl
    have x1 := HOR.out.at 1 _ rfl
    have hxl := HOR.out.lt
    by_cases hlt : i < c.lines.length
    · obtain ⟨b, off, rfl, hbl, c0, c1', c2', c3, c4, c5, c6⟩ := LnsAt.at HCR.out.2 hlt
      have has := ahead_succ c.lines i hlt
      have hle := ahead_le c.lines i
      have hat := ins_at c.lines i hlt
      have hkn := HKN.out i hlt
      have hsl := HSH.out.lines _ (List.getElem_mem hlt)
      obtain ⟨x, hx⟩ : ∃ x, c.lines[i] = x := ⟨_, rfl⟩
      rw [hx] at c0 c1' c2' c3 c4 c5 c6 has hat hkn hsl
      clear hx
      obtain ⟨n, hn⟩ : ∃ n : Nat, aheadN c.lines i = n := ⟨_, rfl⟩
      rw [hn] at has hle hat ⊢
      clear hn
      obtain ⟨lab, o, d, aa, bb, n1, nm⟩ := x
      obtain ⟨s1, s2⟩ := hsl
      dsimp only at c0 c1' c2' c3 c4 c5 c6 has hat hkn s1 s2
      have HAS := Lib.hid has; have HKX := Lib.hid hkn
      clear has hkn
      have hnI : (n : Int) ≤ 41 := by omega
      have hbX : Below wr.heap.size wr (wr.alloc (.cells #[.string (strOf lab), .int .i64 o, .int .i64 d, .int .i64 aa, .int .i64 bb, .int .i64 n1, .string (strOf nm)] 44)) := (Below.refl _ _).alloc (Nat.le_refl _) _
      have HBX := Lib.hid (HBR.out.trans (hbX.mono HBR.out.size))
      clear hbX
      cases lab with
      | cons ch lab =>
        clear hat
        go_wp2_with fail
        exact ⟨⟨i + 1, hlt, by first | rfl | (simp; done) | go_num, by rw [HAS.out]; simp, HBX⟩, by simp [intOf]; omega⟩
      | nil =>
        have hat2 := hat rfl
        have hnN : n < N := by rw [← HN.out]; exact (List.getElem?_eq_some_iff.1 hat2).1
        clear hat
        obtain ⟨hnl, hne⟩ := List.getElem?_eq_some_iff.1 hat2
        obtain ⟨bi, oi, rfl, hbil, i0, i1, i2, i3, i4, i5⟩ := InsAt.at (HV1.out.old HBR.out) hnl
        rw [hne] at i0 i1 i2 i3 i4 i5
        dsimp only at i0 i1 i2 i3 i4 i5
        have hnl2 : n < ((insL c.lines).map (toA c)).length := by rw [List.length_map]; exact hnl
        obtain ⟨bt, ot, rfl, hbtl, t0⟩ := NumsAt.at (HV2.out.old HBR.out) hnl2
        rw [List.getElem_map, hne] at t0
        clear hat2 hnl hnl2 hne
        have hnn : (c.lines.length : Int) ≤ 140737488355328 := by omega
        have HX := Lib.hid (OwnAt.new wr (lnCells ⟨[], ⟨o, d, aa, bb, n1, nm⟩⟩) 44)
        have HXL := Lib.hid HX.out.lt
        have hasn : Hid (aheadN c.lines (i + 1) = n + 1) := Lib.hid (by rw [HAS.out]; rfl)
        by_cases hnamed : o ≠ 17 ∧ nm ≠ []
        · obtain ⟨h17, hnm⟩ := hnamed
          have hk2 : (place c.lines nm).isSome = true := by
            have := HKX.out
            unfold knownB at this
            rw [if_neg h17] at this
            simp only [Bool.or_eq_true] at this
            rcases this with h | h
            · exact h
            · exact absurd (by simpa using h) hnm
          obtain ⟨p, hp⟩ := Option.isSome_iff_exists.1 hk2
          obtain ⟨_, hpl, hpe, hpn⟩ := place_some hp
          have ht : toA c ⟨o, d, aa, bb, n1, nm⟩ = ((aheadN c.lines p : Nat) : Int) := by
            unfold toA
            rw [if_pos ⟨h17, hnm⟩]
            show ((aheadN c.lines ((place c.lines nm).getD 0) : Nat) : Int) = _
            rw [hp]; rfl
          rw [ht] at t0
          have hpa := ahead_le c.lines p
          have HPE := Lib.hid hpe; have HPN := Lib.hid hpn
          obtain ⟨q, hq⟩ : ∃ q : Nat, aheadN c.lines p = q := ⟨_, rfl⟩
          rw [hq] at t0 hpa
          have HQ := Lib.hid hq
          have hq0 : (0 : Int) ≤ (q : Int) := by omega
          have h17b : (o != 17) = true := by simpa using h17
          have h17c : (o == 17) = false := by simpa using h17
          clear hk2 hp hpe hpn ht hq HKX h17
          cases nm with
          | nil => exact absurd rfl hnm
          | cons ch nm =>
            clear hnm
            go_upto_region 12 with (fail)
            go_quiet (fail)
            go_wp2_with fail
            clear c0 c1' c2' c3 c4 c5 c6 x0 x1 hxl i0 i1 i2 i3 i4 i5 hbil hbl
            generalize hW5 : World.drewN _ _ = W5
            have hb5 : Below wr.heap.size wr W5 := by rw [← hW5]; exact below_dn ((Below.refl _ _).alloc (Nat.le_refl _) _)
            have HX5 : Hid (OwnAt W5 wr.heap.size (lnCells ⟨[], ⟨o, d, aa, bb, n1, ch :: nm⟩⟩) 44) := Lib.hid (by rw [← hW5]; exact OwnAt.new wr (lnCells ⟨[], ⟨o, d, aa, bb, n1, ch :: nm⟩⟩) 44)
            have HC5 := Lib.hid (HCR.out.old hb5)
            have HO5 := Lib.hid (HOR.out.old hb5)
            have HB5 := Lib.hid (HBR.out.trans (hb5.mono HBR.out.size))
            have HT5 := Lib.hid (below_keeps hb5 t0)
            clear hb5 hW5 t0 HX HXL HCR HOR HBX hbtl
            obtain ⟨N9, hN9⟩ : ∃ N9, wr.heap.size = N9 := ⟨_, rfl⟩
            rw [hN9] at HX5 ⊢
            clear hN9
            go_loopw [11, 12] (fun s11 s12 wx => ∃ k : Nat, k ≤ p ∧ s12 = .int .i64 k ∧ s11 = .int .i64 (aheadN c.lines k : Nat) ∧ Hid (Below W5.heap.size W5 wx)) (fun _ s12 _ => p - (intOf s12).toNat)
            case atStart => exact ⟨0, Nat.zero_le _, rfl, rfl, Lib.hid (Below.refl _ _)⟩
            case round =>
              obtain ⟨k, hk, rfl, rfl, HBK⟩ := hrel
              have HXK := Lib.hid (HX5.out.old HBK.out)
              have HCK := Lib.hid (HC5.out.old HBK.out)
              have HOK := Lib.hid (HO5.out.old HBK.out)
              have x0 := HOK.out.at 0 _ rfl
              have x1 := HOK.out.at 1 _ rfl
              have hxl := HOK.out.lt
              have y6 := HXK.out.at 6 _ rfl
              have hyl := HXK.out.lt
              have hkl : k < c.lines.length := by omega
              obtain ⟨b', off', eb, hbl, c0, _⟩ := LnsAt.at HCK.out.2 hkl
              cases eb
              have has := ahead_succ c.lines k hkl
              have hle := ahead_le c.lines k
              by_cases hkp : k < p
              · have hne := HPN.out k hkp
                obtain ⟨lb, hlb⟩ : ∃ lb, c.lines[k].label = lb := ⟨_, rfl⟩
                rw [hlb] at c0 has hne
                clear hlb
                obtain ⟨m, hm⟩ : ∃ m : Nat, aheadN c.lines k = m := ⟨_, rfl⟩
                rw [hm] at has hle ⊢
                have HAS2 := Lib.hid has
                clear hm has
                have hmI : (m : Int) ≤ 41 := by omega
                have hne1 : ¬ lb = ch :: nm := hne
                have hne2 : (lb == ch :: nm) = false := by simpa using hne
                clear hne
                cases lb with
                | nil =>
                  go_upto_region 20 with (fail)
                  go_quiet (fail)
                  go_wp2_with fail
                  exact ⟨⟨k + 1, by omega, by first | rfl | (simp; done) | go_num, by rw [HAS2.out]; first | rfl | (simp; done) | go_num, Lib.hid (below_dn HBK.out)⟩, by simp [intOf]; omega⟩
                | cons lc lb =>
                  go_upto_region 20 with (fail)
                  go_quiet (fail)
                  go_wp2_with fail
                  exact ⟨⟨k + 1, by omega, by first | rfl | (simp; done) | go_num, by rw [HAS2.out]; first | rfl | (simp; done) | go_num, Lib.hid (below_dn HBK.out)⟩, by simp [intOf]; omega⟩
              · have he : k = p := by omega
                subst he
                rw [HPE.out] at c0
                have t0 := below_keeps HBK.out HT5.out
                rw [HQ.out]
                clear has hle
                go_upto_region 20 with (fail)
                go_quiet (fail)
                go_wp2_with fail
                exact ⟨⟨i + 1, hlt, by first | rfl | (simp; done) | go_num, by rw [hasn.out]; rfl, Lib.hid (below_dn (HB5.out.trans (HBK.out.mono HB5.out.size)))⟩, by simp [intOf]; omega⟩
        · have ht : toA c ⟨o, d, aa, bb, n1, nm⟩ = -1 := by
            unfold toA
            rw [if_neg hnamed]
          rw [ht] at t0
          have hcase : nm = [] ∨ (nm ≠ [] ∧ o = 17) := by
            by_cases h : nm = []
            · exact .inl h
            · exact .inr ⟨h, by by_cases h2 : o = 17; exact h2; exact absurd ⟨h2, h⟩ hnamed⟩
          clear ht hnamed HKX
          rcases hcase with rfl | ⟨hnm, rfl⟩
          · go_upto_region 12 with (fail)
            go_quiet (fail)
            go_wp2_with fail
            exact ⟨⟨i + 1, hlt, by first | rfl | (simp; done) | go_num, by rw [hasn.out]; rfl, Lib.hid (below_dn HBX.out)⟩, by simp [intOf]; omega⟩
          · cases nm with
            | nil => exact absurd rfl hnm
            | cons ch nm =>
              clear hnm
              go_upto_region 12 with (fail)
              go_quiet (fail)
              go_wp2_with fail
              exact ⟨⟨i + 1, hlt, by first | rfl | (simp; done) | go_num, by rw [hasn.out]; rfl, Lib.hid (below_dn HBX.out)⟩, by simp [intOf]; omega⟩
    · have he : i = c.lines.length := by omega
      subst he
      have hend : aheadN c.lines c.lines.length = N := by rw [ahead_ins, List.take_length]; exact HN.out
      rw [hend]
      clear hend
      go_wp2_with fail
      go_ret
      exact ⟨rfl, HB3.out.trans (HBR.out.mono HB3.out.size)⟩
end Go.Proofs.YtnfkllbkgpmgoaaGreatDoor
