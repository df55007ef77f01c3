/-
  BlocksLeads: its walk. Conditions: what comes in lies in memory.
-/
import Derived.Test.YtlkfmnabbmceeaaGreatDoorBlkE
import Derived.Test.YtlkfmnabbmceeaaGreatDoorAsmK
import Derived.Test.YtlkfmnabbmceeaaGreatDoorKAny
set_option linter.unusedVariables false
set_option linter.unusedSimpArgs false
namespace Go.Proofs.YtlkfmnabbmceeaaGreatDoor
open Go.RowKit
set_option maxHeartbeats 4000000
set_option maxRecDepth 100000

theorem bleads_any (raw : List Ln) (v : Value) (w : World) (h : RawQ w raw v) (hl : ILib w) :
    Calls Tryz.prog 4 #[v] w fun e w' => e = .returned (.bool true) ∧ Below w.heap.size w w' := by
  have HR := Lib.hid h; have HL := Lib.hid hl
  have HAW := Lib.hid (fun w hl => kawake_any w hl)
  have HFT := Lib.hid (fun w hr => fit_good raw v w hr)
  have HG := Lib.hid (fitC_good h.ok)
  clear h hl
  generalize fitC raw = c at *
  have hcl : c.lines.length ≤ 41 := HG.out.len
  have hclI : (c.lines.length : Int) ≤ 41 := by omega
  have HFL := Lib.hid (fun va vl w' h => flat_any c va vl w' h HG.out.short)
  have HSP := Lib.hid (fun va vl w' h => split_any2 c va vl w' h HG.out.short)
  have HNX := Lib.hid (fun va vl w' h => next_any c va vl w' h HG.out.short)
  have HLA := Lib.hid (fun va vl w' h => landings_any c va vl w' h HG.out.short)
  have HCA : Hid (c.arrs = arrs2) := Lib.hid HG.out.arrs
  obtain ⟨hn, hlt0, hT⟩ := flat_facts c
  have hn41 : (flatA c).1.length ≤ 41 := Nat.le_trans (flat_lens c).1 hcl
  have HTB := Lib.hid hT
  have HRI := Lib.hid (flat_right c)
  have HRE := Lib.hid (flat_ret c)
  clear HG hT hn
  generalize (flatA c).1 = I at *
  generalize (flatA c).2 = T at *
  have hbl := beg_len I T
  have hll := land_len I
  have HHI := Lib.hid (fun i hi => last_facts (I := I) (T := T) hlt0 (i := i) hi)
  have HWA := Lib.hid (fun i last k hi hk hla hln hop => want_iff (I := I) (T := T) hlt0 HTB.out (i := i) (last := last) (k := k) hi hk hla hln hop)
  have HNR := Lib.hid (fun i hi x hx => next_range (I := I) (T := T) hlt0 HTB.out (i := i) hi (x := x) hx)
  have HNP := Lib.hid (fun i => next_pair I T i)
  have HAL := Lib.hid (fun k => at_le (I := I) (T := T) k)

  go_enter Tryz.func4, Tryz.ntmps4
  go_wp2_with fail
  refine (HAW.out _ HL.out).mono ?_
  rintro e w1 ⟨rfl, hb1⟩
  have HB1 := Lib.hid hb1
  have HR1 := Lib.hid (HR.out.old hb1)
  clear hb1 HAW
  go_wp2_with fail
  refine (HFT.out _ HR1.out).mono ?_
  rintro e w2 ⟨A, base, al, cl, rfl, hfo, hb2⟩
  have hbA : Below w2.heap.size w2 (w2.alloc (.cells #[.slice (some ⟨A, 0, none⟩) 2 2, .slice al c.lines.length cl] 26)) := (Below.refl _ _).alloc (Nat.le_refl _) _
  have HC2 := Lib.hid ((hfo.code HCA.out (by omega)).old hbA)
  have HO2 := Lib.hid (OwnAt.new w2 [.slice (some ⟨A, 0, none⟩) 2 2, .slice al c.lines.length cl] 26)
  have hb3 := HB1.out.trans (hb2.mono HB1.out.size)
  have HB2 := Lib.hid (hb3.trans (hbA.mono hb3.size))
  clear hbA hb2 hb3 hfo HB1 HR1 HFT
  go_wp2_with fail
  obtain ⟨W2, hW2⟩ : ∃ W2, (w2.alloc (.cells #[.slice (some ⟨A, 0, none⟩) 2 2, .slice al c.lines.length cl] 26)) = W2 := ⟨_, rfl⟩
  obtain ⟨T4, hT4⟩ : ∃ T4, w2.heap.size = T4 := ⟨_, rfl⟩
  rw [hW2] at HC2 HB2 HO2 ⊢
  rw [hT4] at HO2 ⊢
  clear hW2 hT4
  refine (HFL.out _ _ _ HC2.out).mono ?_
  rintro e w3 ⟨v1, v2, rfl, hv1, hv2, hb3⟩
  have HC3 := Lib.hid (HC2.out.old hb3)
  have HO3 := Lib.hid (HO2.out.old hb3)
  have HB3 := Lib.hid (HB2.out.trans (hb3.mono HB2.out.size))
  obtain ⟨a1, c1, rfl⟩ := RwAt.shape hv1
  obtain ⟨a2, c2, hs2⟩ := RwAt.shape hv2
  rw [hlt0] at hs2
  subst hs2
  have HI3 := Lib.hid hv1
  have HT3 := Lib.hid hv2
  clear hb3 HC2 HO2 HB2 HFL hv1 hv2
  have x0 := HO3.out.at 0 _ rfl
  have x1 := HO3.out.at 1 _ rfl
  have hxl := HO3.out.lt
  go_wp2_with fail
  refine (HSP.out _ _ _ HC3.out).mono ?_
  rintro e w4 ⟨v4, rfl, h4, hb4⟩
  have HC4 := Lib.hid (HC3.out.old hb4)
  have HO4 := Lib.hid (HO3.out.old hb4)
  have HB4 := Lib.hid (HB3.out.trans (hb4.mono HB3.out.size))
  have HI4 := Lib.hid (HI3.out.old hb4)
  have HT4 := Lib.hid (HT3.out.old hb4)
  obtain ⟨aS, cS, eS⟩ := RwOwn.shape h4
  rw [split_len] at eS
  subst eS
  have HVS := Lib.hid (RwOwn.nilv h4 (by rw [split_len]; omega) prCells_len)
  clear h4 hb4 HC3 HO3 HB3 HI3 HT3 HSP x0 x1 hxl
  have x0 := HO4.out.at 0 _ rfl
  have x1 := HO4.out.at 1 _ rfl
  have hxl := HO4.out.lt
  go_wp2_with fail
  refine (HNX.out _ _ _ HC4.out).mono ?_
  rintro e w5 ⟨v5, rfl, h5, hb5⟩
  have HC5 := Lib.hid (HC4.out.old hb5)
  have HO5 := Lib.hid (HO4.out.old hb5)
  have HB5 := Lib.hid (HB4.out.trans (hb5.mono HB4.out.size))
  have HI5 := Lib.hid (HI4.out.old hb5)
  have HT5 := Lib.hid (HT4.out.old hb5)
  replace HVS := Lib.hid (RwAt.old HVS.out hb5)
  obtain ⟨aN, cN, eN⟩ := NxtAt.shape h5
  rw [nextL_len] at eN
  subst eN
  have HVN := Lib.hid h5
  clear h5 hb5 HC4 HO4 HB4 HI4 HT4 HNX x0 x1 hxl
  have x0 := HO5.out.at 0 _ rfl
  have x1 := HO5.out.at 1 _ rfl
  have hxl := HO5.out.lt
  go_wp2_with fail
  refine (HLA.out _ _ _ HC5.out).mono ?_
  rintro e w6 ⟨v6, rfl, h6, hb6⟩
  have HC6 := Lib.hid (HC5.out.old hb6)
  have HO6 := Lib.hid (HO5.out.old hb6)
  have HB6 := Lib.hid (HB5.out.trans (hb6.mono HB5.out.size))
  have HI6 := Lib.hid (HI5.out.old hb6)
  have HT6 := Lib.hid (HT5.out.old hb6)
  replace HVS := Lib.hid (RwAt.old HVS.out hb6)
  replace HVN := Lib.hid (NxtAt.old HVN.out hb6)
  obtain ⟨aL, cL, rfl⟩ := RwOwn.shape h6
  have HVL := Lib.hid (RwOwn.nilv h6 (by omega) intCells_len)
  clear h6 hb6 HC5 HO5 HB5 HI5 HT5 HLA x0 x1 hxl
  clear HC6 HO6
  have HNV := HVN
  unfold nextL at HNV
  clear HVN
  unfold wantP at HWA
  obtain ⟨N, hN⟩ : ∃ N, I.length = N := ⟨_, rfl⟩
  have HN := Lib.hid hN
  rw [hN] at hlt0 hn41 HI6 HT6 HVS HHI HWA HAL hll hbl HTB ⊢
  clear hN
  obtain ⟨B, hB⟩ : ∃ B, begL I T = B := ⟨_, rfl⟩
  rw [hB] at HVS HNV HHI HWA HNR HAL hbl ⊢
  clear hB
  have HLF := HHI
  clear HHI
  obtain ⟨LD, hLD⟩ : ∃ LD, landI I = LD := ⟨_, rfl⟩
  rw [hLD] at HVL HWA hll ⊢
  clear hLD
  obtain ⟨D, hD⟩ : ∃ D, LD.length = D := ⟨_, rfl⟩
  have HD := Lib.hid hD
  rw [hD] at HVL hll ⊢
  clear hD
  obtain ⟨M, hM⟩ : ∃ M, B.length = M := ⟨_, rfl⟩
  have HM := Lib.hid hM
  rw [hM] at HVS HNV HWA hbl HNR ⊢
  clear hM
  generalize nextOf I T = NX at *
  have hnI : (N : Int) ≤ 41 := by omega
  have hdI : (D : Int) ≤ 41 := by omega
  have hmI : (M : Int) ≤ 41 := by omega
  go_wp2_with fail
  go_loopw [10] (fun s10 wr => ∃ i : Nat, i ≤ M ∧ s10 = .int .i64 i ∧ Hid (Below w6.heap.size w6 wr)) (fun s10 _ => M - (intOf s10).toNat)
  case atStart => exact ⟨0, Nat.zero_le _, rfl, Lib.hid (Below.refl _ _)⟩
  case round =>
    obtain ⟨i, hi, rfl, HBR⟩ := hrel
    obtain ⟨w7, hw7⟩ : ∃ w7, w7 = wr := ⟨_, rfl⟩
    subst hw7
    by_cases hlt : i < M
    · have hjB : i < B.length := by rw [HM.out]; exact hlt
      obtain ⟨last, hla, hln⟩ := HLF.out i hjB
      obtain ⟨bS, oS, eS, hcS⟩ := RwAt.at (RwAt.old HVS.out HBR.out) (List.getElem?_eq_getElem (show i < (splitL B (N : Int)).length by rw [split_len]; exact hjB))
      cases eS
      have hsp : (splitL B (N : Int))[i]'(by rw [split_len]; exact hjB) = (B[i], (last : Int) + 1) := by
        unfold splitL
        simp [List.getElem?_eq_getElem hjB, hla]
      rw [hsp] at hcS
      have s1 := hcS 1 _ rfl
      rw [← Nat.add_assoc] at s1
      have hbS := World.block_lt_of_cell? _ _ s1
      dsimp only at s1 hbS
      have hlI : last < I.length := by rw [HN.out]; exact hln
      have hlT : last < T.length := by omega
      obtain ⟨bt, ot, et, hbt, t0⟩ := NumsAt.at (HT6.out.old HBR.out) hlT
      cases et
      obtain ⟨bi, oi, ei, hbi, i0, i1, i2, i3, i4, i5⟩ := InsAt.at (HI6.out.old HBR.out) hlI
      cases ei
      have hop := kright_op (HRI.out _ (List.getElem_mem hlI))
      have hwa := fun k hk => HWA.out i last k hlt hk hla hln
      rw [List.getD_eq_getElem?_getD, List.getElem?_eq_getElem hlI, Option.getD_some, List.getD_eq_getElem?_getD, List.getElem?_eq_getElem hlT, Option.getD_some] at hwa
      have htb := HTB.out last hlT
      rw [List.getD_eq_getElem?_getD, List.getElem?_eq_getElem hlT, Option.getD_some] at htb
      obtain ⟨t, ht⟩ : ∃ t, T[last] = t := ⟨_, rfl⟩
      obtain ⟨x, hx⟩ : ∃ x, I[last] = x := ⟨_, rfl⟩
      rw [ht] at hwa t0 htb
      rw [hx] at hwa hop i0 i1 i2 i3 i4 i5
      obtain ⟨o, d, aa, bb, n1, nm⟩ := x
      dsimp only at hwa hop i0 i1 i2 i3 i4 i5
      have HWK := Lib.hid (fun k hk => hwa k hk hop)
      obtain ⟨bN, oN, cn, ad, m, eN, hbN, n0, hnN⟩ := NxtAt.at (HNV.out.old HBR.out) (i := i) (by simpa using hlt)
      cases eN
      rw [List.getElem_map, List.getElem_range] at hnN
      obtain ⟨_, _, fN⟩ := RwAt.shape hnN
      simp only [Value.slice.injEq] at fN
      obtain ⟨-, fN, -⟩ := fN
      have hnr := fun x hx => HNR.out i hlt x hx
      have hnp := HNP.out i
      obtain ⟨L, hL⟩ : ∃ L, NX i = L := ⟨_, rfl⟩
      rw [hL] at hnN fN hnr hnp HWK
      subst fN
      have HNN := Lib.hid hnN
      have HNR2 := Lib.hid hnr
      have HNP2 := Lib.hid hnp
      have hLl : L.length ≤ 140737488355328 := RwAt.len hnN
      have hLI : (L.length : Int) ≤ 140737488355328 := by omega
      clear hcS hsp hla ht hx hwa hnN hnr hnp hL
      go_upto_region 14 with (fail)
      obtain ⟨W8, hW8⟩ : ∃ W8, w7.alloc (.cells #[.int .i64 o, .int .i64 d, .int .i64 aa, .int .i64 bb, .int .i64 n1, .string (strOf nm)] 36) = W8 := ⟨_, rfl⟩
      have hb8 : Below w7.heap.size w7 W8 := by rw [← hW8]; exact (Below.refl _ _).alloc (Nat.le_refl _) _
      have HX8 : Hid (OwnAt W8 w7.heap.size (insCells ⟨o, d, aa, bb, n1, nm⟩) 36) := Lib.hid (by rw [← hW8]; exact OwnAt.new w7 (insCells ⟨o, d, aa, bb, n1, nm⟩) 36)
      rw [hW8]
      clear hW8 s1 hbS t0 hbt i0 i1 i2 i3 i4 i5 hbi
      have HVS8 := Lib.hid (RwAt.old (RwAt.old HVS.out HBR.out) hb8)
      have HVL8 := Lib.hid ((HVL.out.old HBR.out).old hb8)
      have n8 := below_keeps hb8 n0
      have hbN8 : bN < W8.heap.size := Nat.lt_of_lt_of_le hbN hb8.size
      have HN8 := Lib.hid (NumsAt.old HNN.out hb8)
      have HB8 := Lib.hid (HBR.out.trans (hb8.mono HBR.out.size))
      have hX8 := HX8.out.lt
      obtain ⟨X, hX⟩ : ∃ X, w7.heap.size = X := ⟨_, rfl⟩
      rw [hX] at HX8 hX8 ⊢
      have y0 := HX8.out.at 0 _ rfl
      clear hX n0 hbN HNN hb8 HBR
      go_wp2_with fail
      go_loopw [13] (fun s13 wr => ∃ k : Nat, k ≤ M + 1 ∧ s13 = .int .i64 k ∧ W8 = wr) (fun s13 _ => M + 1 - (intOf s13).toNat)
      case atStart => exact ⟨0, Nat.zero_le _, rfl, rfl⟩
      case round =>
        obtain ⟨k, hk, rfl, rfl⟩ := hrel
        by_cases hkM : k ≤ M
        · have hkI : (k : Int) ≤ (M : Int) := by omega
          have hwk := HWK.out k hkM
          have hal := HAL.out k
          obtain ⟨A, hA⟩ : ∃ A, atOf B (N : Int) k = A := ⟨_, rfl⟩
          rw [hA] at hwk hal
          have HWQ := Lib.hid hwk; have HA := Lib.hid hA
          clear hwk hA
          go_upto_if 78 with (fail)
          go_cut [14] from 75 to 83 (fun s14 wx => s14 = .int .i64 A ∧ W8 = wx)
          case first =>
            by_cases hk2 : k < M
            · have hkB : k < B.length := by rw [HM.out]; exact hk2
              obtain ⟨bk, ok, ek, hck⟩ := RwAt.at HVS8.out (List.getElem?_eq_getElem (show k < (splitL B (N : Int)).length by rw [split_len]; exact hkB))
              cases ek
              have hsk : ((splitL B (N : Int))[k]'(by rw [split_len]; exact hkB)).1 = A := by
                rw [← HA.out, atOf_lt hkB]
                unfold splitL
                simp [List.getElem?_eq_getElem hkB]
              have k0 := hck 0 _ rfl
              rw [hsk, Nat.add_zero] at k0
              have hbk := World.block_lt_of_cell? _ _ k0
              dsimp only at k0 hbk
              have hk2I : (k : Int) < (M : Int) := by omega
              clear hck hsk
              go_wp2_with fail
              go_meet
              exact ⟨by first | rfl | trivial, by first | rfl | trivial⟩
            · have hk2I : ¬ (k : Int) < (M : Int) := by omega
              have hkn : A = (N : Int) := by rw [← HA.out]; exact atOf_end (by rw [HM.out]; omega)
              have HKN := Lib.hid hkn
              clear hkn
              go_wp2_with fail
              go_meet
              exact ⟨by rw [HKN.out], by first | rfl | trivial⟩
          case rest =>
          obtain ⟨rfl, rfl⟩ := hcut
          go_upto_region 20 with (fail)
          go_cut [15] from 84 to 86 (fun s15 wx => s15 = .bool (decide (A = t)) ∧ W8 = wx)
          case first =>
            by_cases hAt : A = t
            · subst hAt
              go_wp2_with fail
              go_meet
              exact ⟨by simp, by first | rfl | trivial⟩
            · have hAt2 : (A == t) = false := by simpa using hAt
              go_wp2_with fail
              go_meet
              exact ⟨by simp [hAt], by first | rfl | trivial⟩
          case rest =>
          obtain ⟨rfl, rfl⟩ := hcut
          obtain ⟨W0, hW0⟩ : ∃ W0, decide (A = t) = W0 := ⟨_, rfl⟩
          have HW0 := Lib.hid hW0
          rw [hW0]
          clear hW0
          go_upto_region 21 with (fail)
          go_cut [94] from 87 to 94 (fun s94 wx => s94 = .bool (decide (o < 25 ∨ o = 28)) ∧ W8 = wx)
          case first =>
            by_cases h25 : o < 25
            · go_wp2_with fail
              go_meet
              exact ⟨by simp [h25], by first | rfl | trivial⟩
            · by_cases h28 : o = 28
              · subst h28
                go_wp2_with fail
                go_meet
                exact ⟨by simp, by first | rfl | trivial⟩
              · have g28 : (o == 28) = false := by simpa using h28
                go_wp2_with fail
                go_meet
                exact ⟨by simp [h25, h28], by first | rfl | trivial⟩
          case rest =>
          obtain ⟨rfl, rfl⟩ := hcut
          obtain ⟨P, hP⟩ : ∃ P, decide (o < 25 ∨ o = 28) = P := ⟨_, rfl⟩
          have HP := Lib.hid hP
          rw [hP]
          clear hP
          go_upto_if 94 with (fail)
          go_cut [15] from 87 to 101 (fun s15 wx => s15 = .bool (W0 || (P && decide (k = i + 1))) ∧ W8 = wx)
          case first =>
            cases P
            · go_wp2_with fail
              go_meet
              exact ⟨by simp, by first | rfl | trivial⟩
            · cases W0
              · by_cases hki : k = i + 1
                · subst hki
                  go_wp2_with fail
                  go_meet
                  exact ⟨by simp, by first | rfl | trivial⟩
                · have hki2 : ((k : Int) == (i : Int) + 1) = false := by simp; omega
                  have hki3 : ¬ (k : Int) = (i : Int) + 1 := by omega
                  go_wp2_with fail
                  go_meet
                  exact ⟨by simp [hki], by first | rfl | trivial⟩
              · go_wp2_with fail
                go_meet
                exact ⟨by simp, by first | rfl | trivial⟩
          case rest =>
          obtain ⟨rfl, rfl⟩ := hcut
          have hHW : anyB L (k : Int) L.length = ((W0 || (P && decide (k = i + 1))) || ((o == 27) && anyB LD A D)) := by
            rw [← HD.out, Bool.eq_iff_iff, anyB_all, HWQ.out, ← HW0.out, ← HP.out]
            simp only [Bool.or_eq_true, Bool.and_eq_true, decide_eq_true_eq, anyB_all, beq_iff_eq, or_assoc]
          obtain ⟨W1, hW1⟩ : ∃ W1, (W0 || (P && decide (k = i + 1))) = W1 := ⟨_, rfl⟩
          rw [hW1] at hHW ⊢
          have HHW := Lib.hid hHW
          clear hHW hW1
          go_upto_if 104 with (fail)
          go_cut [15] from 102 to 119 (fun s15 wx => s15 = .bool (W1 || ((o == 27) && anyB LD A D)) ∧ W8 = wx)
          case first =>
            by_cases h27 : o = 27
            · subst h27
              go_wp2_with fail
              go_loopw [15, 16] (fun s15 s16 wr => ∃ j : Nat, j ≤ D ∧ s16 = .int .i64 j ∧ s15 = .bool (W1 || anyB LD A j) ∧ W8 = wr) (fun _ s16 _ => D - (intOf s16).toNat)
              case atStart => exact ⟨0, Nat.zero_le _, rfl, by simp [anyB_zero], rfl⟩
              case round =>
                obtain ⟨j, hj, rfl, rfl, rfl⟩ := hrel
                by_cases hlt : j < D
                · have hjL : j < LD.length := by rw [HD.out]; exact hlt
                  obtain ⟨bl, ol, el, hbl2, l0⟩ := NumsAt.at HVL8.out hjL
                  cases el
                  have hs := anyB_succ (x := A) hjL
                  obtain ⟨y, hy⟩ : ∃ y, LD[j] = y := ⟨_, rfl⟩
                  rw [hy] at hs l0
                  have HS : Hid ((W1 || anyB LD A (j + 1)) = ((W1 || anyB LD A j) || (y == A))) := Lib.hid (by rw [hs, Bool.or_assoc])
                  clear hy hs
                  obtain ⟨b, hb⟩ : ∃ b, (W1 || anyB LD A j) = b := ⟨_, rfl⟩
                  rw [hb] at HS ⊢
                  clear hb
                  cases b
                  · by_cases hyA : y = A
                    · subst hyA
                      go_wp2_with fail
                      exact ⟨⟨j + 1, hlt, by first | rfl | (simp; done) | go_num, by rw [HS.out]; simp, by first | rfl | trivial⟩, by simp [intOf]; omega⟩
                    · have hyA2 : (y == A) = false := by simpa using hyA
                      go_wp2_with fail
                      exact ⟨⟨j + 1, hlt, by first | rfl | (simp; done) | go_num, by rw [HS.out]; simp [hyA], by first | rfl | trivial⟩, by simp [intOf]; omega⟩
                  · go_wp2_with fail
                    exact ⟨⟨j + 1, hlt, by first | rfl | (simp; done) | go_num, by rw [HS.out]; simp, by first | rfl | trivial⟩, by simp [intOf]; omega⟩
                · have hje : j = D := by omega
                  subst hje
                  go_wp2_with fail
                  go_meet
                  exact ⟨by simp, by first | rfl | trivial⟩
            · have g27 : (o == 27) = false := by simpa using h27
              go_wp2_with fail
              go_meet
              exact ⟨by simp [h27], by first | rfl | trivial⟩
          case rest =>
          obtain ⟨rfl, rfl⟩ := hcut
          obtain ⟨WF, hWF⟩ : ∃ WF, (W1 || ((o == 27) && anyB LD A D)) = WF := ⟨_, rfl⟩
          rw [hWF] at HHW ⊢
          clear hWF
          go_wp2_with fail
          go_loopw [17, 18] (fun s17 s18 wr => ∃ j : Nat, j ≤ L.length ∧ s18 = .int .i64 j ∧ s17 = .bool (anyB L (k : Int) j) ∧ W8 = wr) (fun _ s18 _ => L.length - (intOf s18).toNat)
          case atStart => exact ⟨0, Nat.zero_le _, rfl, by rw [anyB_zero], rfl⟩
          case round =>
            obtain ⟨h, hh, rfl, rfl, rfl⟩ := hrel
            by_cases hlt : h < L.length
            · obtain ⟨bl, ol, el, hbl2, l0⟩ := NumsAt.at HN8.out hlt
              subst el
              have hs := anyB_succ (x := (k : Int)) hlt
              have hltI : (h : Int) < (L.length : Int) := by omega
              obtain ⟨y, hy⟩ : ∃ y, L[h] = y := ⟨_, rfl⟩
              rw [hy] at hs l0
              have HS := Lib.hid hs
              clear hy hs
              obtain ⟨b, hb⟩ : ∃ b, anyB L (k : Int) h = b := ⟨_, rfl⟩
              rw [hb] at HS ⊢
              clear hb
              cases b
              · by_cases hyA : y = (k : Int)
                · subst hyA
                  go_wp2_with fail
                  exact ⟨⟨h + 1, hlt, by first | rfl | (simp; done) | go_num, by rw [HS.out]; simp, by first | rfl | trivial⟩, by simp [intOf]; omega⟩
                · have hyA2 : (y == (k : Int)) = false := by simpa using hyA
                  go_wp2_with fail
                  exact ⟨⟨h + 1, hlt, by first | rfl | (simp; done) | go_num, by rw [HS.out]; simp [hyA], by first | rfl | trivial⟩, by simp [intOf]; omega⟩
              · go_wp2_with fail
                exact ⟨⟨h + 1, hlt, by first | rfl | (simp; done) | go_num, by rw [HS.out]; simp, by first | rfl | trivial⟩, by simp [intOf]; omega⟩
            · have hhe : h = L.length := by omega
              subst hhe
              rw [HHW.out]
              go_wp2_with fail
              exact ⟨⟨k + 1, by omega, by first | rfl | (simp; done) | go_num, by first | rfl | trivial⟩, by simp [intOf]; omega⟩
        · have hke : k = M + 1 := by omega
          subst hke
          have hkI : ¬ ((M : Int) + 1) ≤ (M : Int) := by omega
          push_cast
          go_wp2_with fail
          go_loopw [19] (fun s19 wr => ∃ j : Nat, j ≤ L.length ∧ s19 = .int .i64 j ∧ Hid (Below W8.heap.size W8 wr)) (fun s19 _ => L.length - (intOf s19).toNat)
          case atStart => exact ⟨0, Nat.zero_le _, rfl, Lib.hid (Below.refl _ _)⟩
          case round =>
            obtain ⟨j, hj, rfl, HBJ⟩ := hrel
            have n9 := below_keeps HBJ.out n8
            have hbN9 : bN < wr.heap.size := Nat.lt_of_lt_of_le hbN8 HBJ.out.size
            by_cases hlt5 : j < L.length
            · obtain ⟨bl, ol, el, hbl2, l0⟩ := NumsAt.at (HN8.out.old HBJ.out) hlt5
              subst el
              have hr := HNR2.out _ (List.getElem_mem hlt5)
              have hltI : (j : Int) < (L.length : Int) := by omega
              cases j with
              | zero =>
                obtain ⟨y, hy⟩ : ∃ y, L[0] = y := ⟨_, rfl⟩
                rw [hy] at l0 hr
                obtain ⟨hr0, hr1⟩ := hr
                have hr2 : ¬ y < 0 := by omega
                have hr3 : ¬ (M : Int) < y := by omega
                clear hy
                rw [Nat.add_zero] at l0
                go_upto_region 38 with (fail)
                go_quiet (fail)
                go_wp2_with fail
                exact ⟨⟨1, by omega, by first | rfl | (simp; done) | go_num, Lib.hid (below_drewN HBJ.out _)⟩, by simp [intOf]; omega⟩
              | succ q =>
                have hq : q < L.length := by omega
                obtain ⟨bl', ol', el', _, l1⟩ := NumsAt.at (HN8.out.old HBJ.out) hq
                cases el'
                have hpr := List.pairwise_iff_getElem.1 HNP2.out q (q + 1) hq hlt5 (by omega)
                obtain ⟨y, hy⟩ : ∃ y, L[q + 1] = y := ⟨_, rfl⟩
                obtain ⟨z, hz⟩ : ∃ z, L[q] = z := ⟨_, rfl⟩
                rw [hy] at l0 hr hpr
                rw [hz] at l1 hpr
                obtain ⟨hr0, hr1⟩ := hr
                have hr2 : ¬ y < 0 := by omega
                have hr3 : ¬ (M : Int) < y := by omega
                have hr4 : ¬ y ≤ z := by omega
                have hr5 : (0 : Int) < (q : Int) + 1 := by omega
                have hqI : (q : Int) + 1 < (L.length : Int) := by omega
                have hqJ : (q : Int) < (L.length : Int) := by omega
                clear hy hz hltI
                push_cast
                go_upto_region 38 with (fail)
                go_quiet (fail)
                go_wp2_with fail
                exact ⟨⟨q + 1 + 1, by omega, by first | rfl | (simp; done) | go_num, Lib.hid (below_drewN HBJ.out _)⟩, by simp [intOf]; omega⟩
            · have hje : j = L.length := by omega
              subst hje
              go_wp2_with fail
              exact ⟨⟨i + 1, hlt, by first | rfl | (simp; done) | go_num, Lib.hid (HB8.out.trans (HBJ.out.mono HB8.out.size))⟩, by simp [intOf]; omega⟩
    · have he : i = M := by omega
      subst he
      go_wp2_with fail
      go_ret
      exact ⟨rfl, HB6.out.trans (HBR.out.mono HB6.out.size)⟩
end Go.Proofs.YtlkfmnabbmceeaaGreatDoor
