/-
  BlocksLandings: its walk. Conditions: what comes in lies in memory.
-/
import Derived.Test.YtlkfmnabbmceeaaGreatDoorBlkE
import Derived.Test.YtlkfmnabbmceeaaGreatDoorAsmK
set_option linter.unusedVariables false
set_option linter.unusedSimpArgs false
namespace Go.Proofs.YtlkfmnabbmceeaaGreatDoor
open Go.RowKit
set_option maxHeartbeats 4000000
set_option maxRecDepth 100000

theorem blandings_any (raw : List Ln) (v : Value) (w : World) (h : RawQ w raw v) (hl : ILib w) :
    Calls Tryz.prog 5 #[v] w fun e w' => e = .returned (.bool true) ∧ Below w.heap.size w w' := by
  have HR := Lib.hid h; have HL := Lib.hid hl
  have HAW := Lib.hid (fun w hl => kawake_any w hl)
  have HFT := Lib.hid (fun w hr => fit_good raw v w hr)
  have HG := Lib.hid (fitC_good h.ok)
  clear h hl
  generalize fitC raw = c at *
  have hcl : c.lines.length ≤ 41 := HG.out.len
  have hclI : (c.lines.length : Int) ≤ 41 := by omega
  have HFL := Lib.hid (fun va vl w' h => flat_any c va vl w' h HG.out.short)
  have HSP := Lib.hid (fun va vl w' h => split_any2 c va vl w' h HG.out.short)
  have HNX := Lib.hid (fun va vl w' h => next_any c va vl w' h HG.out.short)
  have HLA := Lib.hid (fun va vl w' h => landings_any c va vl w' h HG.out.short)
  have HCA : Hid (c.arrs = arrs2) := Lib.hid HG.out.arrs
  obtain ⟨hn, hlt0, hT⟩ := flat_facts c
  have hn41 : (flatA c).1.length ≤ 41 := Nat.le_trans (flat_lens c).1 hcl
  have HTB := Lib.hid hT
  have HRI := Lib.hid (flat_right c)
  have HRE := Lib.hid (flat_ret c)
  clear HG hT hn
  generalize (flatA c).1 = I at *
  generalize (flatA c).2 = T at *
  have hbl := beg_len I T
  have hll := land_len I
  have HHI := Lib.hid (fun i hi => last_facts (I := I) (T := T) hlt0 (i := i) hi)
  have HLD := Lib.hid (fun i hi h => land_at I i hi h)
  have HRL := Lib.hid (fun i last h1 h2 h3 => next_ret_len I T i last h1 h2 h3)
  have HLE := Lib.hid (landN_end I)

  go_enter Tryz.func5, Tryz.ntmps5
  go_wp2_with fail
  refine (HAW.out _ HL.out).mono ?_
  rintro e w1 ⟨rfl, hb1⟩
  have HB1 := Lib.hid hb1
  have HR1 := Lib.hid (HR.out.old hb1)
  clear hb1 HAW
  go_wp2_with fail
  refine (HFT.out _ HR1.out).mono ?_
  rintro e w2 ⟨A, base, al, cl, rfl, hfo, hb2⟩
  have hbA : Below w2.heap.size w2 (w2.alloc (.cells #[.slice (some ⟨A, 0, none⟩) 2 2, .slice al c.lines.length cl] 26)) := (Below.refl _ _).alloc (Nat.le_refl _) _
  have HC2 := Lib.hid ((hfo.code HCA.out (by omega)).old hbA)
  have HO2 := Lib.hid (OwnAt.new w2 [.slice (some ⟨A, 0, none⟩) 2 2, .slice al c.lines.length cl] 26)
  have hb3 := HB1.out.trans (hb2.mono HB1.out.size)
  have HB2 := Lib.hid (hb3.trans (hbA.mono hb3.size))
  clear hbA hb2 hb3 hfo HB1 HR1 HFT
  go_wp2_with fail
  obtain ⟨W2, hW2⟩ : ∃ W2, (w2.alloc (.cells #[.slice (some ⟨A, 0, none⟩) 2 2, .slice al c.lines.length cl] 26)) = W2 := ⟨_, rfl⟩
  obtain ⟨T4, hT4⟩ : ∃ T4, w2.heap.size = T4 := ⟨_, rfl⟩
  rw [hW2] at HC2 HB2 HO2 ⊢
  rw [hT4] at HO2 ⊢
  clear hW2 hT4
  refine (HFL.out _ _ _ HC2.out).mono ?_
  rintro e w3 ⟨v1, v2, rfl, hv1, hv2, hb3⟩
  have HC3 := Lib.hid (HC2.out.old hb3)
  have HO3 := Lib.hid (HO2.out.old hb3)
  have HB3 := Lib.hid (HB2.out.trans (hb3.mono HB2.out.size))
  obtain ⟨a1, c1, rfl⟩ := RwAt.shape hv1
  obtain ⟨a2, c2, hs2⟩ := RwAt.shape hv2
  rw [hlt0] at hs2
  subst hs2
  have HI3 := Lib.hid hv1
  have HT3 := Lib.hid hv2
  clear hb3 HC2 HO2 HB2 HFL hv1 hv2
  have x0 := HO3.out.at 0 _ rfl
  have x1 := HO3.out.at 1 _ rfl
  have hxl := HO3.out.lt
  go_wp2_with fail
  refine (HLA.out _ _ _ HC3.out).mono ?_
  rintro e w4 ⟨v4, rfl, h4, hb4⟩
  have HC4 := Lib.hid (HC3.out.old hb4)
  have HO4 := Lib.hid (HO3.out.old hb4)
  have HB4 := Lib.hid (HB3.out.trans (hb4.mono HB3.out.size))
  have HI4 := Lib.hid (HI3.out.old hb4)
  have HT4 := Lib.hid (HT3.out.old hb4)
  obtain ⟨aL, cL, rfl⟩ := RwOwn.shape h4
  have HVL := Lib.hid (RwOwn.nilv h4 (by omega) intCells_len)
  clear h4 hb4 HC3 HO3 HB3 HI3 HT3 HLA x0 x1 hxl
  have x0 := HO4.out.at 0 _ rfl
  have x1 := HO4.out.at 1 _ rfl
  have hxl := HO4.out.lt
  go_wp2_with fail
  refine (HSP.out _ _ _ HC4.out).mono ?_
  rintro e w5 ⟨v5, rfl, h5, hb5⟩
  have HC5 := Lib.hid (HC4.out.old hb5)
  have HO5 := Lib.hid (HO4.out.old hb5)
  have HB5 := Lib.hid (HB4.out.trans (hb5.mono HB4.out.size))
  have HI5 := Lib.hid (HI4.out.old hb5)
  have HT5 := Lib.hid (HT4.out.old hb5)
  replace HVL := Lib.hid (NumsAt.old HVL.out hb5)
  obtain ⟨aS, cS, eS⟩ := RwOwn.shape h5
  rw [split_len] at eS
  subst eS
  have HVS := Lib.hid (RwOwn.nilv h5 (by rw [split_len]; omega) prCells_len)
  clear h5 hb5 HC4 HO4 HB4 HI4 HT4 HSP x0 x1 hxl
  have x0 := HO5.out.at 0 _ rfl
  have x1 := HO5.out.at 1 _ rfl
  have hxl := HO5.out.lt
  go_wp2_with fail
  refine (HNX.out _ _ _ HC5.out).mono ?_
  rintro e w6 ⟨v6, rfl, h6, hb6⟩
  have HC6 := Lib.hid (HC5.out.old hb6)
  have HO6 := Lib.hid (HO5.out.old hb6)
  have HB6 := Lib.hid (HB5.out.trans (hb6.mono HB5.out.size))
  have HI6 := Lib.hid (HI5.out.old hb6)
  have HT6 := Lib.hid (HT5.out.old hb6)
  replace HVL := Lib.hid (NumsAt.old HVL.out hb6)
  replace HVS := Lib.hid (RwAt.old HVS.out hb6)
  obtain ⟨aN, cN, eN⟩ := NxtAt.shape h6
  rw [nextL_len] at eN
  subst eN
  have HVN := Lib.hid h6
  clear h6 hb6 HC5 HO5 HB5 HI5 HT5 HNX x0 x1 hxl
  clear HC6 HO6 HT6
  have HNV := HVN
  unfold nextL at HNV
  obtain ⟨N, hN⟩ : ∃ N, I.length = N := ⟨_, rfl⟩
  have HN := Lib.hid hN
  rw [hN] at hlt0 hn41 HI6 HVS HHI HLD HRL HLE hll hbl HRE ⊢
  clear hN
  obtain ⟨B, hB⟩ : ∃ B, begL I T = B := ⟨_, rfl⟩
  rw [hB] at HVS HVN HNV HHI HRL hbl ⊢
  clear hB
  have HLF := HHI
  obtain ⟨LD, hLD⟩ : ∃ LD, landI I = LD := ⟨_, rfl⟩
  rw [hLD] at HVL HLD HRL HLE hll ⊢
  clear hLD HHI
  obtain ⟨D, hD⟩ : ∃ D, LD.length = D := ⟨_, rfl⟩
  have HD := Lib.hid hD
  rw [hD] at HVL hll HRL ⊢
  clear hD
  obtain ⟨M, hM⟩ : ∃ M, B.length = M := ⟨_, rfl⟩
  have HM := Lib.hid hM
  rw [hM] at HVS HVN HNV hbl ⊢
  clear hM
  have hnI : (N : Int) ≤ 41 := by omega
  have hdI : (D : Int) ≤ 41 := by omega
  have hmI : (M : Int) ≤ 41 := by omega
  go_wp2_with fail
  go_loopw [10, 11] (fun s10 s11 wr => ∃ i : Nat, i ≤ N ∧ s11 = .int .i64 i ∧ s10 = .int .i64 (((landN I i).length : Nat) : Int) ∧ w6 = wr) (fun _ s11 _ => N - (intOf s11).toNat)
  case atStart => exact ⟨0, Nat.zero_le _, rfl, rfl, rfl⟩
  case round =>
    obtain ⟨i, hi, rfl, rfl, rfl⟩ := hrel
    have hle := landN_len I i
    have hsn : landN I (i + 1) = if (I.getD i (zeroI 0)).op = 26 then landN I i ++ [(i : Int) + 1] else landN I i := rfl
    by_cases hlt : i < N
    · have hlI : i < I.length := by rw [HN.out]; exact hlt
      obtain ⟨bi, oi, eb, hbi, i0, _⟩ := InsAt.at HI6.out hlI
      cases eb
      have hat := HLD.out i hlt
      rw [List.getD_eq_getElem?_getD, List.getElem?_eq_getElem hlI, Option.getD_some] at hsn hat
      obtain ⟨o, ho⟩ : ∃ o, I[i].op = o := ⟨_, rfl⟩
      rw [ho] at hsn hat i0
      clear ho
      by_cases h26 : o = 26
      · subst h26
        have hat := hat rfl
        rw [if_pos rfl] at hsn
        have hl2 : (landN I (i + 1)).length = (landN I i).length + 1 := by rw [hsn, List.length_append]; rfl
        have HL2 := Lib.hid hl2
        obtain ⟨n, hn⟩ : ∃ n, (landN I i).length = n := ⟨_, rfl⟩
        rw [hn] at hat hle ⊢ HL2
        obtain ⟨hnD, hne⟩ := List.getElem?_eq_some_iff.1 hat
        obtain ⟨bl, ol, el, hbl2, l0⟩ := NumsAt.at HVL.out hnD
        cases el
        rw [hne] at l0
        have hnD2 : n < D := by rw [← HD.out]; exact hnD
        have hnDI : ¬ (D : Int) ≤ (n : Int) := by omega
        clear hat hsn hl2 hn hne
        go_wp2_with fail
        exact ⟨⟨i + 1, hlt, by first | rfl | (simp; done) | go_num, by rw [HL2.out]; first | rfl | (simp; done) | go_num, trivial⟩, by simp [intOf]; omega⟩
      · rw [if_neg h26] at hsn
        have HSN := Lib.hid hsn
        have h26b : (o != 26) = true := by simpa using h26
        have h26c : (o == 26) = false := by simpa using h26
        clear hsn hat
        go_wp2_with fail
        exact ⟨⟨i + 1, hlt, by first | rfl | (simp; done) | go_num, by rw [HSN.out], trivial⟩, by simp [intOf]; omega⟩
    · have he : i = N := by omega
      subst he
      have hkd : (landN I i).length = D := by rw [HLE.out, HD.out]
      rw [hkd]
      clear hkd hle hsn hlt hi HLD
      go_wp2_with fail
      go_loopw [12] (fun s12 wr => ∃ j : Nat, j ≤ M ∧ s12 = .int .i64 j ∧ w6 = wr) (fun s12 _ => M - (intOf s12).toNat)
      case atStart => exact ⟨0, Nat.zero_le _, rfl, rfl⟩
      case round =>
        obtain ⟨j, hj, rfl, rfl⟩ := hrel
        by_cases hlt : j < M
        · have hjB : j < B.length := by rw [HM.out]; exact hlt
          obtain ⟨last, hla, hln⟩ := HLF.out j hjB
          obtain ⟨bS, oS, eS, hcS⟩ := RwAt.at HVS.out (List.getElem?_eq_getElem (show j < (splitL B (i : Int)).length by rw [split_len]; exact hjB))
          cases eS
          have hsp : (splitL B (i : Int))[j]'(by rw [split_len]; exact hjB) = (B[j], (last : Int) + 1) := by
            unfold splitL
            simp [List.getElem?_eq_getElem hjB, hla]
          rw [hsp] at hcS
          have s1 := hcS 1 _ rfl
          rw [← Nat.add_assoc] at s1
          have hbS := World.block_lt_of_cell? _ _ s1
          dsimp only at s1 hbS
          have hlI : last < I.length := by rw [HN.out]; exact hln
          obtain ⟨bi, oi, eb, hbi, i0, _⟩ := InsAt.at HI6.out hlI
          cases eb
          have hrl := HRL.out j last hla
          have hre := HRE.out last hln
          rw [List.getD_eq_getElem?_getD, List.getElem?_eq_getElem hlI, Option.getD_some] at hrl hre
          obtain ⟨o, ho⟩ : ∃ o, I[last].op = o := ⟨_, rfl⟩
          rw [ho] at hrl hre i0
          obtain ⟨bN, oN, cn, ad, m, eN, hbN, n0, hnN⟩ := NxtAt.at HNV.out (i := j) (by simpa using hlt)
          cases eN
          obtain ⟨_, _, fN⟩ := RwAt.shape hnN
          simp only [Value.slice.injEq] at fN
          obtain ⟨-, fN, -⟩ := fN
          have hmm : m = (nextOf I T j).length := by rw [fN]; simp
          clear hcS hsp hla ho hnN fN
          by_cases h27 : o = 27
          · subst h27
            have hmD : m = D := by rw [hmm]; exact hrl rfl (hre rfl)
            subst hmD
            clear hrl hre hmm
            go_wp2_with fail
            exact ⟨⟨j + 1, hlt, by first | rfl | (simp; done) | go_num, trivial⟩, by simp [intOf]; omega⟩
          · have h27b : (o == 27) = false := by simpa using h27
            clear hrl hre hmm
            go_wp2_with fail
            exact ⟨⟨j + 1, hlt, by first | rfl | (simp; done) | go_num, trivial⟩, by simp [intOf]; omega⟩
        · have he : j = M := by omega
          subst he
          go_wp2_with fail
          go_ret
          exact ⟨rfl, HB6.out⟩
end Go.Proofs.YtlkfmnabbmceeaaGreatDoor
