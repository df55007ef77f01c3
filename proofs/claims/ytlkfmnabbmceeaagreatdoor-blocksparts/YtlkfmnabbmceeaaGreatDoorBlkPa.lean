/-
  BlocksParts: its walk. Conditions: what comes in lies in memory.
-/
import Derived.Test.YtlkfmnabbmceeaaGreatDoorBlkE
import Derived.Test.YtlkfmnabbmceeaaGreatDoorAsmK
set_option linter.unusedVariables false
set_option linter.unusedSimpArgs false
namespace Go.Proofs.YtlkfmnabbmceeaaGreatDoor
open Go.RowKit
set_option maxHeartbeats 4000000
set_option maxRecDepth 100000

theorem bparts_any (raw : List Ln) (v : Value) (w : World) (h : RawQ w raw v) (hl : ILib w) :
    Calls Tryz.prog 3 #[v] w fun e w' => e = .returned (.bool true) ∧ Below w.heap.size w w' := by
  have HR := Lib.hid h; have HL := Lib.hid hl
  have HAW := Lib.hid (fun w hl => kawake_any w hl)
  have HFT := Lib.hid (fun w hr => fit_good raw v w hr)
  have HG := Lib.hid (fitC_good h.ok)
  clear h hl
  generalize fitC raw = c at *
  have hcl : c.lines.length ≤ 41 := HG.out.len
  have hclI : (c.lines.length : Int) ≤ 41 := by omega
  have HFL := Lib.hid (fun va vl w' h => flat_any c va vl w' h HG.out.short)
  have HSP := Lib.hid (fun va vl w' h => split_any2 c va vl w' h HG.out.short)
  have HNX := Lib.hid (fun va vl w' h => next_any c va vl w' h HG.out.short)
  have HLA := Lib.hid (fun va vl w' h => landings_any c va vl w' h HG.out.short)
  have HCA : Hid (c.arrs = arrs2) := Lib.hid HG.out.arrs
  obtain ⟨hn, hlt0, hT⟩ := flat_facts c
  have hn41 : (flatA c).1.length ≤ 41 := Nat.le_trans (flat_lens c).1 hcl
  have HTB := Lib.hid hT
  have HRI := Lib.hid (flat_right c)
  have HRE := Lib.hid (flat_ret c)
  clear HG hT hn
  generalize (flatA c).1 = I at *
  generalize (flatA c).2 = T at *
  have hbl := beg_len I T
  have hll := land_len I
  have HHI := Lib.hid (fun i hi => last_facts (I := I) (T := T) hlt0 (i := i) hi)
  have HIT := Lib.hid (fun i p hi h1 h2 => inside_turns (I := I) (T := T) (i := i) (p := p) hi h1 h2)
  have HIL := Lib.hid (fun i k hi hk h1 h2 => inside_leads (I := I) (T := T) (i := i) (k := k) hi hk h1 h2)
  have HAT := Lib.hid (fun i (hi : i < (begL I T).length) => (⟨at_mono (I := I) (T := T) (show i < i + 1 by omega) (by omega), (at_le (I := I) (T := T) i).1⟩ : atOf (begL I T) (I.length : Int) i < atOf (begL I T) (I.length : Int) (i + 1) ∧ 0 ≤ atOf (begL I T) (I.length : Int) i))
  have HAZ := Lib.hid (at_zero (I := I) (T := T))

  go_enter Tryz.func3, Tryz.ntmps3
  go_wp2_with fail
  refine (HAW.out _ HL.out).mono ?_
  rintro e w1 ⟨rfl, hb1⟩
  have HB1 := Lib.hid hb1
  have HR1 := Lib.hid (HR.out.old hb1)
  clear hb1 HAW
  go_wp2_with fail
  refine (HFT.out _ HR1.out).mono ?_
  rintro e w2 ⟨A, base, al, cl, rfl, hfo, hb2⟩
  have hbA : Below w2.heap.size w2 (w2.alloc (.cells #[.slice (some ⟨A, 0, none⟩) 2 2, .slice al c.lines.length cl] 26)) := (Below.refl _ _).alloc (Nat.le_refl _) _
  have HC2 := Lib.hid ((hfo.code HCA.out (by omega)).old hbA)
  have HO2 := Lib.hid (OwnAt.new w2 [.slice (some ⟨A, 0, none⟩) 2 2, .slice al c.lines.length cl] 26)
  have hb3 := HB1.out.trans (hb2.mono HB1.out.size)
  have HB2 := Lib.hid (hb3.trans (hbA.mono hb3.size))
  clear hbA hb2 hb3 hfo HB1 HR1 HFT
  go_wp2_with fail
  obtain ⟨W2, hW2⟩ : ∃ W2, (w2.alloc (.cells #[.slice (some ⟨A, 0, none⟩) 2 2, .slice al c.lines.length cl] 26)) = W2 := ⟨_, rfl⟩
  obtain ⟨T4, hT4⟩ : ∃ T4, w2.heap.size = T4 := ⟨_, rfl⟩
  rw [hW2] at HC2 HB2 HO2 ⊢
  rw [hT4] at HO2 ⊢
  clear hW2 hT4
  refine (HFL.out _ _ _ HC2.out).mono ?_
  rintro e w3 ⟨v1, v2, rfl, hv1, hv2, hb3⟩
  have HC3 := Lib.hid (HC2.out.old hb3)
  have HO3 := Lib.hid (HO2.out.old hb3)
  have HB3 := Lib.hid (HB2.out.trans (hb3.mono HB2.out.size))
  obtain ⟨a1, c1, rfl⟩ := RwAt.shape hv1
  obtain ⟨a2, c2, hs2⟩ := RwAt.shape hv2
  rw [hlt0] at hs2
  subst hs2
  have HI3 := Lib.hid hv1
  have HT3 := Lib.hid hv2
  clear hb3 HC2 HO2 HB2 HFL hv1 hv2
  have x0 := HO3.out.at 0 _ rfl
  have x1 := HO3.out.at 1 _ rfl
  have hxl := HO3.out.lt
  go_wp2_with fail
  refine (HSP.out _ _ _ HC3.out).mono ?_
  rintro e w5 ⟨v5, rfl, h5, hb5⟩
  have HC5 := Lib.hid (HC3.out.old hb5)
  have HO5 := Lib.hid (HO3.out.old hb5)
  have HB5 := Lib.hid (HB3.out.trans (hb5.mono HB3.out.size))
  have HI5 := Lib.hid (HI3.out.old hb5)
  have HT5 := Lib.hid (HT3.out.old hb5)
  obtain ⟨aS, cS, eS⟩ := RwOwn.shape h5
  rw [split_len] at eS
  subst eS
  have HVS := Lib.hid (RwOwn.nilv h5 (by rw [split_len]; omega) prCells_len)
  clear h5 hb5 HC3 HO3 HB3 HI3 HT3 HSP x0 x1 hxl
  clear HC5 HO5 HNX HLA
  obtain ⟨N, hN⟩ : ∃ N, I.length = N := ⟨_, rfl⟩
  have HN := Lib.hid hN
  rw [hN] at hlt0 hn41 HI5 HT5 HVS HHI HIT HIL HAZ HAT hll hbl HTB ⊢
  clear hN
  obtain ⟨B, hB⟩ : ∃ B, begL I T = B := ⟨_, rfl⟩
  rw [hB] at HVS HHI HIT HIL HAZ HAT hbl ⊢
  clear hB
  have HLF := HHI
  clear HHI
  obtain ⟨M, hM⟩ : ∃ M, B.length = M := ⟨_, rfl⟩
  have HM := Lib.hid hM
  rw [hM] at HVS hbl ⊢
  clear hM
  have hnI : (N : Int) ≤ 41 := by omega
  have hmI : (M : Int) ≤ 41 := by omega
  go_wp2_with fail
  go_loopw [8, 9] (fun s8 s9 wr => ∃ i : Nat, i ≤ M ∧ s9 = .int .i64 i ∧ s8 = .int .i64 (atOf B (N : Int) i) ∧ Hid (Below w5.heap.size w5 wr)) (fun _ s9 _ => M - (intOf s9).toNat)
  case atStart => exact ⟨0, Nat.zero_le _, rfl, by rw [HAZ.out], Lib.hid (Below.refl _ _)⟩
  case round =>
    obtain ⟨i, hi, rfl, rfl, HBR⟩ := hrel
    obtain ⟨w7, hw7⟩ : ∃ w7, w7 = wr := ⟨_, rfl⟩
    subst hw7
    by_cases hlt : i < M
    · have hjB : i < B.length := by rw [HM.out]; exact hlt
      obtain ⟨last, hla, hln⟩ := HLF.out i hjB
      obtain ⟨bS, oS, eS, hcS⟩ := RwAt.at (RwAt.old HVS.out HBR.out) (List.getElem?_eq_getElem (show i < (splitL B (N : Int)).length by rw [split_len]; exact hjB))
      cases eS
      have hsp : (splitL B (N : Int))[i]'(by rw [split_len]; exact hjB) = (atOf B (N : Int) i, (last : Int) + 1) := by
        rw [atOf_lt hjB]
        unfold splitL
        simp [List.getElem?_eq_getElem hjB, hla]
      rw [hsp] at hcS
      have s0 := hcS 0 _ rfl
      have s1 := hcS 1 _ rfl
      rw [Nat.add_zero] at s0
      rw [← Nat.add_assoc] at s1
      have hbS := World.block_lt_of_cell? _ _ s1
      dsimp only at s0 s1 hbS
      have hne : atOf B (N : Int) (i + 1) = (last : Int) + 1 := hla
      have HNE := Lib.hid hne
      have hit := fun p h1 h2 => HIT.out i p hjB h1 h2
      have hil := fun k hk h1 h2 => HIL.out i k hjB hk h1 h2
      rw [hne] at hit hil
      obtain ⟨b0, hb0, hb1, hbl0⟩ : ∃ b0 : Nat, atOf B (N : Int) i = (b0 : Int) ∧ b0 ≤ last ∧ b0 < N := by
        have e := hla
        rw [endOf_eq] at e
        have := HAT.out i hjB
        rw [e] at this
        exact ⟨(atOf B (N : Int) i).toNat, by omega, by omega, by omega⟩
      rw [hb0] at s0 hit hil ⊢
      have HIT2 := Lib.hid hit; have HIL2 := Lib.hid hil
      clear hcS hsp hla hne hit hil hb0
      have hlN : (last : Int) + 1 ≤ (N : Int) := by omega
      have hbL : (b0 : Int) < (last : Int) + 1 := by omega
      have hbL2 : ¬ (last : Int) + 1 ≤ (b0 : Int) := by omega
      have hlN2 : ¬ (N : Int) < (last : Int) + 1 := by omega
      go_wp2_with fail
      have HI7 := Lib.hid (HI5.out.old HBR.out)
      have HT7 := Lib.hid (HT5.out.old HBR.out)
      go_loopw [10] (fun s10 wr => ∃ p : Nat, b0 ≤ p ∧ p ≤ last ∧ s10 = .int .i64 p ∧ w7 = wr) (fun s10 _ => last - (intOf s10).toNat)
      case atStart => exact ⟨b0, Nat.le_refl _, hb1, rfl, rfl⟩
      case round =>
        obtain ⟨p, hp0, hp1, rfl, rfl⟩ := hrel
        by_cases hlt2 : p < last
        · have hpI : p < I.length := by rw [HN.out]; omega
          obtain ⟨bi, oi, eb, hbi, i0, _⟩ := InsAt.at HI7.out hpI
          cases eb
          have htn := HIT2.out p (by omega) (by omega)
          rw [List.getD_eq_getElem?_getD, List.getElem?_eq_getElem hpI, Option.getD_some] at htn
          unfold turnsB at htn
          obtain ⟨o, ho⟩ : ∃ o, I[p].op = o := ⟨_, rfl⟩
          rw [ho] at htn i0
          clear ho
          have hplI : (p : Int) < (last : Int) := by omega
          by_cases h21 : 21 ≤ o
          · have h27 : ¬ o ≤ 27 := fun h => by rw [decide_eq_true h21, decide_eq_true h] at htn; cases htn
            clear htn
            go_wp2_with fail
            exact ⟨⟨p + 1, by omega, hlt2, by first | rfl | (simp; done) | go_num, trivial⟩, by simp [intOf]; omega⟩
          · clear htn
            go_wp2_with fail
            exact ⟨⟨p + 1, by omega, hlt2, by first | rfl | (simp; done) | go_num, trivial⟩, by simp [intOf]; omega⟩
        · have hpe : p = last := by omega
          subst hpe
          clear hp0 hp1 hlt2 HIT2
          go_wp2_with fail
          go_loopw [11] (fun s11 wr => ∃ k : Nat, k ≤ N ∧ s11 = .int .i64 k ∧ Hid (Below w7.heap.size w7 wr)) (fun s11 _ => N - (intOf s11).toNat)
          case atStart => exact ⟨0, Nat.zero_le _, rfl, Lib.hid (Below.refl _ _)⟩
          case round =>
            obtain ⟨k, hk, rfl, HBK⟩ := hrel
            by_cases hlt3 : k < N
            · have hkT : k < T.length := by rw [hlt0]; exact hlt3
              obtain ⟨bt, ot, et, hbt, t0⟩ := NumsAt.at (HT7.out.old HBK.out) hkT
              cases et
              have hil := HIL2.out k hkT
              have htb := HTB.out k hkT
              rw [List.getD_eq_getElem?_getD, List.getElem?_eq_getElem hkT, Option.getD_some] at hil htb
              obtain ⟨t, ht⟩ : ∃ t, T[k] = t := ⟨_, rfl⟩
              rw [ht] at hil htb t0
              clear ht
              have s0' := below_keeps HBK.out s0
              have s1' := below_keeps HBK.out s1
              have hbS' : bS < wr.heap.size := Nat.lt_of_lt_of_le hbS HBK.out.size
              have hkN : (k : Int) < (N : Int) := by omega
              by_cases hgt : (b0 : Int) < t
              · have hnl : ¬ t < (p : Int) + 1 := fun h => hil hgt h
                clear hil
                go_upto_region 20 with (fail)
                go_quiet (fail)
                go_wp2_with fail
                exact ⟨⟨k + 1, hlt3, by first | rfl | (simp; done) | go_num, Lib.hid (below_drewN HBK.out _)⟩, by simp [intOf]; omega⟩
              · clear hil
                go_upto_region 20 with (fail)
                go_quiet (fail)
                go_wp2_with fail
                exact ⟨⟨k + 1, hlt3, by first | rfl | (simp; done) | go_num, Lib.hid (below_drewN HBK.out _)⟩, by simp [intOf]; omega⟩
            · have hke : k = N := by omega
              subst hke
              go_wp2_with fail
              exact ⟨⟨i + 1, hlt, by first | rfl | (simp; done) | go_num, by rw [HNE.out], Lib.hid (HBR.out.trans (HBK.out.mono HBR.out.size))⟩, by simp [intOf]; omega⟩
    · have he : i = M := by omega
      subst he
      have hend : atOf B (N : Int) i = (N : Int) := atOf_end (by rw [HM.out]; exact Nat.le_refl _)
      rw [hend]
      clear hend
      go_wp2_with fail
      go_ret
      exact ⟨rfl, HB5.out.trans (HBR.out.mono HB5.out.size)⟩
end Go.Proofs.YtlkfmnabbmceeaaGreatDoor
