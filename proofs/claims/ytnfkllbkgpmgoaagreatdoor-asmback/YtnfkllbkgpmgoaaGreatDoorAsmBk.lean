/-
  AsmBack: its walk. Conditions: what comes in lies in memory, the numbers are ints.
-/
import Derived.Test.YtnfkllbkgpmgoaaGreatDoorAsmK
set_option linter.unusedVariables false
set_option linter.unusedSimpArgs false
namespace Go.Proofs.YtnfkllbkgpmgoaaGreatDoor
open Go.RowKit
set_option maxHeartbeats 4000000
set_option maxRecDepth 100000

theorem strOf_one (s : Bs) (i : Nat) (h : i < s.length) : (strOf s).extract i (i + 1) = strOf [s[i]] := by
  apply ByteArray.ext
  rw [ByteArray.data_extract]
  apply Array.ext
  · simp; omega
  · intro j h1 h2
    have hj : j = 0 := by simp at h2; omega
    subst hj
    simp
theorem qback_any (raw : List Ln) (v : Value) (bl : List Int) (hbl : ∀ b, b ∈ bl → I64 b) (u : Value) (w : World) (h : RawQ w raw v) (hu : NumsAt w bl u) (hl : ILib w) :
    Calls Tryz.prog 3 #[v, u] w fun e w' => e = .returned (.bool true) ∧ Below w.heap.size w w' := by
  have HR := Lib.hid h; have HL := Lib.hid hl; have HBL := Lib.hid hbl
  obtain ⟨ua, uc, rfl⟩ := RwAt.shape hu
  have hblI : (bl.length : Int) ≤ 140737488355328 := by have := RwAt.len hu; omega
  have HU := Lib.hid hu
  have HAW := Lib.hid (fun w hl => qawake_any w hl)
  have HFT := Lib.hid (fun w hr => fit_good raw v w hr)
  have HG := Lib.hid (fitC_good h.ok)
  clear h hl hu hbl
  generalize fitC raw = c at *
  have hcl : c.lines.length ≤ 41 := HG.out.len
  have hclI : (c.lines.length : Int) ≤ 41 := by omega
  have HPR := Lib.hid (fun va vl w' h hl => codePrint_any c va vl w' h HG.out.short HG.out.alen (fun x hx => (HG.out.wells x hx).2) hl)
  rw [good_print HG.out] at HPR
  dsimp only at HPR
  have hsl := code_len HG.out
  have hct := code_count HG.out
  have HP1 := Lib.hid (fun w' hl => codeParse_any (codeT c) (by omega) w' hl)
  rw [good_back HG.out] at HP1
  dsimp only at HP1
  have hbt := blank_len2 (codeT c) bl
  have HP2 := Lib.hid (fun w' hl => codeParse_any (blankT bl (codeT c)) (by omega) w' hl)
  rw [good_blank HG.out bl] at HP2
  dsimp only at HP2
  have htk := Lib.hid (fun i => take_len_count (codeT c) i bl)
  have HSM := Lib.hid (fun va vl ua ul w' h1 h2 => same_any c c va vl ua ul w' h1 h2)
  rw [show sameC c c = true from (sameC_iff _ _).2 rfl] at HSM
  have HCA : Hid (c.arrs = arrs2) := Lib.hid HG.out.arrs
  have hszI : ((codeT c).length : Int) ≤ 20000 := by omega
  clear HG hbt
  generalize codeT c = s at *
  go_enter Tryz.func3, Tryz.ntmps3
  go_wp2_with fail
  refine (HAW.out _ HL.out).mono ?_
  rintro e w1 ⟨rfl, hb1⟩
  have HB1 := Lib.hid hb1
  have HR1 := Lib.hid (HR.out.old hb1)
  clear hb1 HAW
  go_wp2_with fail
  refine (HFT.out _ HR1.out).mono ?_
  rintro e w2 ⟨A, base, al, cl, rfl, hfo, hb2⟩
  have hbA : Below w2.heap.size w2 (w2.alloc (.cells #[.slice (some ⟨A, 0, none⟩) 2 2, .slice al c.lines.length cl] 27)) := (Below.refl _ _).alloc (Nat.le_refl _) _
  have HC2 := Lib.hid ((hfo.code HCA.out (by omega)).old hbA)
  have HO2 := Lib.hid (OwnAt.new w2 [.slice (some ⟨A, 0, none⟩) 2 2, .slice al c.lines.length cl] 27)
  have hb3 := HB1.out.trans (hb2.mono HB1.out.size)
  have HB2 := Lib.hid (hb3.trans (hbA.mono hb3.size))
  have HL2 := Lib.hid (HL.out.old HB2.out)
  clear hbA hb2 hb3 hfo HB1 HR1 HFT
  go_wp2_with fail
  obtain ⟨W2, hW2⟩ : ∃ W2, (w2.alloc (.cells #[.slice (some ⟨A, 0, none⟩) 2 2, .slice al c.lines.length cl] 27)) = W2 := ⟨_, rfl⟩
  obtain ⟨T6, hT6⟩ : ∃ T6, w2.heap.size = T6 := ⟨_, rfl⟩
  rw [hW2] at HC2 HB2 HL2 HO2 ⊢
  rw [hT6] at HO2 ⊢
  clear hW2 hT6
  refine (HPR.out _ _ _ HC2.out HL2.out).mono ?_
  rintro e w3 ⟨rfl, hb3⟩
  have HC3 := Lib.hid (HC2.out.old hb3)
  have HO3 := Lib.hid (HO2.out.old hb3)
  have HB3 := Lib.hid (HB2.out.trans (hb3.mono HB2.out.size))
  have HL3 := Lib.hid (HL.out.old HB3.out)
  clear hb3 HPR HC2 HO2 HB2 HL2
  go_wp2_with fail
  refine (HP1.out _ HL3.out).mono ?_
  rintro e w4 ⟨d1, d2, rfl, hd, _, hb4⟩
  obtain ⟨e1, f1, rfl⟩ := RwAt.shape hd.1
  obtain ⟨e2, f2, rfl⟩ := RwAt.shape hd.2
  have hbB : Below w4.heap.size w4 (w4.alloc (.cells #[.slice e1 c.arrs.length f1, .slice e2 c.lines.length f2] 27)) := (Below.refl _ _).alloc (Nat.le_refl _) _
  have hb5 := hb4.trans (hbB.mono hb4.size)
  have HC4 := Lib.hid (HC3.out.old hb5)
  have HO4 := Lib.hid (HO3.out.old hb5)
  have HD4 := Lib.hid (hd.old hbB)
  have HQ4 := Lib.hid (OwnAt.new w4 [.slice e1 c.arrs.length f1, .slice e2 c.lines.length f2] 27)
  have HB4 := Lib.hid (HB3.out.trans (hb5.mono HB3.out.size))
  have HU4 := Lib.hid (HU.out.old HB4.out)
  have HL4 := Lib.hid (HL.out.old HB4.out)
  clear hb4 hbB hb5 hd HC3 HO3 HB3 HL3 HP1 HU
  go_wp2_with fail
  obtain ⟨W4, hW4⟩ : ∃ W4, (w4.alloc (.cells #[.slice e1 c.arrs.length f1, .slice e2 c.lines.length f2] 27)) = W4 := ⟨_, rfl⟩
  obtain ⟨T9, hT9⟩ : ∃ T9, w4.heap.size = T9 := ⟨_, rfl⟩
  rw [hW4] at HC4 HO4 HD4 HQ4 HB4 HU4 HL4 ⊢
  rw [hT9] at HQ4 ⊢
  clear hW4 hT9
  go_loopw [12, 13, 14] (fun s12 s13 s14 wr => ∃ i : Nat, i ≤ s.length ∧ s14 = .int .i64 i ∧ s13 = .int .i64 ((s.take i).count 10 : Nat) ∧ s12 = .string (strOf (blankT bl (s.take i))) ∧ Hid (Below W4.heap.size W4 wr)) (fun _ _ s14 _ => s.length - (intOf s14).toNat)
  case atStart => exact ⟨0, Nat.zero_le _, rfl, by rw [List.take_zero]; rfl, by rw [List.take_zero]; rfl, Lib.hid (Below.refl _ _)⟩
  case round =>
    obtain ⟨i, hi, rfl, rfl, rfl, HBR⟩ := hrel
    have HUR := Lib.hid (HU4.out.old HBR.out)
    by_cases hlt : i < s.length
    · have hsn := blank_snoc (s.take i) bl s[i]
      rw [← take_snoc s i hlt] at hsn
      have hcn : (s.take (i + 1)).count 10 = (s.take i).count 10 + (if s[i] = 10 then 1 else 0) := by
        rw [take_snoc s i hlt, List.count_append]
        by_cases h : s[i] = 10
        · rw [h, if_pos rfl]; rfl
        · rw [if_neg h, List.count_eq_zero.2 (fun hm => h (List.mem_singleton.1 hm).symm)]
      have hone := strOf_one s i hlt
      have htl := htk.out i
      have htc := take_count s i
      obtain ⟨t, ht⟩ : ∃ t, blankT bl (s.take i) = t := ⟨_, rfl⟩
      obtain ⟨k, hk⟩ : ∃ k, (s.take i).count 10 = k := ⟨_, rfl⟩
      rw [ht] at hsn htl ⊢
      rw [hk] at hcn hsn htc ⊢
      clear ht hk
      obtain ⟨ch, hch⟩ : ∃ ch, s[i] = ch := ⟨_, rfl⟩
      have hkI : (k : Int) ≤ 43 := by omega
      have hc0 : (strOf s)[i]'hlt = ch := hch
      have l0 : (9223372036854775807 < t.length + 1) = False := eq_false (by omega)
      have l2 : (9223372036854775807 < t.length + 2) = False := eq_false (by omega)
      have l3 : (9223372036854775807 < t.length + 3) = False := eq_false (by omega)
      have l5 : (9223372036854775807 < t.length + 5) = False := eq_false (by omega)
      have l8 : (9223372036854775807 < t.length + 8) = False := eq_false (by omega)
      by_cases h10 : ch = 10
      · rw [hch, if_pos h10] at hsn hcn
        have hcv : ((((strOf s)[i]'hlt).toNat : Int) != 10) = false := by rw [hc0, h10]; rfl
        have HSN := Lib.hid hsn; have HCN := Lib.hid hcn
        clear hsn hcn hone hch hc0
        by_cases hkb : k < bl.length
        · obtain ⟨nb, no, rfl, hnl, hcb⟩ := NumsAt.at HUR.out hkb
          have hb64 := HBL.out _ (List.getElem_mem hkb)
          have hse : sepQ (bl.drop k) = sepsQ.getD (ipick bl[k] 6).toNat [] := by rw [List.drop_eq_getElem_cons hkb]; rfl
          obtain ⟨b, hb⟩ : ∃ b, bl[k] = b := ⟨_, rfl⟩
          rw [hb] at hcb hb64 hse
          clear hb
          have HPK := Lib.hid (fun w => qpick_any b 6 hb64 (by decide) (by decide) w)
          have hq := ipick_range b 6 (by decide)
          generalize ipick b 6 = q at *
          obtain ⟨hq0, hq1⟩ := hq
          have HSE := Lib.hid hse
          clear hse
          go_upto_region 16 with (go_at_call 13; refine (HPK.out _).mono ?_; rintro e w7 ⟨rfl, rfl⟩)
          have hq : q = 0 ∨ q = 1 ∨ q = 2 ∨ q = 3 ∨ q = 4 ∨ q = 5 := by omega
          rcases hq with rfl | rfl | rfl | rfl | rfl | rfl
          all_goals go_wp2_with fail
          all_goals (refine ⟨⟨i + 1, hlt, by first | rfl | (simp; done) | go_num, by rw [HCN.out]; first | rfl | (simp; done) | go_num, ?_, Lib.hid (HBR.out.alloc HBR.out.size _)⟩, by simp [intOf]; omega⟩)
          all_goals (rw [HSN.out, HSE.out, ← bs_app]; try rfl)
        · have HSE : Hid (sepQ (bl.drop k) = [10]) := Lib.hid (by rw [List.drop_of_length_le (by omega)]; rfl)
          have hkbI : ¬ ((k : Int) < (bl.length : Int)) := by omega
          all_goals go_wp2_with fail
          all_goals (refine ⟨⟨i + 1, hlt, by first | rfl | (simp; done) | go_num, by rw [HCN.out]; first | rfl | (simp; done) | go_num, ?_, Lib.hid (HBR.out.alloc HBR.out.size _)⟩, by simp [intOf]; omega⟩)
          all_goals (rw [HSN.out, HSE.out, ← bs_app]; try rfl)
      · rw [hch, if_neg h10] at hsn hcn
        rw [hch] at hone
        have hcv : ((((strOf s)[i]'hlt).toNat : Int) != 10) = true := by
          rw [hc0]
          have : ch.toNat ≠ 10 := fun e => h10 (by rw [← UInt8.toNat_inj]; exact e)
          simp; omega
        have HSN := Lib.hid hsn; have HCN := Lib.hid hcn
        have hone' : (strOf s).extract i (i + 1) = strOf [ch] := hone
        have hcat : Hid (strOf t ++ strOf [ch] = strOf (t ++ [ch])) := Lib.hid (bs_app t [ch])
        clear hsn hcn hch hone hc0
        go_wp2_with fail
        refine ⟨⟨i + 1, hlt, by first | rfl | (simp; done) | go_num, by rw [HCN.out]; rfl, ?_, HBR⟩, by simp [intOf]; omega⟩
        rw [HSN.out, ← bs_app]
    · have he : i = s.length := by omega
      subst he
      rw [List.take_length]
      have HC5 := Lib.hid (HC4.out.old HBR.out)
      have HO5 := Lib.hid (HO4.out.old HBR.out)
      have HD5 := Lib.hid (HD4.out.old HBR.out)
      have HQ5 := Lib.hid (HQ4.out.old HBR.out)
      have HB5 := Lib.hid (HB4.out.trans (HBR.out.mono HB4.out.size))
      have HL5 := Lib.hid (HL.out.old HB5.out)
      clear HC4 HO4 HD4 HQ4 HB4 HL4 HU4 HUR HBR htk
      go_wp2_with fail
      refine (HP2.out _ HL5.out).mono ?_
      rintro e w7 ⟨d1, d2, rfl, hd, _, hb7⟩
      obtain ⟨e3, f3, rfl⟩ := RwAt.shape hd.1
      obtain ⟨e4, f4, rfl⟩ := RwAt.shape hd.2
      have hbB : Below w7.heap.size w7 (w7.alloc (.cells #[.slice e3 c.arrs.length f3, .slice e4 c.lines.length f4] 27)) := (Below.refl _ _).alloc (Nat.le_refl _) _
      have hb8 := hb7.trans (hbB.mono hb7.size)
      have HC8 := Lib.hid (HC5.out.old hb8)
      have HO8 := Lib.hid (HO5.out.old hb8)
      have HD8 := Lib.hid (HD5.out.old hb8)
      have HQ8 := Lib.hid (HQ5.out.old hb8)
      have HE8 := Lib.hid (hd.old hbB)
      have HP8 := Lib.hid (OwnAt.new w7 [.slice e3 c.arrs.length f3, .slice e4 c.lines.length f4] 27)
      have HB8 := Lib.hid (HB5.out.trans (hb8.mono HB5.out.size))
      have hx7 := Lib.hid (HO5.out.old hb7)
      have hy7 := Lib.hid (HQ5.out.old hb7)
      have x0 := hx7.out.at 0 _ rfl
      have x1 := hx7.out.at 1 _ rfl
      have xl := hx7.out.lt
      have y0 := hy7.out.at 0 _ rfl
      have y1 := hy7.out.at 1 _ rfl
      have yl := hy7.out.lt
      clear hb7 hbB hb8 hd HC5 HO5 HD5 HQ5 HB5 HL5 HP2
      go_wp2_with fail
      obtain ⟨W8, hW8⟩ : ∃ W8, (w7.alloc (.cells #[.slice e3 c.arrs.length f3, .slice e4 c.lines.length f4] 27)) = W8 := ⟨_, rfl⟩
      rw [hW8] at HC8 HO8 HD8 HQ8 HE8 HP8 HB8 ⊢
      clear hW8 x0 x1 xl y0 y1 yl hx7 hy7
      refine (HSM.out _ _ _ _ _ HC8.out HD8.out).mono ?_
      rintro e w9 ⟨rfl, hb9⟩
      have HC9 := Lib.hid (HC8.out.old hb9)
      have HE9 := Lib.hid (HE8.out.old hb9)
      have HO9 := Lib.hid (HO8.out.old hb9)
      have HP9 := Lib.hid (HP8.out.old hb9)
      have HB9 := Lib.hid (HB8.out.trans (hb9.mono HB8.out.size))
      have x0 := HO9.out.at 0 _ rfl
      have x1 := HO9.out.at 1 _ rfl
      have y0 := HP9.out.at 0 _ rfl
      have y1 := HP9.out.at 1 _ rfl
      clear hb9 HC8 HO8 HD8 HQ8 HE8 HP8 HB8
      go_wp2_with fail
      refine (HSM.out _ _ _ _ _ HC9.out HE9.out).mono ?_
      rintro e w10 ⟨rfl, hb10⟩
      have HB10 := Lib.hid (HB9.out.trans (hb10.mono HB9.out.size))
      clear hb10
      go_wp2_with fail
      go_ret
      exact ⟨rfl, HB10.out⟩
end Go.Proofs.YtnfkllbkgpmgoaaGreatDoor
