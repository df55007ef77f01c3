/-
  Print: code's text. Conditions: labels and names are no longer than memory, numbers fit ints, there are no more than a thousand arrays; the library's table lies in memory.
-/
import Derived.Test.YtnfkllbkgpmgoaaGreatDoorAsmD
import Derived.Test.YtnfkllbkgpmgoaaGreatDoorInstrD
set_option linter.unusedVariables false
set_option linter.unusedSimpArgs false
namespace Go.Proofs.YtnfkllbkgpmgoaaGreatDoor
open Go.RowKit
set_option maxHeartbeats 4000000
set_option maxRecDepth 100000

theorem flat_le {α : Type} (f : α → Bs) (n : Nat) : ∀ l : List α, (∀ x, x ∈ l → (f x).length ≤ n) → (l.flatMap f).length ≤ l.length * n
  | [], _ => by simp
  | x :: l, h => by
    have h1 := h x List.mem_cons_self
    have h2 := flat_le f n l (fun y hy => h y (List.mem_cons_of_mem _ hy))
    rw [List.flatMap_cons, List.length_append, List.length_cons, Nat.add_mul]
    omega
theorem text_len (x : Ins) (hx : FitsI x) (hr : rightI x = true) : (textI x).length ≤ 300 := by
  have hf := form_len x.op
  have h1 : ((rowI x.op).2.flatMap (pieceI x)).length ≤ (rowI x.op).2.length * 41 := by
    refine flat_le _ 41 _ fun c hc => ?_
    rcases print_cases x hx hr c hc with ⟨_, h, h2, _⟩ | ⟨_, h, _⟩ | ⟨_, j, v, _, _, h3, h4, h5⟩
    · rw [h]; omega
    · rw [h]; simp
    · have := Lib.itoa_length_le v h3 h4
      rcases h5 with ⟨_, h⟩ | ⟨_, _, h⟩
      · rw [h]; omega
      · rw [h, List.length_cons]; omega
  have h2 : (rowI x.op).2.length * 41 ≤ 7 * 41 := Nat.mul_le_mul_right _ hf.2
  unfold textI
  rw [List.length_append, List.length_append]
  split
  · simp only [List.length_nil]; omega
  · simp only [List.length_cons, List.length_nil]; omega
theorem arrT_len (a : Ar) (h : arrBad a = false) : (arrT a).length ≤ 100 := by
  unfold arrBad at h
  simp only [Bool.or_eq_false_iff, Bool.not_eq_false', decide_eq_false_iff_not] at h
  have h1 := (label_mem h.1).2.2
  have h2 := Lib.itoa_length_le a.size (by omega) (by omega)
  unfold arrT
  simp only [List.length_append, List.length_cons, List.length_nil]
  omega
theorem lineT_len (x : Ln) (hx : FitsI x.ins) (h : wellB x = true) : (lineT x).length ≤ 310 := by
  unfold lineT
  unfold wellB at h
  by_cases hl : x.label = []
  · rw [if_pos hl] at h
    rw [if_neg (by simp [hl])]
    have := text_len _ hx h
    simp only [List.length_append, List.length_cons, List.length_nil]
    omega
  · rw [if_neg hl] at h
    simp only [Bool.and_eq_true] at h
    have := (label_mem h.1).2.2
    rw [if_pos hl]
    simp only [List.length_append, List.length_cons, List.length_nil]
    omega
theorem arrsE_each {l : List Ar} (h : arrsE l = 0) : ∀ a, a ∈ l → arrBad a = false := by
  intro a ha
  cases hb : arrBad a with
  | false => rfl
  | true => rw [arrsE_bad ha hb] at h; cases h
theorem take_flat {α : Type} (f : α → Bs) (l : List α) (k : Nat) (hk : k < l.length) : (l.take (k + 1)).flatMap f = (l.take k).flatMap f ++ f l[k] := by
  have e : l.take (k + 1) = l.take k ++ [l[k]] := by rw [List.take_add_one, List.getElem?_eq_getElem hk]; rfl
  rw [e, List.flatMap_append]; simp
theorem bs_app (a b : Bs) : strOf a ++ strOf b = strOf (a ++ b) := by
  apply ByteArray.ext
  show (strOf a ++ strOf b).data = _
  rw [ByteArray.data_append]
  simp [strOf]
theorem codePrint_any (c : Cd) (va vl : Value) (w : World) (hc : CodeAt w c va vl) (hs : ShortC c) (ha : c.arrs.length ≤ 1000) (hf : ∀ x, x ∈ c.lines → FitsI x.ins) (hl : ILib w) :
    Calls Tryz.prog 11 #[.agg #[va, vl]] w fun e w' => e = .returned (.tuple #[.string (strOf (printC c).1), .int .i64 (printC c).2]) ∧ Below w.heap.size w w' := by
  obtain ⟨a, cap, rfl⟩ := RwAt.shape hc.2
  obtain ⟨a2, cap2, rfl⟩ := RwAt.shape hc.1
  have hln := RwAt.len hc.2
  have hl63 : (c.lines.length : Int) ≤ 140737488355328 := by omega
  have ha63 : (c.arrs.length : Int) ≤ 1000 := by omega
  have HB := Lib.hid ((Below.refl w.heap.size w).alloc (Nat.le_refl _) (.cells #[.slice a2 c.arrs.length cap2, .slice a c.lines.length cap] 27))
  have HC := Lib.hid (hc.old HB.out)
  have HS := Lib.hid hs
  have HLB := Lib.hid (hl.old HB.out)
  have HF := Lib.hid hf
  have HO := Lib.hid (OwnAt.new w [.slice a2 c.arrs.length cap2, .slice a c.lines.length cap] 27)
  have HCH := Lib.hid (check_any c _ _ _ HC.out hs)
  clear hc hs hl hf
  by_cases hz : (checkC c).1 = 0
  · obtain ⟨z2, hz2⟩ : ∃ z2, (checkC c).2 = z2 := ⟨_, rfl⟩
    have HZ := Lib.hid hz
    obtain ⟨hn, hne, hlines⟩ := checkC_open hz
    have HLI := Lib.hid hlines
    have HAB := Lib.hid (arrsE_each hne)
    rw [hz, hz2] at HCH
    clear hz hz2 hne hlines
    have HPR : Hid (printC c = (codeT c, 0)) := by show _ = _; unfold printC; rw [if_pos HZ.out]
    rw [HPR.out]
    go_enter Tryz.func11, Tryz.ntmps11
    go_wp2_with (go_at_call 16; refine (HCH.out).mono ?_; rintro e w5 ⟨rfl, hb5⟩; have HO5 := Lib.hid (HO.out.old hb5); have HB5 := Lib.hid (HB.out.trans (hb5.mono HB.out.size)); have HC5 := Lib.hid (HC.out.old hb5); have HL5 := Lib.hid (HLB.out.old hb5); have d0 := HO5.out.at 0 _ rfl; have d1 := HO5.out.at 1 _ rfl; have hOl := HO5.out.lt; clear hb5)
    obtain ⟨X, hX⟩ : ∃ X, w5.heap.size = X := ⟨_, rfl⟩
    have HBL0 := Lib.hid (show BldAt w5.heap.size w5.heap.size [] (w5.alloc (.cells #[.pointer none, .slice none 0 0] 58)) from Lib.fresh_isBuilder 58 5 w5)
    have HBX0 := Lib.hid ((Below.refl w5.heap.size w5).alloc (Nat.le_refl _) (.cells #[.pointer none, .slice none 0 0] 58))
    have hX1 : (w5.alloc (.cells #[.pointer none, .slice none 0 0] 58)).heap.size = X + 1 := by simp [hX]
    rw [hX] at HBL0 HBX0 hOl ⊢
    generalize hW6 : w5.alloc (.cells #[.pointer none, .slice none 0 0] 58) = W6 at *
    clear d0 d1
    have HX := Lib.hid hX
    clear hX hW6
    go_loopw [23] (fun s23 wr => ∃ k : Nat, k ≤ c.arrs.length ∧ s23 = .int .i64 k ∧ Hid (BldAt X X ((c.arrs.take k).flatMap arrT) wr) ∧ Hid (Below X w5 wr)) (fun s23 _ => c.arrs.length - (intOf s23).toNat)
    case atStart => exact ⟨0, Nat.zero_le _, rfl, HBL0, HBX0⟩
    case round =>
      obtain ⟨k, hk, rfl, H1, H2⟩ := hrel
      have hb2 : Below w5.heap.size w5 wr := by rw [HX.out]; exact H2.out
      have HOR := Lib.hid (HO5.out.old hb2)
      have HCR := Lib.hid (HC5.out.old hb2)
      have HLR := Lib.hid (HL5.out.old hb2)
      have q0 := HOR.out.at 0 _ rfl
      have q1 := HOR.out.at 1 _ rfl
      have hbl1 := bld_lt H1.out
      clear hb2
      by_cases hlt : k < c.arrs.length
      · obtain ⟨b, off, rfl, hbl, c0, c1⟩ := ArwAt.at HCR.out.1 hlt
        have hgood := HAB.out _ (List.getElem_mem hlt)
        have hnext := take_flat arrT c.arrs k hlt
        have hacc : ((c.arrs.take k).flatMap arrT).length ≤ 100000 := by
          have h1 := flat_le arrT 100 (c.arrs.take k) (fun x hx => arrT_len x (HAB.out x (List.mem_of_mem_take hx)))
          have h2 : (c.arrs.take k).length ≤ k := by rw [List.length_take]; omega
          omega
        obtain ⟨x, hx⟩ : ∃ x, c.arrs[k] = x := ⟨_, rfl⟩
        rw [hx] at c0 c1 hgood hnext
        clear hx
        obtain ⟨nm, sz⟩ := x
        dsimp only at c0 c1
        obtain ⟨acc, hac⟩ : ∃ acc, (c.arrs.take k).flatMap arrT = acc := ⟨_, rfl⟩
        rw [hac] at hacc hnext H1
        have HNX := Lib.hid hnext
        have htl := arrT_len _ hgood
        unfold arrBad at hgood
        simp only [Bool.or_eq_false_iff, Bool.not_eq_false', decide_eq_false_iff_not] at hgood
        have hnl := (label_mem hgood.1).2.2
        have hs0 : -9223372036854775808 ≤ sz := by omega
        have hs1 : sz ≤ 9223372036854775807 := by omega
        have hil := Lib.itoa_length_le sz hs0 hs1
        have HIT := Lib.hid (fun w' h => itoa_any sz hs0 hs1 w' h)
        have HWS := Lib.hid (fun w' h => writeString_any X X acc (arrT ⟨nm, sz⟩) w' h (by omega))
        have eT : arrT ⟨nm, sz⟩ = [46, 97, 114, 114, 97, 121, 32] ++ (nm ++ (32 :: (Lib.itoa sz ++ [10]))) := rfl
        generalize Lib.itoa sz = it at *
        have HET := Lib.hid eT
        clear eT hnext hac hgood htl
        have hBX := (Below.refl wr.heap.size wr).alloc (Nat.le_refl _) (.cells #[.string (strOf nm), .int .i64 sz] 51)
        have HX9 := Lib.hid ((OwnAt.new wr [.string (strOf nm), .int .i64 sz] 51).old (Below.refl _ _).drew)
        have HBLd := Lib.hid (bld_old (bld_old H1.out hBX) (Below.refl _ _).drew)
        have HLd := Lib.hid ((HLR.out.old hBX).old (Below.refl _ _).drew)
        have HBd := Lib.hid (H2.out.trans ((hBX.trans ((Below.refl _ _).drew.mono hBX.size)).mono (Nat.le_of_lt (by omega))))
        clear hBX
        go_upto_region 8 with (fail)
        generalize hW9 : (wr.alloc (.cells #[.string (strOf nm), .int .i64 sz] 51)) = W9 at *
        have hYl : wr.heap.size < W9.heap.size := by rw [← hW9]; simp
        obtain ⟨Y, hY⟩ : ∃ Y, wr.heap.size = Y := ⟨_, rfl⟩
        have hXY : X < Y := by rw [← hY]; exact hbl1.2
        rw [hY] at HX9 hYl ⊢
        clear hW9 c0 c1
        have c0 : W9.cell? ⟨Y, 0, none⟩ = some (.string (strOf nm)) := HX9.out.at 0 _ rfl
        have c1 : W9.cell? ⟨Y, 1, none⟩ = some (.int .i64 sz) := HX9.out.at 1 _ rfl
        have hcat : ({ data := #[46, 97, 114, 114, 97, 121, 32] } : ByteArray) ++ strOf nm ++ { data := #[32] } ++ strOf it ++ { data := #[10] } = strOf (arrT ⟨nm, sz⟩) := by
          rw [HET.out]
          show strOf [46, 97, 114, 114, 97, 121, 32] ++ strOf nm ++ strOf [32] ++ strOf it ++ strOf [10] = _
          rw [bs_app, bs_app, bs_app, bs_app]
          simp
        have l1 : (9223372036854775807 < 7 + List.length nm) = False := eq_false (by omega)
        have l2 : (9223372036854775807 < 7 + List.length nm + 1) = False := eq_false (by omega)
        have l3 : (9223372036854775807 < 7 + List.length nm + 1 + it.length) = False := eq_false (by omega)
        have l4 : (9223372036854775807 < 7 + List.length nm + 1 + it.length + 1) = False := eq_false (by omega)
        go_region_held3 (fun w' => w'.cell? ⟨Y, 0, none⟩ = some (.string (strOf nm)) ∧ w'.cell? ⟨Y, 1, none⟩ = some (.int .i64 sz)) (first | (simp [*, World.cell?_alloc_lt]; done) | go_keep) (first
          | (go_at_call 20; refine (HIT.out _ HLd.out.pow).mono ?_; rintro r w4 ⟨he, hb4⟩; subst he; have HX4 := Lib.hid (HX9.out.old hb4); have HBL4 := Lib.hid (bld_old HBLd.out hb4); have HB4 := Lib.hid (HBd.out.trans (hb4.mono (by have := (bld_lt HBLd.out).2; omega))); have g0 : w4.cell? ⟨Y, 0, none⟩ = some (.string (strOf nm)) := HX4.out.at 0 _ rfl; have g1 : w4.cell? ⟨Y, 1, none⟩ = some (.int .i64 sz) := HX4.out.at 1 _ rfl; clear hb4)
          | (go_at_call 19; refine (HWS.out _ HBL4.out).mono ?_; rintro r w5' ⟨he, hbl5, hbw5, hkp5⟩; subst he; have HBL5 := Lib.hid hbl5; have HB6 := Lib.hid (HB4.out.trans hbw5); have hX5 := HX4.out.kept hkp5 (by simp; omega) (by decide); have k0 : w5'.cell? ⟨Y, 0, none⟩ = some (.string (strOf nm)) := hX5.at 0 _ rfl; have k1 : w5'.cell? ⟨Y, 1, none⟩ = some (.int .i64 sz) := hX5.at 1 _ rfl; clear hbl5 hbw5 hkp5 hX5))
        go_wp2_with fail
        refine ⟨⟨k + 1, hlt, by first | rfl | (simp; done) | go_num, ?_, HB6⟩, by simp [intOf]; omega⟩
        rw [HNX.out]; exact HBL5
      · have he : k = c.arrs.length := by omega
        subst he
        rw [List.take_length] at H1
        have hal : (c.arrs.flatMap arrT).length ≤ 100000 := by
          have h1 := flat_le arrT 100 c.arrs (fun x hx => arrT_len x (HAB.out x hx))
          omega
        obtain ⟨AT, hAT⟩ : ∃ AT, c.arrs.flatMap arrT = AT := ⟨_, rfl⟩
        rw [hAT] at H1 hal
        have HCT : Hid (codeT c = AT ++ c.lines.flatMap lineT) := by show _ = _; unfold codeT; rw [hAT]
        clear hAT
        go_wp2_with fail
        go_loopw [41] (fun s41 wr => ∃ k : Nat, k ≤ c.lines.length ∧ s41 = .int .i64 k ∧ Hid (BldAt X X (AT ++ (c.lines.take k).flatMap lineT) wr) ∧ Hid (Below X w5 wr)) (fun s41 _ => c.lines.length - (intOf s41).toNat)
        case atStart => exact ⟨0, Nat.zero_le _, rfl, by simpa using H1, H2⟩
        case round =>
          clear HOR HCR HLR q0 q1 hbl1 H1 H2
          obtain ⟨k, hk, rfl, H1, H2⟩ := hrel
          have hb2 : Below w5.heap.size w5 wr := by rw [HX.out]; exact H2.out
          have HOR := Lib.hid (HO5.out.old hb2)
          have HCR := Lib.hid (HC5.out.old hb2)
          have HLR := Lib.hid (HL5.out.old hb2)
          have hbl1 := bld_lt H1.out
          clear hb2
          by_cases hlt : k < c.lines.length
          · obtain ⟨b, off, rfl, hbl, c0, c1, c2, c3, c4, c5, c6⟩ := LnsAt.at HCR.out.2 hlt
            have hwell := ((lineE_zero).1 (HLI.out k hlt)).1
            have hfit := HF.out _ (List.getElem_mem hlt)
            have hsh := HS.out.lines _ (List.getElem_mem hlt)
            have hnext := take_flat lineT c.lines k hlt
            have hacc : (AT ++ (c.lines.take k).flatMap lineT).length ≤ 100000000 := by
              have h1 := flat_le lineT 310 (c.lines.take k) (fun x hx => by
                obtain ⟨i, hi, rfl⟩ := List.getElem_of_mem (List.mem_of_mem_take hx)
                exact lineT_len _ (HF.out _ (List.getElem_mem hi)) ((lineE_zero).1 (HLI.out i hi)).1)
              have h2 : (c.lines.take k).length ≤ k := by rw [List.length_take]; omega
              rw [List.length_append]; omega
            have hlen := lineT_len _ hfit hwell
            obtain ⟨x, hx⟩ : ∃ x, c.lines[k] = x := ⟨_, rfl⟩
            rw [hx] at c0 c1 c2 c3 c4 c5 c6 hwell hfit hsh hnext hlen
            clear hx
            obtain ⟨s1, s2⟩ := hsh
            obtain ⟨lab, o, d, aa, bb, n1, nm⟩ := x
            dsimp only at c0 c1 c2 c3 c4 c5 c6 s1 s2 hfit
            obtain ⟨acc, hac⟩ : ∃ acc, AT ++ (c.lines.take k).flatMap lineT = acc := ⟨_, rfl⟩
            have hnx2 : AT ++ (c.lines.take (k + 1)).flatMap lineT = acc ++ lineT ⟨lab, o, d, aa, bb, n1, nm⟩ := by rw [← hac, List.append_assoc, ← hnext]
            rw [hac] at H1 hacc
            have HNX := Lib.hid hnx2
            have HWS := Lib.hid (fun w' h => writeString_any X X acc (lineT ⟨lab, o, d, aa, bb, n1, nm⟩) w' h (by omega))
            have hBX := (Below.refl wr.heap.size wr).alloc (Nat.le_refl _) (.cells #[.string (strOf lab), .int .i64 o, .int .i64 d, .int .i64 aa, .int .i64 bb, .int .i64 n1, .string (strOf nm)] 44)
            have HBL9 := Lib.hid (bld_old H1.out hBX)
            have HL9 := Lib.hid (HLR.out.old hBX)
            have HB9 := Lib.hid (H2.out.trans (hBX.mono (Nat.le_of_lt (by omega))))
            clear hac hnext hnx2 hBX
            cases lab with
            | cons ch lab =>
              have hll : (ch :: lab).length ≤ 40 := by
                unfold wellB at hwell
                rw [if_neg (List.cons_ne_nil _ _)] at hwell
                simp only [Bool.and_eq_true] at hwell
                exact (label_mem hwell.1).2.2
              have hcat : strOf (ch :: lab) ++ ({ data := #[58, 10] } : ByteArray) = strOf (lineT ⟨ch :: lab, o, d, aa, bb, n1, nm⟩) := by
                show strOf (ch :: lab) ++ strOf [58, 10] = _
                rw [bs_app]; rfl
              have HLL := Lib.hid hll
              have HCAT := Lib.hid hcat
              have hl0 : (lab.length : Int) ≤ 40 := by simp at hll; omega
              have hl1 : lab.length + 1 ≤ 40 := by simpa using hll
              have l1 : (9223372036854775807 < List.length lab + 1 + 2) = False := eq_false (by omega)
              clear hcat hll
              go_wp2_with (go_at_call 19; rw [HCAT.out]; refine (HWS.out _ HBL9.out).mono ?_; rintro r w5' ⟨he, hbl5, hbw5, hkp5⟩; subst he; have HBL5 := Lib.hid hbl5; have HB6 := Lib.hid (HB9.out.trans hbw5); clear hbl5 hbw5 hkp5)
              refine ⟨⟨k + 1, hlt, by first | rfl | (simp; done) | go_num, ?_, HB6⟩, by simp [intOf]; omega⟩
              rw [HNX.out]; exact HBL5
            | nil =>
              have hr : rightI ⟨o, d, aa, bb, n1, nm⟩ = true := by
                unfold wellB at hwell
                rw [if_pos rfl] at hwell
                exact hwell
              have htl := text_len _ hfit hr
              have HPI := Lib.hid (fun w' h => print_any ⟨o, d, aa, bb, n1, nm⟩ hfit (by dsimp only; omega) w' h)
              unfold printV insV at HPI
              rw [if_pos hr] at HPI
              dsimp only at HPI
              have eL : lineT ⟨[], o, d, aa, bb, n1, nm⟩ = 9 :: (textI ⟨o, d, aa, bb, n1, nm⟩ ++ [10]) := rfl
              obtain ⟨T, hT⟩ : ∃ T, textI ⟨o, d, aa, bb, n1, nm⟩ = T := ⟨_, rfl⟩
              rw [hT] at HPI htl eL
              have hcat : ({ data := #[9] } : ByteArray) ++ strOf T ++ { data := #[10] } = strOf (lineT ⟨[], o, d, aa, bb, n1, nm⟩) := by
                rw [eL]
                show strOf [9] ++ strOf T ++ strOf [10] = _
                rw [bs_app, bs_app]; rfl
              have HCAT := Lib.hid hcat
              have l1 : (9223372036854775807 < 1 + T.length) = False := eq_false (by omega)
              have l2 : (9223372036854775807 < 1 + T.length + 1) = False := eq_false (by omega)
              clear hcat eL hT hr
              go_wp2_with (first | (go_at_call 21; refine (HPI.out _ HL9.out).mono ?_; rintro r w4 ⟨he, hb4⟩; subst he; have HBL4 := Lib.hid (bld_old HBL9.out hb4); have HB4 := Lib.hid (HB9.out.trans (hb4.mono (by have := (bld_lt HBL9.out).2; omega))); clear hb4) | (go_at_call 19; rw [HCAT.out]; refine (HWS.out _ HBL4.out).mono ?_; rintro r w5' ⟨he, hbl5, hbw5, hkp5⟩; subst he; have HBL5 := Lib.hid hbl5; have HB6 := Lib.hid (HB4.out.trans hbw5); clear hbl5 hbw5 hkp5))
              refine ⟨⟨k + 1, hlt, by first | rfl | (simp; done) | go_num, ?_, HB6⟩, by simp [intOf]; omega⟩
              rw [HNX.out]; exact HBL5
          · have he : k = c.lines.length := by omega
            subst he
            rw [List.take_length, ← HCT.out] at H1
            have HSA := Lib.hid (fun w' h => string_any X X (codeT c) w' h)
            go_wp2_with (go_at_call 22; refine (HSA.out _ H1.out).mono ?_; rintro e w8 ⟨rfl, hb8⟩)
            go_ret2
            exact ⟨rfl, HB5.out.trans ((H2.out.trans hb8).mono (by have := HX.out; have := HB5.out.size; omega))⟩
  · have HR : Hid (printC c = ([], 1)) := by show _ = _; unfold printC; rw [if_neg hz]
    obtain ⟨z1, hz1⟩ : ∃ z1, (checkC c).1 = z1 := ⟨_, rfl⟩
    obtain ⟨z2, hz2⟩ : ∃ z2, (checkC c).2 = z2 := ⟨_, rfl⟩
    rw [HR.out]
    rw [hz1] at hz
    rw [hz1, hz2] at HCH
    have hz' : (z1 == 0) = false := by simpa using hz
    clear hz1 hz2
    go_enter Tryz.func11, Tryz.ntmps11
    go_wp2_with (go_at_call 16; refine (HCH.out).mono ?_; rintro e w5 ⟨rfl, hb5⟩; have HB5 := Lib.hid hb5; clear hb5)
    go_ret2
    exact ⟨rfl, HB.out.trans (HB5.out.mono HB.out.size)⟩
end Go.Proofs.YtnfkllbkgpmgoaaGreatDoor
