/-
  ScanBlanks: comments and blanks ahead, behind and between change nothing but lines: the walk. Condition: the library's tables lie in memory.
-/
import Derived.Test.YtjmidoncojajcaaDoorScanSe
set_option linter.unusedVariables false
set_option linter.unusedSimpArgs false
namespace Go.Proofs.YtjmidoncojajcaaDoor
open Go.RowKit
set_option maxHeartbeats 4000000
set_option maxRecDepth 100000

def linesV (g : Nat → Bs × List (Bs × Bs)) (line k : Nat) : List Value := (List.range k).map (fun i => .int .i64 (zlines g line i : Nat))
theorem linesV_succ (g : Nat → Bs × List (Bs × Bs)) (line k : Nat) : linesV g line (k + 1) = linesV g line k ++ [.int .i64 (zlines g line k : Nat)] := by unfold linesV; rw [List.range_succ, List.map_append]; rfl
theorem linesV_at (g : Nat → Bs × List (Bs × Bs)) (line k j : Nat) (h : j < k) : (linesV g line k)[j]? = some (.int .i64 (zlines g line j : Nat)) := by unfold linesV; rw [List.getElem?_map, List.getElem?_range h]; rfl
theorem zlines_le {g : Nat → Bs × List (Bs × Bs)} (hg : GapsOk g) (line : Nat) : ∀ k, zlines g line k ≤ line + k * 20
  | 0 => by simp [zlines]
  | k + 1 => by
    have h1 := zlines_le hg line k
    have h2 := feeds_le (gapText (g k).1 (g k).2)
    have h3 := hg.len k
    show zlines g line k + feeds (gapText (g k).1 (g k).2) ≤ _
    omega
theorem zblanks_any (raw : List (Int × Int)) (blanks : List Int) (rv bv : Value) (w : World) (hr : ZRaw2 w raw rv) (hb : ZRaw w blanks bv) (hl : ZLib w) :
    Calls Tryd.prog 4 #[rv, bv] w fun e w' => e = .returned (.bool true) ∧ Below w.heap.size w w' := by
  obtain ⟨ra, rc, rfl⟩ := hr.slice
  have HR := Lib.hid hr; have HBL := Lib.hid hb; have HL := Lib.hid hl
  obtain ⟨i5, hi5, hz5, hs5, hb5⟩ := info_parts ZInfoInt
  have I5 := Lib.hid hi5; have I5z := Lib.hid hz5; have I5s := Lib.hid hs5; have I5b := Lib.hid hb5
  obtain ⟨G, hG⟩ : ∃ G : Nat → Bs × List (Bs × Bs), (fun i => zblank blanks (i + 1)) = G := ⟨_, rfl⟩
  have hgo := gaps_raw blanks 1
  rw [hG] at hgo
  have HGO := Lib.hid hgo
  have HGT : Hid (∀ k, zblankT blanks (k + 1) = gapText (G k).1 (G k).2) := fun k => by rw [← hG]; rfl
  obtain ⟨b0, l0, hg0⟩ : ∃ b0 l0, zblank blanks 0 = (b0, l0) := ⟨_, _, rfl⟩
  have h0 := zblank_ok blanks 0
  have hT0 : zblankT blanks 0 = gapText b0 l0 := by unfold zblankT; rw [hg0]
  rw [hT0, hg0] at h0
  have H0 := Lib.hid h0
  have HT0 := Lib.hid hT0
  obtain ⟨L0, hL0⟩ : ∃ L0, 1 + feeds (gapText b0 l0) = L0 := ⟨_, rfl⟩
  have HL0 := Lib.hid hL0
  have hL0l : L0 ≤ 21 := by have := feeds_le (gapText b0 l0); have := h0.2.2; omega
  have hfI : (feeds (gapText b0 l0) : Int) ≤ 20 := by omega
  have hfJ : (0 : Int) ≤ (feeds (gapText b0 l0) : Int) := by omega
  have hL0I : (1 : Int) + (feeds (gapText b0 l0) : Int) = (L0 : Nat) := by omega
  have HL0I := Lib.hid hL0I
  clear hr hb hl hi5 hz5 hs5 hb5 hG hgo h0 hg0 hT0 hL0 hL0I
  go_enter Tryd.func4, Tryd.ntmps4
  go_wp2_with fail
  refine (zawake_any w HL.out).mono ?_
  rintro e w1 ⟨rfl, hb1⟩
  have HB1 := Lib.hid hb1
  have HBL1 := Lib.hid (HBL.out.old hb1)
  clear hb1
  go_wp2_with fail
  refine (zblank_any blanks bv 0 w1 HBL1.out (by decide)).mono ?_
  rw [HT0.out]
  rintro e w2 ⟨rfl, hb2⟩
  have HB2 := Lib.hid (HB1.out.trans (hb2.mono HB1.out.size))
  clear hb2
  go_wp2_with fail
  refine (feeds_any (gapText b0 l0) (by have := H0.out.2.2; omega) w2).mono ?_
  rintro e w3 ⟨rfl, rfl⟩
  go_wp2_with fail
  rw [HL0I.out]
  go_loopw [6, 7, 8, 9, 10] (fun s6 s7 s8 s9 s10 wr => ∃ k : Nat, s6 = .string (strOf (itText (zitsOf (fun _ => ([32], [])) raw k))) ∧ s7 = .string (strOf (gapText b0 l0 ++ itText (zitsOf G raw k))) ∧ s8 = .int .i64 (zlines G L0 k : Nat) ∧ wr.ownsRow w.heap.size 3 1 s9 k (linesV G L0 k) ∧ s10 = .int .i64 k ∧ k ≤ raw.length ∧ k ≤ 20 ∧ Below w.heap.size w wr) (fun _ _ _ _ s10 _ => match s10 with | .int _ n => 20 - n.toNat | _ => 0)
  case atStart => exact ⟨0, rfl, by simp [zitsOf, itText], rfl, zrow_empty _ _ _ _, rfl, Nat.zero_le _, Nat.zero_le _, HB2.out⟩
  case round =>
    obtain ⟨k, rfl, rfl, rfl, h9, rfl, hk1, hk2, hbw⟩ := hrel
    have HBW := Lib.hid hbw
    obtain ⟨a9, c9, rfl⟩ := zrow_slice h9
    have H9 := Lib.hid h9
    by_cases hk : k < raw.length ∧ k < 20
    · obtain ⟨hkr, hk20⟩ := hk
      obtain ⟨rb, ro, rfl, hrb, r0, r1, i0, i1⟩ := (HR.out.old hbw).at k hkr
      have HW : Hid (∀ w1, Calls Tryd.prog 8 #[.int .i64 (raw.getD k (0, 0)).1, .int .i64 (raw.getD k (0, 0)).2] w1 fun e w' => e = .returned (.tuple #[.string (strOf (zw raw k).1), .int .i64 (zw raw k).2.1]) ∧ Below w1.heap.size w1 w') := fun w1 => zword_any _ _ i0 i1 w1
      have HBK : Hid (∀ w1, Below w.heap.size w w1 → Calls Tryd.prog 12 #[bv, .int .i64 ((k : Int) + 1)] w1 fun e w' => e = .returned (.string (strOf (gapText (G k).1 (G k).2))) ∧ Below w1.heap.size w1 w') := fun w1 h1 => by
        have h := zblank_any blanks bv (k + 1) w1 (HBL.out.old h1) (by omega)
        rw [HGT.out] at h
        exact h
      have hxl : (zw raw k).1.length ≤ 20 := (zword_ok _ _).2
      have hSl := zits_len gaps_const raw k
      have hTl := zits_len HGO.out raw k
      have hgl := HGO.out.len k
      have h0l := H0.out.2.2
      have hzl := zlines_le HGO.out L0 k
      have HFE : Hid (∀ w1, Calls Tryd.prog 13 #[.string (strOf (gapText (G k).1 (G k).2))] w1 fun e w' => e = .returned (.int .i64 (feeds (gapText (G k).1 (G k).2))) ∧ w1 = w') := fun w1 => feeds_any _ (by omega) w1
      have hfk := feeds_le (gapText (G k).1 (G k).2)
      have eS := Lib.hid (zits_text (fun _ => ([32], [])) raw k)
      have eT := Lib.hid (zits_text G raw k)
      have eL := Lib.hid (linesV_succ G L0 k)
      have hkrI : (k : Int) < (raw.length : Int) := by omega
      have hk20I : (k : Int) < 20 := by omega
      have hS1 : Hid (strOf (itText (zitsOf (fun _ => ([32], [])) raw k)) ++ strOf (zw raw k).1 ++ strOf [32] = strOf (itText (zitsOf (fun _ => ([32], [])) raw (k + 1)))) := by
        show _ = _
        rw [strOf_app, strOf_app, eS.out, List.append_assoc]; rfl
      have hT1 : Hid (strOf (gapText b0 l0 ++ itText (zitsOf G raw k)) ++ strOf (zw raw k).1 ++ strOf (gapText (G k).1 (G k).2) = strOf (gapText b0 l0 ++ itText (zitsOf G raw (k + 1)))) := by
        show _ = _
        rw [strOf_app, strOf_app, eT.out]
        simp only [List.append_assoc]
      have hZ1 : Hid (((zlines G L0 k : Nat) : Int) + (feeds (gapText (G k).1 (G k).2) : Int) = ((zlines G L0 (k + 1) : Nat) : Int)) := by
        show _ = _
        show _ = ((zlines G L0 k + feeds (gapText (G k).1 (G k).2) : Nat) : Int)
        omega
      have n1 : ¬ ((strOf (itText (zitsOf (fun _ => ([32], [])) raw k))).size + (strOf (zw raw k).1).size > 9223372036854775807) := by rw [strOf_sz, strOf_sz]; omega
      have n4 : ¬ (9223372036854775807 < (strOf (itText (zitsOf (fun _ => ([32], [])) raw k))).size + (strOf (zw raw k).1).size + 1) := by rw [strOf_sz, strOf_sz]; omega
      have n5 : ¬ ((strOf (gapText b0 l0 ++ itText (zitsOf G raw k))).size + (strOf (zw raw k).1).size > 9223372036854775807) := by rw [strOf_sz, strOf_sz, List.length_append]; omega
      have n6 : ¬ ((strOf (gapText b0 l0 ++ itText (zitsOf G raw k)) ++ strOf (zw raw k).1).size + (strOf (gapText (G k).1 (G k).2)).size > 9223372036854775807) := by rw [strOf_app, strOf_sz, strOf_sz, List.length_append, List.length_append]; omega
      have zI : ((zlines G L0 k : Nat) : Int) + (feeds (gapText (G k).1 (G k).2) : Int) ≤ 1000000 := by omega
      have zJ : (0 : Int) ≤ ((zlines G L0 k : Nat) : Int) + (feeds (gapText (G k).1 (G k).2) : Int) := by omega
      clear hSl hTl hgl h0l hzl hxl hfk eS eT i0 i1 h9 hbw
      generalize (zw raw k).2.1 = kd at *
      generalize strOf (zw raw k).1 = x at *
      generalize strOf (itText (zitsOf (fun _ => ([32], [])) raw k)) = S at *
      generalize strOf (gapText b0 l0 ++ itText (zitsOf G raw k)) = T at *
      generalize (feeds (gapText (G k).1 (G k).2) : Int) = fk at *
      generalize strOf (gapText (G k).1 (G k).2) = gb at *
      generalize ((zlines G L0 k : Nat) : Int) = zl at *
      generalize (raw.getD k (0, 0)).1 = ca at *
      generalize (raw.getD k (0, 0)).2 = cb at *
      go_wp2_with fail
      go_region_held3 (fun w' => w'.cell? ⟨rb, ro + k * 2, none⟩ = some (.int .i64 ca) ∧ w'.cell? ⟨rb, ro + k * 2 + 1, none⟩ = some (.int .i64 cb)) (first | (simp [*]; done) | go_keep) (first
        | (go_at_call 8; refine (HW.out _).mono ?_; rintro e w4 ⟨he, hb4⟩; subst he; have HB4 := Lib.hid (HBW.out.drew.trans (hb4.mono HBW.out.size)); have k0 : w4.cell? ⟨rb, ro + k * 2, none⟩ = some (.int .i64 ca) := below_keeps hb4 r0; have k1 : w4.cell? ⟨rb, ro + k * 2 + 1, none⟩ = some (.int .i64 cb) := below_keeps hb4 r1; have hbd := (Below.refl wr.heap.size wr).drew.trans hb4; have H94 := Lib.hid (zrow_old H9.out hbd); clear hb4 hbd))
      go_upto_region 11 with (fail)
      clear k0 k1
      have hbA : Below w4.heap.size w4 (w4.alloc (.cells #[.int .i64 zl] 3)) := (Below.refl _ _).alloc (Nat.le_refl _) _
      have H9A := Lib.hid (zrow_old H94.out hbA)
      have HBA := Lib.hid (HB4.out.trans (hbA.mono HB4.out.size))
      have HN := Lib.hid (OwnAt.new w4 [.int .i64 zl] 3)
      clear hbA
      go_upto_region 12 with (at_builtin; (refine wpList_append_lies (P := Tryd.prog) _ rfl _ _ 24 rfl w.heap.size 3 i5 _ 1 8 Tryd.underlying24 I5.out I5z.out I5s.out I5b.out rfl (by decide) (.slice a9 k c9) k (linesV G L0 k) rfl H9A.out ⟨w4.heap.size, 0, none⟩ 1 1 [.int .i64 zl] rfl rfl HN.out.news (by intro u hu; simp only [List.mem_cons, List.not_mem_nil, or_false] at hu; subst hu; rfl) (by decide) (by unfold maxLen; omega) (by omega) (by have := HBA.out.size; exact this) _ rfl ?_; intro g cap w11 hown hgrow hat hlt11; have HB5 := Lib.hid (zbelow_grow HBA.out hgrow (fun q e => (zrow_lt H9A.out q e).1) HBA.out.size); have H95 := Lib.hid hown; clear hown hgrow hat))
      go_wp2_with fail
      refine (HBK.out _ HB5.out).mono ?_
      rintro e w6 ⟨rfl, hb6⟩
      have HB6 := Lib.hid (HB5.out.trans (hb6.mono HB5.out.size))
      have H96 := Lib.hid (zrow_old H95.out hb6)
      clear hb6
      go_wp2_with fail
      refine (HFE.out _).mono ?_
      rintro e w7 ⟨rfl, rfl⟩
      go_wp2_with fail
      go_roundw
      case rel => exact ⟨k + 1, congrArg Value.string hS1.out, congrArg Value.string hT1.out, congrArg (Value.int .i64) hZ1.out, by rw [eL.out]; exact H96.out, rfl, hkr, hk20, HB6.out⟩
      case measure => simp; omega
    · have hSl := zits_len gaps_const raw k
      have hTl := zits_len HGO.out raw k
      have h0l := H0.out.2.2
      have HSC := Lib.hid (fun w1 h => scan_good0 (zitsOf (fun _ => ([32], [])) raw k) (zits_ok gaps_const raw k) (by omega) w1 h)
      have HSD := Lib.hid (fun w1 h => scan_good b0 l0 H0.out.1 (zitsOf G raw k) (zits_ok HGO.out raw k) (by rw [List.length_append]; omega) w1 h)
      have HLK := Lib.hid (zlike b0 l0 (fun _ => ([32], [])) G raw k)
      have HAT := Lib.hid (fun i (h : i < k) => zall_at b0 l0 G raw k i h)
      have HEN := Lib.hid (zall_end b0 l0 G raw k)
      have hLl : (zall [] [] (zitsOf (fun _ => ([32], [])) raw k)).length = k + 1 := by rw [zall_len, zits_count]
      have hMl : (zall b0 l0 (zitsOf G raw k)).length = k + 1 := by rw [zall_len, zits_count]
      have HLw := Lib.hid (HL.out.old hbw)
      obtain ⟨L, hLL⟩ : ∃ L, zall [] [] (zitsOf (fun _ => ([32], [])) raw k) = L := ⟨_, rfl⟩
      rw [hLL] at hLl HSC HLK
      obtain ⟨M, hMM⟩ : ∃ M, zall b0 l0 (zitsOf G raw k) = M := ⟨_, rfl⟩
      rw [hMM] at hMl HSD HLK HAT HEN
      rw [HL0.out] at HAT HEN
      obtain ⟨S, hS⟩ : ∃ S, itText (zitsOf (fun _ => ([32], [])) raw k) = S := ⟨_, rfl⟩
      rw [hS] at HSC hSl ⊢
      obtain ⟨T, hT⟩ : ∃ T, gapText b0 l0 ++ itText (zitsOf G raw k) = T := ⟨_, rfl⟩
      rw [hT] at HSD ⊢
      clear hLL hMM hS hT hbw h9 hTl h0l
      have hcase : (raw.length : Int) ≤ (k : Int) ∨ ((k : Int) < (raw.length : Int) ∧ (20 : Int) ≤ (k : Int)) := by omega
      rcases hcase with hc | ⟨hc, hd⟩
      all_goals
        go_wp2_with fail
        refine (HSC.out _ HLw.out).mono ?_
        rintro e w2 ⟨hb2, v, rfl, ht2, _⟩
        obtain ⟨va, vc, rfl, hvc⟩ := ht2.slice
        rw [hLl] at ht2 ⊢
        have HT2 := Lib.hid ht2
        have HB2 := Lib.hid (HBW.out.trans (hb2.mono HBW.out.size))
        have H92 := Lib.hid (zrow_old H9.out hb2)
        have HLw2 := Lib.hid (HLw.out.old hb2)
        clear hb2 ht2
        go_wp2_with fail
        refine (HSD.out _ HLw2.out).mono ?_
        rintro e w3 ⟨hb3, v, rfl, ht3, _⟩
        obtain ⟨ua, uc, rfl, huc⟩ := ht3.slice
        rw [hMl] at ht3 ⊢
        have HT3 := Lib.hid ht3
        have HS3 := Lib.hid (HT2.out.old hb3)
        have HB3 := Lib.hid (HB2.out.trans (hb3.mono HB2.out.size))
        have H93 := Lib.hid (zrow_old H92.out hb3)
        clear hb3 ht3
        go_wp2_with fail
        refine (same_any false L M _ _ HLK.out _ HS3.out HT3.out).mono ?_
        rintro e w4 ⟨rfl, hb4⟩
        have HT4 := Lib.hid (HT3.out.old hb4)
        have HB4 := Lib.hid (HB3.out.trans (hb4.mono HB3.out.size))
        have H94 := Lib.hid (zrow_old H93.out hb4)
        clear hb4
        go_wp2_with fail
        go_loopw [20] (fun s20 wq => ∃ j : Nat, s20 = .int .i64 j ∧ j ≤ k ∧ Below w4.heap.size w4 wq) (fun s20 _ => match s20 with | .int _ n => k - n.toNat | _ => 0)
        case atStart => exact ⟨0, rfl, Nat.zero_le _, Below.refl _ _⟩
        case round =>
          obtain ⟨j, rfl, hj, hbq⟩ := hrel
          have HBQ := Lib.hid hbq
          by_cases hjk : j < k
          · obtain ⟨tb, tf, rfl, htb, t0, t1, t2, t3⟩ := (HT4.out.old hbq).at j (by omega)
            obtain ⟨g9, rfl, hg9, c9⟩ := zrow_cell (zrow_old H94.out hbq) j _ hjk (linesV_at G L0 k j hjk)
            have e3 : (tkAt M j).line = (zlines G L0 j : Nat) := by rw [HAT.out j hjk]; rfl
            rw [e3] at t3
            have hjI : (j : Int) < (k : Int) := by omega
            have hjL : (j : Int) < (k : Int) + 1 := by omega
            have hMI : (M.length : Int) = (k : Int) + 1 := by omega
            clear e3 t0 t1 t2 hbq
            generalize ((zlines G L0 j : Nat) : Int) = zl at *
            go_wp2_with fail
            go_quiet (fail)
            go_wp2_with fail
            go_roundw
            case rel => exact ⟨j + 1, rfl, hjk, below_drewN HBQ.out _⟩
            case measure => simp; omega
          · have hjI : (k : Int) ≤ (j : Int) := by omega
            obtain ⟨tb, tf, rfl, htb, t0, t1, t2, t3⟩ := (HT4.out.old hbq).at k (by omega)
            rw [HEN.out] at t3
            have hkL : (k : Int) < (k : Int) + 1 := by omega
            have hMI : (M.length : Int) = (k : Int) + 1 := by omega
            have HBR := Lib.hid (HB4.out.trans (hbq.mono HB4.out.size))
            clear hbq t0 t1 t2
            dsimp only at t3
            generalize ((zlines G L0 k : Nat) : Int) = zl at *
            go_wp2_with fail
            go_ret
            exact ⟨rfl, HBR.out⟩
end Go.Proofs.YtjmidoncojajcaaDoor
