/-
  ScanWords: names, words, numbers and signs are scanned to tokens of their kinds: the walk. Condition: the library's tables lie in memory.
-/
import Derived.Test.YtjmidoncojajcaaDoorScanSe
set_option linter.unusedVariables false
set_option linter.unusedSimpArgs false
namespace Go.Proofs.YtjmidoncojajcaaDoor
open Go.RowKit
set_option maxHeartbeats 4000000
set_option maxRecDepth 100000

theorem gapsC : GapsOk (fun _ => ([32], [])) := gaps_const
theorem zwords_any (raw : List (Int × Int)) (rv : Value) (w : World) (hr : ZRaw2 w raw rv) (hl : ZLib w) :
    Calls Tryd.prog 3 #[rv] w fun e w' => e = .returned (.bool true) ∧ Below w.heap.size w w' := by
  obtain ⟨ra, rc, rfl⟩ := hr.slice
  have HR := Lib.hid hr; have HL := Lib.hid hl
  obtain ⟨i5, hi5, hz5, hs5, hb5⟩ := info_parts ZInfoInt
  have I5 := Lib.hid hi5; have I5z := Lib.hid hz5; have I5s := Lib.hid hs5; have I5b := Lib.hid hb5
  obtain ⟨i6, hi6, hz6, hs6, hb6⟩ := info_parts ZInfoStr
  have I6 := Lib.hid hi6; have I6z := Lib.hid hz6; have I6s := Lib.hid hs6; have I6b := Lib.hid hb6
  clear hr hl hi5 hz5 hs5 hb5 hi6 hz6 hs6 hb6
  go_enter Tryd.func3, Tryd.ntmps3
  go_wp2_with fail
  refine (zawake_any w HL.out).mono ?_
  rintro e w1 ⟨rfl, hb1⟩
  have HB1 := Lib.hid hb1
  clear hb1
  go_wp2_with fail
  go_loopw [4, 5, 6, 7] (fun s4 s5 s6 s7 wr => ∃ k : Nat, s4 = .string (strOf (itText (zitsOf (fun _ => ([32], [])) raw k))) ∧ wr.ownsRow w.heap.size 3 1 s5 k (kindsV raw k) ∧ wr.ownsRow w.heap.size 9 1 s6 k (textsV raw k) ∧ Sep s5 s6 ∧ s7 = .int .i64 k ∧ k ≤ raw.length ∧ k ≤ 30 ∧ Below w.heap.size w wr) (fun _ _ _ s7 _ => match s7 with | .int _ n => 30 - n.toNat | _ => 0)
  case atStart => exact ⟨0, rfl, zrow_empty _ _ _ _, zrow_empty _ _ _ _, Sep.nil _, rfl, Nat.zero_le _, Nat.zero_le _, HB1.out⟩
  case round =>
    obtain ⟨k, rfl, h5, h6, hsep, rfl, hk1, hk2, hbw⟩ := hrel
    have HBW := Lib.hid hbw
    obtain ⟨a5, c5, rfl⟩ := zrow_slice h5
    obtain ⟨a6, c6, rfl⟩ := zrow_slice h6
    have HSEP := Lib.hid hsep
    have H5 := Lib.hid h5; have H6 := Lib.hid h6
    by_cases hk : k < raw.length ∧ k < 30
    · obtain ⟨hkr, hk30⟩ := hk
      obtain ⟨rb, ro, rfl, hrb, r0, r1, i0, i1⟩ := (HR.out.old hbw).at k hkr
      have HW : Hid (∀ w1, Calls Tryd.prog 8 #[.int .i64 (raw.getD k (0, 0)).1, .int .i64 (raw.getD k (0, 0)).2] w1 fun e w' => e = .returned (.tuple #[.string (strOf (zw raw k).1), .int .i64 (zw raw k).2.1]) ∧ Below w1.heap.size w1 w') := fun w1 => zword_any _ _ i0 i1 w1
      have hxl : (zw raw k).1.length ≤ 20 := (zword_ok _ _).2
      have hSl := zits_len gapsC raw k
      have eS := Lib.hid (zits_text (fun _ => ([32], [])) raw k)
      have eK := Lib.hid (kindsV_succ raw k)
      have eT := Lib.hid (textsV_succ raw k)
      have hkrI : (k : Int) < (raw.length : Int) := by omega
      have hk30I : (k : Int) < 30 := by omega
      have hS1 : Hid (strOf (itText (zitsOf (fun _ => ([32], [])) raw k)) ++ strOf (zw raw k).1 ++ strOf [32] = strOf (itText (zitsOf (fun _ => ([32], [])) raw (k + 1)))) := by
        show _ = _
        rw [strOf_app, strOf_app, eS.out, List.append_assoc]; rfl
      have n1 : ¬ ((strOf (itText (zitsOf (fun _ => ([32], [])) raw k))).size + (strOf (zw raw k).1).size > 9223372036854775807) := by rw [strOf_sz, strOf_sz]; omega
      have n4 : ¬ (9223372036854775807 < (strOf (itText (zitsOf (fun _ => ([32], [])) raw k))).size + (strOf (zw raw k).1).size + 1) := by rw [strOf_sz, strOf_sz]; omega
      clear hSl hxl eS i0 i1 h5 h6 hsep hbw
      generalize (zw raw k).2.1 = kd at *
      generalize strOf (zw raw k).1 = x at *
      generalize strOf (itText (zitsOf (fun _ => ([32], [])) raw k)) = S at *
      generalize (raw.getD k (0, 0)).1 = ca at *
      generalize (raw.getD k (0, 0)).2 = cb at *
      go_wp2_with fail
      go_region_held3 (fun w' => w'.cell? ⟨rb, ro + k * 2, none⟩ = some (.int .i64 ca) ∧ w'.cell? ⟨rb, ro + k * 2 + 1, none⟩ = some (.int .i64 cb)) (first | (simp [*]; done) | go_keep) (first
        | (go_at_call 8; refine (HW.out _).mono ?_; rintro e w4 ⟨he, hb4⟩; subst he; have HB4 := Lib.hid (HBW.out.drew.trans (hb4.mono HBW.out.size)); have k0 : w4.cell? ⟨rb, ro + k * 2, none⟩ = some (.int .i64 ca) := below_keeps hb4 r0; have k1 : w4.cell? ⟨rb, ro + k * 2 + 1, none⟩ = some (.int .i64 cb) := below_keeps hb4 r1; have hbd := (Below.refl wr.heap.size wr).drew.trans hb4; have H54 := Lib.hid (zrow_old H5.out hbd); have H64 := Lib.hid (zrow_old H6.out hbd); clear hb4 hbd))
      go_upto_region 10 with (fail)
      clear k0 k1
      have hbA : Below w4.heap.size w4 (w4.alloc (.cells #[.int .i64 kd] 3)) := (Below.refl _ _).alloc (Nat.le_refl _) _
      have H5A := Lib.hid (zrow_old H54.out hbA)
      have H6A := Lib.hid (zrow_old H64.out hbA)
      have HBA := Lib.hid (HB4.out.trans (hbA.mono HB4.out.size))
      have HN := Lib.hid (OwnAt.new w4 [.int .i64 kd] 3)
      clear hbA
      go_upto_region 11 with (at_builtin; (refine wpList_append_lies (P := Tryd.prog) _ rfl _ _ 24 rfl w.heap.size 3 i5 _ 1 8 Tryd.underlying24 I5.out I5z.out I5s.out I5b.out rfl (by decide) (.slice a5 k c5) k (kindsV raw k) rfl H5A.out ⟨w4.heap.size, 0, none⟩ 1 1 [.int .i64 kd] rfl rfl HN.out.news (by intro u hu; simp only [List.mem_cons, List.not_mem_nil, or_false] at hu; subst hu; rfl) (by decide) (by unfold maxLen; omega) (by omega) (by have := HBA.out.size; exact this) _ rfl ?_; intro g cap w11 hown hgrow hat hlt11; have HB5 := Lib.hid (zbelow_grow HBA.out hgrow (fun q e => (zrow_lt H5A.out q e).1) HBA.out.size); have H65 := Lib.hid (HSEP.out.kept H6A.out hgrow); have HS5 := Lib.hid (HSEP.out.next (n := k + 1) (cap := cap) (fun q e => (zrow_lt H6A.out q e).2) hat); have H55 := Lib.hid hown; clear hown hgrow hat))
      have hbA : Below w11.heap.size w11 (w11.alloc (.cells #[.string x] 9)) := (Below.refl _ _).alloc (Nat.le_refl _) _
      have H5B := Lib.hid (zrow_old H55.out hbA)
      have H6B := Lib.hid (zrow_old H65.out hbA)
      have HBB := Lib.hid (HB5.out.trans (hbA.mono HB5.out.size))
      have HN2 := Lib.hid (OwnAt.new w11 [.string x] 9)
      clear hbA
      go_wp2_with (at_builtin; (refine wpList_append_lies (P := Tryd.prog) _ rfl _ _ 25 rfl w.heap.size 9 i6 _ 1 16 Tryd.underlying25 I6.out I6z.out I6s.out I6b.out rfl (by decide) (.slice a6 k c6) k (textsV raw k) rfl H6B.out ⟨w11.heap.size, 0, none⟩ 1 1 [.string x] rfl rfl HN2.out.news (by intro u hu; simp only [List.mem_cons, List.not_mem_nil, or_false] at hu; subst hu; rfl) (by decide) (by unfold maxLen; omega) (by omega) (by have := HBB.out.size; exact this) _ rfl ?_; intro g2 cap2 w12 hown hgrow hat hlt12; have HB6 := Lib.hid (zbelow_grow HBB.out hgrow (fun q e => (zrow_lt H6B.out q e).1) HBB.out.size); have H56 := Lib.hid (HS5.out.symm.kept H5B.out hgrow); have HS6 := Lib.hid (HS5.out.symm.next (n := k + 1) (cap := cap2) (fun q e => (zrow_lt H5B.out q e).2) hat); have H66 := Lib.hid hown; clear hown hgrow hat))
      go_roundw
      case rel => exact ⟨k + 1, congrArg Value.string hS1.out, by rw [eK.out]; exact H56.out, by rw [eT.out]; exact H66.out, HS6.out.symm, rfl, hkr, hk30, HB6.out⟩
      case measure => simp; omega
    · have hSl := zits_len gapsC raw k
      have HSC := Lib.hid (fun w1 h => scan_good0 (zitsOf (fun _ => ([32], [])) raw k) (zits_ok gapsC raw k) (by omega) w1 h)
      have HAT := Lib.hid (fun i (h : i < k) => zall_at [] [] (fun _ => ([32], [])) raw k i h)
      have HEN := Lib.hid (zall_end [] [] (fun _ => ([32], [])) raw k)
      have hLl : (zall [] [] (zitsOf (fun _ => ([32], [])) raw k)).length = k + 1 := by rw [zall_len, zits_count]
      have HLw := Lib.hid (HL.out.old hbw)
      obtain ⟨L, hLL⟩ : ∃ L, zall [] [] (zitsOf (fun _ => ([32], [])) raw k) = L := ⟨_, rfl⟩
      rw [hLL] at hLl HSC HAT HEN
      obtain ⟨S, hS⟩ : ∃ S, itText (zitsOf (fun _ => ([32], [])) raw k) = S := ⟨_, rfl⟩
      rw [hS] at HSC hSl ⊢
      clear hLL hS hbw h5 h6 hsep
      have hcase : (raw.length : Int) ≤ (k : Int) ∨ ((k : Int) < (raw.length : Int) ∧ (30 : Int) ≤ (k : Int)) := by omega
      rcases hcase with hc | ⟨hc, hd⟩
      all_goals
        go_wp2_with fail
        refine (HSC.out _ HLw.out).mono ?_
        rintro e w2 ⟨hb2, v, rfl, ht2, _⟩
        obtain ⟨va, vc, rfl, hvc⟩ := ht2.slice
        have HT2 := Lib.hid ht2
        have HB2 := Lib.hid (HBW.out.trans (hb2.mono HBW.out.size))
        have H52 := Lib.hid (zrow_old H5.out hb2)
        have H62 := Lib.hid (zrow_old H6.out hb2)
        obtain ⟨tb, tf, rfl, htb, u0, u1, u2, u3⟩ := ht2.at k (by omega)
        rw [HEN.out] at u0
        have hkI : (k : Int) < (L.length : Int) := by omega
        have hLI : (L.length : Int) = (k : Int) + 1 := by omega
        clear hb2 ht2 u1 u2 u3
        rw [hLl] at hkI ⊢
        go_wp2_with fail
        go_loopw [13] (fun s13 wq => ∃ j : Nat, s13 = .int .i64 j ∧ j ≤ k ∧ Below w2.heap.size w2 wq) (fun s13 _ => match s13 with | .int _ n => k - n.toNat | _ => 0)
        case atStart => exact ⟨0, rfl, Nat.zero_le _, Below.refl _ _⟩
        case round =>
          obtain ⟨j, rfl, hj, hbq⟩ := hrel
          have HBQ := Lib.hid hbq
          by_cases hjk : j < k
          · obtain ⟨tb', tf', heq, htb', t0, t1, t2, t3⟩ := (HT2.out.old hbq).at j (by omega)
            cases heq
            obtain ⟨g5, rfl, hg5, c5⟩ := zrow_cell (zrow_old H52.out hbq) j _ hjk (kindsV_at raw k j hjk)
            obtain ⟨g6, rfl, hg6, c6⟩ := zrow_cell (zrow_old H62.out hbq) j _ hjk (textsV_at raw k j hjk)
            have hat := HAT.out j hjk
            have e0 : (tkAt L j).kind = (zw raw j).2.1 := by rw [hat]; rfl
            have e1 : (tkAt L j).text = (zw raw j).1 := by rw [hat]; rfl
            have e3 : (tkAt L j).line = 1 := by
              rw [hat]
              show ((zlines _ (1 + feeds (gapText [] [])) j : Nat) : Int) = 1
              rw [zlines_const]; decide
            rw [e0] at t0; rw [e1] at t1; rw [e3] at t3
            have hpk : ((zw raw j).2.1 = 1 ∧ isName (zw raw j).1 = true) ∨ ((zw raw j).2.1 = 2 ∧ isWord (zw raw j).1 = true) ∨ (zw raw j).2.1 = 3 ∨ (zw raw j).2.1 = 4 := (zword_ok _ _).1.kinds
            have hjI : (j : Int) < (k : Int) := by omega
            have hjL : (j : Int) < (k : Int) + 1 := by omega
            clear hat e0 e1 e3 t2 hbq
            generalize (zw raw j).2.1 = kd at *
            generalize (zw raw j).1 = x at *
            rcases hpk with ⟨rfl, hn⟩ | ⟨rfl, hn⟩ | rfl | rfl
            · obtain ⟨Ix, hIx, F, HFB, HFI⟩ := lat_fun wr
              have HCL : Hid (∀ n, Calls Tryd.prog 10 #[.string (strOf x)] (F n) fun e w' => e = .returned (.bool true) ∧ ∃ m, w' = F m) := fun n => by
                refine (name_any x (F n)).mono ?_
                rw [hn]
                rintro e w' ⟨he, hb⟩
                exact ⟨he, HFI.out w' ((HFB.out n).trans (hb.mono (HFB.out n).size))⟩
              have q0 : ∀ n, (F n).cell? ⟨tb, tf + j * 4, none⟩ = some (.int .i64 1) := fun n => below_keeps (HFB.out n) t0
              have q1 : ∀ n, (F n).cell? ⟨tb, tf + j * 4 + 1, none⟩ = some (.string (strOf x)) := fun n => below_keeps (HFB.out n) t1
              have q3 : ∀ n, (F n).cell? ⟨tb, tf + j * 4 + 3, none⟩ = some (.int .i64 1) := fun n => below_keeps (HFB.out n) t3
              have q5 : ∀ n, (F n).cell? ⟨g5, j, none⟩ = some (.int .i64 1) := fun n => below_keeps (HFB.out n) c5
              have q6 : ∀ n, (F n).cell? ⟨g6, j, none⟩ = some (.string (strOf x)) := fun n => below_keeps (HFB.out n) c6
              have HST : Hid (∃ n, wr.drew = F n) := HFI.out _ (Below.refl _ _).drew
              clear hn
              go_wp2_with fail
              refine region_in F (by kernel_rfl) (by kernel_rfl) HST.out ?_
              repeat (go_big_quiet_step ((go_at_call 10; exact HCL.out _)))
              refine wpQuiet_nil ?_
              intro _ hw'
              obtain ⟨nq, hw''⟩ := hw'
              subst hw''
              go_wp2_with fail
              go_roundw
              case rel => exact ⟨j + 1, rfl, hjk, HBQ.out.trans ((HFB.out nq).mono HBQ.out.size)⟩
              case measure => simp; omega
            · obtain ⟨Ix, hIx, F, HFB, HFI⟩ := lat_fun wr
              have HCL : Hid (∀ n, Calls Tryd.prog 11 #[.string (strOf x)] (F n) fun e w' => e = .returned (.bool true) ∧ ∃ m, w' = F m) := fun n => by
                refine (word_any x (F n)).mono ?_
                rw [hn]
                rintro e w' ⟨he, hb⟩
                exact ⟨he, HFI.out w' ((HFB.out n).trans ((Below.of_eq' hb).mono (HFB.out n).size))⟩
              have q0 : ∀ n, (F n).cell? ⟨tb, tf + j * 4, none⟩ = some (.int .i64 2) := fun n => below_keeps (HFB.out n) t0
              have q1 : ∀ n, (F n).cell? ⟨tb, tf + j * 4 + 1, none⟩ = some (.string (strOf x)) := fun n => below_keeps (HFB.out n) t1
              have q3 : ∀ n, (F n).cell? ⟨tb, tf + j * 4 + 3, none⟩ = some (.int .i64 1) := fun n => below_keeps (HFB.out n) t3
              have q5 : ∀ n, (F n).cell? ⟨g5, j, none⟩ = some (.int .i64 2) := fun n => below_keeps (HFB.out n) c5
              have q6 : ∀ n, (F n).cell? ⟨g6, j, none⟩ = some (.string (strOf x)) := fun n => below_keeps (HFB.out n) c6
              have HST : Hid (∃ n, wr.drew = F n) := HFI.out _ (Below.refl _ _).drew
              clear hn
              go_wp2_with fail
              refine region_in F (by kernel_rfl) (by kernel_rfl) HST.out ?_
              repeat (go_big_quiet_step ((go_at_call 11; exact HCL.out _)))
              refine wpQuiet_nil ?_
              intro _ hw'
              obtain ⟨nq, hw''⟩ := hw'
              subst hw''
              go_wp2_with fail
              go_roundw
              case rel => exact ⟨j + 1, rfl, hjk, HBQ.out.trans ((HFB.out nq).mono HBQ.out.size)⟩
              case measure => simp; omega
            all_goals
              go_wp2_with fail
              go_quiet (fail)
              go_wp2_with fail
              go_roundw
              case rel => exact ⟨j + 1, rfl, hjk, below_drewN HBQ.out _⟩
              case measure => simp; omega
          · have hjI : (k : Int) ≤ (j : Int) := by omega
            clear hbq
            go_wp2_with fail
            go_ret
            exact ⟨rfl, HB2.out.trans (HBQ.out.mono HB2.out.size)⟩
end Go.Proofs.YtjmidoncojajcaaDoor
