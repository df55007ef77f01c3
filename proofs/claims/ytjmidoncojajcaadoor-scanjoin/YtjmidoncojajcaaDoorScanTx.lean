/-
  ScanTexts: tokens' texts, one behind the other, are the text without its blanks: the walk. Condition: the library's tables lie in memory.
-/
import Derived.Test.YtjmidoncojajcaaDoorScanG
import Derived.Deep.RegionHeld3
set_option linter.unusedVariables false
set_option linter.unusedSimpArgs false
namespace Go.Proofs.YtjmidoncojajcaaDoor
open Go.RowKit
set_option maxHeartbeats 4000000
set_option maxRecDepth 100000

theorem strOf_app (a b : Bs) : strOf a ++ strOf b = strOf (a ++ b) := by
  apply ByteArray.ext; simp [strOf]
theorem strOf_sz (a : Bs) : (strOf a).size = a.length := by show a.toArray.size = _; simp
theorem ztext_at : ∀ j : Fin 4, ([Value.string ⟨#[32]⟩, Value.string ⟨#[10]⟩, Value.string ⟨#[9, 13]⟩, Value.string ⟨#[32, 32]⟩] : List Value)[j.val]'(by simp) = .string (strOf (ztextL.getD j.val [32])) := by
  intro j
  obtain ⟨j, hj⟩ := j
  have : j = 0 ∨ j = 1 ∨ j = 2 ∨ j = 3 := by omega
  rcases this with rfl | rfl | rfl | rfl <;> rfl
theorem flat_take_le {α : Type} (f : α → Bs) (l : List α) (j : Nat) : ((l.take j).flatMap f).length ≤ (l.flatMap f).length := by
  have h := List.take_append_drop j l
  have e : l.flatMap f = (l.take j).flatMap f ++ (l.drop j).flatMap f := by rw [← List.flatMap_append, h]
  rw [e, List.length_append]; omega
theorem flat_take_succ {α : Type} (f : α → Bs) (d : α) (l : List α) (j : Nat) (h : j < l.length) : (l.take (j + 1)).flatMap f = (l.take j).flatMap f ++ f (l.getD j d) := by
  rw [List.take_succ_eq_append_getElem h, List.flatMap_append]
  simp [List.getElem?_eq_getElem h]
theorem ztexts_any (raw : List (Int × Int)) (blanks : List Int) (rv bv : Value) (w : World) (hr : ZRaw2 w raw rv) (hb : ZRaw w blanks bv) (hl : ZLib w) :
    Calls Tryd.prog 6 #[rv, bv] w fun e w' => e = .returned (.bool true) ∧ Below w.heap.size w w' := by
  obtain ⟨ra, rc, rfl⟩ := hr.slice
  obtain ⟨ba, bc, rfl⟩ := hb.slice
  have HR := Lib.hid hr; have HBL := Lib.hid hb; have HL := Lib.hid hl
  obtain ⟨G, hG⟩ : ∃ G : Nat → Bs × List (Bs × Bs), (fun i => (ztextG blanks i, [])) = G := ⟨_, rfl⟩
  have HG := Lib.hid hG
  have hgo := gaps_text blanks
  rw [hG] at hgo
  have HGO := Lib.hid hgo
  clear hr hb hl hG hgo
  go_enter Tryd.func6, Tryd.ntmps6
  go_wp2_with fail
  refine (zawake_any w HL.out).mono ?_
  rintro e w1 ⟨rfl, hb1⟩
  have HB1 := Lib.hid hb1
  clear hb1
  go_wp2_with fail
  go_loopw [6, 7, 8] (fun s6 s7 s8 wr => ∃ k : Nat, s6 = .string (strOf (itText (zitsOf G raw k))) ∧ s7 = .string (strOf (zxs raw k)) ∧ s8 = .int .i64 k ∧ k ≤ raw.length ∧ k ≤ 20 ∧ Below w.heap.size w wr) (fun _ _ s8 _ => match s8 with | .int _ n => 20 - n.toNat | _ => 0)
  case atStart => exact ⟨0, rfl, rfl, rfl, Nat.zero_le _, Nat.zero_le _, HB1.out⟩
  case round =>
    obtain ⟨k, rfl, rfl, rfl, hk1, hk2, hbw⟩ := hrel
    have HBW := Lib.hid hbw
    by_cases hk : k < raw.length ∧ k < 20
    · obtain ⟨hkr, hk20⟩ := hk
      obtain ⟨rb, ro, rfl, hrb, r0, r1, i0, i1⟩ := (HR.out.old hbw).at k hkr
      have HW : Hid (∀ w1, Calls Tryd.prog 8 #[.int .i64 (raw.getD k (0, 0)).1, .int .i64 (raw.getD k (0, 0)).2] w1 fun e w' => e = .returned (.tuple #[.string (strOf (zw raw k).1), .int .i64 (zw raw k).2.1]) ∧ Below w1.heap.size w1 w') := fun w1 => zword_any _ _ i0 i1 w1
      have hxl : (zw raw k).1.length ≤ 20 := (zword_ok _ _).2
      have hSl := zits_len HGO.out raw k
      have hXl := zxs_len raw k
      have hgl := HGO.out.len k
      have eS := Lib.hid (zits_text G raw k)
      have eX := Lib.hid (zxs_succ raw k)
      have hgk : gapText (G k).1 (G k).2 = ztextG blanks k := by rw [← HG.out]; simp [gapText]
      have hkrI : (k : Int) < (raw.length : Int) := by omega
      have hk20I : (k : Int) < 20 := by omega
      have hS1 : Hid (strOf (itText (zitsOf G raw k)) ++ strOf (zw raw k).1 ++ strOf (ztextG blanks k) = strOf (itText (zitsOf G raw (k + 1)))) := by
        show _ = _
        rw [strOf_app, strOf_app, eS.out, hgk, List.append_assoc]
      have hX1 : Hid (strOf (zxs raw k) ++ strOf (zw raw k).1 = strOf (zxs raw (k + 1))) := by
        show _ = _
        rw [strOf_app, eX.out]
      have n1 : ¬ ((strOf (itText (zitsOf G raw k))).size + (strOf (zw raw k).1).size > 9223372036854775807) := by rw [strOf_sz, strOf_sz]; omega
      have n2 : ¬ ((strOf (itText (zitsOf G raw k)) ++ strOf (zw raw k).1).size + (strOf (ztextG blanks k)).size > 9223372036854775807) := by rw [strOf_app, strOf_sz, strOf_sz, List.length_append, ← hgk]; omega
      have n3 : ¬ ((strOf (zxs raw k)).size + (strOf (zw raw k).1).size > 9223372036854775807) := by rw [strOf_sz, strOf_sz]; omega
      clear hSl hXl hgl hxl hgk eS eX i0 i1
      generalize (zw raw k).2.1 = kd at *
      generalize strOf (zw raw k).1 = x at *
      generalize strOf (itText (zitsOf G raw k)) = S at *
      generalize strOf (zxs raw k) = X at *
      generalize hra : (raw.getD k (0, 0)).1 = ca at *
      generalize hrb' : (raw.getD k (0, 0)).2 = cb at *
      clear hra hrb'
      by_cases hbk : k < blanks.length
      · obtain ⟨bb, bo, rfl, hbb, c0, ci⟩ := (HBL.out.old hbw).at k hbk
        obtain ⟨u, hu, eu⟩ := zpick_nat (blanks.getD k 0) 4 (by decide)
        have HK : Hid (∀ w1, Calls Tryd.prog 15 #[.int .i64 (blanks.getD k 0), .int .i64 4] w1 fun e w' => e = .returned (.int .i64 (u : Int)) ∧ w1 = w') := fun w1 => by rw [← eu]; exact zpick_any _ 4 ci (by decide) (by decide) w1
        have hgt : ztextG blanks k = ztextL.getD u [32] := by unfold ztextG; rw [if_pos hbk, show zpick (blanks.getD k 0) 4 = ((u : Nat) : Int) from eu]; rfl
        have HLD := ztext_at ⟨u, hu⟩
        dsimp only at HLD
        rw [← hgt] at HLD
        generalize strOf (ztextG blanks k) = g at *
        generalize blanks.getD k 0 = bz at *
        have huI : (u : Int) < 4 := by omega
        have huJ : (0 : Int) ≤ (u : Int) := by omega
        have hbkI : (k : Int) < (blanks.length : Int) := by omega
        clear hgt eu ci hbw
        go_wp2_with fail
        go_region_held3 (fun w' => w'.cell? ⟨rb, ro + k * 2, none⟩ = some (.int .i64 ca) ∧ w'.cell? ⟨rb, ro + k * 2 + 1, none⟩ = some (.int .i64 cb)) (first | (simp [*]; done) | go_keep) (first
          | (go_at_call 8; refine (HW.out _).mono ?_; rintro e w4 ⟨he, hb4⟩; subst he; have HB4 := Lib.hid (HBW.out.drew.trans (hb4.mono HBW.out.size)); have k0 : w4.cell? ⟨rb, ro + k * 2, none⟩ = some (.int .i64 ca) := below_keeps hb4 r0; have k1 : w4.cell? ⟨rb, ro + k * 2 + 1, none⟩ = some (.int .i64 cb) := below_keeps hb4 r1; have k2 : w4.cell? ⟨bb, bo + k, none⟩ = some (.int .i64 bz) := below_keeps hb4 c0; clear hb4))
        go_wp2_with fail
        refine (HK.out _).mono ?_
        rintro e w5 ⟨rfl, rfl⟩
        go_wp2_with fail
        go_roundw
        case rel => exact ⟨k + 1, congrArg Value.string hS1.out, congrArg Value.string hX1.out, rfl, hkr, hk20, HB4.out.alloc HB4.out.size _⟩
        case measure => simp; omega
      · have hgt : ztextG blanks k = [32] := by unfold ztextG; rw [if_neg hbk]; rfl
        rw [hgt] at n2 hS1
        have n4 : ¬ (9223372036854775807 < S.size + x.size + 1) := by rw [ByteArray.size_append, strOf_sz [32]] at n2; simp only [List.length_cons, List.length_nil] at n2; omega
        have hbkI : (blanks.length : Int) ≤ (k : Int) := by omega
        clear hgt hbw
        go_wp2_with fail
        go_region_held3 (fun w' => w'.cell? ⟨rb, ro + k * 2, none⟩ = some (.int .i64 ca) ∧ w'.cell? ⟨rb, ro + k * 2 + 1, none⟩ = some (.int .i64 cb)) (first | (simp [*]; done) | go_keep) (first
          | (go_at_call 8; refine (HW.out _).mono ?_; rintro e w4 ⟨he, hb4⟩; subst he; have HB4 := Lib.hid (HBW.out.drew.trans (hb4.mono HBW.out.size)); have k0 : w4.cell? ⟨rb, ro + k * 2, none⟩ = some (.int .i64 ca) := below_keeps hb4 r0; have k1 : w4.cell? ⟨rb, ro + k * 2 + 1, none⟩ = some (.int .i64 cb) := below_keeps hb4 r1; clear hb4))
        go_wp2_with fail
        go_roundw
        case rel => exact ⟨k + 1, congrArg Value.string hS1.out, congrArg Value.string hX1.out, rfl, hkr, hk20, HB4.out.alloc HB4.out.size _⟩
        case measure => simp; omega
    · have hSl := zits_len HGO.out raw k
      have hXl := zxs_len raw k
      have HSC := Lib.hid (fun w1 h => scan_good0 (zitsOf G raw k) (zits_ok HGO.out raw k) (by omega) w1 h)
      have HTX := Lib.hid (zall_texts G raw k)
      have hLl : (zall [] [] (zitsOf G raw k)).length ≤ 30 := by rw [zall_len, zits_count]; omega
      have HLw := Lib.hid (HL.out.old hbw)
      obtain ⟨X, hX⟩ : ∃ X, zxs raw k = X := ⟨_, rfl⟩
      rw [hX] at HTX hXl ⊢
      obtain ⟨L, hLL⟩ : ∃ L, zall [] [] (zitsOf G raw k) = L := ⟨_, rfl⟩
      rw [hLL] at HTX hLl HSC
      obtain ⟨S, hS⟩ : ∃ S, itText (zitsOf G raw k) = S := ⟨_, rfl⟩
      rw [hS] at HSC hSl ⊢
      clear hX hLL hS hbw HG HGO
      have hcase : (raw.length : Int) ≤ (k : Int) ∨ ((k : Int) < (raw.length : Int) ∧ (20 : Int) ≤ (k : Int)) := by omega
      rcases hcase with hc | ⟨hc, hd⟩
      all_goals
        go_wp2_with fail
        refine (HSC.out _ HLw.out).mono ?_
        rintro e w2 ⟨hb2, v, rfl, ht2, _⟩
        obtain ⟨va, vc, rfl, hvc⟩ := ht2.slice
        have HT2 := Lib.hid ht2
        have HB2 := Lib.hid (HBW.out.trans (hb2.mono HBW.out.size))
        clear hb2 ht2
        go_wp2_with fail
        go_loopw [15, 16] (fun s15 s16 wq => ∃ j : Nat, s15 = .string (strOf ((L.take j).flatMap (·.text))) ∧ s16 = .int .i64 j ∧ j ≤ L.length ∧ Below w2.heap.size w2 wq) (fun _ s16 _ => match s16 with | .int _ n => L.length - n.toNat | _ => 0)
        case atStart => exact ⟨0, rfl, rfl, Nat.zero_le _, Below.refl _ _⟩
        case round =>
          obtain ⟨j, rfl, rfl, hj, hbq⟩ := hrel
          by_cases hjl : j < L.length
          · obtain ⟨tb, tof, rfl, htb, t0, t1, t2, t3⟩ := (HT2.out.old hbq).at j hjl
            have hsl := flat_take_le (·.text) L (j + 1)
            have hsu := flat_take_succ (·.text) ⟨0, [], 0, 0⟩ L j hjl
            rw [hsu, HTX.out, List.length_append] at hsl
            have hn : ¬ ((strOf ((L.take j).flatMap (·.text))).size + (strOf (tkAt L j).text).size > 9223372036854775807) := by rw [strOf_sz, strOf_sz]; show ¬ (_ + (L.getD j ⟨0, [], 0, 0⟩).text.length > _); omega
            have hS1 : Hid (strOf ((L.take j).flatMap (·.text)) ++ strOf (tkAt L j).text = strOf ((L.take (j + 1)).flatMap (·.text))) := by
              show _ = _
              rw [strOf_app, hsu]
            have HBQ := Lib.hid hbq
            have hjI : (j : Int) < (L.length : Int) := by omega
            clear hsl hsu hbq t0 t2 t3
            generalize strOf ((L.take j).flatMap (·.text)) = A at *
            generalize strOf (tkAt L j).text = B at *
            go_wp2_with fail
            go_roundw
            case rel => exact ⟨j + 1, congrArg Value.string hS1.out, rfl, hjl, HBQ.out⟩
            case measure => simp; omega
          · have hjI : (L.length : Int) ≤ (j : Int) := by omega
            have ht : (L.take j).flatMap (·.text) = X := by rw [List.take_of_length_le (by omega)]; exact HTX.out
            rw [ht]
            have HBQ := Lib.hid (HB2.out.trans (hbq.mono HB2.out.size))
            clear ht hbq
            go_wp2_with fail
            go_ret
            exact ⟨rfl, HBQ.out⟩
end Go.Proofs.YtjmidoncojajcaaDoor
