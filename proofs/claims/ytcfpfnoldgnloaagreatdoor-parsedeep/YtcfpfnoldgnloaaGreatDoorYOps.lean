/-
  unary, binary: which operator is next. Conditions: the parser lies in memory.
-/
import Derived.Test.YtcfpfnoldgnloaaGreatDoorParB
import Derived.Test.YtcfpfnoldgnloaaGreatDoorTreeB
set_option linter.unusedVariables false
set_option linter.unusedSimpArgs false
namespace Go.Proofs.YtcfpfnoldgnloaaGreatDoor
open Go.RowKit
set_option maxRecDepth 100000
set_option maxHeartbeats 4000000

theorem psUnary_17 (p tb : Nat) (t : Tk) (r : List Tk) (w : World) (h : Ps w p tb (t :: r)) (y : isP (signOf 17) t = true) :
    Calls Tryz.prog 162 #[.pointer (some ⟨p, 0, none⟩)] w fun e w' => e = .returned (.int .i64 17) ∧ SFr p w w' ∧ Ps w' p tb r := by
  have Y : Hid (∀ w1, Ps w1 p tb (t :: r) → _) := fun w1 h1 => psTake_yes p tb t r (signOf 17) w1 h1 y
  have HP0 := Lib.hid h
  clear h y
  have HF0 := Lib.hid (SFr.refl p w)
  go_enter Tryz.func162, Tryz.ntmps162
  go_wp2_with fail
  refine wp_loop_rounds 1 ?_
  rw [rounds_succ]
  go_wp2_with fail
  refine (sign_any 17 _).mono ?_
  rintro e w1 ⟨rfl, hb⟩
  have HP1 := Lib.hid (HP0.out.old hb)
  have HF1 := Lib.hid (HF0.out.trans (SFr.of_below hb))
  clear hb
  go_wp2_with fail
  refine (Y.out _ HP1.out).mono ?_
  rintro e w2 ⟨rfl, hf, hp⟩
  have HF := Lib.hid (HF1.out.trans hf)
  have HP := Lib.hid hp
  clear hf hp
  go_wp2_with fail
  go_ret
  exact ⟨rfl, HF.out, HP.out⟩
theorem psUnary_18 (p tb : Nat) (t : Tk) (r : List Tk) (w : World) (h : Ps w p tb (t :: r)) (n17 : isP (signOf 17) t = false) (y : isP (signOf 18) t = true) :
    Calls Tryz.prog 162 #[.pointer (some ⟨p, 0, none⟩)] w fun e w' => e = .returned (.int .i64 18) ∧ SFr p w w' ∧ Ps w' p tb r := by
  have N17 : Hid (∀ w1, Ps w1 p tb (t :: r) → _) := fun w1 h1 => psTake_no p tb t r (signOf 17) w1 h1 n17
  have Y : Hid (∀ w1, Ps w1 p tb (t :: r) → _) := fun w1 h1 => psTake_yes p tb t r (signOf 18) w1 h1 y
  have HP0 := Lib.hid h
  clear h n17 y
  have HF0 := Lib.hid (SFr.refl p w)
  go_enter Tryz.func162, Tryz.ntmps162
  go_wp2_with fail
  refine wp_loop_rounds 2 ?_
  rw [rounds_succ]
  go_wp2_with fail
  refine (sign_any 17 _).mono ?_
  rintro e w1 ⟨rfl, hb⟩
  have HP1 := Lib.hid (HP0.out.old hb)
  have HF1 := Lib.hid (HF0.out.trans (SFr.of_below hb))
  clear hb
  go_wp2_with fail
  refine (N17.out _ HP1.out).mono ?_
  rintro e w2 ⟨rfl, hb⟩
  have HP2 := Lib.hid (HP1.out.old hb)
  have HF2 := Lib.hid (HF1.out.trans (SFr.of_below hb))
  clear hb
  go_wp2_with fail
  rw [rounds_succ]
  go_wp2_with fail
  refine (sign_any 18 _).mono ?_
  rintro e w1 ⟨rfl, hb⟩
  have HP3 := Lib.hid (HP2.out.old hb)
  have HF3 := Lib.hid (HF2.out.trans (SFr.of_below hb))
  clear hb
  go_wp2_with fail
  refine (Y.out _ HP3.out).mono ?_
  rintro e w2 ⟨rfl, hf, hp⟩
  have HF := Lib.hid (HF3.out.trans hf)
  have HP := Lib.hid hp
  clear hf hp
  go_wp2_with fail
  go_ret
  exact ⟨rfl, HF.out, HP.out⟩
theorem psUnary_19 (p tb : Nat) (t : Tk) (r : List Tk) (w : World) (h : Ps w p tb (t :: r)) (n17 : isP (signOf 17) t = false) (n18 : isP (signOf 18) t = false) (y : isP (signOf 19) t = true) :
    Calls Tryz.prog 162 #[.pointer (some ⟨p, 0, none⟩)] w fun e w' => e = .returned (.int .i64 19) ∧ SFr p w w' ∧ Ps w' p tb r := by
  have N17 : Hid (∀ w1, Ps w1 p tb (t :: r) → _) := fun w1 h1 => psTake_no p tb t r (signOf 17) w1 h1 n17
  have N18 : Hid (∀ w1, Ps w1 p tb (t :: r) → _) := fun w1 h1 => psTake_no p tb t r (signOf 18) w1 h1 n18
  have Y : Hid (∀ w1, Ps w1 p tb (t :: r) → _) := fun w1 h1 => psTake_yes p tb t r (signOf 19) w1 h1 y
  have HP0 := Lib.hid h
  clear h n17 n18 y
  have HF0 := Lib.hid (SFr.refl p w)
  go_enter Tryz.func162, Tryz.ntmps162
  go_wp2_with fail
  refine wp_loop_rounds 3 ?_
  rw [rounds_succ]
  go_wp2_with fail
  refine (sign_any 17 _).mono ?_
  rintro e w1 ⟨rfl, hb⟩
  have HP1 := Lib.hid (HP0.out.old hb)
  have HF1 := Lib.hid (HF0.out.trans (SFr.of_below hb))
  clear hb
  go_wp2_with fail
  refine (N17.out _ HP1.out).mono ?_
  rintro e w2 ⟨rfl, hb⟩
  have HP2 := Lib.hid (HP1.out.old hb)
  have HF2 := Lib.hid (HF1.out.trans (SFr.of_below hb))
  clear hb
  go_wp2_with fail
  rw [rounds_succ]
  go_wp2_with fail
  refine (sign_any 18 _).mono ?_
  rintro e w1 ⟨rfl, hb⟩
  have HP3 := Lib.hid (HP2.out.old hb)
  have HF3 := Lib.hid (HF2.out.trans (SFr.of_below hb))
  clear hb
  go_wp2_with fail
  refine (N18.out _ HP3.out).mono ?_
  rintro e w2 ⟨rfl, hb⟩
  have HP4 := Lib.hid (HP3.out.old hb)
  have HF4 := Lib.hid (HF3.out.trans (SFr.of_below hb))
  clear hb
  go_wp2_with fail
  rw [rounds_succ]
  go_wp2_with fail
  refine (sign_any 19 _).mono ?_
  rintro e w1 ⟨rfl, hb⟩
  have HP5 := Lib.hid (HP4.out.old hb)
  have HF5 := Lib.hid (HF4.out.trans (SFr.of_below hb))
  clear hb
  go_wp2_with fail
  refine (Y.out _ HP5.out).mono ?_
  rintro e w2 ⟨rfl, hf, hp⟩
  have HF := Lib.hid (HF5.out.trans hf)
  have HP := Lib.hid hp
  clear hf hp
  go_wp2_with fail
  go_ret
  exact ⟨rfl, HF.out, HP.out⟩
theorem psUnary_20 (p tb : Nat) (t : Tk) (r : List Tk) (w : World) (h : Ps w p tb (t :: r)) (n17 : isP (signOf 17) t = false) (n18 : isP (signOf 18) t = false) (n19 : isP (signOf 19) t = false) :
    Calls Tryz.prog 162 #[.pointer (some ⟨p, 0, none⟩)] w fun e w' => e = .returned (.int .i64 0) ∧ SFr p w w' ∧ Ps w' p tb (t :: r) := by
  have N17 : Hid (∀ w1, Ps w1 p tb (t :: r) → _) := fun w1 h1 => psTake_no p tb t r (signOf 17) w1 h1 n17
  have N18 : Hid (∀ w1, Ps w1 p tb (t :: r) → _) := fun w1 h1 => psTake_no p tb t r (signOf 18) w1 h1 n18
  have N19 : Hid (∀ w1, Ps w1 p tb (t :: r) → _) := fun w1 h1 => psTake_no p tb t r (signOf 19) w1 h1 n19
  have HP0 := Lib.hid h
  clear h n17 n18 n19
  have HF0 := Lib.hid (SFr.refl p w)
  go_enter Tryz.func162, Tryz.ntmps162
  go_wp2_with fail
  refine wp_loop_rounds 4 ?_
  rw [rounds_succ]
  go_wp2_with fail
  refine (sign_any 17 _).mono ?_
  rintro e w1 ⟨rfl, hb⟩
  have HP1 := Lib.hid (HP0.out.old hb)
  have HF1 := Lib.hid (HF0.out.trans (SFr.of_below hb))
  clear hb
  go_wp2_with fail
  refine (N17.out _ HP1.out).mono ?_
  rintro e w2 ⟨rfl, hb⟩
  have HP2 := Lib.hid (HP1.out.old hb)
  have HF2 := Lib.hid (HF1.out.trans (SFr.of_below hb))
  clear hb
  go_wp2_with fail
  rw [rounds_succ]
  go_wp2_with fail
  refine (sign_any 18 _).mono ?_
  rintro e w1 ⟨rfl, hb⟩
  have HP3 := Lib.hid (HP2.out.old hb)
  have HF3 := Lib.hid (HF2.out.trans (SFr.of_below hb))
  clear hb
  go_wp2_with fail
  refine (N18.out _ HP3.out).mono ?_
  rintro e w2 ⟨rfl, hb⟩
  have HP4 := Lib.hid (HP3.out.old hb)
  have HF4 := Lib.hid (HF3.out.trans (SFr.of_below hb))
  clear hb
  go_wp2_with fail
  rw [rounds_succ]
  go_wp2_with fail
  refine (sign_any 19 _).mono ?_
  rintro e w1 ⟨rfl, hb⟩
  have HP5 := Lib.hid (HP4.out.old hb)
  have HF5 := Lib.hid (HF4.out.trans (SFr.of_below hb))
  clear hb
  go_wp2_with fail
  refine (N19.out _ HP5.out).mono ?_
  rintro e w2 ⟨rfl, hb⟩
  have HP6 := Lib.hid (HP5.out.old hb)
  have HF6 := Lib.hid (HF5.out.trans (SFr.of_below hb))
  clear hb
  go_wp2_with fail
  rw [rounds_succ]
  go_wp2_with fail
  go_ret
  exact ⟨rfl, HF6.out, HP6.out⟩
theorem bin_next (lv : Int) (t : Tk) (r : List Tk) : binaryP lv (t :: r) = ((((List.range 16).map fun i : Nat => (i : Int) + 1).find? fun op => isP (signOf op) t && decide (lv ≤ levelOf op))).getD 0 := rfl
theorem find_at (f : Int → Bool) (k : Nat) (hk : k < 16) (hno : ∀ j, j < k → f ((j : Int) + 1) = false) (hy : f ((k : Int) + 1) = true) : (((List.range 16).map fun i : Nat => (i : Int) + 1).find? f).getD 0 = (k : Int) + 1 := by
  rcases hf : ((List.range 16).map fun i : Nat => (i : Int) + 1).find? f with _ | op
  · rw [List.find?_eq_none] at hf
    have := hf ((k : Int) + 1) (List.mem_map.2 ⟨k, List.mem_range.2 hk, rfl⟩)
    rw [hy] at this; simp at this
  · rw [List.find?_eq_some_iff_append] at hf
    obtain ⟨ho, xs, ys, hl, hn⟩ := hf
    obtain ⟨j, hj, rfl⟩ := List.mem_map.1 (show op ∈ (List.range 16).map fun i : Nat => (i : Int) + 1 by rw [hl]; simp)
    have hj := List.mem_range.1 hj
    rcases Nat.lt_trichotomy j k with h | h | h
    · rw [hno j h] at ho; cases ho
    · rw [h]; rfl
    · exfalso
      have e1 : xs.length = j := by
        have g1 : ((List.range 16).map fun i : Nat => (i : Int) + 1)[xs.length]? = some ((j : Int) + 1) := by rw [hl]; simp
        rw [List.getElem?_map] at g1
        have hlt : xs.length < 16 := by
          have := congrArg List.length hl
          simp at this; omega
        rw [List.getElem?_range hlt] at g1
        simp at g1; omega
      have hm : ((k : Int) + 1) ∈ xs := by
        have g2 : ((List.range 16).map fun i : Nat => (i : Int) + 1)[k]? = some ((k : Int) + 1) := by rw [List.getElem?_map, List.getElem?_range hk]; rfl
        rw [hl, List.getElem?_append_left (by omega)] at g2
        exact List.mem_of_getElem? g2
      have := hn _ hm
      rw [hy] at this; cases this
theorem yfind_none (f : Int → Bool) (hno : ∀ j : Nat, j < 16 → f ((j : Int) + 1) = false) : (((List.range 16).map fun i : Nat => (i : Int) + 1).find? f).getD 0 = 0 := by
  have : ((List.range 16).map fun i : Nat => (i : Int) + 1).find? f = none := by
    rw [List.find?_eq_none]
    intro x hx
    obtain ⟨j, hj, rfl⟩ := List.mem_map.1 hx
    rw [hno j (List.mem_range.1 hj)]; decide
  rw [this]; rfl
theorem psBinary_any (p tb : Nat) (l : List Tk) (lv : Int) (w : World) (h : Ps w p tb l) :
    Calls Tryz.prog 119 #[.pointer (some ⟨p, 0, none⟩), .int .i64 lv] w fun e w' => e = .returned (.int .i64 (binaryP lv l)) ∧ Below w.heap.size w w' := by
  obtain ⟨t, r, rfl⟩ := h.ends.ne
  rw [bin_next]
  obtain ⟨f, hf⟩ : ∃ f : Int → Bool, f = fun op => isP (signOf op) t && decide (lv ≤ levelOf op) := ⟨_, rfl⟩
  rw [← hf]
  have HN := Lib.hid (yfind_none f)
  have HA := Lib.hid (find_at f)
  have HPS := Lib.hid h
  have HFE : Hid (∀ op, f op = (isP (signOf op) t && decide (lv ≤ levelOf op))) := fun op => by rw [hf]
  clear h hf
  generalize (((List.range 16).map fun i : Nat => (i : Int) + 1).find? f).getD 0 = R at *
  go_enter Tryz.func119, Tryz.ntmps119
  go_wp2_with fail
  go_loopw [5] (fun s5 wr => ∃ k : Nat, k ≤ 16 ∧ s5 = .int .i64 ((k : Int) + 1) ∧ (∀ j : Nat, j < k → f ((j : Int) + 1) = false) ∧ Below w.heap.size w wr) (fun s5 _ => 17 - (intOf s5).toNat)
  case atStart => exact ⟨0, by omega, rfl, fun j hj => by omega, Below.refl _ _⟩
  case round =>
    obtain ⟨k, hk, rfl, hno, hb⟩ := hrel
    have HNO := Lib.hid hno
    have HB := Lib.hid hb
    clear hno hb
    by_cases hlt : k < 16
    · have hle : (k : Int) + 1 ≤ 16 := by omega
      have hge : (0 : Int) ≤ (k : Int) + 1 := by omega
      have hw1 : IntKind.i64.wrap ((k : Int) + 1 + 1) = (k : Int) + 1 + 1 := IntWalk.i64_in _ (by omega)
      have HI : Hid (∀ w1, Ps w1 p tb (t :: r) → _) := fun w1 h1 => psIs_any p tb t r (signOf ((k : Int) + 1)) w1 h1
      go_wp2_with fail
      refine (sign_any ((k : Int) + 1) _).mono ?_
      rintro e w1 ⟨rfl, hb⟩
      have HB1 := Lib.hid (HB.out.trans (hb.mono HB.out.size))
      clear hb
      go_wp2_with fail
      refine (HI.out _ (HPS.out.old HB1.out)).mono ?_
      rintro e w2 ⟨rfl, hb⟩
      have HB2 := Lib.hid (HB1.out.trans (hb.mono HB1.out.size))
      clear hb HI
      cases hi : isP (signOf ((k : Int) + 1)) t with
      | false =>
        have HF : Hid (f ((k : Int) + 1) = false) := by show _ = _; rw [HFE.out, hi]; rfl
        clear hi
        go_wp2_with fail
        go_roundw
        case rel => exact ⟨k + 1, by omega, by rw [Int.natCast_succ], fun j hj => by
          rcases Nat.lt_succ_iff_lt_or_eq.1 hj with h' | rfl
          · exact HNO.out j h'
          · exact HF.out, HB2.out⟩
        case measure => simp only [intOf]; omega
      | true =>
        by_cases hl : lv ≤ levelOf ((k : Int) + 1)
        · have HF : Hid (f ((k : Int) + 1) = true) := by show _ = _; rw [HFE.out, hi, decide_eq_true hl]; rfl
          clear hi
          go_wp2_with fail
          refine (level_any ((k : Int) + 1) _).mono ?_
          rintro e w3 ⟨rfl, hb⟩
          have HB3 := Lib.hid (HB2.out.trans (hb.mono HB2.out.size))
          clear hb
          go_wp2_with fail
          go_ret
          exact ⟨ret_int (HA.out k hlt HNO.out HF.out).symm, HB3.out⟩
        · have HF : Hid (f ((k : Int) + 1) = false) := by show _ = _; rw [HFE.out, hi, decide_eq_false hl]; rfl
          have hl' : levelOf ((k : Int) + 1) < lv := by omega
          clear hi
          go_wp2_with fail
          refine (level_any ((k : Int) + 1) _).mono ?_
          rintro e w3 ⟨rfl, hb⟩
          have HB3 := Lib.hid (HB2.out.trans (hb.mono HB2.out.size))
          clear hb
          go_wp2_with fail
          go_roundw
          case rel => exact ⟨k + 1, by omega, by rw [Int.natCast_succ], fun j hj => by
            rcases Nat.lt_succ_iff_lt_or_eq.1 hj with h' | rfl
            · exact HNO.out j h'
            · exact HF.out, HB3.out⟩
          case measure => simp only [intOf]; omega
    · obtain rfl : k = 16 := by omega
      clear hlt
      go_wp2_with fail
      go_ret
      exact ⟨ret_int (HN.out HNO.out).symm, HB.out⟩
end Go.Proofs.YtcfpfnoldgnloaaGreatDoor
