/-
  InstrRegisters: what is read and written is of the registers that there are. Conditions: the raw numbers are ints; the library's variables lie in memory.
-/
import Derived.Test.YtgjaaclbhakmpaaDoorInstrH
set_option linter.unusedVariables false
set_option linter.unusedSimpArgs false
namespace Go.Proofs.YtgjaaclbhakmpaaDoor
open Go.RowKit
set_option maxHeartbeats 4000000
set_option maxRecDepth 100000

theorem reg_range {X : Ins} (h : rightI X = true) : (0 ≤ X.d ∧ X.d < 32) ∧ (0 ≤ X.a ∧ X.a < 32) ∧ (0 ≤ X.b ∧ X.b < 32) := by
  obtain ⟨hm, he⟩ := (foldR_spec X _ _ _).1 (right_open h).1
  have hd := congrArg Ins.d he
  have ha := congrArg Ins.a he
  have hb := congrArg Ins.b he
  dsimp only at hd ha hb
  refine ⟨?_, ?_, ?_⟩
  · by_cases hc : (68 : UInt8) ∈ (rowI X.op).2
    · simpa [mayI] using hm 68 hc (by decide) X.d rfl
    · rw [if_neg hc] at hd
      have : X.d = 0 := hd
      omega
  · by_cases hc : (65 : UInt8) ∈ (rowI X.op).2
    · simpa [mayI] using hm 65 hc (by decide) X.a rfl
    · rw [if_neg hc] at ha
      have : X.a = 0 := ha
      omega
  · by_cases hc : (66 : UInt8) ∈ (rowI X.op).2
    · simpa [mayI] using hm 66 hc (by decide) X.b rfl
    · rw [if_neg hc] at hb
      have : X.b = 0 := hb
      omega
/-- What is read is of the registers that there are, none twice. -/
theorem reads_range {X : Ins} (h : rightI X = true) : (readsI X).length ≤ 2 ∧ ∀ (j : Nat) (z : Int), (readsI X)[j]? = some z → 1 ≤ z ∧ z ≤ 31 ∧ (0 < j → ∀ z0 : Int, (readsI X)[0]? = some z0 → ¬ z = z0) := by
  obtain ⟨_, ha, hb⟩ := reg_range h
  unfold readsI
  rw [if_pos h]
  have two : ∀ u v : Int, (1 ≤ u ∧ u ≤ 31) → (1 ≤ v ∧ v ≤ 31) → ¬ v = u → ([u, v] : List Int).length ≤ 2 ∧ ∀ (j : Nat) (z : Int), ([u, v] : List Int)[j]? = some z → 1 ≤ z ∧ z ≤ 31 ∧ (0 < j → ∀ z0 : Int, ([u, v] : List Int)[0]? = some z0 → ¬ z = z0) := by
    intro u v hu hv hne
    refine ⟨by simp, fun j z hz => ?_⟩
    match j, hz with
    | 0, hz => simp at hz; subst hz; exact ⟨hu.1, hu.2, fun h => by omega⟩
    | 1, hz => simp at hz; subst hz; exact ⟨hv.1, hv.2, fun _ z0 h0 => by simp at h0; subst h0; exact hne⟩
    | (j + 2), hz => simp at hz
  have one : ∀ u : Int, (1 ≤ u ∧ u ≤ 31) → ([u] : List Int).length ≤ 2 ∧ ∀ (j : Nat) (z : Int), ([u] : List Int)[j]? = some z → 1 ≤ z ∧ z ≤ 31 ∧ (0 < j → ∀ z0 : Int, ([u] : List Int)[0]? = some z0 → ¬ z = z0) := by
    intro u hu
    refine ⟨by simp, fun j z hz => ?_⟩
    match j, hz with
    | 0, hz => simp at hz; subst hz; exact ⟨hu.1, hu.2, fun h => by omega⟩
    | (j + 1), hz => simp at hz
  by_cases h27 : X.op = 27
  · rw [if_pos h27]; exact one 1 (by decide)
  rw [if_neg h27]
  by_cases h28 : X.op = 28
  · rw [if_pos h28]; exact two 10 17 (by decide) (by decide) (by decide)
  rw [if_neg h28]
  by_cases a0 : X.a = 0
  · rw [if_pos a0]
    by_cases b0 : X.b = 0
    · rw [if_pos b0]; exact ⟨by simp, fun j z hz => by simp at hz⟩
    · rw [if_neg b0]; exact one X.b (by omega)
  · rw [if_neg a0]
    by_cases b0 : X.b = 0
    · rw [if_pos b0]; exact one X.a (by omega)
    · rw [if_neg b0]
      by_cases hab : X.a = X.b
      · rw [if_pos hab]; exact one X.a (by omega)
      · rw [if_neg hab]; exact two X.a X.b (by omega) (by omega) (fun e => hab e.symm)
theorem writes_range {X : Ins} (h : rightI X = true) : 0 ≤ writesI X ∧ writesI X ≤ 31 := by
  obtain ⟨hd, _, _⟩ := reg_range h
  unfold writesI
  rw [if_pos h]
  split
  · decide
  · split
    · decide
    · omega
theorem iregs_any (x : Ins) (c by_ : Int) (hx : RawI x) (hc : I64 c) (hb : I64 by_) (w : World) (hl : ILib w) :
    Calls Tryd.prog 6 #[insV x, .int .i64 c, .int .i64 by_] w fun e w' => e = .returned (.bool true) ∧ Below w.heap.size w w' := by
  have HL := Lib.hid hl
  have HAW := Lib.hid (fun w' h => iawake_any w' h)
  have HFX := Lib.hid (fun w' => fit_call x hx w')
  have hgx := good_fit x hx
  have HPC := Lib.hid (fun w' => ipick_any c 3 hc (by decide) (by decide) w')
  have HPB := Lib.hid (fun w' => ipick_any by_ 1000 hb (by decide) (by decide) w')
  have rc := ipick_range c 3 (by decide)
  have rb := ipick_range by_ 1000 (by decide)
  clear hx hl hc hb
  obtain ⟨X, hX⟩ : ∃ X, fitI x = X := ⟨_, rfl⟩
  rw [hX] at HFX hgx
  clear hX
  obtain ⟨k, hk⟩ : ∃ k, ipick c 3 = k := ⟨_, rfl⟩
  obtain ⟨q, hq⟩ : ∃ k, ipick by_ 1000 = k := ⟨_, rfl⟩
  rw [hk] at HPC rc
  rw [hq] at HPB rb
  obtain ⟨rc0, rc1⟩ := rc
  obtain ⟨rb0, rb1⟩ := rb
  clear hk hq
  have HRE := Lib.hid (fun w' => reads_any X (by have := hgx.name; omega) w')
  have HWR := Lib.hid (fun w' => writes_any X (by have := hgx.name; omega) w')
  have HRR := Lib.hid (reads_range hgx.right)
  obtain ⟨rw0, rw1⟩ := writes_range hgx.right
  -- what is put in
  have hbad : ∀ Y : Ins, (Y = { X with d := 32 + q } ∨ Y = { X with a := -(32 + q) } ∨ Y = { X with b := 32 + q }) → rightI Y = false ∧ FitsI Y ∧ Y.name.length ≤ 9223372036854775807 := by
    intro Y hY
    have hf : FitsI Y ∧ Y.name.length ≤ 9223372036854775807 := by
      have h1 := hgx.fits
      have h2 := hgx.name
      rcases hY with rfl | rfl | rfl <;> exact ⟨h1, by show X.name.length ≤ _; omega⟩
    refine ⟨?_, hf⟩
    rw [← Bool.not_eq_true]
    intro hr
    obtain ⟨h1, h2, h3⟩ := reg_range hr
    rcases hY with rfl | rfl | rfl
    · have : 32 + q < 32 := h1.2
      omega
    · have : 0 ≤ -(32 + q) := h2.1
      omega
    · have : 32 + q < 32 := h3.2
      omega
  have HBAD := Lib.hid hbad
  clear hbad
  obtain ⟨W0, hW0⟩ : ∃ W0, writesI X = W0 := ⟨_, rfl⟩
  rw [hW0] at HWR rw0 rw1
  clear hW0
  obtain ⟨RL, hRL⟩ : ∃ l, readsI X = l := ⟨_, rfl⟩
  rw [hRL] at HRE HRR
  clear hRL hgx
  unfold insV at HRE HWR
  unfold insV
  have hbA1 : Below w.heap.size w (w.alloc (.cells #[.int .i64 x.op, .int .i64 x.d, .int .i64 x.a, .int .i64 x.b, .int .i64 x.n, .string (strOf x.name)] 23)) := (Below.refl _ _).alloc (Nat.le_refl _) _
  have HO_i := Lib.hid (show OwnAt (w.alloc (.cells #[.int .i64 x.op, .int .i64 x.d, .int .i64 x.a, .int .i64 x.b, .int .i64 x.n, .string (strOf x.name)] 23)) (w.heap.size) (insCells x) 23 from OwnAt.new w (insCells x) 23)
  have HB1 := Lib.hid hbA1
  clear hbA1
  have HLa := Lib.hid (HL.out.old HB1.out)
  go_enter Tryd.func6, Tryd.ntmps6
  go_wp2_with fail
  refine (HAW.out _ HLa.out).mono ?_
  rintro e w1 ⟨rfl, hb_w1⟩
  have HO_ia2 := Lib.hid (HO_i.out.old hb_w1)
  have HB2 := Lib.hid (HB1.out.trans (hb_w1.mono HB1.out.size))
  clear hb_w1
  have ci0 := HO_ia2.out.at 0 _ rfl
  have ci1 := HO_ia2.out.at 1 _ rfl
  have ci2 := HO_ia2.out.at 2 _ rfl
  have ci3 := HO_ia2.out.at 3 _ rfl
  have ci4 := HO_ia2.out.at 4 _ rfl
  have ci5 := HO_ia2.out.at 5 _ rfl
  have li := HO_ia2.out.lt
  go_wp2_with fail
  refine (HFX.out _).mono ?_
  rintro e w2 ⟨rfl, hb_w2⟩
  have HO_ia2a3 := Lib.hid (HO_ia2.out.old hb_w2)
  have HB3 := Lib.hid (HB2.out.trans (hb_w2.mono HB2.out.size))
  clear hb_w2
  clear ci0 ci1 ci2 ci3 ci4 ci5 li
  have hbA4 : Below w2.heap.size w2 (w2.alloc (.cells #[.int .i64 X.op, .int .i64 X.d, .int .i64 X.a, .int .i64 X.b, .int .i64 X.n, .string (strOf X.name)] 23)) := (Below.refl _ _).alloc (Nat.le_refl _) _
  have HO_ia2a34 := Lib.hid (HO_ia2a3.out.old hbA4)
  have HO_X := Lib.hid (show OwnAt (w2.alloc (.cells #[.int .i64 X.op, .int .i64 X.d, .int .i64 X.a, .int .i64 X.b, .int .i64 X.n, .string (strOf X.name)] 23)) (w2.heap.size) (insCells X) 23 from OwnAt.new w2 (insCells X) 23)
  have HB4 := Lib.hid (HB3.out.trans (hbA4.mono HB3.out.size))
  clear hbA4
  go_wp2_with fail
  refine (HRE.out _).mono ?_
  rintro e w4 ⟨⟨v, rfl, hv⟩, hb_w4⟩
  have HO_ia2a34a5 := Lib.hid (HO_ia2a34.out.old hb_w4)
  have HO_Xa5 := Lib.hid (HO_X.out.old hb_w4)
  have HB5 := Lib.hid (HB4.out.trans (hb_w4.mono HB4.out.size))
  clear hb_w4
  have hrl := HRR.out.1
  obtain ⟨av, cv, vb, vo, rfl, hva, hvc⟩ := hv
  have HVC := Lib.hid hvc
  have hrlI : (RL.length : Int) ≤ 2 := by omega
  clear hvc
  go_wp2_with fail
  go_loopw [10] (fun s10 wr => ∃ i : Nat, s10 = .int .i64 i ∧ i ≤ RL.length ∧ Hid (Below w.heap.size w wr) ∧ Hid (OwnAt wr w2.heap.size (insCells X) 23) ∧ Hid (∀ j z, RL[j]? = some z → wr.cell? ⟨vb, vo + j, none⟩ = some (.int .i64 z))) (fun s10 _ => RL.length - (intOf s10).toNat)
  case atStart => exact ⟨0, rfl, Nat.zero_le _, HB5, HO_Xa5, HVC⟩
  case round =>
    obtain ⟨i, rfl, hi, GB, GX, GC⟩ := hrel
    by_cases hlt : i < RL.length
    · have ha : av = some ⟨vb, vo, none⟩ := by
        rcases hva with h | h
        · exact h
        · rw [h] at hlt; simp at hlt
      subst ha
      have hz := HRR.out.2 i RL[i] (List.getElem?_eq_getElem hlt)
      have ci := GC.out i RL[i] (List.getElem?_eq_getElem hlt)
      have hl0 : 0 < RL.length := by omega
      have c0 := GC.out 0 RL[0] (List.getElem?_eq_getElem hl0)
      rw [Nat.add_zero] at c0
      obtain ⟨z1, z2, z3⟩ := hz
      have z4 : 0 < i → ¬ RL[i] = RL[0] := fun h => z3 h RL[0] (List.getElem?_eq_getElem hl0)
      obtain ⟨y1, y2, _⟩ := HRR.out.2 0 RL[0] (List.getElem?_eq_getElem hl0)
      clear z3
      generalize RL[i] = z at *
      generalize RL[0] = z0 at *
      have t1 : decide (z < 1) = false := decide_eq_false (by omega)
      have t2 : decide (31 < z) = false := decide_eq_false (by omega)
      have t3 : decide (z0 < 1) = false := decide_eq_false (by omega)
      have t4 : decide (31 < z0) = false := decide_eq_false (by omega)
      have hiI : (i : Int) < (RL.length : Int) := by omega
      by_cases hi0 : i = 0
      · subst hi0
        rw [Nat.add_zero] at ci
        go_wp2_with fail
        go_quiet (fail)
        go_wp2_with fail
        go_roundw
        case rel => exact ⟨1, rfl, hlt, Lib.hid (below_drewN GB.out _), Lib.hid (GX.out.old (below_drewN (Below.refl _ _) _)), Lib.hid (fun j z h => below_keeps (below_drewN (Below.refl _ _) _) (GC.out j z h))⟩
        case measure => first | omega | (simp [intOf]; omega) | (simp; omega)
      · have zne : (z == z0) = false := by simpa using z4 (by omega)
        have hipos : (0 : Int) < (i : Int) := by omega
        have t5 : decide (0 < i) = true := decide_eq_true (by omega)
        go_wp2_with fail
        go_quiet (fail)
        go_wp2_with fail
        go_roundw
        case rel => exact ⟨i + 1, rfl, hlt, Lib.hid (below_drewN GB.out _), Lib.hid (GX.out.old (below_drewN (Below.refl _ _) _)), Lib.hid (fun j z h => below_keeps (below_drewN (Below.refl _ _) _) (GC.out j z h))⟩
        case measure => first | omega | (simp [intOf]; omega) | (simp; omega)
    · have hiI : (RL.length : Int) ≤ (i : Int) := by omega
      clear HVC GC hva
      have d0 := GX.out.at 0 _ rfl
      have d1 := GX.out.at 1 _ rfl
      have d2 := GX.out.at 2 _ rfl
      have d3 := GX.out.at 3 _ rfl
      have d4 := GX.out.at 4 _ rfl
      have d5 := GX.out.at 5 _ rfl
      have dl := GX.out.lt
      go_wp2_with fail
      refine (HWR.out _).mono ?_
      rintro e w5 ⟨rfl, hb5⟩
      have GB5 := Lib.hid (GB.out.trans (hb5.mono GB.out.size))
      have GX5 := Lib.hid (GX.out.old hb5)
      clear hb5 d0 d1 d2 d3 d4 d5 dl
      have d0 := GX5.out.at 0 _ rfl
      have d1 := GX5.out.at 1 _ rfl
      have d2 := GX5.out.at 2 _ rfl
      have d3 := GX5.out.at 3 _ rfl
      have d4 := GX5.out.at 4 _ rfl
      have d5 := GX5.out.at 5 _ rfl
      have dl := GX5.out.lt
      have HY := Lib.hid (show OwnAt (w5.alloc (.cells #[.int .i64 X.op, .int .i64 X.d, .int .i64 X.a, .int .i64 X.b, .int .i64 X.n, .string (strOf X.name)] 23)) w5.heap.size (insCells X) 23 from OwnAt.new w5 (insCells X) 23)
      have GB6 := Lib.hid (GB5.out.alloc GB5.out.size (.cells #[.int .i64 X.op, .int .i64 X.d, .int .i64 X.a, .int .i64 X.b, .int .i64 X.n, .string (strOf X.name)] 23))
      have g5 : w.heap.size ≤ w5.heap.size := GB5.out.size
      go_wp2_with fail
      refine (HPB.out _).mono ?_
      rintro e w6 ⟨rfl, hw6⟩
      subst hw6
      go_wp2_with fail
      refine (HPC.out _).mono ?_
      rintro e w7 ⟨rfl, hw7⟩
      obtain ⟨W7, hW7⟩ : ∃ W7, (w5.alloc (.cells #[.int .i64 X.op, .int .i64 X.d, .int .i64 X.a, .int .i64 X.b, .int .i64 X.n, .string (strOf X.name)] 23)) = W7 := ⟨_, rfl⟩
      rw [hW7] at HY GB6 hw7
      subst hw7
      clear hW7
      have y0 := HY.out.at 0 _ rfl
      have y1 := HY.out.at 1 _ rfl
      have y2 := HY.out.at 2 _ rfl
      have y3 := HY.out.at 3 _ rfl
      have y4 := HY.out.at 4 _ rfl
      have y5 := HY.out.at 5 _ rfl
      have u1 := HY.out.fz 1
      have u2 := HY.out.fz 2
      have u3 := HY.out.fz 3
      have yl := HY.out.lt
      have hk : k = 0 ∨ k = 1 ∨ k = 2 := by omega
      rcases hk with rfl | rfl | rfl
      · obtain ⟨hb1, hb2, hb3⟩ := HBAD.out { X with d := 32 + q } (.inl rfl)
        have HPR : Hid (∀ w', ILib w' → Calls Tryd.prog 11 #[.agg #[.int .i64 X.op, .int .i64 (32 + q), .int .i64 X.a, .int .i64 X.b, .int .i64 X.n, .string (strOf X.name)]] w' fun e w'' => e = .returned (.tuple #[.string ⟨#[]⟩, .int .i64 1]) ∧ Below w'.heap.size w' w'') := fun w' h => print_fail { X with d := 32 + q } hb1 hb2 hb3 w' h
        have HRI : Hid (∀ w', Calls Tryd.prog 13 #[.agg #[.int .i64 X.op, .int .i64 (32 + q), .int .i64 X.a, .int .i64 X.b, .int .i64 X.n, .string (strOf X.name)]] w' fun e w'' => e = .returned (.bool false) ∧ Below w'.heap.size w' w'') := fun w' => by
          have := right_any { X with d := 32 + q } hb3 w'
          rw [hb1] at this
          exact this
        have hr0 : readsI { X with d := 32 + q } = [] := by unfold readsI; rw [if_neg (by rw [hb1]; simp)]
        have hw0 : writesI { X with d := 32 + q } = 0 := by unfold writesI; rw [if_neg (by rw [hb1]; simp)]
        have HR2 : Hid (∀ w', Calls Tryd.prog 16 #[.agg #[.int .i64 X.op, .int .i64 (32 + q), .int .i64 X.a, .int .i64 X.b, .int .i64 X.n, .string (strOf X.name)]] w' fun e w'' => (∃ v, e = .returned v ∧ IntsAt w'' v []) ∧ Below w'.heap.size w' w'') := fun w' => by
          have := reads_any { X with d := 32 + q } hb3 w'
          rw [hr0] at this
          exact this
        have HW2 : Hid (∀ w', Calls Tryd.prog 18 #[.agg #[.int .i64 X.op, .int .i64 (32 + q), .int .i64 X.a, .int .i64 X.b, .int .i64 X.n, .string (strOf X.name)]] w' fun e w'' => e = .returned (.int .i64 0) ∧ Below w'.heap.size w' w'') := fun w' => by
          have := writes_any { X with d := 32 + q } hb3 w'
          rw [hw0] at this
          exact this
        clear hb1 hb2 hb3 hr0 hw0
        have HYs := Lib.hid (HY.out.set 1 (.int .i64 (32 + q)))
        have GBs := Lib.hid (zbelow_set GB6.out g5 1 (.int .i64 (32 + q)))
        have HLs := Lib.hid (HL.out.old GBs.out)
        go_wp2_with fail
        refine (HPR.out _ HLs.out).mono ?_
        rintro e w8 ⟨rfl, hb8⟩
        have HY8 := Lib.hid (HYs.out.old hb8)
        have GB8 := Lib.hid (GBs.out.trans (hb8.mono GBs.out.size))
        clear hb8 y0 y1 y2 y3 y4 y5 u1 u2 u3 yl
        have s0 : w8.cell? ⟨w5.heap.size, 0, none⟩ = some (.int .i64 X.op) := HY8.out.at 0 _ rfl
        have s1 : w8.cell? ⟨w5.heap.size, 1, none⟩ = some (.int .i64 (32 + q)) := HY8.out.at 1 _ rfl
        have s2 : w8.cell? ⟨w5.heap.size, 2, none⟩ = some (.int .i64 X.a) := HY8.out.at 2 _ rfl
        have s3 : w8.cell? ⟨w5.heap.size, 3, none⟩ = some (.int .i64 X.b) := HY8.out.at 3 _ rfl
        have s4 : w8.cell? ⟨w5.heap.size, 4, none⟩ = some (.int .i64 X.n) := HY8.out.at 4 _ rfl
        have s5 : w8.cell? ⟨w5.heap.size, 5, none⟩ = some (.string (strOf X.name)) := HY8.out.at 5 _ rfl
        go_wp2_with (first
          | (go_at_call 13; refine (HRI.out _).mono ?_; rintro e w9 ⟨rfl, hb9⟩; have HY9 := Lib.hid (HY8.out.old hb9); have GB9 := Lib.hid (GB8.out.trans (hb9.mono GB8.out.size)); have r90 : w9.cell? ⟨w5.heap.size, 0, none⟩ = some (.int .i64 X.op) := HY9.out.at 0 _ rfl; have r91 : w9.cell? ⟨w5.heap.size, 1, none⟩ = some (.int .i64 (32 + q)) := HY9.out.at 1 _ rfl; have r92 : w9.cell? ⟨w5.heap.size, 2, none⟩ = some (.int .i64 X.a) := HY9.out.at 2 _ rfl; have r93 : w9.cell? ⟨w5.heap.size, 3, none⟩ = some (.int .i64 X.b) := HY9.out.at 3 _ rfl; have r94 : w9.cell? ⟨w5.heap.size, 4, none⟩ = some (.int .i64 X.n) := HY9.out.at 4 _ rfl; have r95 : w9.cell? ⟨w5.heap.size, 5, none⟩ = some (.string (strOf X.name)) := HY9.out.at 5 _ rfl)
          | (go_at_call 16; refine (HR2.out _).mono ?_; rintro e w10 ⟨⟨v, rfl, hv⟩, hb10⟩; obtain ⟨a2, c2, b2, o2, rfl, _, _⟩ := hv; have HY10 := Lib.hid (HY9.out.old hb10); have GB10 := Lib.hid (GB9.out.trans (hb10.mono GB9.out.size)); have r100 : w10.cell? ⟨w5.heap.size, 0, none⟩ = some (.int .i64 X.op) := HY10.out.at 0 _ rfl; have r101 : w10.cell? ⟨w5.heap.size, 1, none⟩ = some (.int .i64 (32 + q)) := HY10.out.at 1 _ rfl; have r102 : w10.cell? ⟨w5.heap.size, 2, none⟩ = some (.int .i64 X.a) := HY10.out.at 2 _ rfl; have r103 : w10.cell? ⟨w5.heap.size, 3, none⟩ = some (.int .i64 X.b) := HY10.out.at 3 _ rfl; have r104 : w10.cell? ⟨w5.heap.size, 4, none⟩ = some (.int .i64 X.n) := HY10.out.at 4 _ rfl; have r105 : w10.cell? ⟨w5.heap.size, 5, none⟩ = some (.string (strOf X.name)) := HY10.out.at 5 _ rfl)
          | (go_at_call 18; refine (HW2.out _).mono ?_; rintro e w11 ⟨rfl, hb11⟩; have GB11 := Lib.hid (GB10.out.trans (hb11.mono GB10.out.size))))
        go_ret
        exact ⟨rfl, GB11.out⟩
      · obtain ⟨hb1, hb2, hb3⟩ := HBAD.out { X with a := -(32 + q) } (.inr (.inl rfl))
        have HPR : Hid (∀ w', ILib w' → Calls Tryd.prog 11 #[.agg #[.int .i64 X.op, .int .i64 X.d, .int .i64 (-(32 + q)), .int .i64 X.b, .int .i64 X.n, .string (strOf X.name)]] w' fun e w'' => e = .returned (.tuple #[.string ⟨#[]⟩, .int .i64 1]) ∧ Below w'.heap.size w' w'') := fun w' h => print_fail { X with a := -(32 + q) } hb1 hb2 hb3 w' h
        have HRI : Hid (∀ w', Calls Tryd.prog 13 #[.agg #[.int .i64 X.op, .int .i64 X.d, .int .i64 (-(32 + q)), .int .i64 X.b, .int .i64 X.n, .string (strOf X.name)]] w' fun e w'' => e = .returned (.bool false) ∧ Below w'.heap.size w' w'') := fun w' => by
          have := right_any { X with a := -(32 + q) } hb3 w'
          rw [hb1] at this
          exact this
        have hr0 : readsI { X with a := -(32 + q) } = [] := by unfold readsI; rw [if_neg (by rw [hb1]; simp)]
        have hw0 : writesI { X with a := -(32 + q) } = 0 := by unfold writesI; rw [if_neg (by rw [hb1]; simp)]
        have HR2 : Hid (∀ w', Calls Tryd.prog 16 #[.agg #[.int .i64 X.op, .int .i64 X.d, .int .i64 (-(32 + q)), .int .i64 X.b, .int .i64 X.n, .string (strOf X.name)]] w' fun e w'' => (∃ v, e = .returned v ∧ IntsAt w'' v []) ∧ Below w'.heap.size w' w'') := fun w' => by
          have := reads_any { X with a := -(32 + q) } hb3 w'
          rw [hr0] at this
          exact this
        have HW2 : Hid (∀ w', Calls Tryd.prog 18 #[.agg #[.int .i64 X.op, .int .i64 X.d, .int .i64 (-(32 + q)), .int .i64 X.b, .int .i64 X.n, .string (strOf X.name)]] w' fun e w'' => e = .returned (.int .i64 0) ∧ Below w'.heap.size w' w'') := fun w' => by
          have := writes_any { X with a := -(32 + q) } hb3 w'
          rw [hw0] at this
          exact this
        clear hb1 hb2 hb3 hr0 hw0
        have HYs := Lib.hid (HY.out.set 2 (.int .i64 (-(32 + q))))
        have GBs := Lib.hid (zbelow_set GB6.out g5 2 (.int .i64 (-(32 + q))))
        have HLs := Lib.hid (HL.out.old GBs.out)
        go_wp2_with fail
        refine (HPR.out _ HLs.out).mono ?_
        rintro e w8 ⟨rfl, hb8⟩
        have HY8 := Lib.hid (HYs.out.old hb8)
        have GB8 := Lib.hid (GBs.out.trans (hb8.mono GBs.out.size))
        clear hb8 y0 y1 y2 y3 y4 y5 u1 u2 u3 yl
        have s0 : w8.cell? ⟨w5.heap.size, 0, none⟩ = some (.int .i64 X.op) := HY8.out.at 0 _ rfl
        have s1 : w8.cell? ⟨w5.heap.size, 1, none⟩ = some (.int .i64 X.d) := HY8.out.at 1 _ rfl
        have s2 : w8.cell? ⟨w5.heap.size, 2, none⟩ = some (.int .i64 (-(32 + q))) := HY8.out.at 2 _ rfl
        have s3 : w8.cell? ⟨w5.heap.size, 3, none⟩ = some (.int .i64 X.b) := HY8.out.at 3 _ rfl
        have s4 : w8.cell? ⟨w5.heap.size, 4, none⟩ = some (.int .i64 X.n) := HY8.out.at 4 _ rfl
        have s5 : w8.cell? ⟨w5.heap.size, 5, none⟩ = some (.string (strOf X.name)) := HY8.out.at 5 _ rfl
        go_wp2_with (first
          | (go_at_call 13; refine (HRI.out _).mono ?_; rintro e w9 ⟨rfl, hb9⟩; have HY9 := Lib.hid (HY8.out.old hb9); have GB9 := Lib.hid (GB8.out.trans (hb9.mono GB8.out.size)); have r90 : w9.cell? ⟨w5.heap.size, 0, none⟩ = some (.int .i64 X.op) := HY9.out.at 0 _ rfl; have r91 : w9.cell? ⟨w5.heap.size, 1, none⟩ = some (.int .i64 X.d) := HY9.out.at 1 _ rfl; have r92 : w9.cell? ⟨w5.heap.size, 2, none⟩ = some (.int .i64 (-(32 + q))) := HY9.out.at 2 _ rfl; have r93 : w9.cell? ⟨w5.heap.size, 3, none⟩ = some (.int .i64 X.b) := HY9.out.at 3 _ rfl; have r94 : w9.cell? ⟨w5.heap.size, 4, none⟩ = some (.int .i64 X.n) := HY9.out.at 4 _ rfl; have r95 : w9.cell? ⟨w5.heap.size, 5, none⟩ = some (.string (strOf X.name)) := HY9.out.at 5 _ rfl)
          | (go_at_call 16; refine (HR2.out _).mono ?_; rintro e w10 ⟨⟨v, rfl, hv⟩, hb10⟩; obtain ⟨a2, c2, b2, o2, rfl, _, _⟩ := hv; have HY10 := Lib.hid (HY9.out.old hb10); have GB10 := Lib.hid (GB9.out.trans (hb10.mono GB9.out.size)); have r100 : w10.cell? ⟨w5.heap.size, 0, none⟩ = some (.int .i64 X.op) := HY10.out.at 0 _ rfl; have r101 : w10.cell? ⟨w5.heap.size, 1, none⟩ = some (.int .i64 X.d) := HY10.out.at 1 _ rfl; have r102 : w10.cell? ⟨w5.heap.size, 2, none⟩ = some (.int .i64 (-(32 + q))) := HY10.out.at 2 _ rfl; have r103 : w10.cell? ⟨w5.heap.size, 3, none⟩ = some (.int .i64 X.b) := HY10.out.at 3 _ rfl; have r104 : w10.cell? ⟨w5.heap.size, 4, none⟩ = some (.int .i64 X.n) := HY10.out.at 4 _ rfl; have r105 : w10.cell? ⟨w5.heap.size, 5, none⟩ = some (.string (strOf X.name)) := HY10.out.at 5 _ rfl)
          | (go_at_call 18; refine (HW2.out _).mono ?_; rintro e w11 ⟨rfl, hb11⟩; have GB11 := Lib.hid (GB10.out.trans (hb11.mono GB10.out.size))))
        go_ret
        exact ⟨rfl, GB11.out⟩
      · obtain ⟨hb1, hb2, hb3⟩ := HBAD.out { X with b := 32 + q } (.inr (.inr rfl))
        have HPR : Hid (∀ w', ILib w' → Calls Tryd.prog 11 #[.agg #[.int .i64 X.op, .int .i64 X.d, .int .i64 X.a, .int .i64 (32 + q), .int .i64 X.n, .string (strOf X.name)]] w' fun e w'' => e = .returned (.tuple #[.string ⟨#[]⟩, .int .i64 1]) ∧ Below w'.heap.size w' w'') := fun w' h => print_fail { X with b := 32 + q } hb1 hb2 hb3 w' h
        have HRI : Hid (∀ w', Calls Tryd.prog 13 #[.agg #[.int .i64 X.op, .int .i64 X.d, .int .i64 X.a, .int .i64 (32 + q), .int .i64 X.n, .string (strOf X.name)]] w' fun e w'' => e = .returned (.bool false) ∧ Below w'.heap.size w' w'') := fun w' => by
          have := right_any { X with b := 32 + q } hb3 w'
          rw [hb1] at this
          exact this
        have hr0 : readsI { X with b := 32 + q } = [] := by unfold readsI; rw [if_neg (by rw [hb1]; simp)]
        have hw0 : writesI { X with b := 32 + q } = 0 := by unfold writesI; rw [if_neg (by rw [hb1]; simp)]
        have HR2 : Hid (∀ w', Calls Tryd.prog 16 #[.agg #[.int .i64 X.op, .int .i64 X.d, .int .i64 X.a, .int .i64 (32 + q), .int .i64 X.n, .string (strOf X.name)]] w' fun e w'' => (∃ v, e = .returned v ∧ IntsAt w'' v []) ∧ Below w'.heap.size w' w'') := fun w' => by
          have := reads_any { X with b := 32 + q } hb3 w'
          rw [hr0] at this
          exact this
        have HW2 : Hid (∀ w', Calls Tryd.prog 18 #[.agg #[.int .i64 X.op, .int .i64 X.d, .int .i64 X.a, .int .i64 (32 + q), .int .i64 X.n, .string (strOf X.name)]] w' fun e w'' => e = .returned (.int .i64 0) ∧ Below w'.heap.size w' w'') := fun w' => by
          have := writes_any { X with b := 32 + q } hb3 w'
          rw [hw0] at this
          exact this
        clear hb1 hb2 hb3 hr0 hw0
        have HYs := Lib.hid (HY.out.set 3 (.int .i64 (32 + q)))
        have GBs := Lib.hid (zbelow_set GB6.out g5 3 (.int .i64 (32 + q)))
        have HLs := Lib.hid (HL.out.old GBs.out)
        go_wp2_with fail
        refine (HPR.out _ HLs.out).mono ?_
        rintro e w8 ⟨rfl, hb8⟩
        have HY8 := Lib.hid (HYs.out.old hb8)
        have GB8 := Lib.hid (GBs.out.trans (hb8.mono GBs.out.size))
        clear hb8 y0 y1 y2 y3 y4 y5 u1 u2 u3 yl
        have s0 : w8.cell? ⟨w5.heap.size, 0, none⟩ = some (.int .i64 X.op) := HY8.out.at 0 _ rfl
        have s1 : w8.cell? ⟨w5.heap.size, 1, none⟩ = some (.int .i64 X.d) := HY8.out.at 1 _ rfl
        have s2 : w8.cell? ⟨w5.heap.size, 2, none⟩ = some (.int .i64 X.a) := HY8.out.at 2 _ rfl
        have s3 : w8.cell? ⟨w5.heap.size, 3, none⟩ = some (.int .i64 (32 + q)) := HY8.out.at 3 _ rfl
        have s4 : w8.cell? ⟨w5.heap.size, 4, none⟩ = some (.int .i64 X.n) := HY8.out.at 4 _ rfl
        have s5 : w8.cell? ⟨w5.heap.size, 5, none⟩ = some (.string (strOf X.name)) := HY8.out.at 5 _ rfl
        go_wp2_with (first
          | (go_at_call 13; refine (HRI.out _).mono ?_; rintro e w9 ⟨rfl, hb9⟩; have HY9 := Lib.hid (HY8.out.old hb9); have GB9 := Lib.hid (GB8.out.trans (hb9.mono GB8.out.size)); have r90 : w9.cell? ⟨w5.heap.size, 0, none⟩ = some (.int .i64 X.op) := HY9.out.at 0 _ rfl; have r91 : w9.cell? ⟨w5.heap.size, 1, none⟩ = some (.int .i64 X.d) := HY9.out.at 1 _ rfl; have r92 : w9.cell? ⟨w5.heap.size, 2, none⟩ = some (.int .i64 X.a) := HY9.out.at 2 _ rfl; have r93 : w9.cell? ⟨w5.heap.size, 3, none⟩ = some (.int .i64 (32 + q)) := HY9.out.at 3 _ rfl; have r94 : w9.cell? ⟨w5.heap.size, 4, none⟩ = some (.int .i64 X.n) := HY9.out.at 4 _ rfl; have r95 : w9.cell? ⟨w5.heap.size, 5, none⟩ = some (.string (strOf X.name)) := HY9.out.at 5 _ rfl)
          | (go_at_call 16; refine (HR2.out _).mono ?_; rintro e w10 ⟨⟨v, rfl, hv⟩, hb10⟩; obtain ⟨a2, c2, b2, o2, rfl, _, _⟩ := hv; have HY10 := Lib.hid (HY9.out.old hb10); have GB10 := Lib.hid (GB9.out.trans (hb10.mono GB9.out.size)); have r100 : w10.cell? ⟨w5.heap.size, 0, none⟩ = some (.int .i64 X.op) := HY10.out.at 0 _ rfl; have r101 : w10.cell? ⟨w5.heap.size, 1, none⟩ = some (.int .i64 X.d) := HY10.out.at 1 _ rfl; have r102 : w10.cell? ⟨w5.heap.size, 2, none⟩ = some (.int .i64 X.a) := HY10.out.at 2 _ rfl; have r103 : w10.cell? ⟨w5.heap.size, 3, none⟩ = some (.int .i64 (32 + q)) := HY10.out.at 3 _ rfl; have r104 : w10.cell? ⟨w5.heap.size, 4, none⟩ = some (.int .i64 X.n) := HY10.out.at 4 _ rfl; have r105 : w10.cell? ⟨w5.heap.size, 5, none⟩ = some (.string (strOf X.name)) := HY10.out.at 5 _ rfl)
          | (go_at_call 18; refine (HW2.out _).mono ?_; rintro e w11 ⟨rfl, hb11⟩; have GB11 := Lib.hid (GB10.out.trans (hb11.mono GB10.out.size))))
        go_ret
        exact ⟨rfl, GB11.out⟩
end Go.Proofs.YtgjaaclbhakmpaaDoor
