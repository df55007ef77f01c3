/-
  InstrBack: Parse undoes Print; unlike right instructions have unlike texts. Conditions: the raw numbers are ints; the library's variables lie in memory.
-/
import Derived.Test.YtgjaaclbhakmpaaDoorInstrH
set_option linter.unusedVariables false
set_option linter.unusedSimpArgs false
namespace Go.Proofs.YtgjaaclbhakmpaaDoor
open Go.RowKit
set_option maxHeartbeats 4000000
set_option maxRecDepth 100000

theorem iback_any (x y : Ins) (hx : RawI x) (hy : RawI y) (w : World) (hl : ILib w) :
    Calls Tryd.prog 4 #[insV x, insV y] w fun e w' => e = .returned (.bool true) ∧ Below w.heap.size w w' := by
  have HL := Lib.hid hl
  have HAW := Lib.hid (fun w' h => iawake_any w' h)
  have HFX := Lib.hid (fun w' => fit_call x hx w')
  have HFY := Lib.hid (fun w' => fit_call y hy w')
  have hgx := good_fit x hx
  have hgy := good_fit y hy
  clear hx hy hl
  obtain ⟨X, hX⟩ : ∃ X, fitI x = X := ⟨_, rfl⟩
  obtain ⟨Y, hY⟩ : ∃ Y, fitI y = Y := ⟨_, rfl⟩
  rw [hX] at HFX hgx
  rw [hY] at HFY hgy
  clear hX hY
  have HPX := Lib.hid (fun w' h => print_call X hgx w' h)
  have HPY := Lib.hid (fun w' h => print_call Y hgy w' h)
  have HRX := Lib.hid (fun w' h => parse_good X hgx (by have := text_len X hgx; omega) w' h)
  have hinj : Hid (textI X = textI Y → X = Y) := fun e => text_inj X Y hgx.fits hgy.fits hgx.right hgy.right e
  have HCASE : Hid ((X = Y) ∨ (¬ X = Y ∧ (textI X == textI Y) = false)) := by
    show _ ∨ _
    by_cases h : X = Y
    · exact .inl h
    · exact .inr ⟨h, by simpa using fun e => h (hinj.out e)⟩
  clear hinj hgx hgy
  obtain ⟨TX, hTX⟩ : ∃ T, textI X = T := ⟨_, rfl⟩
  obtain ⟨TY, hTY⟩ : ∃ T, textI Y = T := ⟨_, rfl⟩
  rw [hTX] at HPX HRX HCASE
  rw [hTY] at HPY HCASE
  have HTX := Lib.hid hTX
  have HTY := Lib.hid hTY
  clear hTX hTY
  unfold insV
  have hbA1 : Below w.heap.size w (w.alloc (.cells #[.int .i64 x.op, .int .i64 x.d, .int .i64 x.a, .int .i64 x.b, .int .i64 x.n, .string (strOf x.name)] 23)) := (Below.refl _ _).alloc (Nat.le_refl _) _
  have HO_i := Lib.hid (show OwnAt (w.alloc (.cells #[.int .i64 x.op, .int .i64 x.d, .int .i64 x.a, .int .i64 x.b, .int .i64 x.n, .string (strOf x.name)] 23)) (w.heap.size) (insCells x) 23 from OwnAt.new w (insCells x) 23)
  have HB1 := Lib.hid hbA1
  clear hbA1
  have hbA2 : Below (w.alloc (.cells #[.int .i64 x.op, .int .i64 x.d, .int .i64 x.a, .int .i64 x.b, .int .i64 x.n, .string (strOf x.name)] 23)).heap.size (w.alloc (.cells #[.int .i64 x.op, .int .i64 x.d, .int .i64 x.a, .int .i64 x.b, .int .i64 x.n, .string (strOf x.name)] 23)) ((w.alloc (.cells #[.int .i64 x.op, .int .i64 x.d, .int .i64 x.a, .int .i64 x.b, .int .i64 x.n, .string (strOf x.name)] 23)).alloc (.cells #[.int .i64 y.op, .int .i64 y.d, .int .i64 y.a, .int .i64 y.b, .int .i64 y.n, .string (strOf y.name)] 23)) := (Below.refl _ _).alloc (Nat.le_refl _) _
  have HO_i2 := Lib.hid (HO_i.out.old hbA2)
  have HO_j := Lib.hid (show OwnAt ((w.alloc (.cells #[.int .i64 x.op, .int .i64 x.d, .int .i64 x.a, .int .i64 x.b, .int .i64 x.n, .string (strOf x.name)] 23)).alloc (.cells #[.int .i64 y.op, .int .i64 y.d, .int .i64 y.a, .int .i64 y.b, .int .i64 y.n, .string (strOf y.name)] 23)) (w.heap.size + 1) (insCells y) 23 by
    have h := OwnAt.new (w.alloc (.cells #[.int .i64 x.op, .int .i64 x.d, .int .i64 x.a, .int .i64 x.b, .int .i64 x.n, .string (strOf x.name)] 23)) (insCells y) 23
    rw [show (w.alloc (.cells #[.int .i64 x.op, .int .i64 x.d, .int .i64 x.a, .int .i64 x.b, .int .i64 x.n, .string (strOf x.name)] 23)).heap.size = w.heap.size + 1 by simp] at h
    exact h)
  have HB2 := Lib.hid (HB1.out.trans (hbA2.mono HB1.out.size))
  clear hbA2
  have HLa := Lib.hid (HL.out.old HB2.out)
  go_enter Tryd.func4, Tryd.ntmps4
  go_wp2_with fail
  refine (HAW.out _ HLa.out).mono ?_
  rintro e w1 ⟨rfl, hb_w1⟩
  have HO_i2a3 := Lib.hid (HO_i2.out.old hb_w1)
  have HO_ja3 := Lib.hid (HO_j.out.old hb_w1)
  have HB3 := Lib.hid (HB2.out.trans (hb_w1.mono HB2.out.size))
  clear hb_w1
  have ci0 := HO_i2a3.out.at 0 _ rfl
  have ci1 := HO_i2a3.out.at 1 _ rfl
  have ci2 := HO_i2a3.out.at 2 _ rfl
  have ci3 := HO_i2a3.out.at 3 _ rfl
  have ci4 := HO_i2a3.out.at 4 _ rfl
  have ci5 := HO_i2a3.out.at 5 _ rfl
  have li := HO_i2a3.out.lt
  go_wp2_with fail
  refine (HFX.out _).mono ?_
  rintro e w2 ⟨rfl, hb_w2⟩
  have HO_i2a3a4 := Lib.hid (HO_i2a3.out.old hb_w2)
  have HO_ja3a4 := Lib.hid (HO_ja3.out.old hb_w2)
  have HB4 := Lib.hid (HB3.out.trans (hb_w2.mono HB3.out.size))
  clear hb_w2
  clear ci0 ci1 ci2 ci3 ci4 ci5 li
  have cj0 := HO_ja3a4.out.at 0 _ rfl
  have cj1 := HO_ja3a4.out.at 1 _ rfl
  have cj2 := HO_ja3a4.out.at 2 _ rfl
  have cj3 := HO_ja3a4.out.at 3 _ rfl
  have cj4 := HO_ja3a4.out.at 4 _ rfl
  have cj5 := HO_ja3a4.out.at 5 _ rfl
  have lj := HO_ja3a4.out.lt
  have hbA5 : Below w2.heap.size w2 (w2.alloc (.cells #[.int .i64 X.op, .int .i64 X.d, .int .i64 X.a, .int .i64 X.b, .int .i64 X.n, .string (strOf X.name)] 23)) := (Below.refl _ _).alloc (Nat.le_refl _) _
  have HO_i2a3a45 := Lib.hid (HO_i2a3a4.out.old hbA5)
  have HO_ja3a45 := Lib.hid (HO_ja3a4.out.old hbA5)
  have HO_X := Lib.hid (show OwnAt (w2.alloc (.cells #[.int .i64 X.op, .int .i64 X.d, .int .i64 X.a, .int .i64 X.b, .int .i64 X.n, .string (strOf X.name)] 23)) (w2.heap.size) (insCells X) 23 from OwnAt.new w2 (insCells X) 23)
  have HB5 := Lib.hid (HB4.out.trans (hbA5.mono HB4.out.size))
  clear hbA5
  go_wp2_with fail
  refine (HFY.out _).mono ?_
  rintro e w3 ⟨rfl, hb_w3⟩
  have HO_i2a3a45a6 := Lib.hid (HO_i2a3a45.out.old hb_w3)
  have HO_ja3a45a6 := Lib.hid (HO_ja3a45.out.old hb_w3)
  have HO_Xa6 := Lib.hid (HO_X.out.old hb_w3)
  have HB6 := Lib.hid (HB5.out.trans (hb_w3.mono HB5.out.size))
  clear hb_w3
  clear cj0 cj1 cj2 cj3 cj4 cj5 lj
  have cX0 := HO_Xa6.out.at 0 _ rfl
  have cX1 := HO_Xa6.out.at 1 _ rfl
  have cX2 := HO_Xa6.out.at 2 _ rfl
  have cX3 := HO_Xa6.out.at 3 _ rfl
  have cX4 := HO_Xa6.out.at 4 _ rfl
  have cX5 := HO_Xa6.out.at 5 _ rfl
  have lX := HO_Xa6.out.lt
  have hbA7 : Below w3.heap.size w3 (w3.alloc (.cells #[.int .i64 Y.op, .int .i64 Y.d, .int .i64 Y.a, .int .i64 Y.b, .int .i64 Y.n, .string (strOf Y.name)] 23)) := (Below.refl _ _).alloc (Nat.le_refl _) _
  have HO_i2a3a45a67 := Lib.hid (HO_i2a3a45a6.out.old hbA7)
  have HO_ja3a45a67 := Lib.hid (HO_ja3a45a6.out.old hbA7)
  have HO_Xa67 := Lib.hid (HO_Xa6.out.old hbA7)
  have HO_Y := Lib.hid (show OwnAt (w3.alloc (.cells #[.int .i64 Y.op, .int .i64 Y.d, .int .i64 Y.a, .int .i64 Y.b, .int .i64 Y.n, .string (strOf Y.name)] 23)) (w3.heap.size) (insCells Y) 23 from OwnAt.new w3 (insCells Y) 23)
  have HB7 := Lib.hid (HB6.out.trans (hbA7.mono HB6.out.size))
  clear hbA7
  have HLb := Lib.hid (HL.out.old HB7.out)
  go_wp2_with fail
  refine (HPX.out _ HLb.out).mono ?_
  rintro e w4 ⟨rfl, hb_w4⟩
  have HO_i2a3a45a67a8 := Lib.hid (HO_i2a3a45a67.out.old hb_w4)
  have HO_ja3a45a67a8 := Lib.hid (HO_ja3a45a67.out.old hb_w4)
  have HO_Xa67a8 := Lib.hid (HO_Xa67.out.old hb_w4)
  have HO_Ya8 := Lib.hid (HO_Y.out.old hb_w4)
  have HB8 := Lib.hid (HB7.out.trans (hb_w4.mono HB7.out.size))
  clear hb_w4
  clear cX0 cX1 cX2 cX3 cX4 cX5 lX
  have cY0 := HO_Ya8.out.at 0 _ rfl
  have cY1 := HO_Ya8.out.at 1 _ rfl
  have cY2 := HO_Ya8.out.at 2 _ rfl
  have cY3 := HO_Ya8.out.at 3 _ rfl
  have cY4 := HO_Ya8.out.at 4 _ rfl
  have cY5 := HO_Ya8.out.at 5 _ rfl
  have lY := HO_Ya8.out.lt
  have HLc := Lib.hid (HL.out.old HB8.out)
  go_wp2_with fail
  refine (HPY.out _ HLc.out).mono ?_
  rintro e w5 ⟨rfl, hb_w5⟩
  have HO_i2a3a45a67a8a9 := Lib.hid (HO_i2a3a45a67a8.out.old hb_w5)
  have HO_ja3a45a67a8a9 := Lib.hid (HO_ja3a45a67a8.out.old hb_w5)
  have HO_Xa67a8a9 := Lib.hid (HO_Xa67a8.out.old hb_w5)
  have HO_Ya8a9 := Lib.hid (HO_Ya8.out.old hb_w5)
  have HB9 := Lib.hid (HB8.out.trans (hb_w5.mono HB8.out.size))
  clear hb_w5
  clear cY0 cY1 cY2 cY3 cY4 cY5 lY
  have HLd := Lib.hid (HL.out.old HB9.out)
  go_wp2_with fail
  refine (HRX.out _ HLd.out).mono ?_
  rintro e w6 ⟨rfl, hb_w6⟩
  have HO_i2a3a45a67a8a9a10 := Lib.hid (HO_i2a3a45a67a8a9.out.old hb_w6)
  have HO_ja3a45a67a8a9a10 := Lib.hid (HO_ja3a45a67a8a9.out.old hb_w6)
  have HO_Xa67a8a9a10 := Lib.hid (HO_Xa67a8a9.out.old hb_w6)
  have HO_Ya8a9a10 := Lib.hid (HO_Ya8a9.out.old hb_w6)
  have HB10 := Lib.hid (HB9.out.trans (hb_w6.mono HB9.out.size))
  clear hb_w6
  have cX0 := HO_Xa67a8a9a10.out.at 0 _ rfl
  have cX1 := HO_Xa67a8a9a10.out.at 1 _ rfl
  have cX2 := HO_Xa67a8a9a10.out.at 2 _ rfl
  have cX3 := HO_Xa67a8a9a10.out.at 3 _ rfl
  have cX4 := HO_Xa67a8a9a10.out.at 4 _ rfl
  have cX5 := HO_Xa67a8a9a10.out.at 5 _ rfl
  have lX := HO_Xa67a8a9a10.out.lt
  have cY0 := HO_Ya8a9a10.out.at 0 _ rfl
  have cY1 := HO_Ya8a9a10.out.at 1 _ rfl
  have cY2 := HO_Ya8a9a10.out.at 2 _ rfl
  have cY3 := HO_Ya8a9a10.out.at 3 _ rfl
  have cY4 := HO_Ya8a9a10.out.at 4 _ rfl
  have cY5 := HO_Ya8a9a10.out.at 5 _ rfl
  have lY := HO_Ya8a9a10.out.lt
  have HBe := Lib.hid (HB10.out.alloc HB10.out.size (.cells #[.int .i64 X.op, .int .i64 X.d, .int .i64 X.a, .int .i64 X.b, .int .i64 X.n, .string (strOf X.name)] 23))
  clear HO_i2a3a45a67a8a9a10 HO_ja3a45a67a8a9a10 HO_Xa67a8a9a10 HO_Ya8a9a10
  rcases HCASE.out with hXY | ⟨hXY, hT⟩
  · subst hXY
    have hTT : TX = TY := by rw [← HTX.out, ← HTY.out]
    subst hTT
    clear HCASE HTX HTY
    go_wp2_with fail
    go_ret
    exact ⟨rfl, HBe.out⟩
  · have hd := ins_diff X Y hXY
    clear HCASE HTX HTY hXY HPX HPY HRX HFX HFY HAW
    generalize X.op = o0 at *
    generalize X.d = o1 at *
    generalize X.a = o2 at *
    generalize X.b = o3 at *
    generalize X.n = o4 at *
    generalize X.name = o5 at *
    rcases hd with h | ⟨rfl, h⟩ | ⟨rfl, rfl, h⟩ | ⟨rfl, rfl, rfl, h⟩ | ⟨rfl, rfl, rfl, rfl, h⟩ | ⟨rfl, rfl, rfl, rfl, rfl, h⟩
    all_goals
      go_wp2_with fail
      go_ret
      exact ⟨rfl, HBe.out⟩
end Go.Proofs.YtgjaaclbhakmpaaDoor
