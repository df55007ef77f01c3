/-
  InstrCut: without its last byte a text is another instruction, or none. Conditions: the raw numbers are ints; the library's variables lie in memory.
-/
import Derived.Test.YtgjaaclbhakmpaaDoorInstrH
set_option linter.unusedVariables false
set_option linter.unusedSimpArgs false
namespace Go.Proofs.YtgjaaclbhakmpaaDoor
open Go.RowKit
set_option maxHeartbeats 4000000
set_option maxRecDepth 100000

theorem iconv_one (n : Int) (h0 : 0 ≤ n) (h1 : n < 256) (W : World) (b : Nat) (hc : W.cell? ⟨b, 0, none⟩ = some (.int .u8 n)) :
    (convert 45 9 (.slice (some ⟨b, 0, none⟩) 1 1)).run Tryd.prog W = .ok (.string (strOf [UInt8.ofNat n.toNat])) W := by
  refine run_convert_bytes_back (P := Tryd.prog) W 45 9 5 ⟨b, 0, none⟩ 1 [UInt8.ofNat n.toNat] Tryd.underlying45 Tryd.underlying5 Tryd.underlying9 (fun j hj => ?_)
  have hj0 : j = 0 := by simp at hj; omega
  subst hj0
  have e : ((UInt8.ofNat n.toNat).toNat : Int) = n := by
    rw [UInt8.toNat_ofNat']
    have : n.toNat % 2 ^ 8 = n.toNat := Nat.mod_eq_of_lt (by omega)
    omega
  show W.cell? _ = some (.int .u8 ((UInt8.ofNat n.toNat).toNat : Int))
  rw [e]; exact hc
theorem strOf_take (l : Bs) (n : Nat) : (strOf l).extract 0 n = strOf (l.take n) := by
  apply ByteArray.ext
  rw [ByteArray.data_extract]
  simp [strOf]
theorem strOf_append (a b : Bs) : strOf a ++ strOf b = strOf (a ++ b) := by
  apply ByteArray.ext
  simp [strOf]
/-- What a parse tells, in one form. -/
theorem parse_shape (X : Ins) (t : Bs) (ht : t ≠ textI X) : ∃ (Y : Ins) (e : Int), parseV (parseI t) = .tuple #[insV Y, .int .i64 e] ∧ ((Y = zeroI 0 ∧ e = 60) ∨ (e = 0 ∧ ¬ Y = X)) := by
  cases h : parseI t with
  | none => exact ⟨zeroI 0, 60, rfl, .inl ⟨rfl, rfl⟩⟩
  | some Y => exact ⟨Y, 0, rfl, .inr ⟨rfl, fun e => ht (by rw [← (parseI_sound t Y h).2, e])⟩⟩
theorem text_long (X : Ins) (h : GoodI X) : 3 ≤ (textI X).length := by
  have hw := (right_open h.right).2.1
  have hwl : 1 ≤ (rowI X.op).1.length := List.length_pos_iff.2 hw
  unfold textI
  rw [List.length_append, List.length_append]
  by_cases he : (rowI X.op).2 = []
  · have hop := right_op h.right
    have hf := (row_form X.op (by omega) (by omega)).2
    have h27 : 27 ≤ X.op := by
      apply Classical.byContradiction
      intro hn
      rw [he] at hf
      have all : ∀ o : Fin 27, 1 ≤ o.val → (rowI (o.val : Int)).2 ≠ [] := by decide +kernel
      have := all ⟨X.op.toNat, by omega⟩ (by show 1 ≤ X.op.toNat; omega)
      apply this
      show (rowI ((X.op.toNat : Nat) : Int)).2 = []
      rw [show ((X.op.toNat : Nat) : Int) = X.op by omega]
      exact he
    have hc : X.op = 27 ∨ X.op = 28 := by omega
    have h3 : 3 ≤ (rowI X.op).1.length := by
      rcases hc with e | e <;> rw [e] <;> decide
    omega
  · rw [if_neg he]
    cases hf : (rowI X.op).2 with
    | nil => exact absurd hf he
    | cons c f =>
      have hp : pieceI X c ≠ [] := by
        by_cases hs : sepB c = true
        · rw [piece_sep X c hs]; simp
        · exact (piece_ok h.right c (by rw [hf]; exact List.mem_cons_self) (by simpa using hs)).1
      have : 1 ≤ (pieceI X c).length := List.length_pos_iff.2 hp
      rw [List.flatMap_cons, List.length_append]
      simp
      omega
theorem icut_any (x : Ins) (c : Int) (hx : RawI x) (hc : I64 c) (w : World) (hl : ILib w) :
    Calls Tryd.prog 8 #[insV x, .int .i64 c] w fun e w' => e = .returned (.bool true) ∧ Below w.heap.size w w' := by
  have HL := Lib.hid hl
  have HAW := Lib.hid (fun w' h => iawake_any w' h)
  have HFX := Lib.hid (fun w' => fit_call x hx w')
  have hgx := good_fit x hx
  have HPK := Lib.hid (fun w' => ipick_any c 256 hc (by decide) (by decide) w')
  have hk := ipick_range c 256 (by decide)
  clear hx hl hc
  obtain ⟨X, hX⟩ : ∃ X, fitI x = X := ⟨_, rfl⟩
  rw [hX] at HFX hgx
  clear hX
  obtain ⟨k, hke⟩ : ∃ k, ipick c 256 = k := ⟨_, rfl⟩
  rw [hke] at HPK hk
  obtain ⟨hk0, hk1⟩ := hk
  clear hke
  have HPX := Lib.hid (fun w' h => print_call X hgx w' h)
  have htl := text_len X hgx
  have htg := text_long X hgx
  obtain ⟨Y1, e1, hs1, hd1⟩ := parse_shape X ((textI X).take ((textI X).length - 1)) (fun e => by have := congrArg List.length e; rw [List.length_take] at this; omega)
  obtain ⟨Y2, e2, hs2, hd2⟩ := parse_shape X (textI X ++ [UInt8.ofNat k.toNat]) (fun e => by have := congrArg List.length e; rw [List.length_append] at this; simp at this)
  have HPA := Lib.hid (fun w' h => parse_call ((textI X).take ((textI X).length - 1)) (by rw [List.length_take]; omega) w' h)
  have HPB := Lib.hid (fun w' h => parse_call (textI X ++ [UInt8.ofNat k.toNat]) (by rw [List.length_append]; simp; omega) w' h)
  rw [hs1] at HPA
  rw [hs2] at HPB
  unfold insV at HPA HPB
  have HD1 := Lib.hid hd1
  have HD2 := Lib.hid hd2
  clear hs1 hs2 hd1 hd2
  clear hgx
  obtain ⟨TX, hTX⟩ : ∃ T, textI X = T := ⟨_, rfl⟩
  rw [hTX] at HPX htl htg HPA HPB
  clear hTX
  have HTK : Hid ((strOf TX).extract 0 (max ((TX.length : Int) - 1) 0).toNat = strOf (TX.take (TX.length - 1))) := by
    show _ = _
    rw [strOf_take]
    congr 2
    omega
  unfold insV
  have hbA1 : Below w.heap.size w (w.alloc (.cells #[.int .i64 x.op, .int .i64 x.d, .int .i64 x.a, .int .i64 x.b, .int .i64 x.n, .string (strOf x.name)] 23)) := (Below.refl _ _).alloc (Nat.le_refl _) _
  have HO_i := Lib.hid (show OwnAt (w.alloc (.cells #[.int .i64 x.op, .int .i64 x.d, .int .i64 x.a, .int .i64 x.b, .int .i64 x.n, .string (strOf x.name)] 23)) (w.heap.size) (insCells x) 23 from OwnAt.new w (insCells x) 23)
  have HB1 := Lib.hid hbA1
  clear hbA1
  have HLa := Lib.hid (HL.out.old HB1.out)
  go_enter Tryd.func8, Tryd.ntmps8
  go_wp2_with fail
  refine (HAW.out _ HLa.out).mono ?_
  rintro e w1 ⟨rfl, hb_w1⟩
  have HO_ia2 := Lib.hid (HO_i.out.old hb_w1)
  have HB2 := Lib.hid (HB1.out.trans (hb_w1.mono HB1.out.size))
  clear hb_w1
  have ci0 := HO_ia2.out.at 0 _ rfl
  have ci1 := HO_ia2.out.at 1 _ rfl
  have ci2 := HO_ia2.out.at 2 _ rfl
  have ci3 := HO_ia2.out.at 3 _ rfl
  have ci4 := HO_ia2.out.at 4 _ rfl
  have ci5 := HO_ia2.out.at 5 _ rfl
  have li := HO_ia2.out.lt
  go_wp2_with fail
  refine (HFX.out _).mono ?_
  rintro e w2 ⟨rfl, hb_w2⟩
  have HO_ia2a3 := Lib.hid (HO_ia2.out.old hb_w2)
  have HB3 := Lib.hid (HB2.out.trans (hb_w2.mono HB2.out.size))
  clear hb_w2
  clear ci0 ci1 ci2 ci3 ci4 ci5 li
  have hbA4 : Below w2.heap.size w2 (w2.alloc (.cells #[.int .i64 X.op, .int .i64 X.d, .int .i64 X.a, .int .i64 X.b, .int .i64 X.n, .string (strOf X.name)] 23)) := (Below.refl _ _).alloc (Nat.le_refl _) _
  have HO_ia2a34 := Lib.hid (HO_ia2a3.out.old hbA4)
  have HO_X := Lib.hid (show OwnAt (w2.alloc (.cells #[.int .i64 X.op, .int .i64 X.d, .int .i64 X.a, .int .i64 X.b, .int .i64 X.n, .string (strOf X.name)] 23)) (w2.heap.size) (insCells X) 23 from OwnAt.new w2 (insCells X) 23)
  have HB4 := Lib.hid (HB3.out.trans (hbA4.mono HB3.out.size))
  clear hbA4
  have HLb := Lib.hid (HL.out.old HB4.out)
  go_wp2_with fail
  refine (HPX.out _ HLb.out).mono ?_
  rintro e w4 ⟨rfl, hb_w4⟩
  have HO_ia2a34a5 := Lib.hid (HO_ia2a34.out.old hb_w4)
  have HO_Xa5 := Lib.hid (HO_X.out.old hb_w4)
  have HB5 := Lib.hid (HB4.out.trans (hb_w4.mono HB4.out.size))
  clear hb_w4
  have cX0 := HO_Xa5.out.at 0 _ rfl
  have cX1 := HO_Xa5.out.at 1 _ rfl
  have cX2 := HO_Xa5.out.at 2 _ rfl
  have cX3 := HO_Xa5.out.at 3 _ rfl
  have cX4 := HO_Xa5.out.at 4 _ rfl
  have cX5 := HO_Xa5.out.at 5 _ rfl
  have lX := HO_Xa5.out.lt
  have HLc := Lib.hid (HL.out.old HB5.out)
  have htgI : (3 : Int) ≤ (TX.length : Int) := by omega
  have htlI : (TX.length : Int) ≤ 1000 := by omega
  go_wp2_with fail
  rw [HTK.out]
  refine (HPA.out _ HLc.out).mono ?_
  rintro e w5 ⟨rfl, hb_w5⟩
  have HO_ia2a34a5a6 := Lib.hid (HO_ia2a34a5.out.old hb_w5)
  have HO_Xa5a6 := Lib.hid (HO_Xa5.out.old hb_w5)
  have HB6 := Lib.hid (HB5.out.trans (hb_w5.mono HB5.out.size))
  clear hb_w5
  clear cX0 cX1 cX2 cX3 cX4 cX5 lX
  have hbA7 : Below w5.heap.size w5 (w5.alloc (.cells #[.int .i64 Y1.op, .int .i64 Y1.d, .int .i64 Y1.a, .int .i64 Y1.b, .int .i64 Y1.n, .string (strOf Y1.name)] 23)) := (Below.refl _ _).alloc (Nat.le_refl _) _
  have HO_ia2a34a5a67 := Lib.hid (HO_ia2a34a5a6.out.old hbA7)
  have HO_Xa5a67 := Lib.hid (HO_Xa5a6.out.old hbA7)
  have HO_Y := Lib.hid (show OwnAt (w5.alloc (.cells #[.int .i64 Y1.op, .int .i64 Y1.d, .int .i64 Y1.a, .int .i64 Y1.b, .int .i64 Y1.n, .string (strOf Y1.name)] 23)) (w5.heap.size) (insCells Y1) 23 from OwnAt.new w5 (insCells Y1) 23)
  have HB7 := Lib.hid (HB6.out.trans (hbA7.mono HB6.out.size))
  clear hbA7
  go_wp2_with fail
  refine (HPK.out _).mono ?_
  rintro e w6 ⟨rfl, hw6⟩
  subst hw6
  have hbA8 : Below (w5.alloc (.cells #[.int .i64 Y1.op, .int .i64 Y1.d, .int .i64 Y1.a, .int .i64 Y1.b, .int .i64 Y1.n, .string (strOf Y1.name)] 23)).heap.size (w5.alloc (.cells #[.int .i64 Y1.op, .int .i64 Y1.d, .int .i64 Y1.a, .int .i64 Y1.b, .int .i64 Y1.n, .string (strOf Y1.name)] 23)) ((w5.alloc (.cells #[.int .i64 Y1.op, .int .i64 Y1.d, .int .i64 Y1.a, .int .i64 Y1.b, .int .i64 Y1.n, .string (strOf Y1.name)] 23)).alloc (.cells #[.int .u8 k] 5)) := (Below.refl _ _).alloc (Nat.le_refl _) _
  have HO_ia2a34a5a678 := Lib.hid (HO_ia2a34a5a67.out.old hbA8)
  have HO_Xa5a678 := Lib.hid (HO_Xa5a67.out.old hbA8)
  have HO_Y8 := Lib.hid (HO_Y.out.old hbA8)
  have HB8 := Lib.hid (HB7.out.trans (hbA8.mono HB7.out.size))
  clear hbA8
  have HCV := iconv_one k hk0 hk1
  have hno : ¬ ((strOf TX).size + (strOf [UInt8.ofNat k.toNat]).size > 9223372036854775807) := by
    show ¬ (TX.toArray.size + [UInt8.ofNat k.toNat].toArray.size > _)
    simp; omega
  have HLd := Lib.hid (HL.out.old HB8.out)
  go_wp2_with fail
  rw [strOf_append]
  refine (HPB.out _ HLd.out).mono ?_
  rintro e w7 ⟨rfl, hb_w7⟩
  have HO_ia2a34a5a678a9 := Lib.hid (HO_ia2a34a5a678.out.old hb_w7)
  have HO_Xa5a678a9 := Lib.hid (HO_Xa5a678.out.old hb_w7)
  have HO_Y8a9 := Lib.hid (HO_Y8.out.old hb_w7)
  have HB9 := Lib.hid (HB8.out.trans (hb_w7.mono HB8.out.size))
  clear hb_w7
  have cX0 := HO_Xa5a678a9.out.at 0 _ rfl
  have cX1 := HO_Xa5a678a9.out.at 1 _ rfl
  have cX2 := HO_Xa5a678a9.out.at 2 _ rfl
  have cX3 := HO_Xa5a678a9.out.at 3 _ rfl
  have cX4 := HO_Xa5a678a9.out.at 4 _ rfl
  have cX5 := HO_Xa5a678a9.out.at 5 _ rfl
  have lX := HO_Xa5a678a9.out.lt
  have cY0 := HO_Y8a9.out.at 0 _ rfl
  have cY1 := HO_Y8a9.out.at 1 _ rfl
  have cY2 := HO_Y8a9.out.at 2 _ rfl
  have cY3 := HO_Y8a9.out.at 3 _ rfl
  have cY4 := HO_Y8a9.out.at 4 _ rfl
  have cY5 := HO_Y8a9.out.at 5 _ rfl
  have lY := HO_Y8a9.out.lt
  have HBe := Lib.hid (HB9.out.alloc HB9.out.size (.cells #[.int .i64 Y2.op, .int .i64 Y2.d, .int .i64 Y2.a, .int .i64 Y2.b, .int .i64 Y2.n, .string (strOf Y2.name)] 23))
  have f1 : (Y1.op = 0 ∧ Y1.d = 0 ∧ Y1.a = 0 ∧ Y1.b = 0 ∧ Y1.n = 0 ∧ Y1.name = [] ∧ e1 = 60) ∨ (e1 = 0 ∧ ((Y1.op == X.op) = false ∨ (Y1.op = X.op ∧ (Y1.d == X.d) = false) ∨ (Y1.op = X.op ∧ Y1.d = X.d ∧ (Y1.a == X.a) = false) ∨ (Y1.op = X.op ∧ Y1.d = X.d ∧ Y1.a = X.a ∧ (Y1.b == X.b) = false) ∨ (Y1.op = X.op ∧ Y1.d = X.d ∧ Y1.a = X.a ∧ Y1.b = X.b ∧ (Y1.n == X.n) = false) ∨ (Y1.op = X.op ∧ Y1.d = X.d ∧ Y1.a = X.a ∧ Y1.b = X.b ∧ Y1.n = X.n ∧ (Y1.name == X.name) = false))) := by
    rcases HD1.out with ⟨h1, h2⟩ | ⟨h1, h2⟩
    · subst h1; exact .inl ⟨rfl, rfl, rfl, rfl, rfl, rfl, h2⟩
    · exact .inr ⟨h1, ins_diff Y1 X h2⟩
  have f2 : (Y2.op = 0 ∧ Y2.d = 0 ∧ Y2.a = 0 ∧ Y2.b = 0 ∧ Y2.n = 0 ∧ Y2.name = [] ∧ e2 = 60) ∨ (e2 = 0 ∧ ((Y2.op == X.op) = false ∨ (Y2.op = X.op ∧ (Y2.d == X.d) = false) ∨ (Y2.op = X.op ∧ Y2.d = X.d ∧ (Y2.a == X.a) = false) ∨ (Y2.op = X.op ∧ Y2.d = X.d ∧ Y2.a = X.a ∧ (Y2.b == X.b) = false) ∨ (Y2.op = X.op ∧ Y2.d = X.d ∧ Y2.a = X.a ∧ Y2.b = X.b ∧ (Y2.n == X.n) = false) ∨ (Y2.op = X.op ∧ Y2.d = X.d ∧ Y2.a = X.a ∧ Y2.b = X.b ∧ Y2.n = X.n ∧ (Y2.name == X.name) = false))) := by
    rcases HD2.out with ⟨h1, h2⟩ | ⟨h1, h2⟩
    · subst h1; exact .inl ⟨rfl, rfl, rfl, rfl, rfl, rfl, h2⟩
    · exact .inr ⟨h1, ins_diff Y2 X h2⟩
  clear HD1 HD2 HPA HPB HPX HFX HAW HPK HTK HCV hno HO_ia2a34a5a678a9 HO_Xa5a678a9 HO_Y8a9
  generalize Y1.op = p0 at *
  generalize Y1.d = p1 at *
  generalize Y1.a = p2 at *
  generalize Y1.b = p3 at *
  generalize Y1.n = p4 at *
  generalize Y1.name = p5 at *
  generalize Y2.op = q0 at *
  generalize Y2.d = q1 at *
  generalize Y2.a = q2 at *
  generalize Y2.b = q3 at *
  generalize Y2.n = q4 at *
  generalize Y2.name = q5 at *
  generalize X.op = o0 at *
  generalize X.d = o1 at *
  generalize X.a = o2 at *
  generalize X.b = o3 at *
  generalize X.n = o4 at *
  generalize X.name = o5 at *
  rcases f1 with ⟨rfl, rfl, rfl, rfl, rfl, rfl, rfl⟩ | ⟨rfl, h1 | ⟨rfl, h1⟩ | ⟨rfl, rfl, h1⟩ | ⟨rfl, rfl, rfl, h1⟩ | ⟨rfl, rfl, rfl, rfl, h1⟩ | ⟨rfl, rfl, rfl, rfl, rfl, h1⟩⟩
  all_goals
    rcases f2 with ⟨rfl, rfl, rfl, rfl, rfl, rfl, rfl⟩ | ⟨rfl, h2 | ⟨rfl, h2⟩ | ⟨rfl, rfl, h2⟩ | ⟨rfl, rfl, rfl, h2⟩ | ⟨rfl, rfl, rfl, rfl, h2⟩ | ⟨rfl, rfl, rfl, rfl, rfl, h2⟩⟩
    all_goals
      go_wp2_with fail
      go_ret
      exact ⟨rfl, HBe.out⟩
end Go.Proofs.YtgjaaclbhakmpaaDoor
