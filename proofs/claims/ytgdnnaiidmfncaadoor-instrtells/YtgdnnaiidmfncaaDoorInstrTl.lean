/-
  InstrTells: its walk. Conditions: the raw numbers are ints; texts are no longer than may be; the library's variables lie in memory.
-/
import Derived.Test.YtgdnnaiidmfncaaDoorInstrT8
import Derived.Test.YtgdnnaiidmfncaaDoorInstrRg
import Derived.Test.YtgdnnaiidmfncaaDoorInstrH
import Derived.BigRegion
set_option linter.unusedVariables false
set_option linter.unusedSimpArgs false
namespace Go.Proofs.YtgdnnaiidmfncaaDoor
open Go.RowKit
set_option maxHeartbeats 4000000
set_option maxRecDepth 100000

theorem tl_shape (t : Bs) : ∃ (Y : Ins) (e : Int), parseV (parseI t) = .tuple #[insV Y, .int .i64 e] := by
  cases h : parseI t with
  | none => exact ⟨zeroI 0, 60, rfl⟩
  | some Y => exact ⟨Y, 0, rfl⟩
theorem tl_print (Y : Ins) : ∃ (A : Bs) (e : Int), printV Y = .tuple #[.string (strOf A), .int .i64 e] := by
  unfold printV
  split
  · exact ⟨_, _, rfl⟩
  · exact ⟨_, _, rfl⟩
theorem tl_reads_len (Y : Ins) : (readsI Y).length ≤ 10 := by
  unfold readsI
  repeat' split
  all_goals simp
theorem thenT_any {P : Program} {c : Code} {K : Act → World → Prop} {Q : Exit → Act → World → Prop} {a : Act} {w : World} (h : c.wp P (Exit.then K (fun _ _ _ => False)) a w) : c.wp P (Exit.then K Q) a w :=
  wp_mono h (fun e a w q => by cases e with
    | normal => exact q
    | _ => exact False.elim q)
theorem itells_any (x : Ins) (s : Bs) (c : Int) (more : Bs) (hx : RawI x) (hxn : x.name.length ≤ 9223372036854775807) (hc : I64 c) (hs : s.length ≤ 140737488355328) (hm : more.length ≤ 140737488355328) (w : World) (hl : ILib w) :
    Calls Tryd.prog 3 #[insV x, .string (strOf s), .int .i64 c, .string (strOf more)] w fun e w' => e = .returned (.bool true) ∧ Below w.heap.size w w' := by
  have HL := Lib.hid hl
  have HAW := Lib.hid (fun w' h => iawake_any w' h)
  have HFX := Lib.hid (fun w' => fit_call x hx w')
  have hgx := good_fit x hx
  have hxf : FitsI x := hx.n
  clear hx hl
  obtain ⟨X, hX⟩ : ∃ X, fitI x = X := ⟨_, rfl⟩
  rw [hX] at HFX hgx
  clear hX
  have HPX := Lib.hid (fun w' => refprint_any X hgx.fits (by have := hgx.name; omega) w')
  have hpv : printV X = .tuple #[.string (strOf (textI X)), .int .i64 0] := by unfold printV; rw [if_pos hgx.right]
  rw [hpv] at HPX
  clear hpv
  have HGX := Lib.hid hgx
  have htl := text_len X hgx
  have HRX := Lib.hid (fun w' => right_any X (by have := hgx.name; omega) w')
  rw [hgx.right] at HRX
  clear hgx
  obtain ⟨TX, hTX⟩ : ∃ T, textI X = T := ⟨_, rfl⟩
  rw [hTX] at HPX htl
  clear hTX
  have HPK := Lib.hid (fun w' => ipick_any c ((TX.length : Int) + 1) hc (by omega) (by omega) w')
  have hk := ipick_range c ((TX.length : Int) + 1) (by omega)
  obtain ⟨kz, hke⟩ : ∃ k, ipick c ((TX.length : Int) + 1) = k := ⟨_, rfl⟩
  rw [hke] at HPK hk
  obtain ⟨hk0, hk1⟩ := hk
  obtain ⟨k, rfl⟩ : ∃ k : Nat, kz = (k : Int) := ⟨kz.toNat, by omega⟩
  clear hke hc
  have hkl : k ≤ TX.length := by omega
  have htlI : (TX.length : Int) ≤ 1000 := by omega
  unfold insV at HPX HRX ⊢
  have hbA1 : Below w.heap.size w (w.alloc (.cells #[.int .i64 x.op, .int .i64 x.d, .int .i64 x.a, .int .i64 x.b, .int .i64 x.n, .string (strOf x.name)] 23)) := (Below.refl _ _).alloc (Nat.le_refl _) _
  have HO1 := Lib.hid (show OwnAt (w.alloc (.cells #[.int .i64 x.op, .int .i64 x.d, .int .i64 x.a, .int .i64 x.b, .int .i64 x.n, .string (strOf x.name)] 23)) w.heap.size (insCells x) 23 from OwnAt.new w (insCells x) 23)
  have HB1 := Lib.hid hbA1
  clear hbA1
  have HLa := Lib.hid (HL.out.old HB1.out)
  go_enter Tryd.func3, Tryd.ntmps3
  go_wp2_with fail
  refine (HAW.out _ HLa.out).mono ?_
  rintro e w1 ⟨rfl, hb1⟩
  have HO2 := Lib.hid (HO1.out.old hb1)
  have HB2 := Lib.hid (HB1.out.trans (hb1.mono HB1.out.size))
  clear hb1 HO1 HB1 HLa HAW
  have ci0 := HO2.out.at 0 _ rfl
  have ci1 := HO2.out.at 1 _ rfl
  have ci2 := HO2.out.at 2 _ rfl
  have ci3 := HO2.out.at 3 _ rfl
  have ci4 := HO2.out.at 4 _ rfl
  have ci5 := HO2.out.at 5 _ rfl
  have cil := HO2.out.lt
  go_wp2_with fail
  refine (HFX.out _).mono ?_
  rintro e w2 ⟨rfl, hb2⟩
  have HO3 := Lib.hid (HO2.out.old hb2)
  have HB3 := Lib.hid (HB2.out.trans (hb2.mono HB2.out.size))
  clear hb2 HO2 HB2 ci0 ci1 ci2 ci3 ci4 ci5 cil HFX
  have hbC : Below w2.heap.size w2 (w2.alloc (.cells #[.int .i64 X.op, .int .i64 X.d, .int .i64 X.a, .int .i64 X.b, .int .i64 X.n, .string (strOf X.name)] 23)) := (Below.refl _ _).alloc (Nat.le_refl _) _
  have HO4 := Lib.hid (HO3.out.old hbC)
  have HX4 := Lib.hid (show OwnAt (w2.alloc (.cells #[.int .i64 X.op, .int .i64 X.d, .int .i64 X.a, .int .i64 X.b, .int .i64 X.n, .string (strOf X.name)] 23)) w2.heap.size (insCells X) 23 from OwnAt.new w2 (insCells X) 23)
  have HB4 := Lib.hid (HB3.out.trans (hbC.mono HB3.out.size))
  clear hbC HO3 HB3
  go_upto_region 3 with (fail)
  obtain ⟨w4, hw4⟩ : ∃ w4, w2.alloc (.cells #[.int .i64 X.op, .int .i64 X.d, .int .i64 X.a, .int .i64 X.b, .int .i64 X.n, .string (strOf X.name)] 23) = w4 := ⟨_, rfl⟩
  obtain ⟨T10, hT10⟩ : ∃ T, w2.heap.size = T := ⟨_, rfl⟩
  rw [hw4, hT10] at HX4
  rw [hw4] at HO4 HB4
  rw [hw4, hT10]
  clear hw4 hT10
  have ci0 := HO4.out.at 0 _ rfl
  have ci1 := HO4.out.at 1 _ rfl
  have ci2 := HO4.out.at 2 _ rfl
  have ci3 := HO4.out.at 3 _ rfl
  have ci4 := HO4.out.at 4 _ rfl
  have ci5 := HO4.out.at 5 _ rfl
  have cil := HO4.out.lt
  have cx0 := HX4.out.at 0 _ rfl
  have cx1 := HX4.out.at 1 _ rfl
  have cx2 := HX4.out.at 2 _ rfl
  have cx3 := HX4.out.at 3 _ rfl
  have cx4 := HX4.out.at 4 _ rfl
  have cx5 := HX4.out.at 5 _ rfl
  have cxl := HX4.out.lt
  go_wp2_with fail
  obtain ⟨w5, hw5⟩ : ∃ w5, w4.alloc (.cells #[.int .i64 x.op, .int .i64 x.d, .int .i64 x.a, .int .i64 x.b, .int .i64 x.n, .string (strOf x.name), .int .i64 X.op, .int .i64 X.d, .int .i64 X.a, .int .i64 X.b, .int .i64 X.n, .string (strOf X.name)] 23) = w5 := ⟨_, rfl⟩
  have hb5 : Below w4.heap.size w4 w5 := by rw [← hw5]; exact (Below.refl _ _).alloc (Nat.le_refl _) _
  have HR5 : Hid (OwnAt w5 w4.heap.size (insCells x ++ insCells X) 23) := Lib.hid (by rw [← hw5]; exact OwnAt.new w4 (insCells x ++ insCells X) 23)
  have HX5 := Lib.hid (HX4.out.old hb5)
  have HB5 := Lib.hid (HB4.out.trans (hb5.mono HB4.out.size))
  obtain ⟨T11, hT11⟩ : ∃ T, w4.heap.size = T := ⟨_, rfl⟩
  rw [hT11] at HR5
  rw [hw5, hT11]
  clear hw5 hT11 hb5 HO4 HX4 HB4 ci0 ci1 ci2 ci3 ci4 ci5 cil cx0 cx1 cx2 cx3 cx4 cx5 cxl
  have hXn : X.name.length ≤ 9223372036854775807 := by have := HGX.out.name; omega
  have hXf := HGX.out.fits
  go_loopw [33] (fun s33 wr => ∃ j : Nat, j ≤ 2 ∧ s33 = .int .i64 j ∧ Hid (Below w5.heap.size w5 wr)) (fun s33 _ => 2 - (intOf s33).toNat)
  case atStart => exact ⟨0, Nat.zero_le _, rfl, Lib.hid (Below.refl _ _)⟩
  case round =>
    obtain ⟨j, hj, rfl, HBR⟩ := hrel
    have GR := Lib.hid (HR5.out.old HBR.out)
    have hj3 : j = 0 ∨ j = 1 ∨ j = 2 := by omega
    rcases hj3 with rfl | rfl | rfl
    · obtain ⟨A, er, hpv⟩ := tl_print x
      have HP1 := Lib.hid (fun w' h => print_any x hxf hxn w' h)
      have HP2 := Lib.hid (fun w' => refprint_any x hxf hxn w')
      rw [hpv] at HP1 HP2
      have HRT := Lib.hid (fun w' => right_any x hxn w')
      have HRU := Lib.hid (fun w' => refright_any x hxn w')
      have HET := Lib.hid (fun w' => reads_any x hxn w')
      have HEU := Lib.hid (fun w' => refreads_any x hxn w')
      have HWT := Lib.hid (fun w' => writes_any x hxn w')
      have HWU := Lib.hid (fun w' => refwrites_any x hxn w')
      have HIN := Lib.hid (fun v u w' hv hu => ints_same v u (readsI x) (tl_reads_len x) w' hv hu)
      generalize readsI x = NL at *
      generalize writesI x = wi at *
      generalize rightI x = rb at *
      unfold insV at HP1 HP2 HRT HRU HET HEU HWT HWU
      clear hpv
      have ra0 := GR.out.at 0 _ rfl
      have ra1 := GR.out.at 1 _ rfl
      have ra2 := GR.out.at 2 _ rfl
      have ra3 := GR.out.at 3 _ rfl
      have ra4 := GR.out.at 4 _ rfl
      have ra5 := GR.out.at 5 _ rfl
      have ral := GR.out.lt
      have hbC : Below wr.heap.size wr (wr.alloc (.cells #[.int .i64 x.op, .int .i64 x.d, .int .i64 x.a, .int .i64 x.b, .int .i64 x.n, .string (strOf x.name)] 23)) := (Below.refl _ _).alloc (Nat.le_refl _) _
      have HY := Lib.hid (show OwnAt (wr.alloc (.cells #[.int .i64 x.op, .int .i64 x.d, .int .i64 x.a, .int .i64 x.b, .int .i64 x.n, .string (strOf x.name)] 23)) wr.heap.size (insCells x) 23 from OwnAt.new wr (insCells x) 23)
      have HB6 := Lib.hid (HBR.out.trans (hbC.mono HBR.out.size))
      have HL6 := Lib.hid (HL.out.old (HB5.out.trans (HB6.out.mono HB5.out.size)))
      clear hbC
      go_wp2_with fail
      refine (HP1.out _ HL6.out).mono ?_
      rintro e w6 ⟨rfl, hb6⟩
      have HY6 := Lib.hid (HY.out.old hb6)
      have HB7 := Lib.hid (HB6.out.trans (hb6.mono HB6.out.size))
      clear hb6 HY HB6 HL6 HP1
      have rb0 := HY6.out.at 0 _ rfl
      have rb1 := HY6.out.at 1 _ rfl
      have rb2 := HY6.out.at 2 _ rfl
      have rb3 := HY6.out.at 3 _ rfl
      have rb4 := HY6.out.at 4 _ rfl
      have rb5 := HY6.out.at 5 _ rfl
      have rbl := HY6.out.lt
      go_wp2_with fail
      refine (HP2.out _).mono ?_
      rintro e w7 ⟨rfl, hb7⟩
      have HY7 := Lib.hid (HY6.out.old hb7)
      have HB8 := Lib.hid (HB7.out.trans (hb7.mono HB7.out.size))
      clear hb7 HY6 HB7 HP2 rb0 rb1 rb2 rb3 rb4 rb5 rbl ra0 ra1 ra2 ra3 ra4 ra5 ral
      go_upto_region 8 with (fail)
      refine wp_cut (fun a' w' => RT8 wr.heap.size x A er rb NL wi w7 _ _ _ _ _ _ _ _ _ _ _ _ _ _ _ _ _ _ _ _ _ _ _ _ _ _ _ _ _ _ _ _ _ _ _ _ _ _ _ _ _ _ _ _ _ _ _ _ _ _ _ _ _ _ _ _ _ _ _ _ _ _ _ _ _ _ _ _ _ _ _ _ _ _ _ _ _ _ _ _ _ _ _ _ _ _ _ _ _ _ _ _ _ _ _ _ _ _ _ _ _ _ _ _ _ _ _ _ _ _ _ _ _ _ _ _ _ _ _ _ _ _ a' w') ?rest (fun J K' hJ hM => thenT_any (reg_T8 wr.heap.size x A er rb NL wi w7 HY7 HRT HRU HWT HWU HET HEU HIN _ _ _ _ _ _ _ _ _ _ _ _ _ _ _ _ _ _ _ _ _ _ _ _ _ _ _ _ _ _ _ _ _ _ _ _ _ _ _ _ _ _ _ _ _ _ _ _ _ _ _ _ _ _ _ _ _ _ _ _ _ _ _ _ _ _ _ _ _ _ _ _ _ _ _ _ _ _ _ _ _ _ _ _ _ _ _ _ _ _ _ _ _ _ _ _ _ _ _ _ _ _ _ _ _ _ _ _ _ _ _ _ _ _ _ _ _ _ _ _ _ _ _ _ _ _ _ _ _ _ _ _ _ _ _ _ _ _ _ _ _ _ _ _ _ _ _ _ _ _ _ _ J K' hJ hM))
      case rest =>
      rintro a' w' ⟨va, vb, hb9, rfl⟩
      have HB9 := Lib.hid (HB8.out.trans (hb9.mono HB8.out.size))
      clear hb9 HY7 HB8 HRT HRU HWT HWU HET HEU HIN
      go_wp2_with fail
      exact ⟨⟨1, by omega, by first | rfl | (simp; done) | go_num, HB9⟩, by simp [intOf]⟩
    · obtain ⟨A, er, hpv⟩ := tl_print X
      have HP1 := Lib.hid (fun w' h => print_any X hXf hXn w' h)
      have HP2 := Lib.hid (fun w' => refprint_any X hXf hXn w')
      rw [hpv] at HP1 HP2
      have HRT := Lib.hid (fun w' => right_any X hXn w')
      have HRU := Lib.hid (fun w' => refright_any X hXn w')
      have HET := Lib.hid (fun w' => reads_any X hXn w')
      have HEU := Lib.hid (fun w' => refreads_any X hXn w')
      have HWT := Lib.hid (fun w' => writes_any X hXn w')
      have HWU := Lib.hid (fun w' => refwrites_any X hXn w')
      have HIN := Lib.hid (fun v u w' hv hu => ints_same v u (readsI X) (tl_reads_len X) w' hv hu)
      generalize readsI X = NL at *
      generalize writesI X = wi at *
      generalize rightI X = rb at *
      unfold insV at HP1 HP2 HRT HRU HET HEU HWT HWU
      clear hpv
      have ra0 := GR.out.at 6 _ rfl
      have ra1 := GR.out.at 7 _ rfl
      have ra2 := GR.out.at 8 _ rfl
      have ra3 := GR.out.at 9 _ rfl
      have ra4 := GR.out.at 10 _ rfl
      have ra5 := GR.out.at 11 _ rfl
      have ral := GR.out.lt
      have hbC : Below wr.heap.size wr (wr.alloc (.cells #[.int .i64 X.op, .int .i64 X.d, .int .i64 X.a, .int .i64 X.b, .int .i64 X.n, .string (strOf X.name)] 23)) := (Below.refl _ _).alloc (Nat.le_refl _) _
      have HY := Lib.hid (show OwnAt (wr.alloc (.cells #[.int .i64 X.op, .int .i64 X.d, .int .i64 X.a, .int .i64 X.b, .int .i64 X.n, .string (strOf X.name)] 23)) wr.heap.size (insCells X) 23 from OwnAt.new wr (insCells X) 23)
      have HB6 := Lib.hid (HBR.out.trans (hbC.mono HBR.out.size))
      have HL6 := Lib.hid (HL.out.old (HB5.out.trans (HB6.out.mono HB5.out.size)))
      clear hbC
      go_wp2_with fail
      refine (HP1.out _ HL6.out).mono ?_
      rintro e w6 ⟨rfl, hb6⟩
      have HY6 := Lib.hid (HY.out.old hb6)
      have HB7 := Lib.hid (HB6.out.trans (hb6.mono HB6.out.size))
      clear hb6 HY HB6 HL6 HP1
      have rb0 := HY6.out.at 0 _ rfl
      have rb1 := HY6.out.at 1 _ rfl
      have rb2 := HY6.out.at 2 _ rfl
      have rb3 := HY6.out.at 3 _ rfl
      have rb4 := HY6.out.at 4 _ rfl
      have rb5 := HY6.out.at 5 _ rfl
      have rbl := HY6.out.lt
      go_wp2_with fail
      refine (HP2.out _).mono ?_
      rintro e w7 ⟨rfl, hb7⟩
      have HY7 := Lib.hid (HY6.out.old hb7)
      have HB8 := Lib.hid (HB7.out.trans (hb7.mono HB7.out.size))
      clear hb7 HY6 HB7 HP2 rb0 rb1 rb2 rb3 rb4 rb5 rbl ra0 ra1 ra2 ra3 ra4 ra5 ral
      go_upto_region 8 with (fail)
      refine wp_cut (fun a' w' => RT8 wr.heap.size X A er rb NL wi w7 _ _ _ _ _ _ _ _ _ _ _ _ _ _ _ _ _ _ _ _ _ _ _ _ _ _ _ _ _ _ _ _ _ _ _ _ _ _ _ _ _ _ _ _ _ _ _ _ _ _ _ _ _ _ _ _ _ _ _ _ _ _ _ _ _ _ _ _ _ _ _ _ _ _ _ _ _ _ _ _ _ _ _ _ _ _ _ _ _ _ _ _ _ _ _ _ _ _ _ _ _ _ _ _ _ _ _ _ _ _ _ _ _ _ _ _ _ _ _ _ _ _ a' w') ?rest (fun J K' hJ hM => thenT_any (reg_T8 wr.heap.size X A er rb NL wi w7 HY7 HRT HRU HWT HWU HET HEU HIN _ _ _ _ _ _ _ _ _ _ _ _ _ _ _ _ _ _ _ _ _ _ _ _ _ _ _ _ _ _ _ _ _ _ _ _ _ _ _ _ _ _ _ _ _ _ _ _ _ _ _ _ _ _ _ _ _ _ _ _ _ _ _ _ _ _ _ _ _ _ _ _ _ _ _ _ _ _ _ _ _ _ _ _ _ _ _ _ _ _ _ _ _ _ _ _ _ _ _ _ _ _ _ _ _ _ _ _ _ _ _ _ _ _ _ _ _ _ _ _ _ _ _ _ _ _ _ _ _ _ _ _ _ _ _ _ _ _ _ _ _ _ _ _ _ _ _ _ _ _ _ _ J K' hJ hM))
      case rest =>
      rintro a' w' ⟨va, vb, hb9, rfl⟩
      have HB9 := Lib.hid (HB8.out.trans (hb9.mono HB8.out.size))
      clear hb9 HY7 HB8 HRT HRU HWT HWU HET HEU HIN
      go_wp2_with fail
      exact ⟨⟨2, by omega, by first | rfl | (simp; done) | go_num, HB9⟩, by simp [intOf]⟩
    · have HX6 := Lib.hid (HX5.out.old HBR.out)
      have HB6 := Lib.hid (HB5.out.trans (HBR.out.mono HB5.out.size))
      clear HR5 HX5 HB5 HBR GR
      have cx0 := HX6.out.at 0 _ rfl
      have cx1 := HX6.out.at 1 _ rfl
      have cx2 := HX6.out.at 2 _ rfl
      have cx3 := HX6.out.at 3 _ rfl
      have cx4 := HX6.out.at 4 _ rfl
      have cx5 := HX6.out.at 5 _ rfl
      have cxl := HX6.out.lt
      go_wp2_with fail
      refine (HPX.out _).mono ?_
      rintro e w3 ⟨rfl, hb_w3⟩
      have HX7 := Lib.hid (HX6.out.old hb_w3)
      have HB4 := Lib.hid (HB6.out.trans (hb_w3.mono HB6.out.size))
      clear hb_w3 HX6 HB6 cx0 cx1 cx2 cx3 cx4 cx5 cxl
      go_wp2_with fail
      refine (HPK.out _).mono ?_
      rintro e w4 ⟨rfl, hw4⟩
      subst hw4
      have hkI : (k : Int) ≤ (TX.length : Int) := by omega
      have hmI : (more.length : Int) ≤ 140737488355328 := by omega
      have hmn0 : (0 : Int) ≤ min ((k : Int) + (more.length : Int)) (TX.length : Int) := by omega
      have hmn1 : min ((k : Int) + (more.length : Int)) (TX.length : Int) ≤ (TX.length : Int) := by omega
      go_wp2_with fail
      go_region
      obtain ⟨B1, hB1⟩ : ∃ B, (strOf TX).extract 0 k ++ strOf more ++ (strOf TX).extract (min ((k : Int) + (more.length : Int)) (TX.length : Int)).toNat TX.length = B := ⟨_, rfl⟩
      obtain ⟨B2, hB2⟩ : ∃ B, (strOf TX).extract 0 k ++ strOf more ++ (strOf TX).extract k TX.length = B := ⟨_, rfl⟩
      obtain ⟨B3, hB3⟩ : ∃ B, (strOf TX).extract 0 k = B := ⟨_, rfl⟩
      rw [hB1, hB2, hB3]
      clear hB1 hB2 hB3
      have hbA : Below w3.heap.size w3 (w3.alloc (.cells #[.string (strOf s), .string (strOf TX), .string B1, .string B2, .string B3] 9)).drew := ((Below.refl _ _).alloc (Nat.le_refl _) _).drew
      have GB0 := Lib.hid (HB4.out.trans (hbA.mono HB4.out.size))
      have GX0 := Lib.hid (HX7.out.old hbA)
      have GR0 := Lib.hid (show OwnAt (w3.alloc (.cells #[.string (strOf s), .string (strOf TX), .string B1, .string B2, .string B3] 9)).drew w3.heap.size [.string (strOf s), .string (strOf TX), .string B1, .string B2, .string B3] 9 from (OwnAt.new w3 [.string (strOf s), .string (strOf TX), .string B1, .string B2, .string B3] 9).old (Below.refl _ _).drew)
      obtain ⟨V, hV⟩ : ∃ V, (w3.alloc (.cells #[.string (strOf s), .string (strOf TX), .string B1, .string B2, .string B3] 9)).drew = V := ⟨_, rfl⟩
      rw [hV] at GB0 GR0 GX0 ⊢
      clear hbA hV hmn0 hmn1 HX7 HB4
      go_wp2_with fail
      go_loopw [119] (fun s119 wr => ∃ j : Nat, s119 = .int .i64 j ∧ j ≤ 5 ∧ Hid (Below w.heap.size w wr) ∧ Hid (OwnAt wr w3.heap.size [.string (strOf s), .string (strOf TX), .string B1, .string B2, .string B3] 9) ∧ Hid (OwnAt wr T10 (insCells X) 23)) (fun s119 _ => 5 - (intOf s119).toNat)
      case atStart => exact ⟨0, rfl, by omega, GB0, GR0, GX0⟩
      case round =>
        obtain ⟨j, rfl, hj, GB, GO, GX⟩ := hrel
        by_cases hlt : j < 5
        · obtain ⟨l, hl⟩ : ∃ l : Bs, ([.string (strOf s), .string (strOf TX), .string B1, .string B2, .string B3] : List Value)[j]? = some (.string (strOf l)) := by
            have : j = 0 ∨ j = 1 ∨ j = 2 ∨ j = 3 ∨ j = 4 := by omega
            rcases this with rfl | rfl | rfl | rfl | rfl
            · exact ⟨s, rfl⟩
            · exact ⟨TX, rfl⟩
            · exact ⟨B1.data.toList, rfl⟩
            · exact ⟨B2.data.toList, rfl⟩
            · exact ⟨B3.data.toList, rfl⟩
          have k0 := GO.out.at j _ hl
          have kl := GO.out.lt
          clear hl
          have hjI : (j : Int) < 5 := by omega
          by_cases h200 : l.length ≤ 200
          · have h2I : (l.length : Int) ≤ 200 := by omega
            obtain ⟨Y, pe, hsh⟩ := tl_shape l
            have HL1 := Lib.hid (HL.out.old GB.out)
            have HP1 := Lib.hid (fun w' h => parse_call l (by omega) w' h)
            have HP2 := Lib.hid (fun w' => refparse_any l (by omega) w')
            have HLB := Lib.hid (fun w' => label_any l (by omega) w')
            have HLU := Lib.hid (fun w' => reflabel_any l (by omega) w')
            rw [hsh] at HP1 HP2
            unfold insV at HP1 HP2
            generalize labelB l = lb at *
            clear hsh
            go_wp2_with fail
            refine (HP1.out _ HL1.out).mono ?_
            rintro e w6 ⟨rfl, hb6⟩
            have hbC : Below w6.heap.size w6 (w6.alloc (.cells #[.int .i64 Y.op, .int .i64 Y.d, .int .i64 Y.a, .int .i64 Y.b, .int .i64 Y.n, .string (strOf Y.name)] 23)) := (Below.refl _ _).alloc (Nat.le_refl _) _
            have hb7 := hb6.trans (hbC.mono hb6.size)
            have HZ := Lib.hid (show OwnAt (w6.alloc (.cells #[.int .i64 Y.op, .int .i64 Y.d, .int .i64 Y.a, .int .i64 Y.b, .int .i64 Y.n, .string (strOf Y.name)] 23)) w6.heap.size (insCells Y) 23 from OwnAt.new w6 (insCells Y) 23)
            have GB1 := Lib.hid (GB.out.trans (hb7.mono GB.out.size))
            have GO1 := Lib.hid (GO.out.old hb7)
            have GX1 := Lib.hid (GX.out.old hb7)
            clear hb6 hbC hb7 k0 kl HP1 HL1 GB GO GX
            go_wp2_with fail
            refine (HP2.out _).mono ?_
            rintro e w8 ⟨rfl, hb8⟩
            have hbD : Below w8.heap.size w8 (w8.alloc (.cells #[.int .i64 Y.op, .int .i64 Y.d, .int .i64 Y.a, .int .i64 Y.b, .int .i64 Y.n, .string (strOf Y.name)] 23)) := (Below.refl _ _).alloc (Nat.le_refl _) _
            have hb9 := hb8.trans (hbD.mono hb8.size)
            have HZ2 := Lib.hid (HZ.out.old hb9)
            have HU := Lib.hid (show OwnAt (w8.alloc (.cells #[.int .i64 Y.op, .int .i64 Y.d, .int .i64 Y.a, .int .i64 Y.b, .int .i64 Y.n, .string (strOf Y.name)] 23)) w8.heap.size (insCells Y) 23 from OwnAt.new w8 (insCells Y) 23)
            have GB2 := Lib.hid (GB1.out.trans (hb9.mono GB1.out.size))
            have GO2 := Lib.hid (GO1.out.old hb9)
            have GX2 := Lib.hid (GX1.out.old hb9)
            clear hb8 hbD hb9 HZ HP2 GB1 GO1 GX1
            go_upto_region 19 with (fail)
            obtain ⟨W9, hW9⟩ : ∃ W9, w8.alloc (.cells #[.int .i64 Y.op, .int .i64 Y.d, .int .i64 Y.a, .int .i64 Y.b, .int .i64 Y.n, .string (strOf Y.name)] 23) = W9 := ⟨_, rfl⟩
            obtain ⟨T22, hT22⟩ : ∃ T, w6.heap.size = T := ⟨_, rfl⟩
            obtain ⟨T24, hT24⟩ : ∃ T, w8.heap.size = T := ⟨_, rfl⟩
            rw [hW9] at HZ2 HU GB2 GO2 GX2
            rw [hT22] at HZ2
            rw [hT24] at HU
            rw [hW9, hT22, hT24]
            clear hW9 hT22 hT24
            have m0 := HZ2.out.at 0 _ rfl
            have m1 := HZ2.out.at 1 _ rfl
            have m2 := HZ2.out.at 2 _ rfl
            have m3 := HZ2.out.at 3 _ rfl
            have m4 := HZ2.out.at 4 _ rfl
            have m5 := HZ2.out.at 5 _ rfl
            have ml := HZ2.out.lt
            have n0 := HU.out.at 0 _ rfl
            have n1 := HU.out.at 1 _ rfl
            have n2 := HU.out.at 2 _ rfl
            have n3 := HU.out.at 3 _ rfl
            have n4 := HU.out.at 4 _ rfl
            have n5 := HU.out.at 5 _ rfl
            have nl := HU.out.lt
            go_wp2_with fail
            refine (HLB.out _).mono ?_
            rintro e w10 ⟨rfl, hb10⟩
            have GB3 := Lib.hid (GB2.out.trans (hb10.mono GB2.out.size))
            have GO3 := Lib.hid (GO2.out.old hb10)
            have GX3 := Lib.hid (GX2.out.old hb10)
            clear hb10 GB2 GO2 GX2
            go_wp2_with fail
            refine (HLU.out _).mono ?_
            rintro e w11 ⟨rfl, rfl⟩
            go_wp2_with fail
            exact ⟨⟨j + 1, by first | rfl | (simp; done) | go_num, by omega, GB3, GO3, GX3⟩, by simp [intOf]; omega⟩
          · have h2I : (200 : Int) < (l.length : Int) := by omega
            go_wp2_with fail
            exact ⟨⟨j + 1, by first | rfl | (simp; done) | go_num, by omega, GB, GO, GX⟩, by simp [intOf]; omega⟩
        · have hj5 : j = 5 := by omega
          subst hj5
          have cx0 := GX.out.at 0 _ rfl
          have cx1 := GX.out.at 1 _ rfl
          have cx2 := GX.out.at 2 _ rfl
          have cx3 := GX.out.at 3 _ rfl
          have cx4 := GX.out.at 4 _ rfl
          have cx5 := GX.out.at 5 _ rfl
          have cxl := GX.out.lt
          go_wp2_with fail
          refine (HRX.out _).mono ?_
          rintro e w12 ⟨rfl, hb12⟩
          have HBE := Lib.hid (GB.out.trans (hb12.mono GB.out.size))
          clear hb12
          go_wp2_with fail
          go_ret
          exact ⟨rfl, HBE.out⟩
end Go.Proofs.YtgdnnaiidmfncaaDoor
