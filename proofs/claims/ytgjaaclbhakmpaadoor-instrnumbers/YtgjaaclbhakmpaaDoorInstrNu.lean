/-
  InstrNumbers: any number may be loaded; as an offset it may be up to 2047. Conditions: the raw numbers are ints; the library's variables lie in memory.
-/
import Derived.Test.YtgjaaclbhakmpaaDoorInstrH
set_option linter.unusedVariables false
set_option linter.unusedSimpArgs false
namespace Go.Proofs.YtgjaaclbhakmpaaDoor
open Go.RowKit
set_option maxHeartbeats 4000000
set_option maxRecDepth 100000

def numsI (n d a : Int) : List Ins := [⟨18, d, a, 0, n, []⟩, ⟨19, d, a, 0, n, []⟩, ⟨20, 0, a, d, n, []⟩]
theorem nums_small (n d a : Int) (hd : 0 ≤ d ∧ d < 32) (ha : 0 ≤ a ∧ a < 32) (hn : -2047 ≤ n ∧ n ≤ 2047) : ∀ X, X ∈ numsI n d a → GoodI X := by
  have md : mayI d 68 = true := by simpa [mayI] using hd
  have md2 : mayI d 66 = true := by simpa [mayI] using hd
  have ma : mayI a 65 = true := by simpa [mayI] using ha
  have mn : mayI n 83 = true := by simpa [mayI] using hn
  intro X hX
  simp only [numsI, List.mem_cons, List.not_mem_nil, or_false] at hX
  rcases hX with rfl | rfl | rfl
  · exact ⟨fr5 18 d a d n [102] (by decide) md ma md2 mn (by decide), ⟨by show _ ≤ n; omega, by show n ≤ _; omega⟩, Nat.zero_le _⟩
  · exact ⟨fr6 19 d a d n [102] (by decide) md ma md2 mn (by decide), ⟨by show _ ≤ n; omega, by show n ≤ _; omega⟩, Nat.zero_le _⟩
  · exact ⟨fr7 20 d a d n [102] (by decide) md ma md2 mn (by decide), ⟨by show _ ≤ n; omega, by show n ≤ _; omega⟩, Nat.zero_le _⟩
theorem nums_great (n d a : Int) (hi : I64 n) (hn : ¬ (-2047 ≤ n ∧ n ≤ 2047)) : ∀ X, X ∈ numsI n d a → rightI X = false ∧ FitsI X ∧ X.name = [] := by
  intro X hX
  have hxn : X.n = n ∧ X.name = [] ∧ (83 : UInt8) ∈ (rowI X.op).2 := by
    simp only [numsI, List.mem_cons, List.not_mem_nil, or_false] at hX
    rcases hX with rfl | rfl | rfl
    · exact ⟨rfl, rfl, show (83 : UInt8) ∈ (rowI 18).2 by decide⟩
    · exact ⟨rfl, rfl, show (83 : UInt8) ∈ (rowI 19).2 by decide⟩
    · exact ⟨rfl, rfl, show (83 : UInt8) ∈ (rowI 20).2 by decide⟩
  refine ⟨?_, by unfold FitsI; rw [hxn.1]; exact hi, hxn.2.1⟩
  rw [← Bool.not_eq_true]
  intro hr
  have hm := ((foldR_spec X _ _ _).1 (right_open hr).1).1 83 hxn.2.2 (by decide) X.n rfl
  rw [hxn.1] at hm
  exact hn (by simpa [mayI] using hm)
theorem parse_any_shape (t : Bs) : ∃ (Y : Ins) (e : Int), parseV (parseI t) = .tuple #[insV Y, .int .i64 e] := by
  cases h : parseI t with
  | none => exact ⟨zeroI 0, 60, rfl⟩
  | some Y => exact ⟨Y, 0, rfl⟩
theorem inums_any (n d a : Int) (hn : I64 n) (hd : I64 d) (ha : I64 a) (w : World) (hl : ILib w) :
    Calls Tryd.prog 7 #[.int .i64 n, .int .i64 d, .int .i64 a] w fun e w' => e = .returned (.bool true) ∧ Below w.heap.size w w' := by
  have HL := Lib.hid hl
  have HAW := Lib.hid (fun w' h => iawake_any w' h)
  have HPD := Lib.hid (fun w' => ipick_any d 32 hd (by decide) (by decide) w')
  have HPA := Lib.hid (fun w' => ipick_any a 32 ha (by decide) (by decide) w')
  have rd := ipick_range d 32 (by decide)
  have ra := ipick_range a 32 (by decide)
  clear hl hd ha
  obtain ⟨dd, hdd⟩ : ∃ k, ipick d 32 = k := ⟨_, rfl⟩
  obtain ⟨aa, haa⟩ : ∃ k, ipick a 32 = k := ⟨_, rfl⟩
  rw [hdd] at HPD rd
  rw [haa] at HPA ra
  clear hdd haa
  have hgl : GoodI ⟨16, dd, 0, 0, n, []⟩ := ⟨fr3 16 dd 0 0 n [102] (by decide) (by simpa [mayI] using rd) (by decide) (by decide) (.inr trivial) (by decide), hn, Nat.zero_le _⟩
  have HPX : Hid (∀ w', ILib w' → Calls Tryd.prog 11 #[.agg #[.int .i64 16, .int .i64 dd, .int .i64 0, .int .i64 0, .int .i64 n, .string ⟨#[]⟩]] w' fun e w'' => e = .returned (.tuple #[.string (strOf (textI ⟨16, dd, 0, 0, n, []⟩)), .int .i64 0]) ∧ Below w'.heap.size w' w'') := fun w' h => print_call _ hgl w' h
  have HRX : Hid (∀ w', ILib w' → Calls Tryd.prog 21 #[.string (strOf (textI ⟨16, dd, 0, 0, n, []⟩))] w' fun e w'' => e = .returned (.tuple #[.agg #[.int .i64 16, .int .i64 dd, .int .i64 0, .int .i64 0, .int .i64 n, .string ⟨#[]⟩], .int .i64 0]) ∧ Below w'.heap.size w' w'') := fun w' h => parse_good _ hgl (by have := text_len _ hgl; omega) w' h
  clear hgl
  obtain ⟨TX, hTX⟩ : ∃ T, textI ⟨16, dd, 0, 0, n, []⟩ = T := ⟨_, rfl⟩
  rw [hTX] at HPX HRX
  clear hTX
  have hcase : (n < -2047 ∧ ∀ X, X ∈ numsI n dd aa → rightI X = false ∧ FitsI X ∧ X.name = []) ∨ (2047 < n ∧ ∀ X, X ∈ numsI n dd aa → rightI X = false ∧ FitsI X ∧ X.name = []) ∨ ((-2047 ≤ n ∧ n ≤ 2047) ∧ ∀ X, X ∈ numsI n dd aa → GoodI X) := by
    by_cases h1 : n < -2047
    · exact .inl ⟨h1, nums_great n dd aa hn (by omega)⟩
    · by_cases h2 : 2047 < n
      · exact .inr (.inl ⟨h2, nums_great n dd aa hn (by omega)⟩)
      · exact .inr (.inr ⟨by omega, nums_small n dd aa rd ra (by omega)⟩)
  obtain ⟨YE, eE, hE⟩ := parse_any_shape []
  have HPE : Hid (∀ w', ILib w' → Calls Tryd.prog 21 #[.string ⟨#[]⟩] w' fun e w'' => e = .returned (.tuple #[.agg #[.int .i64 YE.op, .int .i64 YE.d, .int .i64 YE.a, .int .i64 YE.b, .int .i64 YE.n, .string (strOf YE.name)], .int .i64 eE]) ∧ Below w'.heap.size w' w'') := fun w' h => by
    have := parse_call [] (by decide) w' h
    rw [hE] at this
    exact this
  clear hE hn
  go_enter Tryd.func7, Tryd.ntmps7
  go_wp2_with fail
  refine (HAW.out _ HL.out).mono ?_
  rintro e w1 ⟨rfl, hb1⟩
  have HB1 := Lib.hid hb1
  clear hb1
  go_wp2_with fail
  refine (HPD.out _).mono ?_
  rintro e w2 ⟨rfl, hw2⟩
  subst hw2
  go_wp2_with fail
  refine (HPA.out _).mono ?_
  rintro e w3 ⟨rfl, hw3⟩
  subst hw3
  have hbA2 : Below w1.heap.size w1 (w1.alloc (.cells #[.int .i64 16, .int .i64 dd, .int .i64 0, .int .i64 0, .int .i64 n, .string ⟨#[]⟩] 23)) := (Below.refl _ _).alloc (Nat.le_refl _) _
  have HO_X := Lib.hid (show OwnAt (w1.alloc (.cells #[.int .i64 16, .int .i64 dd, .int .i64 0, .int .i64 0, .int .i64 n, .string ⟨#[]⟩] 23)) (w1.heap.size) (insCells ⟨16, dd, 0, 0, n, []⟩) 23 from OwnAt.new w1 (insCells ⟨16, dd, 0, 0, n, []⟩) 23)
  have HB2 := Lib.hid (HB1.out.trans (hbA2.mono HB1.out.size))
  clear hbA2
  have HLb := Lib.hid (HL.out.old HB2.out)
  go_wp2_with fail
  refine (HPX.out _ HLb.out).mono ?_
  rintro e w4 ⟨rfl, hb_w4⟩
  have HO_Xa3 := Lib.hid (HO_X.out.old hb_w4)
  have HB3 := Lib.hid (HB2.out.trans (hb_w4.mono HB2.out.size))
  clear hb_w4
  have HLc := Lib.hid (HL.out.old HB3.out)
  go_wp2_with fail
  refine (HRX.out _ HLc.out).mono ?_
  rintro e w5 ⟨rfl, hb_w5⟩
  have HO_Xa3a4 := Lib.hid (HO_Xa3.out.old hb_w5)
  have HB4 := Lib.hid (HB3.out.trans (hb_w5.mono HB3.out.size))
  clear hb_w5
  have cX0 : w5.cell? ⟨w1.heap.size, 0, none⟩ = some (.int .i64 16) := HO_Xa3a4.out.at 0 _ rfl
  have cX1 : w5.cell? ⟨w1.heap.size, 1, none⟩ = some (.int .i64 dd) := HO_Xa3a4.out.at 1 _ rfl
  have cX2 : w5.cell? ⟨w1.heap.size, 2, none⟩ = some (.int .i64 0) := HO_Xa3a4.out.at 2 _ rfl
  have cX3 : w5.cell? ⟨w1.heap.size, 3, none⟩ = some (.int .i64 0) := HO_Xa3a4.out.at 3 _ rfl
  have cX4 : w5.cell? ⟨w1.heap.size, 4, none⟩ = some (.int .i64 n) := HO_Xa3a4.out.at 4 _ rfl
  have cX5 : w5.cell? ⟨w1.heap.size, 5, none⟩ = some (.string ⟨#[]⟩) := HO_Xa3a4.out.at 5 _ rfl
  have lX := HO_Xa3a4.out.lt
  have hbA : Below w5.heap.size w5 (w5.alloc (.cells #[.int .i64 16, .int .i64 dd, .int .i64 0, .int .i64 0, .int .i64 n, .string ⟨#[]⟩] 23)) := (Below.refl _ _).alloc (Nat.le_refl _) _
  have HBz := Lib.hid (HB4.out.trans (hbA.mono HB4.out.size))
  have HRW := Lib.hid (show OwnAt ((w5.alloc (.cells #[.int .i64 16, .int .i64 dd, .int .i64 0, .int .i64 0, .int .i64 n, .string ⟨#[]⟩] 23)).alloc (.cells #[.int .i64 18, .int .i64 dd, .int .i64 aa, .int .i64 0, .int .i64 n, .string ⟨#[]⟩, .int .i64 19, .int .i64 dd, .int .i64 aa, .int .i64 0, .int .i64 n, .string ⟨#[]⟩, .int .i64 20, .int .i64 0, .int .i64 aa, .int .i64 dd, .int .i64 n, .string ⟨#[]⟩] 23)) (w5.heap.size + 1) ((numsI n dd aa).flatMap insCells) 23 by
    have h := OwnAt.new (w5.alloc (.cells #[.int .i64 16, .int .i64 dd, .int .i64 0, .int .i64 0, .int .i64 n, .string ⟨#[]⟩] 23)) ((numsI n dd aa).flatMap insCells) 23
    rw [show (w5.alloc (.cells #[.int .i64 16, .int .i64 dd, .int .i64 0, .int .i64 0, .int .i64 n, .string ⟨#[]⟩] 23)).heap.size = w5.heap.size + 1 by simp] at h
    exact h)
  have HBr := Lib.hid (HBz.out.alloc HBz.out.size (.cells #[.int .i64 18, .int .i64 dd, .int .i64 aa, .int .i64 0, .int .i64 n, .string ⟨#[]⟩, .int .i64 19, .int .i64 dd, .int .i64 aa, .int .i64 0, .int .i64 n, .string ⟨#[]⟩, .int .i64 20, .int .i64 0, .int .i64 aa, .int .i64 dd, .int .i64 n, .string ⟨#[]⟩] 23))
  clear hbA
  have hnum : (numsI n dd aa).length = 3 := rfl
  rcases hcase with ⟨hc1, hall⟩ | ⟨hc1, hall⟩ | ⟨⟨hc1, hc2⟩, hall⟩
  · have HALL := Lib.hid hall
    clear hall
    go_wp2_with fail
    go_loopw [75] (fun s75 wr => ∃ j : Nat, s75 = .int .i64 j ∧ j ≤ 3 ∧ Hid (Below w.heap.size w wr) ∧ Hid (OwnAt wr (w5.heap.size + 1) ((numsI n dd aa).flatMap insCells) 23)) (fun s75 _ => 3 - (intOf s75).toNat)
    case atStart => exact ⟨0, rfl, by omega, HBr, HRW⟩
    case round =>
      obtain ⟨j, rfl, hj, GB, GO⟩ := hrel
      by_cases hlt : j < 3
      · obtain ⟨X, hX⟩ : ∃ X, (numsI n dd aa)[j]? = some X := ⟨_, List.getElem?_eq_getElem (show j < (numsI n dd aa).length from hlt)⟩
        have hXm : X ∈ numsI n dd aa := List.mem_of_getElem? hX
        have key := iflat_at insCells 6 (fun _ => rfl) (numsI n dd aa) j
        have k0 := GO.out.at (j * 6) _ (key 0 X hX (by decide))
        have k1 := GO.out.at (j * 6 + 1) _ (key 1 X hX (by decide))
        have k2 := GO.out.at (j * 6 + 2) _ (key 2 X hX (by decide))
        have k3 := GO.out.at (j * 6 + 3) _ (key 3 X hX (by decide))
        have k4 := GO.out.at (j * 6 + 4) _ (key 4 X hX (by decide))
        have k5 := GO.out.at (j * 6 + 5) _ (key 5 X hX (by decide))
        clear key hX
        obtain ⟨h1, h2, h3⟩ := HALL.out X hXm
        have HPR := Lib.hid (fun w' h => print_fail X h1 h2 (by rw [h3]; exact Nat.zero_le _) w' h)
        have HPP := HPE
        have HRI := Lib.hid (fun w' => right_any X (by rw [h3]; exact Nat.zero_le _) w')
        rw [h1] at HRI
        unfold insV at HRI
        clear h1 h2 h3 hXm
        have hbA : Below wr.heap.size wr (wr.alloc (.cells #[.int .i64 X.op, .int .i64 X.d, .int .i64 X.a, .int .i64 X.b, .int .i64 X.n, .string (strOf X.name)] 23)) := (Below.refl _ _).alloc (Nat.le_refl _) _
        have HN := Lib.hid (show OwnAt (wr.alloc (.cells #[.int .i64 X.op, .int .i64 X.d, .int .i64 X.a, .int .i64 X.b, .int .i64 X.n, .string (strOf X.name)] 23)) wr.heap.size (insCells X) 23 from OwnAt.new wr (insCells X) 23)
        have GB1 := Lib.hid (GB.out.trans (hbA.mono GB.out.size))
        have GO1 := Lib.hid (GO.out.old hbA)
        have HL1 := Lib.hid (HL.out.old GB1.out)
        clear hbA
        go_wp2_with fail
        refine (HPR.out _ HL1.out).mono ?_
        rintro e w6 ⟨rfl, hb6⟩
        have GB2 := Lib.hid (GB1.out.trans (hb6.mono GB1.out.size))
        have GO2 := Lib.hid (GO1.out.old hb6)
        have HN2 := Lib.hid (HN.out.old hb6)
        have HL2 := Lib.hid (HL.out.old GB2.out)
        clear hb6 k0 k1 k2 k3 k4 k5
        go_wp2_with fail
        refine (HPP.out _ HL2.out).mono ?_
        rintro e w7 ⟨rfl, hb7⟩
        have GB3 := Lib.hid (GB2.out.trans (hb7.mono GB2.out.size))
        have GO3 := Lib.hid (GO2.out.old hb7)
        have HN3 := Lib.hid (HN2.out.old hb7)
        clear hb7
        have m0 := HN3.out.at 0 _ rfl
        have m1 := HN3.out.at 1 _ rfl
        have m2 := HN3.out.at 2 _ rfl
        have m3 := HN3.out.at 3 _ rfl
        have m4 := HN3.out.at 4 _ rfl
        have m5 := HN3.out.at 5 _ rfl
        have ml := HN3.out.lt
        have hbC : Below w7.heap.size w7 (w7.alloc (.cells #[.int .i64 YE.op, .int .i64 YE.d, .int .i64 YE.a, .int .i64 YE.b, .int .i64 YE.n, .string (strOf YE.name)] 23)) := (Below.refl _ _).alloc (Nat.le_refl _) _
        have HN4 := Lib.hid (HN3.out.old hbC)
        have GB4 := Lib.hid (GB3.out.trans (hbC.mono GB3.out.size))
        have GO4 := Lib.hid (GO3.out.old hbC)
        have HZ := Lib.hid (show OwnAt (w7.alloc (.cells #[.int .i64 YE.op, .int .i64 YE.d, .int .i64 YE.a, .int .i64 YE.b, .int .i64 YE.n, .string (strOf YE.name)] 23)) w7.heap.size (insCells YE) 23 from OwnAt.new w7 (insCells YE) 23)
        clear hbC
        go_wp2_with fail
        refine (HRI.out _).mono ?_
        rintro e w8 ⟨rfl, hb8⟩
        have GB5 := Lib.hid (GB4.out.trans (hb8.mono GB4.out.size))
        have GO5 := Lib.hid (GO4.out.old hb8)
        have HN5 := Lib.hid (HN4.out.old hb8)
        have HZ5 := Lib.hid (HZ.out.old hb8)
        clear hb8 m0 m1 m2 m3 m4 m5 ml
        have m0 := HN5.out.at 0 _ rfl
        have m1 := HN5.out.at 1 _ rfl
        have m2 := HN5.out.at 2 _ rfl
        have m3 := HN5.out.at 3 _ rfl
        have m4 := HN5.out.at 4 _ rfl
        have m5 := HN5.out.at 5 _ rfl
        have z0 := HZ5.out.at 0 _ rfl
        have z1 := HZ5.out.at 1 _ rfl
        have z2 := HZ5.out.at 2 _ rfl
        have z3 := HZ5.out.at 3 _ rfl
        have z4 := HZ5.out.at 4 _ rfl
        have z5 := HZ5.out.at 5 _ rfl
        go_wp2_with fail
        first
          | exact ⟨⟨j + 1, rfl, by omega, GB5, GO5⟩, by simp [intOf]; omega⟩
          | exact ⟨⟨_, _, _, _, _, _, _, ⟨j + 1, rfl, by omega⟩, rfl, rfl, rfl, rfl, rfl, rfl, rfl⟩, by simp [intOf]; omega⟩
          | exact ⟨⟨_, _, _, _, _, _, _, ⟨j + 1, rfl, by omega, GB5, GO5⟩, rfl, rfl, rfl, rfl, rfl, rfl, rfl⟩, by simp [intOf]; omega⟩
      · have hj3 : j = 3 := by omega
        subst hj3
        go_wp2_with fail
        go_ret
        exact ⟨rfl, GB.out⟩
  · have HALL := Lib.hid hall
    clear hall
    go_wp2_with fail
    go_loopw [75] (fun s75 wr => ∃ j : Nat, s75 = .int .i64 j ∧ j ≤ 3 ∧ Hid (Below w.heap.size w wr) ∧ Hid (OwnAt wr (w5.heap.size + 1) ((numsI n dd aa).flatMap insCells) 23)) (fun s75 _ => 3 - (intOf s75).toNat)
    case atStart => exact ⟨0, rfl, by omega, HBr, HRW⟩
    case round =>
      obtain ⟨j, rfl, hj, GB, GO⟩ := hrel
      by_cases hlt : j < 3
      · obtain ⟨X, hX⟩ : ∃ X, (numsI n dd aa)[j]? = some X := ⟨_, List.getElem?_eq_getElem (show j < (numsI n dd aa).length from hlt)⟩
        have hXm : X ∈ numsI n dd aa := List.mem_of_getElem? hX
        have key := iflat_at insCells 6 (fun _ => rfl) (numsI n dd aa) j
        have k0 := GO.out.at (j * 6) _ (key 0 X hX (by decide))
        have k1 := GO.out.at (j * 6 + 1) _ (key 1 X hX (by decide))
        have k2 := GO.out.at (j * 6 + 2) _ (key 2 X hX (by decide))
        have k3 := GO.out.at (j * 6 + 3) _ (key 3 X hX (by decide))
        have k4 := GO.out.at (j * 6 + 4) _ (key 4 X hX (by decide))
        have k5 := GO.out.at (j * 6 + 5) _ (key 5 X hX (by decide))
        clear key hX
        obtain ⟨h1, h2, h3⟩ := HALL.out X hXm
        have HPR := Lib.hid (fun w' h => print_fail X h1 h2 (by rw [h3]; exact Nat.zero_le _) w' h)
        have HPP := HPE
        have HRI := Lib.hid (fun w' => right_any X (by rw [h3]; exact Nat.zero_le _) w')
        rw [h1] at HRI
        unfold insV at HRI
        clear h1 h2 h3 hXm
        have hbA : Below wr.heap.size wr (wr.alloc (.cells #[.int .i64 X.op, .int .i64 X.d, .int .i64 X.a, .int .i64 X.b, .int .i64 X.n, .string (strOf X.name)] 23)) := (Below.refl _ _).alloc (Nat.le_refl _) _
        have HN := Lib.hid (show OwnAt (wr.alloc (.cells #[.int .i64 X.op, .int .i64 X.d, .int .i64 X.a, .int .i64 X.b, .int .i64 X.n, .string (strOf X.name)] 23)) wr.heap.size (insCells X) 23 from OwnAt.new wr (insCells X) 23)
        have GB1 := Lib.hid (GB.out.trans (hbA.mono GB.out.size))
        have GO1 := Lib.hid (GO.out.old hbA)
        have HL1 := Lib.hid (HL.out.old GB1.out)
        clear hbA
        go_wp2_with fail
        refine (HPR.out _ HL1.out).mono ?_
        rintro e w6 ⟨rfl, hb6⟩
        have GB2 := Lib.hid (GB1.out.trans (hb6.mono GB1.out.size))
        have GO2 := Lib.hid (GO1.out.old hb6)
        have HN2 := Lib.hid (HN.out.old hb6)
        have HL2 := Lib.hid (HL.out.old GB2.out)
        clear hb6 k0 k1 k2 k3 k4 k5
        go_wp2_with fail
        refine (HPP.out _ HL2.out).mono ?_
        rintro e w7 ⟨rfl, hb7⟩
        have GB3 := Lib.hid (GB2.out.trans (hb7.mono GB2.out.size))
        have GO3 := Lib.hid (GO2.out.old hb7)
        have HN3 := Lib.hid (HN2.out.old hb7)
        clear hb7
        have m0 := HN3.out.at 0 _ rfl
        have m1 := HN3.out.at 1 _ rfl
        have m2 := HN3.out.at 2 _ rfl
        have m3 := HN3.out.at 3 _ rfl
        have m4 := HN3.out.at 4 _ rfl
        have m5 := HN3.out.at 5 _ rfl
        have ml := HN3.out.lt
        have hbC : Below w7.heap.size w7 (w7.alloc (.cells #[.int .i64 YE.op, .int .i64 YE.d, .int .i64 YE.a, .int .i64 YE.b, .int .i64 YE.n, .string (strOf YE.name)] 23)) := (Below.refl _ _).alloc (Nat.le_refl _) _
        have HN4 := Lib.hid (HN3.out.old hbC)
        have GB4 := Lib.hid (GB3.out.trans (hbC.mono GB3.out.size))
        have GO4 := Lib.hid (GO3.out.old hbC)
        have HZ := Lib.hid (show OwnAt (w7.alloc (.cells #[.int .i64 YE.op, .int .i64 YE.d, .int .i64 YE.a, .int .i64 YE.b, .int .i64 YE.n, .string (strOf YE.name)] 23)) w7.heap.size (insCells YE) 23 from OwnAt.new w7 (insCells YE) 23)
        clear hbC
        go_wp2_with fail
        refine (HRI.out _).mono ?_
        rintro e w8 ⟨rfl, hb8⟩
        have GB5 := Lib.hid (GB4.out.trans (hb8.mono GB4.out.size))
        have GO5 := Lib.hid (GO4.out.old hb8)
        have HN5 := Lib.hid (HN4.out.old hb8)
        have HZ5 := Lib.hid (HZ.out.old hb8)
        clear hb8 m0 m1 m2 m3 m4 m5 ml
        have m0 := HN5.out.at 0 _ rfl
        have m1 := HN5.out.at 1 _ rfl
        have m2 := HN5.out.at 2 _ rfl
        have m3 := HN5.out.at 3 _ rfl
        have m4 := HN5.out.at 4 _ rfl
        have m5 := HN5.out.at 5 _ rfl
        have z0 := HZ5.out.at 0 _ rfl
        have z1 := HZ5.out.at 1 _ rfl
        have z2 := HZ5.out.at 2 _ rfl
        have z3 := HZ5.out.at 3 _ rfl
        have z4 := HZ5.out.at 4 _ rfl
        have z5 := HZ5.out.at 5 _ rfl
        go_wp2_with fail
        first
          | exact ⟨⟨j + 1, rfl, by omega, GB5, GO5⟩, by simp [intOf]; omega⟩
          | exact ⟨⟨_, _, _, _, _, _, _, ⟨j + 1, rfl, by omega⟩, rfl, rfl, rfl, rfl, rfl, rfl, rfl⟩, by simp [intOf]; omega⟩
          | exact ⟨⟨_, _, _, _, _, _, _, ⟨j + 1, rfl, by omega, GB5, GO5⟩, rfl, rfl, rfl, rfl, rfl, rfl, rfl⟩, by simp [intOf]; omega⟩
      · have hj3 : j = 3 := by omega
        subst hj3
        go_wp2_with fail
        go_ret
        exact ⟨rfl, GB.out⟩
  · have HALL := Lib.hid hall
    clear hall
    go_wp2_with fail
    go_loopw [75] (fun s75 wr => ∃ j : Nat, s75 = .int .i64 j ∧ j ≤ 3 ∧ Hid (Below w.heap.size w wr) ∧ Hid (OwnAt wr (w5.heap.size + 1) ((numsI n dd aa).flatMap insCells) 23)) (fun s75 _ => 3 - (intOf s75).toNat)
    case atStart => exact ⟨0, rfl, by omega, HBr, HRW⟩
    case round =>
      obtain ⟨j, rfl, hj, GB, GO⟩ := hrel
      by_cases hlt : j < 3
      · obtain ⟨X, hX⟩ : ∃ X, (numsI n dd aa)[j]? = some X := ⟨_, List.getElem?_eq_getElem (show j < (numsI n dd aa).length from hlt)⟩
        have hXm : X ∈ numsI n dd aa := List.mem_of_getElem? hX
        have key := iflat_at insCells 6 (fun _ => rfl) (numsI n dd aa) j
        have k0 := GO.out.at (j * 6) _ (key 0 X hX (by decide))
        have k1 := GO.out.at (j * 6 + 1) _ (key 1 X hX (by decide))
        have k2 := GO.out.at (j * 6 + 2) _ (key 2 X hX (by decide))
        have k3 := GO.out.at (j * 6 + 3) _ (key 3 X hX (by decide))
        have k4 := GO.out.at (j * 6 + 4) _ (key 4 X hX (by decide))
        have k5 := GO.out.at (j * 6 + 5) _ (key 5 X hX (by decide))
        clear key hX
        have hg := HALL.out X hXm
        have HPR := Lib.hid (fun w' h => print_call X hg w' h)
        have HPP := Lib.hid (fun w' h => parse_good X hg (by have := text_len X hg; omega) w' h)
        have HRI := Lib.hid (fun w' => right_any X (by have := hg.name; omega) w')
        rw [hg.right] at HRI
        unfold insV at HRI
        clear hg hXm
        obtain ⟨TT, hTT⟩ : ∃ T, textI X = T := ⟨_, rfl⟩
        rw [hTT] at HPR HPP
        clear hTT
        have hbA : Below wr.heap.size wr (wr.alloc (.cells #[.int .i64 X.op, .int .i64 X.d, .int .i64 X.a, .int .i64 X.b, .int .i64 X.n, .string (strOf X.name)] 23)) := (Below.refl _ _).alloc (Nat.le_refl _) _
        have HN := Lib.hid (show OwnAt (wr.alloc (.cells #[.int .i64 X.op, .int .i64 X.d, .int .i64 X.a, .int .i64 X.b, .int .i64 X.n, .string (strOf X.name)] 23)) wr.heap.size (insCells X) 23 from OwnAt.new wr (insCells X) 23)
        have GB1 := Lib.hid (GB.out.trans (hbA.mono GB.out.size))
        have GO1 := Lib.hid (GO.out.old hbA)
        have HL1 := Lib.hid (HL.out.old GB1.out)
        clear hbA
        go_wp2_with fail
        refine (HPR.out _ HL1.out).mono ?_
        rintro e w6 ⟨rfl, hb6⟩
        have GB2 := Lib.hid (GB1.out.trans (hb6.mono GB1.out.size))
        have GO2 := Lib.hid (GO1.out.old hb6)
        have HN2 := Lib.hid (HN.out.old hb6)
        have HL2 := Lib.hid (HL.out.old GB2.out)
        clear hb6 k0 k1 k2 k3 k4 k5
        go_wp2_with fail
        refine (HPP.out _ HL2.out).mono ?_
        rintro e w7 ⟨rfl, hb7⟩
        have GB3 := Lib.hid (GB2.out.trans (hb7.mono GB2.out.size))
        have GO3 := Lib.hid (GO2.out.old hb7)
        have HN3 := Lib.hid (HN2.out.old hb7)
        clear hb7
        have m0 := HN3.out.at 0 _ rfl
        have m1 := HN3.out.at 1 _ rfl
        have m2 := HN3.out.at 2 _ rfl
        have m3 := HN3.out.at 3 _ rfl
        have m4 := HN3.out.at 4 _ rfl
        have m5 := HN3.out.at 5 _ rfl
        have ml := HN3.out.lt
        have hbC : Below w7.heap.size w7 (w7.alloc (.cells #[.int .i64 X.op, .int .i64 X.d, .int .i64 X.a, .int .i64 X.b, .int .i64 X.n, .string (strOf X.name)] 23)) := (Below.refl _ _).alloc (Nat.le_refl _) _
        have HN4 := Lib.hid (HN3.out.old hbC)
        have GB4 := Lib.hid (GB3.out.trans (hbC.mono GB3.out.size))
        have GO4 := Lib.hid (GO3.out.old hbC)
        have HZ := Lib.hid (show OwnAt (w7.alloc (.cells #[.int .i64 X.op, .int .i64 X.d, .int .i64 X.a, .int .i64 X.b, .int .i64 X.n, .string (strOf X.name)] 23)) w7.heap.size (insCells X) 23 from OwnAt.new w7 (insCells X) 23)
        clear hbC
        go_wp2_with fail
        refine (HRI.out _).mono ?_
        rintro e w8 ⟨rfl, hb8⟩
        have GB5 := Lib.hid (GB4.out.trans (hb8.mono GB4.out.size))
        have GO5 := Lib.hid (GO4.out.old hb8)
        have HN5 := Lib.hid (HN4.out.old hb8)
        have HZ5 := Lib.hid (HZ.out.old hb8)
        clear hb8 m0 m1 m2 m3 m4 m5 ml
        have m0 := HN5.out.at 0 _ rfl
        have m1 := HN5.out.at 1 _ rfl
        have m2 := HN5.out.at 2 _ rfl
        have m3 := HN5.out.at 3 _ rfl
        have m4 := HN5.out.at 4 _ rfl
        have m5 := HN5.out.at 5 _ rfl
        have z0 := HZ5.out.at 0 _ rfl
        have z1 := HZ5.out.at 1 _ rfl
        have z2 := HZ5.out.at 2 _ rfl
        have z3 := HZ5.out.at 3 _ rfl
        have z4 := HZ5.out.at 4 _ rfl
        have z5 := HZ5.out.at 5 _ rfl
        go_wp2_with fail
        first
          | exact ⟨⟨j + 1, rfl, by omega, GB5, GO5⟩, by simp [intOf]; omega⟩
          | exact ⟨⟨_, _, _, _, _, _, _, ⟨j + 1, rfl, by omega⟩, rfl, rfl, rfl, rfl, rfl, rfl, rfl⟩, by simp [intOf]; omega⟩
          | exact ⟨⟨_, _, _, _, _, _, _, ⟨j + 1, rfl, by omega, GB5, GO5⟩, rfl, rfl, rfl, rfl, rfl, rfl, rfl⟩, by simp [intOf]; omega⟩
      · have hj3 : j = 3 := by omega
        subst hj3
        go_wp2_with fail
        go_ret
        exact ⟨rfl, GB.out⟩
end Go.Proofs.YtgjaaclbhakmpaaDoor
