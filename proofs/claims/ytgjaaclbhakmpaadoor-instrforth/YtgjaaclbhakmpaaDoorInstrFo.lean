/-
  InstrForth: Print undoes Parse. Conditions: the raw numbers are ints; texts are no longer than may be; the library's variables lie in memory.
-/
import Derived.Test.YtgjaaclbhakmpaaDoorInstrH
import Derived.Test.YtgjaaclbhakmpaaDoorInstrCt
import Derived.BigRegion
set_option linter.unusedVariables false
set_option linter.unusedSimpArgs false
namespace Go.Proofs.YtgjaaclbhakmpaaDoor
open Go.RowKit
set_option maxHeartbeats 4000000
set_option maxRecDepth 100000

theorem step_fits (o : Ins) (f t : Bs) (h : FitsI o) : FitsI (stepP o f t) := by
  have hf := atoiV_fits (Lib.trimPrefix t [120])
  unfold stepP
  cases f with
  | nil => exact h
  | cons c _ =>
    dsimp only
    split
    · exact h
    · unfold setI
      split
      · exact h
      · split
        · exact h
        · split
          · exact h
          · split
            · exact hf
            · exact h
theorem fold_fits : ∀ (fs ts : List Bs) (o : Ins), FitsI o → FitsI (foldP fs ts o)
  | [], _, o, h => by simpa [foldP] using h
  | _ :: _, [], o, h => by simpa [foldP] using h
  | f :: fs, t :: ts, o, h => fold_fits fs ts _ (step_fits o f t h)
theorem find_fits (word rest s : Bs) : ∀ (k : Nat) (op : Int) (Y : Ins), findI word rest s k op = some Y → FitsI Y
  | 0, _, _, h => by cases h
  | k + 1, op, Y, h => by
    unfold findI at h
    split at h
    · cases h
      exact fold_fits _ _ _ ⟨(by decide : (-9223372036854775808 : Int) ≤ 0), (by decide : (0 : Int) ≤ 9223372036854775807)⟩
    · exact find_fits word rest s k (op + 1) Y h
theorem right_name {X : Ins} (h : rightI X = true) : X.name.length ≤ 40 := by
  obtain ⟨_, he⟩ := (foldR_spec X _ _ _).1 (right_open h).1
  have hn := congrArg Ins.name he
  dsimp only at hn
  by_cases hc : (76 : UInt8) ∈ (rowI X.op).2
  · exact (label_mem ((right_open h).2.2.1 hc)).2.2
  · rw [if_neg hc] at hn
    have : X.name = [] := hn
    rw [this]; exact Nat.zero_le _
/-- What a text is read as is right, and has that text. -/
theorem parse_some {t : Bs} {Y : Ins} (h : parseI t = some Y) : GoodI Y ∧ textI Y = t := by
  obtain ⟨h1, h2⟩ := parseI_sound t Y h
  exact ⟨⟨h1, find_fits _ _ _ _ _ _ h, right_name h1⟩, h2⟩
theorem iforth_any (s : Bs) (x : Ins) (c : Int) (more : Bs) (hx : RawI x) (hc : I64 c) (hs : s.length ≤ 140737488355328) (hm : more.length ≤ 140737488355328) (w : World) (hl : ILib w) :
    Calls Tryd.prog 5 #[.string (strOf s), insV x, .int .i64 c, .string (strOf more)] w fun e w' => e = .returned (.bool true) ∧ Below w.heap.size w w' := by
  have HL := Lib.hid hl
  have HAW := Lib.hid (fun w' h => iawake_any w' h)
  have HFX := Lib.hid (fun w' => fit_call x hx w')
  have hgx := good_fit x hx
  clear hx hl
  obtain ⟨X, hX⟩ : ∃ X, fitI x = X := ⟨_, rfl⟩
  rw [hX] at HFX hgx
  clear hX
  have HPX := Lib.hid (fun w' h => print_call X hgx w' h)
  have htl := text_len X hgx
  clear hgx
  obtain ⟨TX, hTX⟩ : ∃ T, textI X = T := ⟨_, rfl⟩
  rw [hTX] at HPX htl
  clear hTX
  have HPK := Lib.hid (fun w' => ipick_any c ((TX.length : Int) + 1) hc (by omega) (by omega) w')
  have hk := ipick_range c ((TX.length : Int) + 1) (by omega)
  obtain ⟨kz, hke⟩ : ∃ k, ipick c ((TX.length : Int) + 1) = k := ⟨_, rfl⟩
  rw [hke] at HPK hk
  obtain ⟨hk0, hk1⟩ := hk
  obtain ⟨k, rfl⟩ : ∃ k : Nat, kz = (k : Int) := ⟨kz.toNat, by omega⟩
  clear hke hc
  have hkl : k ≤ TX.length := by omega
  have htlI : (TX.length : Int) ≤ 1000 := by omega
  unfold insV
  have hbA1 : Below w.heap.size w (w.alloc (.cells #[.int .i64 x.op, .int .i64 x.d, .int .i64 x.a, .int .i64 x.b, .int .i64 x.n, .string (strOf x.name)] 23)) := (Below.refl _ _).alloc (Nat.le_refl _) _
  have HO_i := Lib.hid (show OwnAt (w.alloc (.cells #[.int .i64 x.op, .int .i64 x.d, .int .i64 x.a, .int .i64 x.b, .int .i64 x.n, .string (strOf x.name)] 23)) (w.heap.size) (insCells x) 23 from OwnAt.new w (insCells x) 23)
  have HB1 := Lib.hid hbA1
  clear hbA1
  have HLa := Lib.hid (HL.out.old HB1.out)
  go_enter Tryd.func5, Tryd.ntmps5
  go_wp2_with fail
  refine (HAW.out _ HLa.out).mono ?_
  rintro e w1 ⟨rfl, hb_w1⟩
  have HO_ia2 := Lib.hid (HO_i.out.old hb_w1)
  have HB2 := Lib.hid (HB1.out.trans (hb_w1.mono HB1.out.size))
  clear hb_w1
  have ci0 := HO_ia2.out.at 0 _ rfl
  have ci1 := HO_ia2.out.at 1 _ rfl
  have ci2 := HO_ia2.out.at 2 _ rfl
  have ci3 := HO_ia2.out.at 3 _ rfl
  have ci4 := HO_ia2.out.at 4 _ rfl
  have ci5 := HO_ia2.out.at 5 _ rfl
  have li := HO_ia2.out.lt
  go_wp2_with fail
  refine (HFX.out _).mono ?_
  rintro e w2 ⟨rfl, hb_w2⟩
  have HO_ia2a3 := Lib.hid (HO_ia2.out.old hb_w2)
  have HB3 := Lib.hid (HB2.out.trans (hb_w2.mono HB2.out.size))
  clear hb_w2
  clear ci0 ci1 ci2 ci3 ci4 ci5 li
  have HLb := Lib.hid (HL.out.old HB3.out)
  go_wp2_with fail
  refine (HPX.out _ HLb.out).mono ?_
  rintro e w3 ⟨rfl, hb_w3⟩
  have HO_ia2a3a4 := Lib.hid (HO_ia2a3.out.old hb_w3)
  have HB4 := Lib.hid (HB3.out.trans (hb_w3.mono HB3.out.size))
  clear hb_w3
  go_wp2_with fail
  refine (HPK.out _).mono ?_
  rintro e w4 ⟨rfl, hw4⟩
  subst hw4
  have hkI : (k : Int) ≤ (TX.length : Int) := by omega
  have hmI : (more.length : Int) ≤ 140737488355328 := by omega
  have hmn0 : (0 : Int) ≤ min ((k : Int) + (more.length : Int)) (TX.length : Int) := by omega
  have hmn1 : min ((k : Int) + (more.length : Int)) (TX.length : Int) ≤ (TX.length : Int) := by omega
  go_wp2_with fail
  go_region
  obtain ⟨B1, hB1⟩ : ∃ B, (strOf TX).extract 0 k ++ strOf more ++ (strOf TX).extract (min ((k : Int) + (more.length : Int)) (TX.length : Int)).toNat TX.length = B := ⟨_, rfl⟩
  obtain ⟨B2, hB2⟩ : ∃ B, (strOf TX).extract 0 k ++ strOf more ++ (strOf TX).extract k TX.length = B := ⟨_, rfl⟩
  rw [hB1, hB2]
  clear hB1 hB2
  have hbA : Below w3.heap.size w3 (w3.alloc (.cells #[.string (strOf s), .string B1, .string B2] 9)).drew := ((Below.refl _ _).alloc (Nat.le_refl _) _).drew
  have GB0 := Lib.hid (HB4.out.trans (hbA.mono HB4.out.size))
  have GR0 := Lib.hid (show OwnAt (w3.alloc (.cells #[.string (strOf s), .string B1, .string B2] 9)).drew w3.heap.size [.string (strOf s), .string B1, .string B2] 9 from (OwnAt.new w3 [.string (strOf s), .string B1, .string B2] 9).old ((Below.refl _ _).drew))
  obtain ⟨V, hV⟩ : ∃ V, (w3.alloc (.cells #[.string (strOf s), .string B1, .string B2] 9)).drew = V := ⟨_, rfl⟩
  rw [hV] at GB0 GR0 ⊢
  clear hbA hV hmn0 hmn1
  go_wp2_with fail
  go_loopw [58] (fun s58 wr => ∃ j : Nat, s58 = .int .i64 j ∧ j ≤ 3 ∧ Hid (Below w.heap.size w wr) ∧ Hid (OwnAt wr w3.heap.size [.string (strOf s), .string B1, .string B2] 9)) (fun s58 _ => 3 - (intOf s58).toNat)
  case atStart => exact ⟨0, rfl, by omega, GB0, GR0⟩
  case round =>
    obtain ⟨j, rfl, hj, GB, GO⟩ := hrel
    by_cases hlt : j < 3
    · obtain ⟨l, hl⟩ : ∃ l : Bs, ([.string (strOf s), .string B1, .string B2] : List Value)[j]? = some (.string (strOf l)) := by
        have : j = 0 ∨ j = 1 ∨ j = 2 := by omega
        rcases this with rfl | rfl | rfl
        · exact ⟨s, rfl⟩
        · exact ⟨B1.data.toList, rfl⟩
        · exact ⟨B2.data.toList, rfl⟩
      have k0 := GO.out.at j _ hl
      have kl := GO.out.lt
      clear hl
      have hjI : (j : Int) < 3 := by omega
      by_cases h200 : l.length ≤ 200
      · have h2I : (l.length : Int) ≤ 200 := by omega
        have HL1 := Lib.hid (HL.out.old GB.out)
        have HPP := Lib.hid (fun w' h => parse_call l (by omega) w' h)
        cases hp : parseI l with
        | none =>
          rw [hp] at HPP
          have HPP2 : Hid (∀ w', ILib w' → Calls Tryd.prog 21 #[.string (strOf l)] w' fun e w'' => e = .returned (.tuple #[.agg #[.int .i64 0, .int .i64 0, .int .i64 0, .int .i64 0, .int .i64 0, .string ⟨#[]⟩], .int .i64 60]) ∧ Below w'.heap.size w' w'') := HPP.out
          clear HPP hp
          go_wp2_with fail
          refine (HPP2.out _ HL1.out).mono ?_
          rintro e w6 ⟨rfl, hb6⟩
          have GB1 := Lib.hid (GB.out.trans (hb6.mono GB.out.size))
          have GO1 := Lib.hid (GO.out.old hb6)
          have hbC : Below w6.heap.size w6 (w6.alloc (.cells #[.int .i64 0, .int .i64 0, .int .i64 0, .int .i64 0, .int .i64 0, .string ⟨#[]⟩] 23)) := (Below.refl _ _).alloc (Nat.le_refl _) _
          have GB2 := Lib.hid (GB1.out.trans (hbC.mono GB1.out.size))
          have GO2 := Lib.hid (GO1.out.old hbC)
          clear hb6 hbC k0 kl
          go_wp2_with fail
          first
            | exact ⟨⟨j + 1, rfl, by omega, GB2, GO2⟩, by simp [intOf]; omega⟩
            | exact ⟨⟨_, _, _, _, _, _, ⟨j + 1, rfl, by omega, GB2, GO2⟩, rfl, rfl, rfl, rfl, rfl, rfl⟩, by simp [intOf]; omega⟩
            | exact ⟨⟨_, _, _, _, _, _, ⟨j + 1, rfl, by omega⟩, rfl, rfl, rfl, rfl, rfl, rfl⟩, by simp [intOf]; omega⟩
        | some Y =>
          obtain ⟨hg, ht⟩ := parse_some hp
          rw [hp] at HPP
          have HPP2 : Hid (∀ w', ILib w' → Calls Tryd.prog 21 #[.string (strOf l)] w' fun e w'' => e = .returned (.tuple #[.agg #[.int .i64 Y.op, .int .i64 Y.d, .int .i64 Y.a, .int .i64 Y.b, .int .i64 Y.n, .string (strOf Y.name)], .int .i64 0]) ∧ Below w'.heap.size w' w'') := HPP.out
          have HPR := Lib.hid (fun w' h => print_call Y hg w' h)
          rw [ht] at HPR
          have HRI := Lib.hid (fun w' => right_any Y (by have := hg.name; omega) w')
          rw [hg.right] at HRI
          unfold insV at HRI
          clear HPP hp hg ht
          go_wp2_with fail
          refine (HPP2.out _ HL1.out).mono ?_
          rintro e w6 ⟨rfl, hb6⟩
          have GB1 := Lib.hid (GB.out.trans (hb6.mono GB.out.size))
          have GO1 := Lib.hid (GO.out.old hb6)
          have hbC : Below w6.heap.size w6 (w6.alloc (.cells #[.int .i64 Y.op, .int .i64 Y.d, .int .i64 Y.a, .int .i64 Y.b, .int .i64 Y.n, .string (strOf Y.name)] 23)) := (Below.refl _ _).alloc (Nat.le_refl _) _
          have GB2 := Lib.hid (GB1.out.trans (hbC.mono GB1.out.size))
          have GO2 := Lib.hid (GO1.out.old hbC)
          have HZ := Lib.hid (show OwnAt (w6.alloc (.cells #[.int .i64 Y.op, .int .i64 Y.d, .int .i64 Y.a, .int .i64 Y.b, .int .i64 Y.n, .string (strOf Y.name)] 23)) w6.heap.size (insCells Y) 23 from OwnAt.new w6 (insCells Y) 23)
          have HL2 := Lib.hid (HL.out.old GB2.out)
          clear hb6 hbC k0 kl
          go_wp2_with fail
          refine (HPR.out _ HL2.out).mono ?_
          rintro e w7 ⟨rfl, hb7⟩
          have GB3 := Lib.hid (GB2.out.trans (hb7.mono GB2.out.size))
          have GO3 := Lib.hid (GO2.out.old hb7)
          have HZ3 := Lib.hid (HZ.out.old hb7)
          clear hb7
          have m0 := HZ3.out.at 0 _ rfl
          have m1 := HZ3.out.at 1 _ rfl
          have m2 := HZ3.out.at 2 _ rfl
          have m3 := HZ3.out.at 3 _ rfl
          have m4 := HZ3.out.at 4 _ rfl
          have m5 := HZ3.out.at 5 _ rfl
          go_wp2_with fail
          refine (HRI.out _).mono ?_
          rintro e w8 ⟨rfl, hb8⟩
          have GB4 := Lib.hid (GB3.out.trans (hb8.mono GB3.out.size))
          have GO4 := Lib.hid (GO3.out.old hb8)
          clear hb8
          go_wp2_with fail
          first
            | exact ⟨⟨j + 1, rfl, by omega, GB4, GO4⟩, by simp [intOf]; omega⟩
            | exact ⟨⟨_, _, _, _, _, _, ⟨j + 1, rfl, by omega, GB4, GO4⟩, rfl, rfl, rfl, rfl, rfl, rfl⟩, by simp [intOf]; omega⟩
            | exact ⟨⟨_, _, _, _, _, _, ⟨j + 1, rfl, by omega⟩, rfl, rfl, rfl, rfl, rfl, rfl⟩, by simp [intOf]; omega⟩
      · have h2I : (200 : Int) < (l.length : Int) := by omega
        go_wp2_with fail
        first
          | exact ⟨⟨j + 1, rfl, by omega, GB, GO⟩, by simp [intOf]; omega⟩
          | exact ⟨⟨_, _, _, _, _, _, ⟨j + 1, rfl, by omega, GB, GO⟩, rfl, rfl, rfl, rfl, rfl, rfl⟩, by simp [intOf]; omega⟩
          | exact ⟨⟨_, _, _, _, _, _, ⟨j + 1, rfl, by omega⟩, rfl, rfl, rfl, rfl, rfl, rfl⟩, by simp [intOf]; omega⟩
    · have hj3 : j = 3 := by omega
      subst hj3
      go_wp2_with fail
      go_ret
      exact ⟨rfl, GB.out⟩
end Go.Proofs.YtgjaaclbhakmpaaDoor
