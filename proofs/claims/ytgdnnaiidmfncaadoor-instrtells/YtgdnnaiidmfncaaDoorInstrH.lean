/-
  awake: the chapter's example holds. Condition: the library's variables lie in memory.
  Laws' common parts: unlike instructions; the calls on a right one. Conditions: as each says.
-/
import Derived.Test.YtgdnnaiidmfncaaDoorInstrF
import Derived.Test.YtgdnnaiidmfncaaDoorInstrG
set_option linter.unusedVariables false
set_option linter.unusedSimpArgs false
namespace Go.Proofs.YtgdnnaiidmfncaaDoor
open Go.RowKit
set_option maxHeartbeats 4000000
set_option maxRecDepth 100000

abbrev awX : Ins := ⟨19, 5, 2, 0, -8, []⟩
abbrev awS : Bs := [108, 100, 32, 120, 53, 44, 32, 45, 56, 40, 120, 50, 41]
abbrev awT : Bs := [108, 100, 32, 120, 53, 44, 45, 56, 40, 120, 50, 41]
theorem aw_text : textI awX = awS := by
  have h5 : Lib.itoa 5 = [53] := by rw [Lib.itoa, if_neg (by decide), Lib.decDigits, dif_pos (by decide)]; rfl
  have h2 : Lib.itoa 2 = [50] := by rw [Lib.itoa, if_neg (by decide), Lib.decDigits, dif_pos (by decide)]; rfl
  have h8 : Lib.itoa (-8) = [45, 56] := by rw [Lib.itoa, if_pos (by decide), Lib.decDigits, dif_pos (by decide)]; rfl
  have e : textI awX = [108, 100] ++ ([32] ++ ((120 :: Lib.itoa 5) ++ ([44] ++ ([32] ++ (Lib.itoa (-8) ++ ([40] ++ ((120 :: Lib.itoa 2) ++ ([41] ++ [])))))))) := rfl
  rw [e, h5, h2, h8]; rfl
theorem aw_right : rightI awX = true := fr6 19 5 2 0 (-8) [102] (by decide) (by decide) (by decide) (by decide) (by decide) (by decide)
theorem aw_fits : FitsI awX := ⟨by decide, by decide⟩
theorem aw_parse : parseI awS = some awX := by
  rw [← aw_text]; exact parse_back awX aw_fits aw_right
theorem find_none (word rest s : Bs) (h : ∀ o : Int, 1 ≤ o → o ≤ 28 → (rowI o).1 = word → textI (readI o rest) ≠ s) : ∀ (k : Nat) (op : Int), 1 ≤ op → op + k ≤ 29 → findI word rest s k op = none
  | 0, _, _, _ => rfl
  | k + 1, op, h1, h2 => by
    unfold findI
    rw [if_neg (fun hc => h op h1 (by omega) hc.1 hc.2.2)]
    exact find_none word rest s h k (op + 1) (by omega) (by omega)
theorem aw_read : readI 19 [120, 53, 44, 45, 56, 40, 120, 50, 41] = awX := by
  unfold readI
  rw [wordsI_ascii [120, 53, 44, 45, 56, 40, 120, 50, 41] (by decide), words_form 19]
  kernel_rfl
theorem aw_none : parseI awT = none := by
  have hc : Lib.cut awT [32] = ([108, 100], [120, 53, 44, 45, 56, 40, 120, 50, 41], true) := cut_space [108, 100] [120, 53, 44, 45, 56, 40, 120, 50, 41] (by decide)
  unfold parseI
  rw [hc]
  refine find_none _ _ _ (fun o h1 h2 hw => ?_) 28 1 (by decide) (by decide)
  have ho : o = 19 := word_inj o 19 (by omega) (by decide) (by omega) (by decide) hw
  subst ho
  show textI (readI 19 [120, 53, 44, 45, 56, 40, 120, 50, 41]) ≠ awT
  rw [aw_read, aw_text]
  decide
theorem iawake_any (w : World) (hl : ILib w) :
    Calls Tryd.prog 4 #[] w fun e w' => e = .returned (.bool true) ∧ Below w.heap.size w w' := by
  have HL := Lib.hid hl
  have HP1 : Hid (∀ w', ILib w' → Calls Tryd.prog 16 #[.string ⟨#[108, 100, 32, 120, 53, 44, 32, 45, 56, 40, 120, 50, 41]⟩] w' fun e w'' => e = .returned (.tuple #[.agg #[.int .i64 19, .int .i64 5, .int .i64 2, .int .i64 0, .int .i64 (-8), .string ⟨#[]⟩], .int .i64 0]) ∧ Below w'.heap.size w' w'') := by
    intro w' h
    have := parse_any awS (by decide) w' h
    rw [aw_parse] at this
    exact this
  have HP2 : Hid (∀ w', ILib w' → Calls Tryd.prog 16 #[.string ⟨#[108, 100, 32, 120, 53, 44, 45, 56, 40, 120, 50, 41]⟩] w' fun e w'' => e = .returned (.tuple #[.agg #[.int .i64 0, .int .i64 0, .int .i64 0, .int .i64 0, .int .i64 0, .string ⟨#[]⟩], .int .i64 60]) ∧ Below w'.heap.size w' w'') := by
    intro w' h
    have := parse_any awT (by decide) w' h
    rw [aw_none] at this
    exact this
  have HPR : Hid (∀ w', ILib w' → Calls Tryd.prog 6 #[.agg #[.int .i64 19, .int .i64 5, .int .i64 2, .int .i64 0, .int .i64 (-8), .string ⟨#[]⟩]] w' fun e w'' => e = .returned (.tuple #[.string ⟨#[108, 100, 32, 120, 53, 44, 32, 45, 56, 40, 120, 50, 41]⟩, .int .i64 0]) ∧ Below w'.heap.size w' w'') := by
    intro w' h
    have := print_any awX aw_fits (by decide) w' h
    unfold printV at this
    rw [if_pos aw_right, aw_text] at this
    exact this
  have hre : readsI awX = [2] := by
    unfold readsI
    rw [if_pos aw_right]; rfl
  have HRE : Hid (∀ w', Calls Tryd.prog 11 #[.agg #[.int .i64 19, .int .i64 5, .int .i64 2, .int .i64 0, .int .i64 (-8), .string ⟨#[]⟩]] w' fun e w'' => (∃ v, e = .returned v ∧ IntsAt w'' v [2]) ∧ Below w'.heap.size w' w'') := by
    intro w'
    have := reads_any awX (by decide) w'
    rw [hre] at this
    exact this
  have hwr : writesI awX = 5 := by
    unfold writesI
    rw [if_pos aw_right]; rfl
  have HWR : Hid (∀ w', Calls Tryd.prog 13 #[.agg #[.int .i64 19, .int .i64 5, .int .i64 2, .int .i64 0, .int .i64 (-8), .string ⟨#[]⟩]] w' fun e w'' => e = .returned (.int .i64 5) ∧ Below w'.heap.size w' w'') := by
    intro w'
    have := writes_any awX (by decide) w'
    rw [hwr] at this
    exact this
  have HRI : Hid (∀ w', Calls Tryd.prog 8 #[.agg #[.int .i64 19, .int .i64 5, .int .i64 2, .int .i64 0, .int .i64 (-8), .string ⟨#[]⟩]] w' fun e w'' => e = .returned (.bool true) ∧ Below w'.heap.size w' w'') := by
    intro w'
    have := right_any awX (by decide) w'
    rw [aw_right] at this
    exact this
  have HLA : Hid (∀ w', Calls Tryd.prog 18 #[.string ⟨#[109, 97, 105, 110]⟩] w' fun e w'' => e = .returned (.bool true) ∧ Below w'.heap.size w' w'') := by
    intro w'
    have := label_any [109, 97, 105, 110] (by decide) w'
    rw [show labelB [109, 97, 105, 110] = true by decide] at this
    exact this
  clear hre hwr hl
  go_enter Tryd.func4, Tryd.ntmps4
  go_wp2_with fail
  refine (HP1.out _ HL.out).mono ?_
  rintro e w1 ⟨rfl, hb1⟩
  have HB1 := Lib.hid hb1
  have HO1 := Lib.hid (show OwnAt (w1.alloc (.cells #[.int .i64 19, .int .i64 5, .int .i64 2, .int .i64 0, .int .i64 (-8), .string ⟨#[]⟩] 23)) w1.heap.size (insCells awX) 23 from OwnAt.new w1 (insCells awX) 23)
  have HB2 := Lib.hid (HB1.out.alloc HB1.out.size (.cells #[.int .i64 19, .int .i64 5, .int .i64 2, .int .i64 0, .int .i64 (-8), .string ⟨#[]⟩] 23))
  have HL2 := Lib.hid (HL.out.old HB2.out)
  clear hb1 HB1
  go_wp2_with fail
  refine (HPR.out _ HL2.out).mono ?_
  rintro e w3 ⟨rfl, hb3⟩
  have HO3 := Lib.hid (HO1.out.old hb3)
  have HB3 := Lib.hid (HB2.out.trans (hb3.mono HB2.out.size))
  have HL3 := Lib.hid (HL.out.old HB3.out)
  clear hb3 HO1 HB2 HL2
  go_wp2_with fail
  refine (HP2.out _ HL3.out).mono ?_
  rintro e w4 ⟨rfl, hb4⟩
  have HO4 := Lib.hid (HO3.out.old hb4)
  have HB4 := Lib.hid (HB3.out.trans (hb4.mono HB3.out.size))
  have hbA : Below w4.heap.size w4 (w4.alloc (.cells #[.int .i64 0, .int .i64 0, .int .i64 0, .int .i64 0, .int .i64 0, .string ⟨#[]⟩] 23)) := (Below.refl _ _).alloc (Nat.le_refl _) _
  have HO5 := Lib.hid (HO4.out.old hbA)
  have HB5 := Lib.hid (HB4.out.trans (hbA.mono HB4.out.size))
  have q0 := HO4.out.at 0 _ rfl
  have q1 := HO4.out.at 1 _ rfl
  have q2 := HO4.out.at 2 _ rfl
  have q3 := HO4.out.at 3 _ rfl
  have q4 := HO4.out.at 4 _ rfl
  have q5 : w4.cell? ⟨w1.heap.size, 5, none⟩ = some (.string ⟨#[]⟩) := HO4.out.at 5 _ rfl
  have ql := HO4.out.lt
  clear hb4 hbA HO3 HB3 HL3
  go_wp2_with fail
  refine (HRE.out _).mono ?_
  rintro e w6 ⟨⟨v, rfl, hv⟩, hb6⟩
  obtain ⟨av, cv, bv, ov, rfl, _, _⟩ := hv
  have HO6 := Lib.hid (HO5.out.old hb6)
  have HB6 := Lib.hid (HB5.out.trans (hb6.mono HB5.out.size))
  clear hb6 HO5 HB5 HO4 HB4 q0 q1 q2 q3 q4 q5 ql
  have q0 := HO6.out.at 0 _ rfl
  have q1 := HO6.out.at 1 _ rfl
  have q2 := HO6.out.at 2 _ rfl
  have q3 := HO6.out.at 3 _ rfl
  have q4 := HO6.out.at 4 _ rfl
  have q5 : w6.cell? ⟨w1.heap.size, 5, none⟩ = some (.string ⟨#[]⟩) := HO6.out.at 5 _ rfl
  go_wp2_with (first
    | (go_at_call 13; refine (HWR.out _).mono ?_; rintro e w7 ⟨rfl, hb7⟩; have HO7 := Lib.hid (HO6.out.old hb7); have HB7 := Lib.hid (HB6.out.trans (hb7.mono HB6.out.size)); have r0 := HO7.out.at 0 _ rfl; have r1 := HO7.out.at 1 _ rfl; have r2 := HO7.out.at 2 _ rfl; have r3 := HO7.out.at 3 _ rfl; have r4 := HO7.out.at 4 _ rfl; have r5 : w7.cell? ⟨w1.heap.size, 5, none⟩ = some (.string ⟨#[]⟩) := HO7.out.at 5 _ rfl)
    | (go_at_call 8; refine (HRI.out _).mono ?_; rintro e w8 ⟨rfl, hb8⟩; have HB8 := Lib.hid (HB7.out.trans (hb8.mono HB7.out.size)))
    | (go_at_call 18; refine (HLA.out _).mono ?_; rintro e w9 ⟨rfl, hb9⟩; have HB9 := Lib.hid (HB8.out.trans (hb9.mono HB8.out.size))))
  go_ret
  exact ⟨rfl, HB9.out⟩
end Go.Proofs.YtgdnnaiidmfncaaDoor

namespace Go.Proofs.YtgdnnaiidmfncaaDoor
open Go.RowKit
set_option maxHeartbeats 4000000
set_option maxRecDepth 100000

/-- Unlike instructions differ in a first part. -/
theorem ins_diff (o x : Ins) (he : ¬ o = x) : (o.op == x.op) = false ∨ (o.op = x.op ∧ (o.d == x.d) = false) ∨ (o.op = x.op ∧ o.d = x.d ∧ (o.a == x.a) = false) ∨ (o.op = x.op ∧ o.d = x.d ∧ o.a = x.a ∧ (o.b == x.b) = false) ∨ (o.op = x.op ∧ o.d = x.d ∧ o.a = x.a ∧ o.b = x.b ∧ (o.n == x.n) = false) ∨ (o.op = x.op ∧ o.d = x.d ∧ o.a = x.a ∧ o.b = x.b ∧ o.n = x.n ∧ (o.name == x.name) = false) := by
  obtain ⟨o0, o1, o2, o3, o4, o5⟩ := o
  obtain ⟨x0, x1, x2, x3, x4, x5⟩ := x
  simp only [Ins.mk.injEq, not_and] at he
  by_cases a0 : o0 = x0
  · by_cases a1 : o1 = x1
    · by_cases a2 : o2 = x2
      · by_cases a3 : o3 = x3
        · by_cases a4 : o4 = x4
          · have a5 := he a0 a1 a2 a3 a4
            exact .inr (.inr (.inr (.inr (.inr ⟨a0, a1, a2, a3, a4, by simpa using a5⟩))))
          · exact .inr (.inr (.inr (.inr (.inl ⟨a0, a1, a2, a3, by simpa using a4⟩))))
        · exact .inr (.inr (.inr (.inl ⟨a0, a1, a2, by simpa using a3⟩)))
      · exact .inr (.inr (.inl ⟨a0, a1, by simpa using a2⟩))
    · exact .inr (.inl ⟨a0, by simpa using a1⟩)
  · exact .inl (by simpa using a0)
/-- A right instruction that was drawn. -/
structure GoodI (X : Ins) : Prop where
  right : rightI X = true
  fits : FitsI X
  name : X.name.length ≤ 40
theorem good_fit (x : Ins) (h : RawI x) : GoodI (fitI x) := ⟨fit_right x, fit_fits x h.n, fit_name x⟩
theorem fit_call (x : Ins) (h : RawI x) (w : World) : Calls Tryd.prog 5 #[.agg #[.int .i64 x.op, .int .i64 x.d, .int .i64 x.a, .int .i64 x.b, .int .i64 x.n, .string (strOf x.name)]] w fun e w' => e = .returned (.agg #[.int .i64 (fitI x).op, .int .i64 (fitI x).d, .int .i64 (fitI x).a, .int .i64 (fitI x).b, .int .i64 (fitI x).n, .string (strOf (fitI x).name)]) ∧ Below w.heap.size w w' := fit_any x h w
theorem print_call (X : Ins) (h : GoodI X) (w : World) (hl : ILib w) : Calls Tryd.prog 6 #[.agg #[.int .i64 X.op, .int .i64 X.d, .int .i64 X.a, .int .i64 X.b, .int .i64 X.n, .string (strOf X.name)]] w fun e w' => e = .returned (.tuple #[.string (strOf (textI X)), .int .i64 0]) ∧ Below w.heap.size w w' := by
  have := print_any X h.fits (by have := h.name; omega) w hl
  unfold printV at this
  rw [if_pos h.right] at this
  exact this
theorem print_fail (X : Ins) (h : rightI X = false) (hf : FitsI X) (hn : X.name.length ≤ 9223372036854775807) (w : World) (hl : ILib w) : Calls Tryd.prog 6 #[.agg #[.int .i64 X.op, .int .i64 X.d, .int .i64 X.a, .int .i64 X.b, .int .i64 X.n, .string (strOf X.name)]] w fun e w' => e = .returned (.tuple #[.string ⟨#[]⟩, .int .i64 1]) ∧ Below w.heap.size w w' := by
  have := print_any X hf hn w hl
  unfold printV at this
  rw [if_neg (by rw [h]; simp)] at this
  exact this
theorem parse_call (s : Bs) (hs : s.length ≤ 100000) (w : World) (hl : ILib w) : Calls Tryd.prog 16 #[.string (strOf s)] w fun e w' => e = .returned (parseV (parseI s)) ∧ Below w.heap.size w w' := parse_any s hs w hl
theorem parse_good (X : Ins) (h : GoodI X) (hs : (textI X).length ≤ 100000) (w : World) (hl : ILib w) : Calls Tryd.prog 16 #[.string (strOf (textI X))] w fun e w' => e = .returned (.tuple #[.agg #[.int .i64 X.op, .int .i64 X.d, .int .i64 X.a, .int .i64 X.b, .int .i64 X.n, .string (strOf X.name)], .int .i64 0]) ∧ Below w.heap.size w w' := by
  have := parse_any (textI X) hs w hl
  rw [parse_back X h.fits h.right] at this
  exact this
/-- A right instruction's text is short. -/
theorem pieces_len (X : Ins) (h : GoodI X) : ∀ (f : Bs), (∀ c, c ∈ f → c ∈ (rowI X.op).2) → (f.flatMap (pieceI X)).length ≤ f.length * 41
  | [], _ => by simp
  | c :: f, hf => by
    have ih := pieces_len X h f (fun d hd => hf d (List.mem_cons_of_mem _ hd))
    have hc : (pieceI X c).length ≤ 41 := by
      rcases print_cases X h.fits h.right c (hf c List.mem_cons_self) with ⟨_, hp, hn, _⟩ | ⟨_, hp, _, _⟩ | ⟨_, j, v, _, _, h0, h1, hp⟩
      · rw [hp]; omega
      · rw [hp]; simp
      · have := Lib.itoa_length_le v h0 h1
        rcases hp with ⟨_, hp⟩ | ⟨_, _, hp⟩
        · rw [hp]; omega
        · rw [hp, List.length_cons]; omega
    rw [List.flatMap_cons, List.length_append, List.length_cons]
    omega
theorem text_len (X : Ins) (h : GoodI X) : (textI X).length ≤ 1000 := by
  have h1 := pieces_len X h (rowI X.op).2 (fun c hc => hc)
  have h2 := form_len X.op
  have h3 : ((if (rowI X.op).2 = [] then [] else [32]) : Bs).length ≤ 1 := by
    split
    · exact Nat.zero_le _
    · exact Nat.le_refl _
  unfold textI
  rw [List.length_append, List.length_append]
  omega
end Go.Proofs.YtgdnnaiidmfncaaDoor
