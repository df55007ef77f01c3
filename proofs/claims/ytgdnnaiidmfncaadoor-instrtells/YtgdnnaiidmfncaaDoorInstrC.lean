/-
  Right: may an instruction be? Condition: its name is no longer than an int tells.
-/
import Derived.Test.YtgdnnaiidmfncaaDoorInstrA
import Derived.Test.YtgdnnaiidmfncaaDoorInstrB
import Derived.Test.YtgdnnaiidmfncaaDoorScanSh
set_option linter.unusedVariables false
set_option linter.unusedSimpArgs false
namespace Go.Proofs.YtgdnnaiidmfncaaDoor
open Go.RowKit
set_option maxHeartbeats 4000000
set_option maxRecDepth 100000

/-- What a form's character is: a register or a number of the instruction, its label, or itself. -/
theorem char_cases (x o : Ins) (c : UInt8) (h : sepB c = true ∨ keyB c = true) :
    (c = 76 ∧ stepR x o c = some { o with name := x.name } ∧ (insCells o).set 5 (.string (strOf x.name)) = insCells { o with name := x.name } ∧ ∀ b, partP b c = .pointer none) ∨
    (c ≠ 76 ∧ stepR x o c = some o ∧ ∀ b, partP b c = .pointer none) ∨
    (c ≠ 76 ∧ ∃ (j : Nat) (v v0 : Int) (o' : Ins), (∀ b, partP b c = .pointer (some ⟨b, j, none⟩)) ∧ (insCells x)[j]? = some (.int .i64 v) ∧ (insCells o)[j]? = some (.int .i64 v0) ∧ stepR x o c = (if mayI v c = true then some o' else none) ∧ (insCells o).set j (.int .i64 v) = insCells o') := by
  rcases h with h | h
  · right; left
    have e : c = 32 ∨ c = 44 ∨ c = 40 ∨ c = 41 := by
      simp only [sepB, Bool.or_eq_true, beq_iff_eq] at h
      rcases h with ((h | h) | h) | h <;> simp [h]
    refine ⟨?_, step_sep x o c h, ?_⟩
    · rcases e with rfl | rfl | rfl | rfl <;> decide
    · rcases e with rfl | rfl | rfl | rfl <;> exact fun _ => rfl
  · rcases keys_cases h with rfl | rfl | rfl | rfl | rfl | rfl
    · exact .inr (.inr ⟨by decide, 1, x.d, o.d, { o with d := x.d }, fun _ => rfl, rfl, rfl, rfl, rfl⟩)
    · exact .inr (.inr ⟨by decide, 2, x.a, o.a, { o with a := x.a }, fun _ => rfl, rfl, rfl, rfl, rfl⟩)
    · exact .inr (.inr ⟨by decide, 3, x.b, o.b, { o with b := x.b }, fun _ => rfl, rfl, rfl, rfl, rfl⟩)
    · exact .inr (.inr ⟨by decide, 4, x.n, o.n, { o with n := x.n }, fun _ => rfl, rfl, rfl, rfl, rfl⟩)
    · exact .inr (.inr ⟨by decide, 4, x.n, o.n, { o with n := x.n }, fun _ => rfl, rfl, rfl, rfl, rfl⟩)
    · exact .inl ⟨rfl, rfl, rfl, fun _ => rfl⟩
theorem indexByte_has (c : UInt8) : ∀ s : Bs, decide (0 ≤ Lib.indexByte s c) = s.contains c
  | [] => by simp [Lib.indexByte]
  | a :: s => by
    have ih := indexByte_has c s
    rw [Bool.eq_iff_iff, decide_eq_true_eq] at ih ⊢
    unfold Lib.indexByte
    by_cases h : a = c
    · subst h
      simp
    · have h1 : (a == c) = false := by simpa using h
      have h2 : ¬ (c = a) := fun e => h e.symm
      have hge : -1 ≤ Lib.indexByte s c := Lib.indexByte_ge s c
      by_cases he : Lib.indexByte s c = -1
      · rw [he] at ih
        simp [h1, he, h2] at ih ⊢
        exact ih
      · have e2 : (Lib.indexByte s c == -1) = false := by simpa using he
        simp only [h1, e2, List.contains_cons]
        simp [h2] at ih ⊢
        rw [← ih]
        constructor <;> intro <;> omega
theorem foldR_cons (x o : Ins) (c : UInt8) (f : Bs) : foldR x (c :: f) o = (match stepR x o c with | none => none | some o' => foldR x f o') := rfl
theorem right_any (x : Ins) (hn : x.name.length ≤ 9223372036854775807) (w : World) :
    Calls Tryd.prog 8 #[insV x] w fun e w' => e = .returned (.bool (rightI x)) ∧ Below w.heap.size w w' := by
  obtain ⟨r, hr⟩ : ∃ r, rowI x.op = r := ⟨_, rfl⟩
  obtain ⟨word, form⟩ := r
  have HR := Lib.hid hr
  have hf := (row_ok x.op).2.1
  rw [hr] at hf
  have HF := Lib.hid hf
  have HN := Lib.hid hn
  have HO1 := Lib.hid (OwnAt.new w (insCells x) 23)
  have HB1 := Lib.hid ((Below.refl w.heap.size w).alloc (Nat.le_refl _) (.cells (insCells x).toArray 23))
  clear hf hr hn
  unfold insV
  go_enter Tryd.func8, Tryd.ntmps8
  go_wp2_with fail
  refine (rowOf_any x.op _).mono ?_
  rw [HR.out]
  rintro e w1 ⟨rfl, hb1⟩
  unfold rowV
  have HB2 := Lib.hid (HB1.out.trans (hb1.mono HB1.out.size))
  have HO2 := Lib.hid (HO1.out.old hb1)
  clear hb1
  have hl1 := HO2.out.lt
  have c0 := HO2.out.at 0 _ rfl
  have c5 := HO2.out.at 5 _ rfl
  have HO3 := Lib.hid (HO2.out.old ((Below.refl w1.heap.size w1).alloc (Nat.le_refl _) (.cells #[.string (strOf word), .string (strOf form)] 43)))
  have HP3 := Lib.hid (OwnAt.new w1 [.string (strOf word), .string (strOf form)] 43)
  have HB3 := Lib.hid (HB2.out.alloc HB2.out.size (.cells #[.string (strOf word), .string (strOf form)] 43))
  go_wp2_with fail
  have HO4 := Lib.hid (HO3.out.old ((Below.refl _ _).alloc (Nat.le_refl _) (.cells (insCells (zeroI x.op)).toArray 23)))
  have HP4 := Lib.hid (HP3.out.old ((Below.refl _ _).alloc (Nat.le_refl _) (.cells (insCells (zeroI x.op)).toArray 23)))
  have HQ4 := Lib.hid (OwnAt.new (w1.alloc (.cells #[.string (strOf word), .string (strOf form)] 43)) (insCells (zeroI x.op)) 23)
  have HB4 := Lib.hid (HB3.out.alloc HB3.out.size (.cells (insCells (zeroI x.op)).toArray 23))
  have hs4 : (w1.alloc (.cells #[.string (strOf word), .string (strOf form)] 43)).heap.size = w1.heap.size + 1 := by simp
  rw [hs4] at HQ4
  go_loopw [6, 7] (fun _ _ wr => ∃ (k : Nat) (o : Ins), k ≤ form.length ∧ Hid (OwnAt wr w.heap.size (insCells x) 23) ∧ Hid (OwnAt wr w1.heap.size [.string (strOf word), .string (strOf form)] 43) ∧ Hid (OwnAt wr (w1.heap.size + 1) (insCells o) 23) ∧ Hid (IterAt wr (w1.heap.size + 1 + 1) (strOf form) k) ∧ Hid (Below w.heap.size w wr) ∧ Hid (foldR x (form.drop k) o = foldR x form (zeroI x.op))) (fun _ _ wr => form.length - wr.iterPos (w1.heap.size + 1 + 1))
  case atStart =>
    refine ⟨0, zeroI x.op, Nat.zero_le _, Lib.hid ?_, Lib.hid ?_, Lib.hid ?_, Lib.hid ?_, Lib.hid ?_, Lib.hid rfl⟩
    · exact HO4.out.old ((Below.refl _ _).alloc (Nat.le_refl _) _)
    · exact HP4.out.old ((Below.refl _ _).alloc (Nat.le_refl _) _)
    · exact HQ4.out.old ((Below.refl _ _).alloc (Nat.le_refl _) _)
    · have := IterAt.new ((w1.alloc (.cells #[.string (strOf word), .string (strOf form)] 43)).alloc (.cells (insCells (zeroI x.op)).toArray 23)) (strOf form)
      rw [show ((w1.alloc (.cells #[.string (strOf word), .string (strOf form)] 43)).alloc (.cells (insCells (zeroI x.op)).toArray 23)).heap.size = w1.heap.size + 1 + 1 by simp] at this
      exact this
    · exact HB4.out.alloc HB4.out.size _
  case round =>
    obtain ⟨k, o, hk, H1, H2, H3, H4, H5, H6⟩ := hrel
    clear HO1 HB1 HB2 HO2 HO3 HP3 HB3 HO4 HP4 HQ4 HB4 hs4
    have hgt : w.heap.size < w1.heap.size := hl1
    obtain ⟨X, hX⟩ : ∃ X, w1.heap.size = X := ⟨_, rfl⟩
    rw [hX] at H2 H3 H4 hgt ⊢
    by_cases hlt : k < form.length
    · obtain ⟨c, hc⟩ : ∃ c, form[k] = c := ⟨_, rfl⟩
      obtain ⟨hck, hc7⟩ := HF.out form[k] (List.getElem_mem hlt)
      have hnx := fun ty => iter_next (P := Tryd.prog) H4.out hlt hc7 ty
      have HE : Hid (foldR x (form.drop k) o = (match stepR x o form[k] with | none => none | some o' => foldR x (form.drop (k + 1)) o')) := by
        show _ = _
        rw [List.drop_eq_getElem_cons hlt, foldR_cons]
      rw [hc] at hck hc7 hnx HE
      have G1 := Lib.hid (H1.out.iter (show w.heap.size ≠ X + 1 + 1 by omega) (strOf form) (k + 1))
      have G2 := Lib.hid (H2.out.iter (show X ≠ X + 1 + 1 by omega) (strOf form) (k + 1))
      have G3 := Lib.hid (H3.out.iter (show X + 1 ≠ X + 1 + 1 by omega) (strOf form) (k + 1))
      have G4 := Lib.hid (H4.out.step (k + 1))
      have G5 := Lib.hid (Lib.below_iterAt H5.out (k := X + 1 + 1) (by omega) (strOf form) (k + 1))
      obtain ⟨W, hW⟩ : ∃ W, wr.iterAt (X + 1 + 1) (strOf form) (k + 1) = W := ⟨_, rfl⟩
      rw [hW] at G1 G2 G3 G4 G5 hnx
      have hpos0 := iterPos_at H4.out
      have HPA : Hid (∀ b w', Calls Tryd.prog 24 #[.pointer (some ⟨b, 0, none⟩), .int .i32 (c.toNat : Nat)] w' fun e w'' => e = .returned (partP b c) ∧ w' = w'') := fun b w' => part_any b c w'
      have HMA : Hid (∀ v w', Calls Tryd.prog 30 #[.int .i64 v, .int .i32 (c.toNat : Nat)] w' fun e w'' => e = .returned (.bool (mayI v c)) ∧ w' = w'') := fun v w' => may_any v c w'
      have h76 := u8_eq c 76 (by decide)
      obtain ⟨z, hz⟩ : ∃ z : Int, ((c.toNat : Nat) : Int) = z := ⟨_, rfl⟩
      rw [hz] at HPA HMA h76
      simp only [hz] at hnx
      clear hz hc7 hc H1 H2 H3 H5
      have HW := Lib.hid hW
      clear hW
      rcases char_cases x o c hck with ⟨rfl, hst, hset, hp⟩ | ⟨h76', hst, hp⟩ | ⟨h76', j, v, v0, o', hp, hx, ho, hst, hset⟩
      · have hz : (z == 76) = true := by simpa using h76
        have hz' : z = 76 := by simpa using hz
        subst hz'
        have HST := Lib.hid hst
        have HSET := Lib.hid hset
        have c5' := G1.out.at 5 _ rfl
        have d5 := G3.out.at 5 _ rfl
        have e5 := G3.out.fz 5
        have hgl := G4.out.lt
        clear hst hset h76 hz hck
        go_wp2_with (go_at_call 24; refine (HPA.out _ _).mono ?_; rw [hp]; rintro e w4 ⟨rfl, rfl⟩)
        have HE2 := Lib.hid (show foldR x (form.drop (k + 1)) { o with name := x.name } = foldR x form (zeroI x.op) by rw [← H6.out, HE.out, HST.out])
        have G4' := Lib.hid (G4.out.set (show X + 1 + 1 ≠ X + 1 by omega) 5 (.string (strOf x.name)))
        refine ⟨⟨k + 1, { o with name := x.name }, hlt, Lib.hid (G1.out.other (by omega) 5 _), Lib.hid (G2.out.other (by omega) 5 _), Lib.hid (by rw [← HSET.out]; exact G3.out.set 5 _), G4', Lib.hid (zbelow_set G5.out (by omega) 5 _), HE2⟩, ?_⟩
        rw [hpos0, iterPos_at G4'.out]; omega
      · have hz : (z == 76) = false := by have := h76; simp only [show ((76 : Nat) : Int) = 76 from rfl] at this; rw [this]; exact decide_eq_false h76'
        have HST := Lib.hid hst
        clear hst h76 hck h76'
        go_wp2_with (go_at_call 24; refine (HPA.out _ _).mono ?_; rw [hp]; rintro e w4 ⟨rfl, rfl⟩)
        have HE2 := Lib.hid (show foldR x (form.drop (k + 1)) o = foldR x form (zeroI x.op) by rw [← H6.out, HE.out, HST.out])
        refine ⟨⟨k + 1, o, hlt, G1, G2, G3, G4, G5, HE2⟩, ?_⟩
        rw [hpos0, iterPos_at G4.out]; omega
      · have hz : (z == 76) = false := by have := h76; simp only [show ((76 : Nat) : Int) = 76 from rfl] at this; rw [this]; exact decide_eq_false h76'
        have HST := Lib.hid hst
        have HSET := Lib.hid hset
        have cj := G1.out.at j _ hx
        have dj := G3.out.at j _ ho
        have ej := G3.out.fz j
        have hgl := G4.out.lt
        clear hst hset h76 hck h76' hx ho
        by_cases hm : mayI v c = true
        · have HM := Lib.hid hm
          have HE2 := Lib.hid (show foldR x (form.drop (k + 1)) o' = foldR x form (zeroI x.op) by rw [← H6.out, HE.out, HST.out, if_pos hm])
          have HMA2 : Hid (∀ w', Calls Tryd.prog 30 #[.int .i64 v, .int .i32 z] w' fun e w'' => e = .returned (.bool true) ∧ w' = w'') := by
            intro w'; have := HMA.out v w'; rw [hm] at this; exact this
          clear hm
          go_wp2_with (first | (go_at_call 24; refine (HPA.out _ _).mono ?_; rw [hp]; rintro e w4 ⟨rfl, rfl⟩) | (go_at_call 30; refine (HMA2.out _).mono ?_; rintro e w4 ⟨rfl, rfl⟩))
          go_region_with (first
            | (go_at_call 24; refine (HPA.out _ _).mono ?_; rw [hp]; rintro e w7 ⟨he, hw7⟩; subst he; subst hw7))
          all_goals
            have hdr : Below (W.setCell ⟨X + 1, j, none⟩ (.int .i64 v)).heap.size (W.setCell ⟨X + 1, j, none⟩ (.int .i64 v)) (W.setCell ⟨X + 1, j, none⟩ (.int .i64 v)).drew := (Below.refl _ _).drew
            have G4' := Lib.hid ((G4.out.set (show X + 1 + 1 ≠ X + 1 by omega) j (.int .i64 v)).old hdr)
            have G3' := Lib.hid ((G3.out.set j (.int .i64 v)).old hdr)
            rw [HSET.out] at G3'
            have G1' := Lib.hid ((G1.out.other (show w.heap.size ≠ X + 1 by omega) j (.int .i64 v)).old hdr)
            have G2' := Lib.hid ((G2.out.other (show X ≠ X + 1 by omega) j (.int .i64 v)).old hdr)
            have G5' := Lib.hid ((zbelow_set G5.out (show w.heap.size ≤ X + 1 by omega) j (.int .i64 v)).drew)
            go_wp2_with fail
            refine ⟨⟨k + 1, o', hlt, G1', G2', G3', G4', G5', HE2⟩, ?_⟩
            rw [hpos0, iterPos_at G4'.out]; omega
        · have hm' : mayI v c = false := by simpa using hm
          have hbad : rightI x = false := by
            have e1 : foldR x form (zeroI x.op) = none := by rw [← H6.out, HE.out, HST.out, if_neg hm]
            unfold rightI
            rw [HR.out]
            show (match foldR x form (zeroI x.op) with | none => false | some o => _) = false
            rw [e1]
          have HBAD := Lib.hid hbad
          clear hm hbad
          have HMA2 : Hid (∀ w', Calls Tryd.prog 30 #[.int .i64 v, .int .i32 z] w' fun e w'' => e = .returned (.bool false) ∧ w' = w'') := by
            intro w'; have := HMA.out v w'; rw [hm'] at this; exact this
          clear hm'
          go_wp2_with (first | (go_at_call 24; refine (HPA.out _ _).mono ?_; rw [hp]; rintro e w4 ⟨rfl, rfl⟩) | (go_at_call 30; refine (HMA2.out _).mono ?_; rintro e w4 ⟨rfl, rfl⟩))
          go_ret
          exact ⟨ret_bool HBAD.out.symm, G5.out⟩
    · have hke : k = form.length := by omega
      have hnx := fun ty => iter_end (P := Tryd.prog) H4.out hlt ty
      have HFO : Hid (foldR x form (zeroI x.op) = some o) := by
        show _ = _
        rw [← H6.out, List.drop_eq_nil_of_le (by omega)]; rfl
      have hri : rightI x = (!word.isEmpty && (insEq o x && (form.contains 76 == labelB x.name))) := by
        unfold rightI
        rw [HR.out]
        show (match foldR x form (zeroI x.op) with | none => false | some o => _) = _
        rw [HFO.out]
      have HRI := Lib.hid hri
      obtain ⟨Ix, hIx, F, HFB, HFI⟩ := lat_fun wr
      have HC1 : Hid (∀ n, Calls Tryd.prog 31 #[.string (strOf form), .string ⟨#[76]⟩] (F n) fun e w' => e = .returned (.bool (form.contains 76)) ∧ ∃ m, w' = F m) := fun n => by
        refine (Tryd.strings_Contains_one (strOf form) 76 (F n)).mono ?_
        rintro e w' ⟨he, hb⟩
        refine ⟨?_, n, hb⟩
        rw [he]
        exact congrArg (fun b => Ending.returned (.bool b)) (indexByte_has 76 form)
      have HC2 : Hid (∀ n, Calls Tryd.prog 18 #[.string (strOf x.name)] (F n) fun e w' => e = .returned (.bool (labelB x.name)) ∧ ∃ m, w' = F m) := fun n => by
        refine (label_any x.name HN.out (F n)).mono ?_
        rintro e w' ⟨he, hb⟩
        exact ⟨he, HFI.out w' ((HFB.out n).trans (hb.mono (HFB.out n).size))⟩
      have p0 : ∀ n, (F n).cell? ⟨X, 0, none⟩ = some (.string (strOf word)) := fun n => below_keeps (HFB.out n) (H2.out.at 0 _ rfl)
      have p1 : ∀ n, (F n).cell? ⟨X, 1, none⟩ = some (.string (strOf form)) := fun n => below_keeps (HFB.out n) (H2.out.at 1 _ rfl)
      have i0 : ∀ n, (F n).cell? ⟨w.heap.size, 0, none⟩ = some (.int .i64 x.op) := fun n => below_keeps (HFB.out n) (H1.out.at 0 _ rfl)
      have i1 : ∀ n, (F n).cell? ⟨w.heap.size, 1, none⟩ = some (.int .i64 x.d) := fun n => below_keeps (HFB.out n) (H1.out.at 1 _ rfl)
      have i2 : ∀ n, (F n).cell? ⟨w.heap.size, 2, none⟩ = some (.int .i64 x.a) := fun n => below_keeps (HFB.out n) (H1.out.at 2 _ rfl)
      have i3 : ∀ n, (F n).cell? ⟨w.heap.size, 3, none⟩ = some (.int .i64 x.b) := fun n => below_keeps (HFB.out n) (H1.out.at 3 _ rfl)
      have i4 : ∀ n, (F n).cell? ⟨w.heap.size, 4, none⟩ = some (.int .i64 x.n) := fun n => below_keeps (HFB.out n) (H1.out.at 4 _ rfl)
      have i5 : ∀ n, (F n).cell? ⟨w.heap.size, 5, none⟩ = some (.string (strOf x.name)) := fun n => below_keeps (HFB.out n) (H1.out.at 5 _ rfl)
      have j0 : ∀ n, (F n).cell? ⟨X + 1, 0, none⟩ = some (.int .i64 o.op) := fun n => below_keeps (HFB.out n) (H3.out.at 0 _ rfl)
      have j1 : ∀ n, (F n).cell? ⟨X + 1, 1, none⟩ = some (.int .i64 o.d) := fun n => below_keeps (HFB.out n) (H3.out.at 1 _ rfl)
      have j2 : ∀ n, (F n).cell? ⟨X + 1, 2, none⟩ = some (.int .i64 o.a) := fun n => below_keeps (HFB.out n) (H3.out.at 2 _ rfl)
      have j3 : ∀ n, (F n).cell? ⟨X + 1, 3, none⟩ = some (.int .i64 o.b) := fun n => below_keeps (HFB.out n) (H3.out.at 3 _ rfl)
      have j4 : ∀ n, (F n).cell? ⟨X + 1, 4, none⟩ = some (.int .i64 o.n) := fun n => below_keeps (HFB.out n) (H3.out.at 4 _ rfl)
      have j5 : ∀ n, (F n).cell? ⟨X + 1, 5, none⟩ = some (.string (strOf o.name)) := fun n => below_keeps (HFB.out n) (H3.out.at 5 _ rfl)
      have HST : Hid (∃ n, wr.drew = F n) := HFI.out _ (Below.refl _ _).drew
      have HBN := Lib.hid (fun n => H5.out.trans ((HFB.out n).mono H5.out.size))
      obtain ⟨lb, hlb⟩ : ∃ lb, labelB x.name = lb := ⟨_, rfl⟩
      rw [hlb] at HC2 HRI
      obtain ⟨cb, hcb⟩ : ∃ cb, form.contains 76 = cb := ⟨_, rfl⟩
      rw [hcb] at HC1 HRI
      clear hri hlb hcb H1 H2 H3 H4 H5 H6 HFO HR hk
      go_wp2_with fail
      cases word with
      | nil =>
        refine region_in F (by kernel_rfl) (by kernel_rfl) HST.out ?_
        repeat (go_big_quiet_step (fail))
        refine wpQuiet_nil ?_
        intro _ hw'
        obtain ⟨nq, hw''⟩ := hw'
        subst hw''
        go_wp2_with fail
        go_ret
        exact ⟨ret_bool (by rw [HRI.out]; rfl), HBN.out nq⟩
      | cons a t =>
        by_cases he : o = x
        · subst he
          refine region_in F (by kernel_rfl) (by kernel_rfl) HST.out ?_
          repeat (go_big_quiet_step (first | (go_at_call 31; exact HC1.out _) | (go_at_call 18; exact HC2.out _)))
          refine wpQuiet_nil ?_
          intro _ hw'
          obtain ⟨nq, hw''⟩ := hw'
          subst hw''
          go_wp2_with fail
          go_ret
          exact ⟨ret_bool (by rw [HRI.out]; simp [insEq]), HBN.out nq⟩
        · have hbad : rightI x = false := by
            have e1 : insEq o x = false := by
              rw [← Bool.not_eq_true, insEq_iff]; exact he
            rw [HRI.out, e1]; simp
          have HBAD := Lib.hid hbad
          have hd : (o.op == x.op) = false ∨ (o.op = x.op ∧ (o.d == x.d) = false) ∨ (o.op = x.op ∧ o.d = x.d ∧ (o.a == x.a) = false) ∨ (o.op = x.op ∧ o.d = x.d ∧ o.a = x.a ∧ (o.b == x.b) = false) ∨ (o.op = x.op ∧ o.d = x.d ∧ o.a = x.a ∧ o.b = x.b ∧ (o.n == x.n) = false) ∨ (o.op = x.op ∧ o.d = x.d ∧ o.a = x.a ∧ o.b = x.b ∧ o.n = x.n ∧ (o.name == x.name) = false) := by
            obtain ⟨o0, o1, o2, o3, o4, o5⟩ := o
            obtain ⟨x0, x1, x2, x3, x4, x5⟩ := x
            simp only [Ins.mk.injEq, not_and] at he
            by_cases a0 : o0 = x0
            · by_cases a1 : o1 = x1
              · by_cases a2 : o2 = x2
                · by_cases a3 : o3 = x3
                  · by_cases a4 : o4 = x4
                    · have a5 := he a0 a1 a2 a3 a4
                      exact .inr (.inr (.inr (.inr (.inr ⟨a0, a1, a2, a3, a4, by simpa using a5⟩))))
                    · exact .inr (.inr (.inr (.inr (.inl ⟨a0, a1, a2, a3, by simpa using a4⟩))))
                  · exact .inr (.inr (.inr (.inl ⟨a0, a1, a2, by simpa using a3⟩)))
                · exact .inr (.inr (.inl ⟨a0, a1, by simpa using a2⟩))
              · exact .inr (.inl ⟨a0, by simpa using a1⟩)
            · exact .inl (by simpa using a0)
          clear he hbad HRI
          generalize o.op = o0 at *
          generalize o.d = o1 at *
          generalize o.a = o2 at *
          generalize o.b = o3 at *
          generalize o.n = o4 at *
          generalize o.name = o5 at *
          rcases hd with h | ⟨rfl, h⟩ | ⟨rfl, rfl, h⟩ | ⟨rfl, rfl, rfl, h⟩ | ⟨rfl, rfl, rfl, rfl, h⟩ | ⟨rfl, rfl, rfl, rfl, rfl, h⟩
          all_goals
            refine region_in F (by kernel_rfl) (by kernel_rfl) HST.out ?_
            repeat (go_big_quiet_step (first | (go_at_call 31; exact HC1.out _) | (go_at_call 18; exact HC2.out _)))
            refine wpQuiet_nil ?_
            intro _ hw'
            obtain ⟨nq, hw''⟩ := hw'
            subst hw''
            go_wp2_with fail
            go_ret
            exact ⟨ret_bool HBAD.out.symm, HBN.out nq⟩
end Go.Proofs.YtgdnnaiidmfncaaDoor
