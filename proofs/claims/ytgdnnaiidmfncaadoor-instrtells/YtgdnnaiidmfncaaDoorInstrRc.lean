/-
  The document's Right, walked. Condition: the name is no longer than an int tells.
-/
import Derived.Test.YtgdnnaiidmfncaaDoorInstrRb
set_option linter.unusedVariables false
set_option linter.unusedSimpArgs false
namespace Go.Proofs.YtgdnnaiidmfncaaDoor
open Go.RowKit
set_option maxHeartbeats 4000000
set_option maxRecDepth 100000

theorem foldQ_cons (x o : Ins) (c : UInt8) (f : Bs) : foldQ x (c :: f) o =
    if c = 68 then foldQ x f { o with d := x.d } else if c = 65 then foldQ x f { o with a := x.a } else if c = 66 then foldQ x f { o with b := x.b } else if c = 78 then foldQ x f { o with n := x.n }
    else if c = 83 then (if -2047 ≤ x.n ∧ x.n ≤ 2047 then foldQ x f { o with n := x.n } else none)
    else if c = 76 then (if labelB x.name = true then foldQ x f { o with name := x.name } else none)
    else foldQ x f o := rfl
theorem refright_any (x : Ins) (hn : x.name.length ≤ 9223372036854775807) (w : World) :
    Calls Tryd.prog 9 #[insV x] w fun e w' => e = .returned (.bool (rightI x)) ∧ Below w.heap.size w w' := by
  rw [← rightQ_eq x]
  obtain ⟨r, hr⟩ : ∃ r, rowI x.op = r := ⟨_, rfl⟩
  obtain ⟨word, form⟩ := r
  have HR := Lib.hid hr
  have HFM := Lib.hid (fun w' => form_any x.op w')
  unfold formsV at HFM
  rw [hr] at HFM
  have hfl := (form_len x.op).2
  rw [hr] at hfl
  have hfl7 : (form.length : Int) ≤ 7 := by
    have : form.length ≤ 7 := hfl
    omega
  have HLA := Lib.hid (fun w' => reflabel_any x.name hn w')
  have HO1 := Lib.hid (OwnAt.new w (insCells x) 23)
  have HB1 := Lib.hid ((Below.refl w.heap.size w).alloc (Nat.le_refl _) (.cells (insCells x).toArray 23))
  have hq0 : word = [] → rightQ x = false := fun h => by unfold rightQ; rw [hr, h]; rfl
  have hq1 : word ≠ [] → rightQ x = (match foldQ x form (zeroI x.op) with | none => false | some o => insEq o x && regsOk x) := fun h => by
    unfold rightQ
    rw [hr]
    show (if word = [] then false else _) = _
    rw [if_neg h]
    rfl
  have HQ0 := Lib.hid hq0
  have HQ1 := Lib.hid hq1
  clear hr hn hfl hq0 hq1
  obtain ⟨RQ, hRQ⟩ : ∃ b, rightQ x = b := ⟨_, rfl⟩
  rw [hRQ] at HQ0 HQ1 ⊢
  clear hRQ
  unfold insV
  go_enter Tryd.func9, Tryd.ntmps9
  go_wp2_with fail
  refine (HFM.out _).mono ?_
  rintro e w1 ⟨rfl, hb1⟩
  have HB2 := Lib.hid (HB1.out.trans (hb1.mono HB1.out.size))
  have HO2 := Lib.hid (HO1.out.old hb1)
  clear hb1 HO1 HB1
  have hl1 := HO2.out.lt
  have c0 := HO2.out.at 0 _ rfl
  by_cases hw : word = []
  · have hrf : RQ = false := HQ0.out hw
    subst hw
    go_wp2_with fail
    go_ret
    exact ⟨ret_bool hrf.symm, HB2.out⟩
  · have hwe : word.isEmpty = false := by simpa using hw
    have HQ := Lib.hid (HQ1.out hw)
    clear HQ0 HQ1 hw
    have hbA : Below w1.heap.size w1 (w1.alloc (.cells #[.int .i64 x.op, .int .i64 0, .int .i64 0, .int .i64 0, .int .i64 0, .string ⟨#[]⟩] 23)) := (Below.refl _ _).alloc (Nat.le_refl _) _
    have HO3 := Lib.hid (HO2.out.old hbA)
    have HX := Lib.hid (show OwnAt (w1.alloc (.cells #[.int .i64 x.op, .int .i64 0, .int .i64 0, .int .i64 0, .int .i64 0, .string ⟨#[]⟩] 23)) w1.heap.size (insCells (zeroI x.op)) 23 from OwnAt.new w1 (insCells (zeroI x.op)) 23)
    have HB3 := Lib.hid (HB2.out.trans (hbA.mono HB2.out.size))
    clear hbA
    go_wp2_with fail
    go_loopw [6] (fun s6 wr => ∃ (k : Nat) (o : Ins), s6 = .int .i64 k ∧ k ≤ form.length ∧ Hid (OwnAt wr w.heap.size (insCells x) 23) ∧ Hid (OwnAt wr w1.heap.size (insCells o) 23) ∧ Hid (Below w.heap.size w wr) ∧ Hid (foldQ x (form.drop k) o = foldQ x form (zeroI x.op))) (fun s6 _ => form.length - (intOf s6).toNat)
    case atStart => exact ⟨0, zeroI x.op, rfl, Nat.zero_le _, HO3, HX, HB3, Lib.hid rfl⟩
    case round =>
      obtain ⟨k, o, rfl, hk, G1, G2, G3, G4⟩ := hrel
      clear HO2 HB2 HO3 HX HB3 c0
      by_cases hlt : k < form.length
      · have hkI : (k : Int) < (form.length : Int) := by omega
        have hci : ∀ h, (strOf form)[k]'h = form[k] := fun _ => rfl
        have HS := Lib.hid (show foldQ x (form.drop k) o = _ by rw [List.drop_eq_getElem_cons hlt, foldQ_cons])
        have i1 := G1.out.at 1 _ rfl
        have i2 := G1.out.at 2 _ rfl
        have i3 := G1.out.at 3 _ rfl
        have i4 := G1.out.at 4 _ rfl
        have i5 := G1.out.at 5 _ rfl
        have o1 := G2.out.at 1 _ rfl
        have o2 := G2.out.at 2 _ rfl
        have o3 := G2.out.at 3 _ rfl
        have o4 := G2.out.at 4 _ rfl
        have o5 := G2.out.at 5 _ rfl
        have p1 := G2.out.fz 1
        have p2 := G2.out.fz 2
        have p3 := G2.out.fz 3
        have p4 := G2.out.fz 4
        have p5 := G2.out.fz 5
        have gl := G2.out.lt
        have ne : ∀ c : UInt8, ¬ form[k] = c → ((form[k].toNat : Int) == (c.toNat : Int)) = false := fun c h => by
          rw [beq_eq_false_iff_ne]
          intro e
          exact h (UInt8.toNat_inj.1 (by omega))
        have eq : ∀ c : UInt8, form[k] = c → ((form[k].toNat : Int) == (c.toNat : Int)) = true := fun c h => by rw [h]; simp
        by_cases a68 : form[k] = 68
        · have e68 : ((form[k].toNat : Int) == 68) = true := eq 68 a68
          have HS2 : Hid (foldQ x (form.drop k) o = foldQ x (form.drop (k + 1)) { o with d := x.d }) := by
            show _ = _
            rw [HS.out, if_pos a68]
          clear HS a68 eq ne
          go_wp2_with fail
          have D := Lib.hid (G2.out.set 1 (.int .i64 x.d))
          exact ⟨⟨k + 1, { o with d := x.d }, rfl, by omega, Lib.hid (G1.out.other (show w.heap.size ≠ w1.heap.size by omega) 1 _), D, Lib.hid (zbelow_set G3.out (show w.heap.size ≤ w1.heap.size by omega) 1 _), Lib.hid (by rw [← HS2.out, G4.out])⟩, by simp [intOf]; omega⟩
        · have n68 : ((form[k].toNat : Int) == 68) = false := ne 68 a68
          by_cases a65 : form[k] = 65
          · have e65 : ((form[k].toNat : Int) == 65) = true := eq 65 a65
            have HS2 : Hid (foldQ x (form.drop k) o = foldQ x (form.drop (k + 1)) { o with a := x.a }) := by
              show _ = _
              rw [HS.out, if_neg a68, if_pos a65]
            clear HS a65 eq ne a68
            go_wp2_with fail
            have D := Lib.hid (G2.out.set 2 (.int .i64 x.a))
            exact ⟨⟨k + 1, { o with a := x.a }, rfl, by omega, Lib.hid (G1.out.other (show w.heap.size ≠ w1.heap.size by omega) 2 _), D, Lib.hid (zbelow_set G3.out (show w.heap.size ≤ w1.heap.size by omega) 2 _), Lib.hid (by rw [← HS2.out, G4.out])⟩, by simp [intOf]; omega⟩
          · have n65 : ((form[k].toNat : Int) == 65) = false := ne 65 a65
            by_cases a66 : form[k] = 66
            · have e66 : ((form[k].toNat : Int) == 66) = true := eq 66 a66
              have HS2 : Hid (foldQ x (form.drop k) o = foldQ x (form.drop (k + 1)) { o with b := x.b }) := by
                show _ = _
                rw [HS.out, if_neg a68, if_neg a65, if_pos a66]
              clear HS a66 eq ne a68 a65
              go_wp2_with fail
              have D := Lib.hid (G2.out.set 3 (.int .i64 x.b))
              exact ⟨⟨k + 1, { o with b := x.b }, rfl, by omega, Lib.hid (G1.out.other (show w.heap.size ≠ w1.heap.size by omega) 3 _), D, Lib.hid (zbelow_set G3.out (show w.heap.size ≤ w1.heap.size by omega) 3 _), Lib.hid (by rw [← HS2.out, G4.out])⟩, by simp [intOf]; omega⟩
            · have n66 : ((form[k].toNat : Int) == 66) = false := ne 66 a66
              by_cases a78 : form[k] = 78
              · have e78 : ((form[k].toNat : Int) == 78) = true := eq 78 a78
                have HS2 : Hid (foldQ x (form.drop k) o = foldQ x (form.drop (k + 1)) { o with n := x.n }) := by
                  show _ = _
                  rw [HS.out, if_neg a68, if_neg a65, if_neg a66, if_pos a78]
                clear HS a78 eq ne a68 a65 a66
                go_wp2_with fail
                have D := Lib.hid (G2.out.set 4 (.int .i64 x.n))
                exact ⟨⟨k + 1, { o with n := x.n }, rfl, by omega, Lib.hid (G1.out.other (show w.heap.size ≠ w1.heap.size by omega) 4 _), D, Lib.hid (zbelow_set G3.out (show w.heap.size ≤ w1.heap.size by omega) 4 _), Lib.hid (by rw [← HS2.out, G4.out])⟩, by simp [intOf]; omega⟩
              · have n78 : ((form[k].toNat : Int) == 78) = false := ne 78 a78
                by_cases a83 : form[k] = 83
                · have e83 : ((form[k].toNat : Int) == 83) = true := eq 83 a83
                  by_cases hs : -2047 ≤ x.n ∧ x.n ≤ 2047
                  · have HS2 : Hid (foldQ x (form.drop k) o = foldQ x (form.drop (k + 1)) { o with n := x.n }) := by
                      show _ = _
                      rw [HS.out, if_neg a68, if_neg a65, if_neg a66, if_neg a78, if_pos a83, if_pos hs]
                    obtain ⟨hs1, hs2⟩ := hs
                    clear HS a83 eq ne a68 a65 a66 a78
                    go_wp2_with fail
                    have D := Lib.hid (G2.out.set 4 (.int .i64 x.n))
                    exact ⟨⟨k + 1, { o with n := x.n }, rfl, by omega, Lib.hid (G1.out.other (show w.heap.size ≠ w1.heap.size by omega) 4 _), D, Lib.hid (zbelow_set G3.out (show w.heap.size ≤ w1.heap.size by omega) 4 _), Lib.hid (by rw [← HS2.out, G4.out])⟩, by simp [intOf]; omega⟩
                  · have hbad : RQ = false := by
                      rw [HQ.out, ← G4.out, HS.out, if_neg a68, if_neg a65, if_neg a66, if_neg a78, if_pos a83, if_neg hs]
                    have HBAD := Lib.hid hbad
                    have GE := Lib.hid (zbelow_set G3.out (show w.heap.size ≤ w1.heap.size by omega) 4 (.int .i64 x.n))
                    clear HS a83 eq ne hbad a68 a65 a66 a78
                    rcases (show x.n < -2047 ∨ 2047 < x.n by omega) with hs1 | hs1
                    all_goals
                      clear hs
                      go_wp2_with fail
                      go_ret
                      exact ⟨ret_bool HBAD.out.symm, GE.out⟩
                · have n83 : ((form[k].toNat : Int) == 83) = false := ne 83 a83
                  by_cases a76 : form[k] = 76
                  · have e76 : ((form[k].toNat : Int) == 76) = true := eq 76 a76
                    cases hlb : labelB x.name with
                    | true =>
                      have HS2 : Hid (foldQ x (form.drop k) o = foldQ x (form.drop (k + 1)) { o with name := x.name }) := by
                        show _ = _
                        rw [HS.out, if_neg a68, if_neg a65, if_neg a66, if_neg a78, if_neg a83, if_pos a76, if_pos hlb]
                      rw [hlb] at HLA
                      clear HS a76 eq ne hlb a68 a65 a66 a78 a83
                      go_wp2_with (go_at_call 19; refine (HLA.out _).mono ?_; rintro e w7 ⟨rfl, rfl⟩)
                      have D := Lib.hid (G2.out.set 5 (.string (strOf x.name)))
                      exact ⟨⟨k + 1, { o with name := x.name }, rfl, by omega, Lib.hid (G1.out.other (show w.heap.size ≠ w1.heap.size by omega) 5 _), D, Lib.hid (zbelow_set G3.out (show w.heap.size ≤ w1.heap.size by omega) 5 _), Lib.hid (by rw [← HS2.out, G4.out])⟩, by simp [intOf]; omega⟩
                    | false =>
                      have hbad : RQ = false := by
                        rw [HQ.out, ← G4.out, HS.out, if_neg a68, if_neg a65, if_neg a66, if_neg a78, if_neg a83, if_pos a76, if_neg (by rw [hlb]; simp)]
                      have HBAD := Lib.hid hbad
                      have GE := Lib.hid (zbelow_set G3.out (show w.heap.size ≤ w1.heap.size by omega) 5 (.string (strOf x.name)))
                      rw [hlb] at HLA
                      clear HS a76 eq ne hlb hbad a68 a65 a66 a78 a83
                      go_wp2_with (go_at_call 19; refine (HLA.out _).mono ?_; rintro e w7 ⟨rfl, rfl⟩)
                      go_ret
                      exact ⟨ret_bool HBAD.out.symm, GE.out⟩
                  · have n76 : ((form[k].toNat : Int) == 76) = false := ne 76 a76
                    have HS2 : Hid (foldQ x (form.drop k) o = foldQ x (form.drop (k + 1)) o) := by
                      show _ = _
                      rw [HS.out, if_neg a68, if_neg a65, if_neg a66, if_neg a78, if_neg a83, if_neg a76]
                    clear HS a76 eq ne a68 a65 a66 a78 a83
                    go_wp2_with fail
                    exact ⟨⟨k + 1, o, rfl, by omega, G1, G2, G3, Lib.hid (by rw [← HS2.out, G4.out])⟩, by simp [intOf]; omega⟩
      · have hkI : (form.length : Int) ≤ (k : Int) := by omega
        have hres : RQ = (insEq o x && regsOk x) := by
          rw [HQ.out, ← G4.out, List.drop_eq_nil_of_le (by omega)]; rfl
        have HRES := Lib.hid hres
        clear hres HQ G4 hlt hk
        have i0 := G1.out.at 0 _ rfl
        have i1 := G1.out.at 1 _ rfl
        have i2 := G1.out.at 2 _ rfl
        have i3 := G1.out.at 3 _ rfl
        have i4 := G1.out.at 4 _ rfl
        have i5 := G1.out.at 5 _ rfl
        have o0 := G2.out.at 0 _ rfl
        have o1 := G2.out.at 1 _ rfl
        have o2 := G2.out.at 2 _ rfl
        have o3 := G2.out.at 3 _ rfl
        have o4 := G2.out.at 4 _ rfl
        have o5 := G2.out.at 5 _ rfl
        by_cases he : o = x
        · have hv0 : RQ = regsOk x := by
            rw [HRES.out, he, (insEq_iff x x).2 rfl]; rfl
          subst he
          have HV := Lib.hid hv0
          clear hv0 HRES
          have hreg : (o.d < 0) ∨ (0 ≤ o.d ∧ 32 ≤ o.d) ∨ ((0 ≤ o.d ∧ o.d < 32) ∧ o.a < 0) ∨ ((0 ≤ o.d ∧ o.d < 32) ∧ 0 ≤ o.a ∧ 32 ≤ o.a) ∨ ((0 ≤ o.d ∧ o.d < 32) ∧ (0 ≤ o.a ∧ o.a < 32) ∧ o.b < 0) ∨ ((0 ≤ o.d ∧ o.d < 32) ∧ (0 ≤ o.a ∧ o.a < 32) ∧ 0 ≤ o.b ∧ 32 ≤ o.b) ∨ ((0 ≤ o.d ∧ o.d < 32) ∧ (0 ≤ o.a ∧ o.a < 32) ∧ 0 ≤ o.b ∧ o.b < 32) := by omega
          have hno : ¬ (0 ≤ o.d ∧ o.d < 32 ∧ 0 ≤ o.a ∧ o.a < 32 ∧ 0 ≤ o.b ∧ o.b < 32) → Hid (RQ = false) := fun h => by
            show RQ = false
            rw [HV.out]; exact decide_eq_false h
          rcases hreg with h1 | ⟨h1, h2⟩ | ⟨⟨h1, h2⟩, h3⟩ | ⟨⟨h1, h2⟩, h3, h4⟩ | ⟨⟨h1, h2⟩, ⟨h3, h4⟩, h5⟩ | ⟨⟨h1, h2⟩, ⟨h3, h4⟩, h5, h6⟩ | ⟨⟨h1, h2⟩, ⟨h3, h4⟩, h5, h6⟩
          iterate 6
            have HF := hno (by omega)
            clear hno
            go_wp2_with fail
            go_ret
            first
              | exact ⟨ret_bool HF.out.symm, G3.out⟩
              | exact ⟨ret_bool (by rw [HF.out]; exact decide_eq_false (by omega)), G3.out⟩
          have HT : Hid (RQ = true) := by
            show RQ = true
            rw [HV.out]; exact decide_eq_true ⟨h1, h2, h3, h4, h5, h6⟩
          clear hno
          go_wp2_with fail
          go_ret
          exact ⟨ret_bool HT.out.symm, G3.out⟩
        · have hbad : RQ = false := by
            have e1 : insEq o x = false := by
              rw [← Bool.not_eq_true, insEq_iff]; exact he
            rw [HRES.out, e1]; rfl
          have HBAD := Lib.hid hbad
          have hd := ins_diff o x he
          clear he hbad HRES
          generalize o.op = q0 at *
          generalize o.d = q1 at *
          generalize o.a = q2 at *
          generalize o.b = q3 at *
          generalize o.n = q4 at *
          generalize o.name = q5 at *
          rcases hd with h | ⟨rfl, h⟩ | ⟨rfl, rfl, h⟩ | ⟨rfl, rfl, rfl, h⟩ | ⟨rfl, rfl, rfl, rfl, h⟩ | ⟨rfl, rfl, rfl, rfl, rfl, h⟩
          all_goals
            go_wp2_with fail
            go_ret
            exact ⟨ret_bool HBAD.out.symm, G3.out⟩
end Go.Proofs.YtgdnnaiidmfncaaDoor
