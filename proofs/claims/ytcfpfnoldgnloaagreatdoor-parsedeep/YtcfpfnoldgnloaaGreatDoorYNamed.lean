/-
  named: what stands behind a name in an expression. Conditions: the parser lies in memory; the contracts of expr and args.
-/
import Derived.Test.YtcfpfnoldgnloaaGreatDoorYEx
set_option linter.unusedVariables false
set_option linter.unusedSimpArgs false
namespace Go.Proofs.YtcfpfnoldgnloaaGreatDoor
open Go.RowKit
set_option maxRecDepth 100000
set_option maxHeartbeats 4000000

theorem named_call_w (f : Nat) (ih : ArgsC f) (s : Bs) (t : Tk) (r : List Tk) (w : World) (p tb : Nat) (hl : 4 * (t :: r).length + 1 ≤ f + 1) (h : Ps w p tb (t :: r)) (y : isP [40] t = true) :
    Calls Tryz.prog 163 #[.pointer (some ⟨p, 0, none⟩), .string (strOf s)] w (PEnd (ExH w.heap.size) w p tb (namedP (f + 1) s (t :: r))) := by
  have HPW := Lib.hid h.lt
  have HNE : Hid (w.heap.size ≠ p) := by show _ ≠ _; have := h.lt; omega
  have hb0 : Below w.heap.size w (w.alloc (.cells #[.int .i64 0, .int .i64 0, .int .i64 0, .string ⟨#[]⟩, .slice none 0 0] 27)) := (Below.refl _ _).alloc (Nat.le_refl _) _
  have HF0 : Hid (SFr p w (w.alloc (.cells #[.int .i64 0, .int .i64 0, .int .i64 0, .string ⟨#[]⟩, .slice none 0 0] 27))) := SFr.of_below hb0
  have HR0 := Lib.hid (OwnAt.new w [.int .i64 0, .int .i64 0, .int .i64 0, .string ⟨#[]⟩, .slice none 0 0] 27)
  have HP0 := Lib.hid (h.old hb0)
  clear hb0
  obtain ⟨R, hR⟩ : ∃ R, namedP (f + 1) s (t :: r) = R := ⟨_, rfl⟩
  rw [hR]
  have HRR := Lib.hid hR
  clear hR
  have HY := Lib.hid y
  have HT : Hid (∀ w1, Ps w1 p tb (t :: r) → _) := fun w1 h1 => psTake_yes p tb t r [40] w1 h1 y
  rw [List.length_cons] at hl
  have HC : Hid (∀ w1, Ps w1 p tb r → _) := fun w1 h1 => ih r w1 p tb (by omega) h1
  clear y hl ih
  clear h
  go_enter Tryz.func163, Tryz.ntmps163
  go_wp2_with fail
  refine (HT.out _ HP0.out).mono ?_
  rintro e w1 ⟨rfl, hf, hp⟩
  have HF1 := Lib.hid (HF0.out.trans hf)
  have HP1 := Lib.hid hp
  have HR1 := Lib.hid (HR0.out.sfr hf HNE.out)
  clear hf hp
  go_wp2_with fail
  refine (HC.out _ HP1.out).mono ?_
  intro e w2 he
  cases hA : argsP f r with
  | error n =>
    rw [hA] at he
    obtain ⟨hf, rfl⟩ := he
    have HF := Lib.hid (HF1.out.trans hf)
    have e1 : namedP (f + 1) s (t :: r) = .error n := by rw [namedP, take_yes HY.out]; dsimp only; rw [hA]
    have e2 := HRR.out.symm.trans e1
    subst e2
    clear e1 hf
    unfold lineV
    go_wp2_with fail
    exact ⟨rfl, HF.out, rfl⟩
  | ok q =>
    obtain ⟨x, r2⟩ := q
    rw [hA] at he
    obtain ⟨hf, v, rfl, hp, hv⟩ := he
    have hv : ExsAt (w1.heap.size ≤ ·) w2 x v := hv
    obtain ⟨a1, a2, rfl⟩ := hv.shape
    have HX2 := Lib.hid (hv.up (show w.heap.size + 1 ≤ w1.heap.size from HR1.out.lt))
    clear hv
    have HF2 := Lib.hid (HF1.out.trans hf)
    have HP2 := Lib.hid hp
    have HR2 := Lib.hid (HR1.out.sfr hf HNE.out)
    clear hf hp
    have HA2 := Lib.hid hA
    clear hA
    obtain ⟨⟨x0, x1, x2, x3, x4⟩, xf0, xf1, xf2, xf3, xf4⟩ := cells5 HR2.out
    have xlt := HR2.out.lt
    go_wp2_with fail
    have e1 : namedP (f + 1) s (t :: r) = .ok (.mk 5 0 0 s x, r2) := by rw [namedP, take_yes HY.out]; dsimp only; rw [HA2.out]
    have e2 := HRR.out.symm.trans e1
    subst e2
    obtain ⟨⟨d0, d1, d2, d3, d4⟩, _⟩ := cells5 (own5 HR2.out (.int .i64 5) (.int .i64 0) (.int .i64 0) (.string (strOf s)) (.slice a1 x.length a2))
    exact bodyPost_ret (v := .agg #[.int .i64 5, .int .i64 0, .int .i64 0, .string (strOf s), .slice a1 x.length a2]) (by simp [results, Tryz.results163, go_sem, d0, d1, d2, d3, d4]) rfl (ex_end (x := .mk 5 0 0 s x) HPW.out HF2.out HP2.out HX2.out yi64_0 _ _ _ _ _)
theorem named_var_w (f : Nat) (s : Bs) (t : Tk) (r : List Tk) (w : World) (p tb : Nat) (h : Ps w p tb (t :: r)) (n1 : isP [40] t = false) (n2 : isP [91] t = false) :
    Calls Tryz.prog 163 #[.pointer (some ⟨p, 0, none⟩), .string (strOf s)] w (PEnd (ExH w.heap.size) w p tb (namedP (f + 1) s (t :: r))) := by
  have HPW := Lib.hid h.lt
  have HNE : Hid (w.heap.size ≠ p) := by show _ ≠ _; have := h.lt; omega
  have hb0 : Below w.heap.size w (w.alloc (.cells #[.int .i64 0, .int .i64 0, .int .i64 0, .string ⟨#[]⟩, .slice none 0 0] 27)) := (Below.refl _ _).alloc (Nat.le_refl _) _
  have HF0 : Hid (SFr p w (w.alloc (.cells #[.int .i64 0, .int .i64 0, .int .i64 0, .string ⟨#[]⟩, .slice none 0 0] 27))) := SFr.of_below hb0
  have HR0 := Lib.hid (OwnAt.new w [.int .i64 0, .int .i64 0, .int .i64 0, .string ⟨#[]⟩, .slice none 0 0] 27)
  have HP0 := Lib.hid (h.old hb0)
  clear hb0
  obtain ⟨R, hR⟩ : ∃ R, namedP (f + 1) s (t :: r) = R := ⟨_, rfl⟩
  rw [hR]
  have HRR := Lib.hid hR
  clear hR
  have HN1 := Lib.hid n1
  have HN2 := Lib.hid n2
  have HT : Hid (∀ w1, Ps w1 p tb (t :: r) → _) := fun w1 h1 => psTake_no p tb t r [40] w1 h1 n1
  have HU : Hid (∀ w1, Ps w1 p tb (t :: r) → _) := fun w1 h1 => psTake_no p tb t r [91] w1 h1 n2
  clear n1 n2
  clear h
  go_enter Tryz.func163, Tryz.ntmps163
  go_wp2_with fail
  refine (HT.out _ HP0.out).mono ?_
  rintro e w1 ⟨rfl, hb⟩
  have HF1 := Lib.hid (HF0.out.trans (SFr.of_below hb))
  have HP1 := Lib.hid (HP0.out.old hb)
  have HR1 := Lib.hid (HR0.out.old hb)
  clear hb
  go_wp2_with fail
  refine (HU.out _ HP1.out).mono ?_
  rintro e w2 ⟨rfl, hb⟩
  have HF2 := Lib.hid (HF1.out.trans (SFr.of_below hb))
  have HP2 := Lib.hid (HP1.out.old hb)
  have HR2 := Lib.hid (HR1.out.old hb)
  clear hb
  obtain ⟨⟨x0, x1, x2, x3, x4⟩, xf0, xf1, xf2, xf3, xf4⟩ := cells5 HR2.out
  have xlt := HR2.out.lt
  go_wp2_with fail
  have e1 : namedP (f + 1) s (t :: r) = .ok (.mk 2 0 0 s [], t :: r) := by rw [namedP, take_no HN1.out]; dsimp only; rw [take_no HN2.out]
  have e2 := HRR.out.symm.trans e1
  subst e2
  obtain ⟨⟨d0, d1, d2, d3, d4⟩, _⟩ := cells5 (own5 HR2.out (.int .i64 2) (.int .i64 0) (.int .i64 0) (.string (strOf s)) (.slice none 0 0))
  exact bodyPost_ret (v := .agg #[.int .i64 2, .int .i64 0, .int .i64 0, .string (strOf s), .slice none 0 0]) (by simp [results, Tryz.results163, go_sem, d0, d1, d2, d3, d4]) rfl (ex_end (x := .mk 2 0 0 s []) HPW.out HF2.out HP2.out ExsAt.zero yi64_0 _ _ _ _ _)
theorem named_idx_w (f : Nat) (ih : ExprC f) (s : Bs) (t : Tk) (r : List Tk) (w : World) (p tb : Nat) (hl : 4 * (t :: r).length + 1 ≤ f + 1) (h : Ps w p tb (t :: r)) (n1 : isP [40] t = false) (y : isP [91] t = true) :
    Calls Tryz.prog 163 #[.pointer (some ⟨p, 0, none⟩), .string (strOf s)] w (PEnd (ExH w.heap.size) w p tb (namedP (f + 1) s (t :: r))) := by
  have HPW := Lib.hid h.lt
  have HNE : Hid (w.heap.size ≠ p) := by show _ ≠ _; have := h.lt; omega
  have hb0 : Below w.heap.size w (w.alloc (.cells #[.int .i64 0, .int .i64 0, .int .i64 0, .string ⟨#[]⟩, .slice none 0 0] 27)) := (Below.refl _ _).alloc (Nat.le_refl _) _
  have HF0 : Hid (SFr p w (w.alloc (.cells #[.int .i64 0, .int .i64 0, .int .i64 0, .string ⟨#[]⟩, .slice none 0 0] 27))) := SFr.of_below hb0
  have HR0 := Lib.hid (OwnAt.new w [.int .i64 0, .int .i64 0, .int .i64 0, .string ⟨#[]⟩, .slice none 0 0] 27)
  have HP0 := Lib.hid (h.old hb0)
  clear hb0
  obtain ⟨R, hR⟩ : ∃ R, namedP (f + 1) s (t :: r) = R := ⟨_, rfl⟩
  rw [hR]
  have HRR := Lib.hid hR
  clear hR
  have HY := Lib.hid y
  have HN1 := Lib.hid n1
  have HT : Hid (∀ w1, Ps w1 p tb (t :: r) → _) := fun w1 h1 => psTake_no p tb t r [40] w1 h1 n1
  have HU : Hid (∀ w1, Ps w1 p tb (t :: r) → _) := fun w1 h1 => psTake_yes p tb t r [91] w1 h1 y
  rw [List.length_cons] at hl
  have HC : Hid (∀ w1, Ps w1 p tb r → _) := fun w1 h1 => ih r w1 p tb (by omega) h1
  clear y n1 hl ih
  clear h
  go_enter Tryz.func163, Tryz.ntmps163
  go_wp2_with fail
  refine (HT.out _ HP0.out).mono ?_
  rintro e w1 ⟨rfl, hb⟩
  have HF1 := Lib.hid (HF0.out.trans (SFr.of_below hb))
  have HP1 := Lib.hid (HP0.out.old hb)
  have HR1 := Lib.hid (HR0.out.old hb)
  clear hb
  go_wp2_with fail
  refine (HU.out _ HP1.out).mono ?_
  rintro e w2 ⟨rfl, hf, hp⟩
  have HF2 := Lib.hid (HF1.out.trans hf)
  have HP2 := Lib.hid hp
  have HR2 := Lib.hid (HR1.out.sfr hf HNE.out)
  clear hf hp
  go_wp2_with fail
  refine (HC.out _ HP2.out).mono ?_
  intro e w3 he
  cases hA : climbP f 1 r with
  | error n =>
    rw [hA] at he
    obtain ⟨hf, rfl⟩ := he
    have HF := Lib.hid (HF2.out.trans hf)
    have e1 : namedP (f + 1) s (t :: r) = .error n := by rw [namedP, take_no HN1.out]; dsimp only; rw [take_yes HY.out]; dsimp only; rw [hA]
    have e2 := HRR.out.symm.trans e1
    subst e2
    clear e1 hf
    unfold lineV
    go_wp2_with fail
    exact ⟨rfl, HF.out, rfl⟩
  | ok q =>
    obtain ⟨x, r2⟩ := q
    rw [hA] at he
    obtain ⟨hf, v, rfl, hp, hv⟩ := he
    obtain ⟨s3, rfl, hx, hn⟩ := hv
    obtain ⟨a1, a2, rfl⟩ := hx.shape
    have HX3 := Lib.hid (hx.up (show w.heap.size + 1 ≤ w2.heap.size from HR2.out.lt))
    have HN := Lib.hid hn
    clear hx hn
    have HF3 := Lib.hid (HF2.out.trans hf)
    have HP3 := Lib.hid hp
    have HR3 := Lib.hid (HR2.out.sfr hf HNE.out)
    clear hf hp
    have HA3 := Lib.hid hA
    clear hA
    go_upto_region 5 with (fail)
    obtain ⟨W, hW⟩ : ∃ W, w3.alloc (.cells #[.int .i64 x.kind, .int .i64 x.op, .int .i64 x.n, .string (strOf x.name), .slice a1 x.args.length a2] 27) = W := ⟨_, rfl⟩
    rw [hW]
    have hba : Below w3.heap.size w3 W := hW ▸ (Below.refl _ _).alloc (Nat.le_refl _) _
    have HF4 := Lib.hid (HF3.out.trans (SFr.of_below hba))
    have HP4 := Lib.hid (HP3.out.old hba)
    have HR4 := Lib.hid (HR3.out.old hba)
    have HX4 := Lib.hid (HX3.out.old hba)
    have HE4 := Lib.hid (hW ▸ OwnAt.new w3 [.int .i64 x.kind, .int .i64 x.op, .int .i64 x.n, .string (strOf x.name), .slice a1 x.args.length a2] 27)
    have HEP : Hid (w3.heap.size ≠ p) := by show _ ≠ _; have := HP3.out.lt; omega
    clear hba hW
    obtain ⟨w4, hWW⟩ : ∃ w4, w4 = W := ⟨_, rfl⟩
    subst hWW
    have hba : Below w4.heap.size w4 (w4.alloc (.cells #[.string ⟨#[93]⟩] 9)) := (Below.refl _ _).alloc (Nat.le_refl _) _
    have HF5 := Lib.hid (HF4.out.trans (SFr.of_below hba))
    have HP5 := Lib.hid (HP4.out.old hba)
    have HR5 := Lib.hid (HR4.out.old hba)
    have HE5 := Lib.hid (HE4.out.old hba)
    have HX5 := Lib.hid (HX4.out.old hba)
    have HWN := Lib.hid (psWant_one p tb r2 [93] _ HP5.out w4.heap.size 1 ((OwnAt.new w4 [.string ⟨#[93]⟩] 9).at 0 _ rfl))
    clear hba
    go_wp2_with fail
    refine (HWN.out).mono ?_
    intro e w6 he
    cases hA : ywantP [93] r2 with
    | error n =>
      rw [hA] at he
      obtain ⟨hf, rfl⟩ := he
      have HF := Lib.hid (HF5.out.trans hf)
      have e1 : namedP (f + 1) s (t :: r) = .error n := by rw [namedP, take_no HN1.out]; dsimp only; rw [take_yes HY.out]; dsimp only; rw [HA3.out]; dsimp only; rw [hA]
      have e2 := HRR.out.symm.trans e1
      subst e2
      clear e1 hf
      unfold lineV
      go_wp2_with fail
      exact ⟨rfl, HF.out, rfl⟩
    | ok r3 =>
      rw [hA] at he
      obtain ⟨hf, rfl, hp⟩ := he
      have HF6 := Lib.hid (HF5.out.trans hf)
      have HP6 := Lib.hid hp
      have HR6 := Lib.hid (HR5.out.sfr hf HNE.out)
      have HE6 := Lib.hid (HE5.out.sfr hf HEP.out)
      have HX6 := Lib.hid (HX5.out.keep (hf.fresh (by have := HPW.out; omega)))
      clear hf hp
      have HA6 := Lib.hid hA
      clear hA
      clear HWN
      obtain ⟨⟨e0, e1, e2, e3, e4⟩, ef0, ef1, ef2, ef3, ef4⟩ := cells5 HE6.out
      have elt := HE6.out.lt
      obtain ⟨⟨x0, x1, x2, x3, x4⟩, xf0, xf1, xf2, xf3, xf4⟩ := cells5 HR6.out
      have xlt := HR6.out.lt
      go_wp2_with fail
      have e1 : namedP (f + 1) s (t :: r) = .ok (.mk 6 0 0 s [x], r3) := by rw [namedP, take_no HN1.out]; dsimp only; rw [take_yes HY.out]; dsimp only; rw [HA3.out]; dsimp only; rw [HA6.out]
      have e2 := HRR.out.symm.trans e1
      subst e2
      obtain ⟨⟨d0, d1, d2, d3, d4⟩, _⟩ := cells5 ((own5 HR6.out (.int .i64 6) (.int .i64 0) (.int .i64 0) (.string (strOf s)) (.slice (some ⟨w6.heap.size, 0, none⟩) 1 1)).alloc (.cells #[.int .i64 x.kind, .int .i64 x.op, .int .i64 x.n, .string (strOf x.name), (.slice a1 x.args.length a2)] 27))
      exact bodyPost_ret (v := .agg #[.int .i64 6, .int .i64 0, .int .i64 0, .string (strOf s), .slice (some ⟨w6.heap.size, 0, none⟩) 1 1]) (by simp [results, Tryz.results163, go_sem, d0, d1, d2, d3, d4]) rfl (ex_end1 (x := x) (y := .mk 6 0 0 s [x]) HPW.out HF6.out HP6.out HX6.out HN.out HR6.out.lt rfl yi64_0 _ _ _ _ _)
end Go.Proofs.YtcfpfnoldgnloaaGreatDoor
