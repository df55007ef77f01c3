/-
  tight: what binds more strongly than all operators of two. Conditions: the parser lies in memory; the contracts of expr, named and of tight itself for shorter lists.
  expr, climb: an expression whose operators bind at least so strongly. Conditions: the parser lies in memory; the contracts of tight and, for shorter lists, of climb.
-/
import Derived.Test.YtcfpfnoldgnloaaGreatDoorPn05
set_option linter.unusedVariables false
set_option linter.unusedSimpArgs false
namespace Go.Proofs.YtcfpfnoldgnloaaGreatDoor
open Go.RowKit
set_option maxRecDepth 100000
set_option maxHeartbeats 4000000

@[go_sem] theorem field_tk2 (a b c d : Value) (w : World) : (Instr.field 50 (.agg #[a, b, c, d]) 2).run Tryz.prog w = .ok c w := by kernel_rfl
theorem name_ite (t : Tk) (r : List Tk) : nameP (t :: r) = if t.kind = 1 then .ok (t.text, r) else .error t.line := by
  unfold nameP
  have : kindP 1 (t :: r) = if t.kind = 1 then Except.ok (t, r) else Except.error t.line := rfl
  rw [this]
  by_cases h : t.kind = 1
  · rw [if_pos h, if_pos h]
  · rw [if_neg h, if_neg h]
theorem unary_all (t : Tk) (r : List Tk) : (unaryP (t :: r) = some (17, r) ∧ isP (signOf 17) t = true) ∨ (unaryP (t :: r) = some (18, r) ∧ isP (signOf 17) t = false ∧ isP (signOf 18) t = true) ∨ (unaryP (t :: r) = some (19, r) ∧ isP (signOf 17) t = false ∧ isP (signOf 18) t = false ∧ isP (signOf 19) t = true) ∨
    (unaryP (t :: r) = none ∧ isP (signOf 17) t = false ∧ isP (signOf 18) t = false ∧ isP (signOf 19) t = false) := by
  unfold unaryP
  cases h1 : isP (signOf 17) t with
  | true => rw [take_yes h1]; exact .inl ⟨rfl, rfl⟩
  | false =>
    rw [take_no h1]
    cases h2 : isP (signOf 18) t with
    | true => rw [take_yes h2]; exact .inr (.inl ⟨rfl, rfl, rfl⟩)
    | false =>
      rw [take_no h2]
      cases h3 : isP (signOf 19) t with
      | true => rw [take_yes h3]; exact .inr (.inr (.inl ⟨rfl, rfl, rfl, rfl⟩))
      | false => rw [take_no h3]; exact .inr (.inr (.inr ⟨rfl, rfl, rfl, rfl⟩))
theorem psUnary_some (p tb : Nat) (t : Tk) (r : List Tk) (op : Int) (hu : unaryP (t :: r) = some (op, r)) (w : World) (h : Ps w p tb (t :: r)) :
    Calls Tryz.prog 162 #[.pointer (some ⟨p, 0, none⟩)] w fun e w' => e = .returned (.int .i64 op) ∧ SFr p w w' ∧ Ps w' p tb r := by
  rcases unary_all t r with ⟨e, h1⟩ | ⟨e, h1, h2⟩ | ⟨e, h1, h2, h3⟩ | ⟨e, _⟩
  · rw [e] at hu; injection hu with hu; injection hu with hu _; subst hu; exact psUnary_17 p tb t r w h h1
  · rw [e] at hu; injection hu with hu; injection hu with hu _; subst hu; exact psUnary_18 p tb t r w h h1 h2
  · rw [e] at hu; injection hu with hu; injection hu with hu _; subst hu; exact psUnary_19 p tb t r w h h1 h2 h3
  · rw [e] at hu; cases hu
theorem psUnary_none (p tb : Nat) (t : Tk) (r : List Tk) (hu : unaryP (t :: r) = none) (w : World) (h : Ps w p tb (t :: r)) :
    Calls Tryz.prog 162 #[.pointer (some ⟨p, 0, none⟩)] w fun e w' => e = .returned (.int .i64 0) ∧ SFr p w w' ∧ Ps w' p tb (t :: r) := by
  rcases unary_all t r with ⟨e, h1⟩ | ⟨e, h1, h2⟩ | ⟨e, h1, h2, h3⟩ | ⟨e, h1, h2, h3⟩
  · rw [e] at hu; cases hu
  · rw [e] at hu; cases hu
  · rw [e] at hu; cases hu
  · exact psUnary_20 p tb t r w h h1 h2 h3
theorem unary_op {t : Tk} {r q : List Tk} {op : Int} (h : unaryP (t :: r) = some (op, q)) : q = r ∧ (op = 17 ∨ op = 18 ∨ op = 19) := by
  rcases unary_all t r with ⟨e, _⟩ | ⟨e, _⟩ | ⟨e, _⟩ | ⟨e, _⟩ <;> rw [e] at h
  · injection h with h; injection h with h1 h2; exact ⟨h2.symm, .inl h1.symm⟩
  · injection h with h; injection h with h1 h2; exact ⟨h2.symm, .inr (.inl h1.symm)⟩
  · injection h with h; injection h with h1 h2; exact ⟨h2.symm, .inr (.inr h1.symm)⟩
  · cases h
theorem tight_one_w (f : Nat) (ih : TightC f) (t : Tk) (r : List Tk) (w : World) (p tb : Nat) (hl : 4 * (t :: r).length + 1 ≤ f + 1) (h : Ps w p tb (t :: r)) (op : Int) (hu : unaryP (t :: r) = some (op, r)) :
    Calls Tryz.prog 118 #[.pointer (some ⟨p, 0, none⟩)] w (PEnd (ExH w.heap.size) w p tb (tightP (f + 1) (t :: r))) := by
  have HPW := Lib.hid h.lt
  have HNE : Hid (w.heap.size ≠ p) := by show _ ≠ _; have := h.lt; omega
  have hb0 : Below w.heap.size w (w.alloc (.cells #[.int .i64 0, .int .i64 0, .int .i64 0, .string ⟨#[]⟩, .slice none 0 0] 27)) := (Below.refl _ _).alloc (Nat.le_refl _) _
  have HF0 : Hid (SFr p w (w.alloc (.cells #[.int .i64 0, .int .i64 0, .int .i64 0, .string ⟨#[]⟩, .slice none 0 0] 27))) := SFr.of_below hb0
  have HR0 := Lib.hid (OwnAt.new w [.int .i64 0, .int .i64 0, .int .i64 0, .string ⟨#[]⟩, .slice none 0 0] 27)
  have HP0 := Lib.hid (h.old hb0)
  clear hb0
  obtain ⟨R, hR⟩ : ∃ R, tightP (f + 1) (t :: r) = R := ⟨_, rfl⟩
  rw [hR]
  have HRR := Lib.hid hR
  clear hR
  have HU := Lib.hid hu
  have HT : Hid (∀ w1, Ps w1 p tb (t :: r) → _) := fun w1 h1 => psUnary_some p tb t r op hu w1 h1
  rw [List.length_cons] at hl
  have HC : Hid (∀ w1, Ps w1 p tb r → _) := fun w1 h1 => ih r w1 p tb (by omega) h1
  have hop : (op != 0) = true := by rcases (unary_op hu).2 with rfl | rfl | rfl <;> rfl
  have hop2 : (op == 0) = false := by rcases (unary_op hu).2 with rfl | rfl | rfl <;> rfl
  have hop3 : ¬ op = 0 := by rcases (unary_op hu).2 with rfl | rfl | rfl <;> decide
  clear hu hl ih
  clear h
  go_enter Tryz.func118, Tryz.ntmps118
  go_wp2_with fail
  refine (HT.out _ HP0.out).mono ?_
  rintro e w1 ⟨rfl, hf, hp⟩
  have HF1 := Lib.hid (HF0.out.trans hf)
  have HP1 := Lib.hid hp
  have HR1 := Lib.hid (HR0.out.sfr hf HNE.out)
  clear hf hp
  go_wp2_with fail
  refine (HC.out _ HP1.out).mono ?_
  intro e w2 he
  cases hA : tightP f r with
  | error n =>
    rw [hA] at he
    obtain ⟨hf, rfl⟩ := he
    have HF := Lib.hid (HF1.out.trans hf)
    have e1 : tightP (f + 1) (t :: r) = .error n := by rw [tightP, HU.out]; dsimp only; rw [hA]
    have e2 := HRR.out.symm.trans e1
    subst e2
    clear e1 hf
    unfold lineV
    go_wp2_with fail
    exact ⟨rfl, HF.out, rfl⟩
  | ok q =>
    obtain ⟨x, r2⟩ := q
    rw [hA] at he
    obtain ⟨hf, v, rfl, hp, hv⟩ := he
    obtain ⟨s3, rfl, hx, hn⟩ := hv
    obtain ⟨a1, a2, rfl⟩ := hx.shape
    have HX2 := Lib.hid (hx.up (show w.heap.size + 1 ≤ w1.heap.size from HR1.out.lt))
    have HN := Lib.hid hn
    clear hx hn
    have HF2 := Lib.hid (HF1.out.trans hf)
    have HP2 := Lib.hid hp
    have HR2 := Lib.hid (HR1.out.sfr hf HNE.out)
    clear hf hp
    have HA2 := Lib.hid hA
    clear hA
    obtain ⟨⟨x0, x1, x2, x3, x4⟩, xf0, xf1, xf2, xf3, xf4⟩ := cells5 HR2.out
    have xlt := HR2.out.lt
    go_wp2_with fail
    have e1 : tightP (f + 1) (t :: r) = .ok (.mk 3 op 0 [] [x], r2) := by rw [tightP, HU.out]; dsimp only; rw [HA2.out]
    have e2 := HRR.out.symm.trans e1
    subst e2
    obtain ⟨⟨d0, d1, d2, d3, d4⟩, _⟩ := cells5 ((own5 HR2.out (.int .i64 3) (.int .i64 op) (.int .i64 0) (.string ⟨#[]⟩) (.slice (some ⟨w2.heap.size, 0, none⟩) 1 1)).alloc (.cells #[.int .i64 x.kind, .int .i64 x.op, .int .i64 x.n, .string (strOf x.name), (.slice a1 x.args.length a2)] 27))
    exact bodyPost_ret (v := .agg #[.int .i64 3, .int .i64 op, .int .i64 0, .string ⟨#[]⟩, .slice (some ⟨w2.heap.size, 0, none⟩) 1 1]) (by simp [results, Tryz.results118, go_sem, d0, d1, d2, d3, d4]) rfl (ex_end1 (x := x) (y := .mk 3 op 0 [] [x]) HPW.out HF2.out HP2.out HX2.out HN.out HR2.out.lt rfl yi64_0 _ _ _ _ _)
theorem tight_paren_w (f : Nat) (ih : ExprC f) (t : Tk) (r : List Tk) (w : World) (p tb : Nat) (hl : 4 * (t :: r).length + 1 ≤ f + 1) (h : Ps w p tb (t :: r)) (hu : unaryP (t :: r) = none) (y : isP [40] t = true) :
    Calls Tryz.prog 118 #[.pointer (some ⟨p, 0, none⟩)] w (PEnd (ExH w.heap.size) w p tb (tightP (f + 1) (t :: r))) := by
  have HPW := Lib.hid h.lt
  have HNE : Hid (w.heap.size ≠ p) := by show _ ≠ _; have := h.lt; omega
  have hb0 : Below w.heap.size w (w.alloc (.cells #[.int .i64 0, .int .i64 0, .int .i64 0, .string ⟨#[]⟩, .slice none 0 0] 27)) := (Below.refl _ _).alloc (Nat.le_refl _) _
  have HF0 : Hid (SFr p w (w.alloc (.cells #[.int .i64 0, .int .i64 0, .int .i64 0, .string ⟨#[]⟩, .slice none 0 0] 27))) := SFr.of_below hb0
  have HR0 := Lib.hid (OwnAt.new w [.int .i64 0, .int .i64 0, .int .i64 0, .string ⟨#[]⟩, .slice none 0 0] 27)
  have HP0 := Lib.hid (h.old hb0)
  clear hb0
  obtain ⟨R, hR⟩ : ∃ R, tightP (f + 1) (t :: r) = R := ⟨_, rfl⟩
  rw [hR]
  have HRR := Lib.hid hR
  clear hR
  have HU := Lib.hid hu
  have HT : Hid (∀ w1, Ps w1 p tb (t :: r) → _) := fun w1 h1 => psUnary_none p tb t r hu w1 h1
  have HY := Lib.hid y
  have HV : Hid (∀ w1, Ps w1 p tb (t :: r) → _) := fun w1 h1 => psTake_yes p tb t r [40] w1 h1 y
  rw [List.length_cons] at hl
  have HC : Hid (∀ w1, Ps w1 p tb r → _) := fun w1 h1 => ih r w1 p tb (by omega) h1
  clear hu y hl ih
  clear h
  go_enter Tryz.func118, Tryz.ntmps118
  go_wp2_with fail
  refine (HT.out _ HP0.out).mono ?_
  rintro e w1 ⟨rfl, hf, hp⟩
  have HF1 := Lib.hid (HF0.out.trans hf)
  have HP1 := Lib.hid hp
  have HR1 := Lib.hid (HR0.out.sfr hf HNE.out)
  clear hf hp
  go_wp2_with fail
  refine (HV.out _ HP1.out).mono ?_
  rintro e w2 ⟨rfl, hf, hp⟩
  have HF2 := Lib.hid (HF1.out.trans hf)
  have HP2 := Lib.hid hp
  have HR2 := Lib.hid (HR1.out.sfr hf HNE.out)
  clear hf hp
  go_wp2_with fail
  refine (HC.out _ HP2.out).mono ?_
  intro e w3 he
  cases hA : climbP f 1 r with
  | error n =>
    rw [hA] at he
    obtain ⟨hf, rfl⟩ := he
    have HF := Lib.hid (HF2.out.trans hf)
    have e1 : tightP (f + 1) (t :: r) = .error n := by rw [tightP, HU.out]; dsimp only; rw [take_yes HY.out]; dsimp only; rw [hA]
    have e2 := HRR.out.symm.trans e1
    subst e2
    clear e1 hf
    unfold lineV
    go_wp2_with fail
    exact ⟨rfl, HF.out, rfl⟩
  | ok q =>
    obtain ⟨x, r2⟩ := q
    rw [hA] at he
    obtain ⟨hf, v, rfl, hp, hv⟩ := he
    obtain ⟨s3, rfl, hx, hn⟩ := hv
    obtain ⟨a1, a2, rfl⟩ := hx.shape
    have HX3 := Lib.hid (hx.up (show w.heap.size + 1 ≤ w2.heap.size from HR2.out.lt))
    have HN := Lib.hid hn
    clear hx hn
    have HF3 := Lib.hid (HF2.out.trans hf)
    have HP3 := Lib.hid hp
    have HR3 := Lib.hid (HR2.out.sfr hf HNE.out)
    clear hf hp
    have HA3 := Lib.hid hA
    clear hA
    go_upto_region 6 with (fail)
    obtain ⟨W, hW⟩ : ∃ W, w3.alloc (.cells #[.int .i64 x.kind, .int .i64 x.op, .int .i64 x.n, .string (strOf x.name), .slice a1 x.args.length a2] 27) = W := ⟨_, rfl⟩
    rw [hW]
    have hba : Below w3.heap.size w3 W := hW ▸ (Below.refl _ _).alloc (Nat.le_refl _) _
    have HF4 := Lib.hid (HF3.out.trans (SFr.of_below hba))
    have HP4 := Lib.hid (HP3.out.old hba)
    have HR4 := Lib.hid (HR3.out.old hba)
    have HX4 := Lib.hid (HX3.out.old hba)
    have HE4 := Lib.hid (hW ▸ OwnAt.new w3 [.int .i64 x.kind, .int .i64 x.op, .int .i64 x.n, .string (strOf x.name), .slice a1 x.args.length a2] 27)
    have HEP : Hid (w3.heap.size ≠ p) := by show _ ≠ _; have := HP3.out.lt; omega
    clear hba hW
    obtain ⟨w4, hWW⟩ : ∃ w4, w4 = W := ⟨_, rfl⟩
    subst hWW
    have hba : Below w4.heap.size w4 (w4.alloc (.cells #[.string ⟨#[41]⟩] 9)) := (Below.refl _ _).alloc (Nat.le_refl _) _
    have HF5 := Lib.hid (HF4.out.trans (SFr.of_below hba))
    have HP5 := Lib.hid (HP4.out.old hba)
    have HR5 := Lib.hid (HR4.out.old hba)
    have HE5 := Lib.hid (HE4.out.old hba)
    have HX5 := Lib.hid (HX4.out.old hba)
    have HWN := Lib.hid (psWant_one p tb r2 [41] _ HP5.out w4.heap.size 1 ((OwnAt.new w4 [.string ⟨#[41]⟩] 9).at 0 _ rfl))
    clear hba
    go_wp2_with fail
    refine (HWN.out).mono ?_
    intro e w6 he
    cases hA : ywantP [41] r2 with
    | error n =>
      rw [hA] at he
      obtain ⟨hf, rfl⟩ := he
      have HF := Lib.hid (HF5.out.trans hf)
      have e1 : tightP (f + 1) (t :: r) = .error n := by rw [tightP, HU.out]; dsimp only; rw [take_yes HY.out]; dsimp only; rw [HA3.out]; dsimp only; rw [hA]
      have e2 := HRR.out.symm.trans e1
      subst e2
      clear e1 hf
      unfold lineV
      go_wp2_with fail
      exact ⟨rfl, HF.out, rfl⟩
    | ok r3 =>
      rw [hA] at he
      obtain ⟨hf, rfl, hp⟩ := he
      have HF6 := Lib.hid (HF5.out.trans hf)
      have HP6 := Lib.hid hp
      have HR6 := Lib.hid (HR5.out.sfr hf HNE.out)
      have HE6 := Lib.hid (HE5.out.sfr hf HEP.out)
      have HX6 := Lib.hid (HX5.out.keep (hf.fresh (by have := HPW.out; omega)))
      clear hf hp
      have HA6 := Lib.hid hA
      clear hA
      clear HWN
      obtain ⟨⟨e0, e1, e2, e3, e4⟩, ef0, ef1, ef2, ef3, ef4⟩ := cells5 HE6.out
      have elt := HE6.out.lt
      obtain ⟨⟨x0, x1, x2, x3, x4⟩, xf0, xf1, xf2, xf3, xf4⟩ := cells5 HR6.out
      have xlt := HR6.out.lt
      go_wp2_with fail
      have e1 : tightP (f + 1) (t :: r) = .ok (x, r3) := by rw [tightP, HU.out]; dsimp only; rw [take_yes HY.out]; dsimp only; rw [HA3.out]; dsimp only; rw [HA6.out]
      have e2 := HRR.out.symm.trans e1
      subst e2
      obtain ⟨⟨d0, d1, d2, d3, d4⟩, _⟩ := cells5 (own5 HR6.out (.int .i64 x.kind) (.int .i64 x.op) (.int .i64 x.n) (.string (strOf x.name)) (.slice a1 x.args.length a2))
      exact bodyPost_ret (v := .agg #[.int .i64 x.kind, .int .i64 x.op, .int .i64 x.n, .string (strOf x.name), .slice a1 x.args.length a2]) (by simp [results, Tryz.results118, go_sem, d0, d1, d2, d3, d4]) rfl (ex_end (x := x) HPW.out HF6.out HP6.out HX6.out HN.out _ _ _ _ _)
theorem tight_read_w (f : Nat)  (t : Tk) (r : List Tk) (w : World) (p tb : Nat) (hl : 4 * (t :: r).length + 1 ≤ f + 1) (h : Ps w p tb (t :: r)) (hu : unaryP (t :: r) = none) (n : isP [40] t = false) (y : isP [114, 101, 97, 100] t = true) :
    Calls Tryz.prog 118 #[.pointer (some ⟨p, 0, none⟩)] w (PEnd (ExH w.heap.size) w p tb (tightP (f + 1) (t :: r))) := by
  have HPW := Lib.hid h.lt
  have HNE : Hid (w.heap.size ≠ p) := by show _ ≠ _; have := h.lt; omega
  have hb0 : Below w.heap.size w (w.alloc (.cells #[.int .i64 0, .int .i64 0, .int .i64 0, .string ⟨#[]⟩, .slice none 0 0] 27)) := (Below.refl _ _).alloc (Nat.le_refl _) _
  have HF0 : Hid (SFr p w (w.alloc (.cells #[.int .i64 0, .int .i64 0, .int .i64 0, .string ⟨#[]⟩, .slice none 0 0] 27))) := SFr.of_below hb0
  have HR0 := Lib.hid (OwnAt.new w [.int .i64 0, .int .i64 0, .int .i64 0, .string ⟨#[]⟩, .slice none 0 0] 27)
  have HP0 := Lib.hid (h.old hb0)
  clear hb0
  obtain ⟨R, hR⟩ : ∃ R, tightP (f + 1) (t :: r) = R := ⟨_, rfl⟩
  rw [hR]
  have HRR := Lib.hid hR
  clear hR
  have HU := Lib.hid hu
  have HT : Hid (∀ w1, Ps w1 p tb (t :: r) → _) := fun w1 h1 => psUnary_none p tb t r hu w1 h1
  have HY := Lib.hid y
  have HN1 := Lib.hid n
  have HV : Hid (∀ w1, Ps w1 p tb (t :: r) → _) := fun w1 h1 => psTake_no p tb t r [40] w1 h1 n
  have HV2 : Hid (∀ w1, Ps w1 p tb (t :: r) → _) := fun w1 h1 => psTake_yes p tb t r [114, 101, 97, 100] w1 h1 y
  clear hu y n hl
  clear h
  go_enter Tryz.func118, Tryz.ntmps118
  go_wp2_with fail
  refine (HT.out _ HP0.out).mono ?_
  rintro e w1 ⟨rfl, hf, hp⟩
  have HF1 := Lib.hid (HF0.out.trans hf)
  have HP1 := Lib.hid hp
  have HR1 := Lib.hid (HR0.out.sfr hf HNE.out)
  clear hf hp
  go_wp2_with fail
  refine (HV.out _ HP1.out).mono ?_
  rintro e w2 ⟨rfl, hb⟩
  have HF2 := Lib.hid (HF1.out.trans (SFr.of_below hb))
  have HP2 := Lib.hid (HP1.out.old hb)
  have HR2 := Lib.hid (HR1.out.old hb)
  clear hb
  go_wp2_with fail
  refine (HV2.out _ HP2.out).mono ?_
  rintro e w3 ⟨rfl, hf, hp⟩
  have HF3 := Lib.hid (HF2.out.trans hf)
  have HP3 := Lib.hid hp
  have HR3 := Lib.hid (HR2.out.sfr hf HNE.out)
  clear hf hp
  have hba : Below w3.heap.size w3 (w3.alloc (.cells #[.string ⟨#[40]⟩, .string ⟨#[41]⟩] 9)) := (Below.refl _ _).alloc (Nat.le_refl _) _
  have hwp : w3.heap.size ≠ p := by have := HP3.out.lt; omega
  have HF4 := Lib.hid (HF3.out.trans (SFr.of_below hba))
  have HP4 := Lib.hid (HP3.out.old hba)
  have HR4 := Lib.hid (HR3.out.old hba)
  have HWN := Lib.hid (psWant_two p tb r [40] [41] _ HP4.out w3.heap.size 2 ((OwnAt.new w3 [.string ⟨#[40]⟩, .string ⟨#[41]⟩] 9).at 0 _ rfl) ((OwnAt.new w3 [.string ⟨#[40]⟩, .string ⟨#[41]⟩] 9).at 1 _ rfl) hwp)
  clear hba hwp
  go_wp2_with fail
  refine (HWN.out).mono ?_
  intro e w5 he
  cases hA : wantP2 [40] [41] r with
  | error n =>
    rw [hA] at he
    obtain ⟨hf, rfl⟩ := he
    have HF := Lib.hid (HF4.out.trans hf)
    have e1 : tightP (f + 1) (t :: r) = .error n := by rw [tightP, HU.out]; dsimp only; rw [take_no HN1.out]; dsimp only; rw [take_yes HY.out]; dsimp only; unfold wantP2 at hA; cases hB : ywantP [40] r with
      | error n => rw [hB] at hA; injection hA with hA; subst hA; rfl
      | ok q => rw [hB] at hA; dsimp only at hA ⊢; rw [hA]
    have e2 := HRR.out.symm.trans e1
    subst e2
    clear e1 hf
    unfold lineV
    go_wp2_with fail
    exact ⟨rfl, HF.out, rfl⟩
  | ok r3 =>
    rw [hA] at he
    obtain ⟨hf, rfl, hp⟩ := he
    have HF5 := Lib.hid (HF4.out.trans hf)
    have HP5 := Lib.hid hp
    have HR5 := Lib.hid (HR4.out.sfr hf HNE.out)
    clear hf hp
    have HA5 := Lib.hid hA
    clear hA
    clear HWN
    obtain ⟨⟨x0, x1, x2, x3, x4⟩, xf0, xf1, xf2, xf3, xf4⟩ := cells5 HR5.out
    have xlt := HR5.out.lt
    go_wp2_with fail
    have e1 : tightP (f + 1) (t :: r) = .ok (.mk 7 0 0 [] [], r3) := by
          have hA := HA5.out
          rw [tightP, HU.out]; dsimp only; rw [take_no HN1.out]; dsimp only; rw [take_yes HY.out]; dsimp only; unfold wantP2 at hA
          cases hB : ywantP [40] r with
          | error n => rw [hB] at hA; cases hA
          | ok q => rw [hB] at hA; dsimp only at hA ⊢; rw [hA]
    have e2 := HRR.out.symm.trans e1
    subst e2
    obtain ⟨⟨d0, d1, d2, d3, d4⟩, _⟩ := cells5 (own5 HR5.out (.int .i64 7) (.int .i64 0) (.int .i64 0) (.string ⟨#[]⟩) (.slice none 0 0))
    exact bodyPost_ret (v := .agg #[.int .i64 7, .int .i64 0, .int .i64 0, .string ⟨#[]⟩, .slice none 0 0]) (by simp [results, Tryz.results118, go_sem, d0, d1, d2, d3, d4]) rfl (ex_end (x := .mk 7 0 0 [] []) HPW.out HF5.out HP5.out ExsAt.zero yi64_0 _ _ _ _ _)
theorem tight_num_w (f : Nat)  (t : Tk) (r : List Tk) (w : World) (p tb : Nat) (hl : 4 * (t :: r).length + 1 ≤ f + 1) (h : Ps w p tb (t :: r)) (hu : unaryP (t :: r) = none) (n1 : isP [40] t = false) (n2 : isP [114, 101, 97, 100] t = false) (hk : t.kind = 3) :
    Calls Tryz.prog 118 #[.pointer (some ⟨p, 0, none⟩)] w (PEnd (ExH w.heap.size) w p tb (tightP (f + 1) (t :: r))) := by
  have HPW := Lib.hid h.lt
  have HNE : Hid (w.heap.size ≠ p) := by show _ ≠ _; have := h.lt; omega
  have hb0 : Below w.heap.size w (w.alloc (.cells #[.int .i64 0, .int .i64 0, .int .i64 0, .string ⟨#[]⟩, .slice none 0 0] 27)) := (Below.refl _ _).alloc (Nat.le_refl _) _
  have HF0 : Hid (SFr p w (w.alloc (.cells #[.int .i64 0, .int .i64 0, .int .i64 0, .string ⟨#[]⟩, .slice none 0 0] 27))) := SFr.of_below hb0
  have HR0 := Lib.hid (OwnAt.new w [.int .i64 0, .int .i64 0, .int .i64 0, .string ⟨#[]⟩, .slice none 0 0] 27)
  have HP0 := Lib.hid (h.old hb0)
  clear hb0
  obtain ⟨R, hR⟩ : ∃ R, tightP (f + 1) (t :: r) = R := ⟨_, rfl⟩
  rw [hR]
  have HRR := Lib.hid hR
  clear hR
  have HU := Lib.hid hu
  have HT : Hid (∀ w1, Ps w1 p tb (t :: r) → _) := fun w1 h1 => psUnary_none p tb t r hu w1 h1
  have HN1 := Lib.hid n1
  have HN2 := Lib.hid n2
  have HV : Hid (∀ w1, Ps w1 p tb (t :: r) → _) := fun w1 h1 => psTake_no p tb t r [40] w1 h1 n1
  have HV2 : Hid (∀ w1, Ps w1 p tb (t :: r) → _) := fun w1 h1 => psTake_no p tb t r [114, 101, 97, 100] w1 h1 n2
  have HNX : Hid (∀ w1, Ps w1 p tb (t :: r) → _) := fun w1 h1 => psNext_any p tb t r w1 h1
  have HKD : Hid (∀ w1, Ps w1 p tb (t :: r) → _) := fun w1 h1 => psKind_any p tb (t :: r) 3 (by decide) w1 h1
  have HKP : Hid (kindP 3 (t :: r) = .ok (t, r)) := by show (if t.kind = 3 then Except.ok (t, r) else Except.error t.line) = _; rw [if_pos hk]
  have HK := Lib.hid hk
  have hk2 : (t.kind == 3) = true := by simp [hk]
  have HNUM := Lib.hid (h.nums t List.mem_cons_self)
  clear hu n1 n2 hl hk
  clear h
  go_enter Tryz.func118, Tryz.ntmps118
  go_wp2_with fail
  refine (HT.out _ HP0.out).mono ?_
  rintro e w1 ⟨rfl, hf, hp⟩
  have HF1 := Lib.hid (HF0.out.trans hf)
  have HP1 := Lib.hid hp
  have HR1 := Lib.hid (HR0.out.sfr hf HNE.out)
  clear hf hp
  go_wp2_with fail
  refine (HV.out _ HP1.out).mono ?_
  rintro e w2 ⟨rfl, hb⟩
  have HF2 := Lib.hid (HF1.out.trans (SFr.of_below hb))
  have HP2 := Lib.hid (HP1.out.old hb)
  have HR2 := Lib.hid (HR1.out.old hb)
  clear hb
  go_wp2_with fail
  refine (HV2.out _ HP2.out).mono ?_
  rintro e w3 ⟨rfl, hb⟩
  have HF3 := Lib.hid (HF2.out.trans (SFr.of_below hb))
  have HP3 := Lib.hid (HP2.out.old hb)
  have HR3 := Lib.hid (HR2.out.old hb)
  clear hb
  go_wp2_with fail
  refine (HNX.out _ HP3.out).mono ?_
  rintro e w4 ⟨rfl, hb⟩
  have HF4 := Lib.hid (HF3.out.trans (SFr.of_below hb))
  have HP4 := Lib.hid (HP3.out.old hb)
  have HR4 := Lib.hid (HR3.out.old hb)
  clear hb
  unfold tkV
  go_wp2_with fail
  have hq := HKD.out _ HP4.out
  rw [HKP.out] at hq
  refine hq.mono ?_
  clear hq
  rintro e w5 ⟨hf, v, rfl, hp, rfl⟩
  have HF5 := Lib.hid (HF4.out.trans hf)
  have HP5 := Lib.hid hp
  have HR5 := Lib.hid (HR4.out.sfr hf HNE.out)
  clear hf hp
  unfold tkV
  obtain ⟨⟨x0, x1, x2, x3, x4⟩, xf0, xf1, xf2, xf3, xf4⟩ := cells5 HR5.out
  have xlt := HR5.out.lt
  go_wp2_with fail
  have e1 : tightP (f + 1) (t :: r) = .ok (.mk 1 0 t.num [] [], r) := by rw [tightP, HU.out]; dsimp only; rw [take_no HN1.out]; dsimp only; rw [take_no HN2.out]; dsimp only; rw [if_pos HK.out]
  have e2 := HRR.out.symm.trans e1
  subst e2
  obtain ⟨⟨d0, d1, d2, d3, d4⟩, _⟩ := cells5 (own5 HR5.out (.int .i64 1) (.int .i64 0) (.int .i64 t.num) (.string ⟨#[]⟩) (.slice none 0 0))
  exact bodyPost_ret (v := .agg #[.int .i64 1, .int .i64 0, .int .i64 t.num, .string ⟨#[]⟩, .slice none 0 0]) (by simp [results, Tryz.results118, go_sem, d0, d1, d2, d3, d4]) rfl (ex_end (x := .mk 1 0 t.num [] []) HPW.out HF5.out HP5.out ExsAt.zero HNUM.out _ _ _ _ _)
theorem tight_name_w (f : Nat) (ih : NamedC f) (t : Tk) (r : List Tk) (w : World) (p tb : Nat) (hl : 4 * (t :: r).length + 1 ≤ f + 1) (h : Ps w p tb (t :: r)) (hu : unaryP (t :: r) = none) (n1 : isP [40] t = false) (n2 : isP [114, 101, 97, 100] t = false) (hk : t.kind ≠ 3) :
    Calls Tryz.prog 118 #[.pointer (some ⟨p, 0, none⟩)] w (PEnd (ExH w.heap.size) w p tb (tightP (f + 1) (t :: r))) := by
  have HPW := Lib.hid h.lt
  have HNE : Hid (w.heap.size ≠ p) := by show _ ≠ _; have := h.lt; omega
  have hb0 : Below w.heap.size w (w.alloc (.cells #[.int .i64 0, .int .i64 0, .int .i64 0, .string ⟨#[]⟩, .slice none 0 0] 27)) := (Below.refl _ _).alloc (Nat.le_refl _) _
  have HF0 : Hid (SFr p w (w.alloc (.cells #[.int .i64 0, .int .i64 0, .int .i64 0, .string ⟨#[]⟩, .slice none 0 0] 27))) := SFr.of_below hb0
  have HR0 := Lib.hid (OwnAt.new w [.int .i64 0, .int .i64 0, .int .i64 0, .string ⟨#[]⟩, .slice none 0 0] 27)
  have HP0 := Lib.hid (h.old hb0)
  clear hb0
  obtain ⟨R, hR⟩ : ∃ R, tightP (f + 1) (t :: r) = R := ⟨_, rfl⟩
  rw [hR]
  have HRR := Lib.hid hR
  clear hR
  have HU := Lib.hid hu
  have HT : Hid (∀ w1, Ps w1 p tb (t :: r) → _) := fun w1 h1 => psUnary_none p tb t r hu w1 h1
  have HN1 := Lib.hid n1
  have HN2 := Lib.hid n2
  have HV : Hid (∀ w1, Ps w1 p tb (t :: r) → _) := fun w1 h1 => psTake_no p tb t r [40] w1 h1 n1
  have HV2 : Hid (∀ w1, Ps w1 p tb (t :: r) → _) := fun w1 h1 => psTake_no p tb t r [114, 101, 97, 100] w1 h1 n2
  have HNX : Hid (∀ w1, Ps w1 p tb (t :: r) → _) := fun w1 h1 => psNext_any p tb t r w1 h1
  have HNM : Hid (∀ w1, Ps w1 p tb (t :: r) → _) := fun w1 h1 => psName_any p tb (t :: r) w1 h1
  rw [List.length_cons] at hl
  have HC : Hid (∀ s w1, Ps w1 p tb r → _) := fun s w1 h1 => ih s r w1 p tb (by omega) h1
  have HK := Lib.hid hk
  have hk2 : (t.kind == 3) = false := by simp [hk]
  have HNP := Lib.hid (name_ite t r)
  clear hu n1 n2 hl hk ih
  clear h
  go_enter Tryz.func118, Tryz.ntmps118
  go_wp2_with fail
  refine (HT.out _ HP0.out).mono ?_
  rintro e w1 ⟨rfl, hf, hp⟩
  have HF1 := Lib.hid (HF0.out.trans hf)
  have HP1 := Lib.hid hp
  have HR1 := Lib.hid (HR0.out.sfr hf HNE.out)
  clear hf hp
  go_wp2_with fail
  refine (HV.out _ HP1.out).mono ?_
  rintro e w2 ⟨rfl, hb⟩
  have HF2 := Lib.hid (HF1.out.trans (SFr.of_below hb))
  have HP2 := Lib.hid (HP1.out.old hb)
  have HR2 := Lib.hid (HR1.out.old hb)
  clear hb
  go_wp2_with fail
  refine (HV2.out _ HP2.out).mono ?_
  rintro e w3 ⟨rfl, hb⟩
  have HF3 := Lib.hid (HF2.out.trans (SFr.of_below hb))
  have HP3 := Lib.hid (HP2.out.old hb)
  have HR3 := Lib.hid (HR2.out.old hb)
  clear hb
  go_wp2_with fail
  refine (HNX.out _ HP3.out).mono ?_
  rintro e w4 ⟨rfl, hb⟩
  have HF4 := Lib.hid (HF3.out.trans (SFr.of_below hb))
  have HP4 := Lib.hid (HP3.out.old hb)
  have HR4 := Lib.hid (HR3.out.old hb)
  clear hb
  unfold tkV
  go_wp2_with fail
  refine (HNM.out _ HP4.out).mono ?_
  intro e w5 he
  cases hA : nameP (t :: r) with
  | error n =>
    rw [hA] at he
    obtain ⟨hf, rfl⟩ := he
    have HF := Lib.hid (HF4.out.trans hf)
    have e1 : tightP (f + 1) (t :: r) = .error n := by
        have hB := HNP.out
        rw [hA] at hB
        by_cases h1 : t.kind = 1
        · rw [if_pos h1] at hB; cases hB
        · rw [if_neg h1] at hB; injection hB with hB; subst hB
          rw [tightP, HU.out]; dsimp only; rw [take_no HN1.out]; dsimp only; rw [take_no HN2.out]; dsimp only; rw [if_neg HK.out, if_neg h1]
    have e2 := HRR.out.symm.trans e1
    subst e2
    clear e1 hf
    unfold lineV
    go_wp2_with fail
    exact ⟨rfl, HF.out, rfl⟩
  | ok q =>
    obtain ⟨s, r2⟩ := q
    rw [hA] at he
    obtain ⟨hf, v, rfl, hp, hv⟩ := he
    have hv : v = .string (strOf s) := hv
    subst hv
    obtain ⟨h1, rfl, rfl⟩ : t.kind = 1 ∧ s = t.text ∧ r = r2 := by
      have hB := HNP.out
      rw [hA] at hB
      by_cases h1 : t.kind = 1
      · rw [if_pos h1] at hB; injection hB with hB; injection hB with hB1 hB2; exact ⟨h1, hB1, hB2.symm⟩
      · rw [if_neg h1] at hB; cases hB
    have HK1 := Lib.hid h1
    clear h1
    have HF5 := Lib.hid (HF4.out.trans hf)
    have HP5 := Lib.hid hp
    have HR5 := Lib.hid (HR4.out.sfr hf HNE.out)
    clear hf hp
    have HA5 := Lib.hid hA
    clear hA
    go_wp2_with fail
    refine (HC.out t.text _ HP5.out).mono ?_
    intro e w6 he
    cases hA : namedP f t.text r with
    | error n =>
      rw [hA] at he
      obtain ⟨hf, rfl⟩ := he
      have HF := Lib.hid (HF5.out.trans hf)
      have e1 : tightP (f + 1) (t :: r) = .error n := by rw [tightP, HU.out]; dsimp only; rw [take_no HN1.out]; dsimp only; rw [take_no HN2.out]; dsimp only; rw [if_neg HK.out, if_pos HK1.out, hA]
      have e2 := HRR.out.symm.trans e1
      subst e2
      clear e1 hf
      unfold lineV
      go_wp2_with fail
      exact ⟨rfl, HF.out, rfl⟩
    | ok q =>
      obtain ⟨x, r3⟩ := q
      rw [hA] at he
      obtain ⟨hf, v, rfl, hp, hv⟩ := he
      obtain ⟨s3, rfl, hx, hn⟩ := hv
      obtain ⟨a1, a2, rfl⟩ := hx.shape
      have HX6 := Lib.hid (hx.up (show w.heap.size + 1 ≤ w5.heap.size from HR5.out.lt))
      have HN := Lib.hid hn
      clear hx hn
      have HF6 := Lib.hid (HF5.out.trans hf)
      have HP6 := Lib.hid hp
      have HR6 := Lib.hid (HR5.out.sfr hf HNE.out)
      clear hf hp
      have HA6 := Lib.hid hA
      clear hA
      obtain ⟨⟨x0, x1, x2, x3, x4⟩, xf0, xf1, xf2, xf3, xf4⟩ := cells5 HR6.out
      have xlt := HR6.out.lt
      go_wp2_with fail
      have e1 : tightP (f + 1) (t :: r) = .ok (x, r3) := by rw [tightP, HU.out]; dsimp only; rw [take_no HN1.out]; dsimp only; rw [take_no HN2.out]; dsimp only; rw [if_neg HK.out, if_pos HK1.out, HA6.out]
      have e2 := HRR.out.symm.trans e1
      subst e2
      obtain ⟨⟨d0, d1, d2, d3, d4⟩, _⟩ := cells5 (own5 HR6.out (.int .i64 x.kind) (.int .i64 x.op) (.int .i64 x.n) (.string (strOf x.name)) (.slice a1 x.args.length a2))
      exact bodyPost_ret (v := .agg #[.int .i64 x.kind, .int .i64 x.op, .int .i64 x.n, .string (strOf x.name), .slice a1 x.args.length a2]) (by simp [results, Tryz.results118, go_sem, d0, d1, d2, d3, d4]) rfl (ex_end (x := x) HPW.out HF6.out HP6.out HX6.out HN.out _ _ _ _ _)
/-- tight, by what is next. -/
theorem tight_step (f : Nat) (hT : TightC f) (hE : ExprC f) (hN : NamedC f) : TightC (f + 1) := by
  intro l w p tb hl h
  obtain ⟨t, r, rfl⟩ := h.ends.ne
  cases hu : unaryP (t :: r) with
  | some q =>
    obtain ⟨op, q⟩ := q
    obtain ⟨rfl, _⟩ := unary_op hu
    exact tight_one_w f hT t _ w p tb hl h op hu
  | none =>
    cases h1 : isP [40] t with
    | true => exact tight_paren_w f hE t r w p tb hl h hu h1
    | false =>
      cases h2 : isP [114, 101, 97, 100] t with
      | true => exact tight_read_w f t r w p tb hl h hu h1 h2
      | false =>
        by_cases hk : t.kind = 3
        · exact tight_num_w f t r w p tb hl h hu h1 h2 hk
        · exact tight_name_w f hN t r w p tb hl h hu h1 h2 hk
theorem named_step (f : Nat) (hA : ArgsC f) (hE : ExprC f) : NamedC (f + 1) := by
  intro s l w p tb hl h
  obtain ⟨t, r, rfl⟩ := h.ends.ne
  cases h1 : isP [40] t with
  | true => exact named_call_w f hA s t r w p tb hl h h1
  | false =>
    cases h2 : isP [91] t with
    | true => exact named_idx_w f hE s t r w p tb hl h h1 h2
    | false => exact named_var_w f s t r w p tb h h1 h2
end Go.Proofs.YtcfpfnoldgnloaaGreatDoor

namespace Go.Proofs.YtcfpfnoldgnloaaGreatDoor
open Go.RowKit
set_option maxRecDepth 100000
set_option maxHeartbeats 4000000

theorem expr_of (f : Nat) (hC : ClimbC f) : ExprC f := by
  intro l w p tb hl h
  have HPW := Lib.hid h.lt
  have HNE : Hid (w.heap.size ≠ p) := by show _ ≠ _; have := h.lt; omega
  have hb0 : Below w.heap.size w (w.alloc (.cells #[.int .i64 0, .int .i64 0, .int .i64 0, .string ⟨#[]⟩, .slice none 0 0] 27)) := (Below.refl _ _).alloc (Nat.le_refl _) _
  have HF0 : Hid (SFr p w (w.alloc (.cells #[.int .i64 0, .int .i64 0, .int .i64 0, .string ⟨#[]⟩, .slice none 0 0] 27))) := SFr.of_below hb0
  have HR0 := Lib.hid (OwnAt.new w [.int .i64 0, .int .i64 0, .int .i64 0, .string ⟨#[]⟩, .slice none 0 0] 27)
  have HP0 := Lib.hid (h.old hb0)
  clear hb0
  obtain ⟨R, hR⟩ : ∃ R, climbP f 1 l = R := ⟨_, rfl⟩
  rw [hR]
  have HRR := Lib.hid hR
  clear hR
  have HC : Hid (∀ w1, Ps w1 p tb l → _) := fun w1 h1 => hC 1 l w1 p tb hl h1
  clear hl hC
  clear h
  go_enter Tryz.func27, Tryz.ntmps27
  go_wp2_with fail
  refine (HC.out _ HP0.out).mono ?_
  intro e w1 he
  cases hA : climbP f 1 l with
  | error n =>
    rw [hA] at he
    obtain ⟨hf, rfl⟩ := he
    have HF := Lib.hid (HF0.out.trans hf)
    have e1 : climbP f 1 l = .error n := hA
    have e2 := HRR.out.symm.trans e1
    subst e2
    clear e1 hf
    unfold lineV
    go_wp2_with fail
    exact ⟨rfl, HF.out, rfl⟩
  | ok q =>
    obtain ⟨x, r2⟩ := q
    rw [hA] at he
    obtain ⟨hf, v, rfl, hp, hv⟩ := he
    obtain ⟨s3, rfl, hx, hn⟩ := hv
    obtain ⟨a1, a2, rfl⟩ := hx.shape
    have HX1 := Lib.hid (hx.up (show w.heap.size + 1 ≤ _ from HR0.out.lt))
    have HN := Lib.hid hn
    clear hx hn
    have HF1 := Lib.hid (HF0.out.trans hf)
    have HP1 := Lib.hid hp
    have HR1 := Lib.hid (HR0.out.sfr hf HNE.out)
    clear hf hp
    have HA1 := Lib.hid hA
    clear hA
    obtain ⟨⟨x0, x1, x2, x3, x4⟩, xf0, xf1, xf2, xf3, xf4⟩ := cells5 HR1.out
    have xlt := HR1.out.lt
    go_wp2_with fail
    have e1 : climbP f 1 l = .ok (x, r2) := HA1.out
    have e2 := HRR.out.symm.trans e1
    subst e2
    obtain ⟨⟨d0, d1, d2, d3, d4⟩, _⟩ := cells5 (own5 HR1.out (.int .i64 x.kind) (.int .i64 x.op) (.int .i64 x.n) (.string (strOf x.name)) (.slice a1 x.args.length a2))
    exact bodyPost_ret (v := .agg #[.int .i64 x.kind, .int .i64 x.op, .int .i64 x.n, .string (strOf x.name), .slice a1 x.args.length a2]) (by simp [results, Tryz.results27, go_sem, d0, d1, d2, d3, d4]) rfl (ex_end (x := x) HPW.out HF1.out HP1.out HX1.out HN.out _ _ _ _ _)
/-- How many tokens are left. -/
def leftLen (p : Nat) (w : World) : Nat := match w.cell? ⟨p, 0, none⟩ with
  | some (.slice _ n _) => n
  | _ => 0
theorem Ps.len {w : World} {p tb : Nat} {l : List Tk} (h : Ps w p tb l) : leftLen p w = l.length := by
  obtain ⟨o, cap, h⟩ := h
  have := h.own.at 0 _ rfl
  unfold leftLen; rw [this]
theorem bin_not5 {lv : Int} {t : Tk} {r : List Tk} (h : binaryP lv (t :: r) ≠ 0) : t.kind ≠ 5 := by
  intro h5
  apply h
  rw [bin_next]
  refine yfind_none _ (fun j hj => ?_)
  have : isP (signOf ((j : Int) + 1)) t = false := by unfold isP; rw [h5]; rfl
  show (isP (signOf ((j : Int) + 1)) t && _) = false
  rw [this]; rfl
theorem ylevel_range (op : Int) : 0 ≤ levelOf op ∧ levelOf op ≤ 8 := by
  unfold levelOf
  repeat' split
  all_goals omega
/-- What climb holds at the beginning of a round. -/
structure ClimbI (w : World) (p tb be : Nat) (lv : Int) (f : Nat) (R : PR Ex) (g : Nat) (x : Ex) (s : Value) (l : List Tk) (wr : World) : Prop where
  sfr : SFr p w wr
  ps : Ps wr p tb l
  own : OwnAt wr w.heap.size [.int .i64 0, .int .i64 0, .int .i64 0, .string ⟨#[]⟩, .slice none 0 0] 27
  e : OwnAt wr be [.int .i64 x.kind, .int .i64 x.op, .int .i64 x.n, .string (strOf x.name), s] 27
  tree : ExsAt (fun b => w.heap.size + 1 ≤ b ∧ b ≠ be) wr x.args s
  n : I64 x.n
  fuel : 4 * l.length + 5 ≤ g
  le : g ≤ f
  res : loopP g lv x l = R
theorem ClimbI.old {w : World} {p tb be : Nat} {lv : Int} {f : Nat} {R : PR Ex} {g : Nat} {x : Ex} {s : Value} {l : List Tk} {wr w' : World} (h : ClimbI w p tb be lv f R g x s l wr) (hb : Below wr.heap.size wr w') : ClimbI w p tb be lv f R g x s l w' :=
  ⟨h.sfr.trans (SFr.of_below hb), h.ps.old hb, h.own.old hb, h.e.old hb, h.tree.old hb, h.n, h.fuel, h.le, h.res⟩
theorem set5_ne (w : World) (b : Nat) (c0 c1 c2 c3 c4 : Value) {k : Nat} (h : k ≠ b) : (((((w.setCell ⟨b, 0, none⟩ c0).setCell ⟨b, 1, none⟩ c1).setCell ⟨b, 2, none⟩ c2).setCell ⟨b, 3, none⟩ c3).setCell ⟨b, 4, none⟩ c4).heap[k]? = w.heap[k]? := by
  rw [Below.heap_setCell _ _ _ _ (show k ≠ b from h), Below.heap_setCell _ _ _ _ (show k ≠ b from h), Below.heap_setCell _ _ _ _ (show k ≠ b from h), Below.heap_setCell _ _ _ _ (show k ≠ b from h), Below.heap_setCell _ _ _ _ (show k ≠ b from h)]
/-- Behind a round. -/
theorem climb_next {w : World} {p tb be : Nat} {lv : Int} {f : Nat} {R : PR Ex} {g : Nat} {x y : Ex} {s u : Value} {op : Int} {l : List Tk} {W : World} (hpw : p < w.heap.size) (hbe : w.heap.size < be) (hF : SFr p w W) (hP : Ps W p tb l)
    (hO : OwnAt W w.heap.size [.int .i64 0, .int .i64 0, .int .i64 0, .string ⟨#[]⟩, .slice none 0 0] 27) (hE : OwnAt W be [.int .i64 x.kind, .int .i64 x.op, .int .i64 x.n, .string (strOf x.name), s] 27)
    (hX : ExsAt (fun b => w.heap.size + 1 ≤ b ∧ b ≠ be) W x.args s) (hn : I64 x.n) (hY : ExsAt (fun b => w.heap.size + 1 ≤ b ∧ b ≠ be) W y.args u) (hm : I64 y.n) (hfu : 4 * l.length + 5 ≤ g) (hle : g ≤ f) (hres : loopP g lv (.mk 4 op 0 [] [x, y]) l = R) :
    ClimbI w p tb be lv f R g (.mk 4 op 0 [] [x, y]) (.slice (some ⟨W.heap.size, 0, none⟩) 2 2) l ((((((W.setCell ⟨be, 0, none⟩ (.int .i64 4)).setCell ⟨be, 1, none⟩ (.int .i64 op)).setCell ⟨be, 2, none⟩ (.int .i64 0)).setCell ⟨be, 3, none⟩ (.string ⟨#[]⟩)).setCell ⟨be, 4, none⟩ (.slice (some ⟨W.heap.size, 0, none⟩) 2 2)).alloc
      (.cells #[.int .i64 x.kind, .int .i64 x.op, .int .i64 x.n, .string (strOf x.name), s, .int .i64 y.kind, .int .i64 y.op, .int .i64 y.n, .string (strOf y.name), u] 27)) := by
  have hbw := hE.lt
  have k1 := hX.keep (keeps5 W (show ¬ (w.heap.size + 1 ≤ be ∧ be ≠ be) from fun h => h.2 rfl) (.int .i64 4) (.int .i64 op) (.int .i64 0) (.string ⟨#[]⟩) (.slice (some ⟨W.heap.size, 0, none⟩) 2 2))
  have k2 := hY.keep (keeps5 W (show ¬ (w.heap.size + 1 ≤ be ∧ be ≠ be) from fun h => h.2 rfl) (.int .i64 4) (.int .i64 op) (.int .i64 0) (.string ⟨#[]⟩) (.slice (some ⟨W.heap.size, 0, none⟩) 2 2))
  have hs := set5_size W be (.int .i64 4) (.int .i64 op) (.int .i64 0) (.string ⟨#[]⟩) (.slice (some ⟨W.heap.size, 0, none⟩) 2 2)
  refine ⟨(sfr5 hF (by omega) _ _ _ _ _).trans (SFr.of_below ((Below.refl _ _).alloc (Nat.le_refl _) _)), (ps5 hP (by omega) _ _ _ _ _).alloc _, ?_, (own5 hE _ _ _ _ _).alloc _, ?_, yi64_0, hfu, hle, hres⟩
  · refine OwnAt.alloc ?_ _
    exact (set5_ne W be _ _ _ _ _ (by omega)).trans hO
  · have := ExsAt.two (D := fun b => w.heap.size + 1 ≤ b ∧ b ≠ be) x y s u (b := W.heap.size) ⟨by omega, by omega⟩ (by
      have := RowAt.new (((((W.setCell ⟨be, 0, none⟩ (.int .i64 4)).setCell ⟨be, 1, none⟩ (.int .i64 op)).setCell ⟨be, 2, none⟩ (.int .i64 0)).setCell ⟨be, 3, none⟩ (.string ⟨#[]⟩)).setCell ⟨be, 4, none⟩ (.slice (some ⟨W.heap.size, 0, none⟩) 2 2)) (exCells x s ++ exCells y u) 27
      rw [hs] at this; exact this) (k1.old ((Below.refl _ _).alloc (Nat.le_refl _) _)) hn (k2.old ((Below.refl _ _).alloc (Nat.le_refl _) _)) hm
    exact this
theorem climb_step (f : Nat) (hT : TightC f) (ih : ∀ g, g ≤ f → ClimbC g) : ClimbC (f + 1) := by
  intro lv l w p tb hl h
  have HPW := Lib.hid h.lt
  have HNE : Hid (w.heap.size ≠ p) := by show _ ≠ _; have := h.lt; omega
  have hb0 : Below w.heap.size w (w.alloc (.cells #[.int .i64 0, .int .i64 0, .int .i64 0, .string ⟨#[]⟩, .slice none 0 0] 27)) := (Below.refl _ _).alloc (Nat.le_refl _) _
  have HF0 : Hid (SFr p w (w.alloc (.cells #[.int .i64 0, .int .i64 0, .int .i64 0, .string ⟨#[]⟩, .slice none 0 0] 27))) := SFr.of_below hb0
  have HR0 := Lib.hid (OwnAt.new w [.int .i64 0, .int .i64 0, .int .i64 0, .string ⟨#[]⟩, .slice none 0 0] 27)
  have HP0 := Lib.hid (h.old hb0)
  clear hb0
  obtain ⟨R, hR⟩ : ∃ R, climbP (f + 1) lv l = R := ⟨_, rfl⟩
  rw [hR]
  have HRR := Lib.hid hR
  clear hR
  have HC : Hid (∀ w1, Ps w1 p tb l → _) := fun w1 h1 => hT l w1 p tb (by omega) h1
  have IH := Lib.hid ih
  have HL := Lib.hid hl
  clear hl hT ih
  clear h
  go_enter Tryz.func60, Tryz.ntmps60
  go_wp2_with fail
  refine (HC.out _ HP0.out).mono ?_
  intro e w1 he
  cases hA : tightP f l with
  | error n =>
    rw [hA] at he
    obtain ⟨hf, rfl⟩ := he
    have HF := Lib.hid (HF0.out.trans hf)
    have e1 : climbP (f + 1) lv l = .error n := by rw [climbP, hA]
    have e2 := HRR.out.symm.trans e1
    subst e2
    clear e1 hf
    unfold lineV
    go_wp2_with fail
    exact ⟨rfl, HF.out, rfl⟩
  | ok q =>
    obtain ⟨x, r2⟩ := q
    rw [hA] at he
    obtain ⟨hf, v, rfl, hp, hv⟩ := he
    obtain ⟨s3, rfl, hx, hn⟩ := hv
    obtain ⟨a1, a2, rfl⟩ := hx.shape
    have HX1 := Lib.hid (hx.up (show w.heap.size + 1 ≤ _ from HR0.out.lt))
    have HN := Lib.hid hn
    clear hx hn
    have HF1 := Lib.hid (HF0.out.trans hf)
    have HP1 := Lib.hid hp
    have HR1 := Lib.hid (HR0.out.sfr hf HNE.out)
    clear hf hp
    have HA1 := Lib.hid hA
    clear hA
    have HXS1 := Lib.hid HX1.out.strong
    go_upto_region 2 with (fail)
    obtain ⟨W, hW⟩ : ∃ W, w1.alloc (.cells #[.int .i64 x.kind, .int .i64 x.op, .int .i64 x.n, .string (strOf x.name), .slice a1 x.args.length a2] 27) = W := ⟨_, rfl⟩
    rw [hW]
    have hba : Below w1.heap.size w1 W := hW ▸ (Below.refl _ _).alloc (Nat.le_refl _) _
    have HF2 := Lib.hid (HF1.out.trans (SFr.of_below hba))
    have HP2 := Lib.hid (HP1.out.old hba)
    have HR2 := Lib.hid (HR1.out.old hba)
    have HX2 := Lib.hid (HX1.out.old hba)
    have HXS2 := Lib.hid (HXS1.out.old hba)
    have HE2 := Lib.hid (hW ▸ OwnAt.new w1 [.int .i64 x.kind, .int .i64 x.op, .int .i64 x.n, .string (strOf x.name), .slice a1 x.args.length a2] 27)
    have HEP : Hid (w1.heap.size ≠ p) := by show _ ≠ _; have := HP1.out.lt; omega
    clear hba hW
    obtain ⟨w2, hWW⟩ : ∃ w2, w2 = W := ⟨_, rfl⟩
    subst hWW
    have HB : Hid (∀ l1 w1, Ps w1 p tb l1 → _) := fun l1 w1 h1 => psBinary_any p tb l1 lv w1 h1
    go_wp2_with fail
    refine (HB.out _ _ HP2.out).mono ?_
    rintro e w3 ⟨rfl, hb⟩
    have HF3 := Lib.hid (HF2.out.trans (SFr.of_below hb))
    have HP3 := Lib.hid (HP2.out.old hb)
    have HR3 := Lib.hid (HR2.out.old hb)
    have HE3 := Lib.hid (HE2.out.old hb)
    have HX3 := Lib.hid (HX2.out.old hb)
    have HXS3 := Lib.hid (HXS2.out.old hb)
    clear hb
    have hfu : 4 * r2.length + 5 ≤ f := by
      have h1 := (parse_less f).2.2.1 _ _ _ HA1.out
      have h2 := HL.out
      omega
    have hres : loopP f lv x r2 = R := by
      have := HRR.out
      rw [climbP, HA1.out] at this
      exact this
    have hbe : w.heap.size < w1.heap.size := HR1.out.lt
    have hx0 : ExsAt (fun b => w.heap.size + 1 ≤ b ∧ b ≠ w1.heap.size) w3 x.args (.slice a1 x.args.length a2) := HXS3.out.mono (fun b hb => ⟨hb.1, by have := hb.2; omega⟩)
    have HI0 : Hid (ClimbI w p tb w1.heap.size lv f R f x (.slice a1 x.args.length a2) r2 w3) := ⟨HF3.out, HP3.out, HR3.out, HE3.out, hx0, HN.out, hfu, Nat.le_refl _, hres⟩
    have HBE := Lib.hid hbe
    have hp3 := HP3.out
    clear hfu hres hx0 hbe HX1 HX2 HX3 HXS1 HXS2 HXS3 HF1 HF2 HF3 HF0 HP0 HP1 HP2 HP3 HR0 HR1 HR2 HR3 HE2 HE3 HA1 HL HRR HC HN
    obtain ⟨be, hbe⟩ : ∃ be, w1.heap.size = be := ⟨_, rfl⟩
    rw [hbe] at HI0 HBE HEP ⊢
    clear hbe
    go_wp2_with fail
    go_loopw [6] (fun s6 wr => ∃ (g : Nat) (x : Ex) (s : Value) (l : List Tk), s6 = .int .i64 (binaryP lv l) ∧ Hid (ClimbI w p tb be lv f R g x s l wr)) (fun _ wr => leftLen p wr)
    case atStart => exact ⟨f, x, _, r2, rfl, HI0⟩
    case round =>
      obtain ⟨g, y, s, l2, rfl, HI⟩ := hrel
      clear HI0 hp3
      obtain ⟨op, hop⟩ : ∃ op, binaryP lv l2 = op := ⟨_, rfl⟩
      rw [hop]
      obtain ⟨sa, sc, rfl⟩ := HI.out.tree.shape
      obtain ⟨⟨e0, e1, e2, e3, e4⟩, ef0, ef1, ef2, ef3, ef4⟩ := cells5 HI.out.e
      have elt := HI.out.e.lt
      by_cases h0 : op = 0
      · subst h0
        have hR : Except.ok (y, l2) = R := by
          have h1 := HI.out.res
          have hg := HI.out.fuel
          obtain ⟨g', rfl⟩ : ∃ g', g = g' + 1 := ⟨g - 1, by omega⟩
          rw [loopP, if_pos hop] at h1
          exact h1
        subst hR
        obtain ⟨⟨x0, x1, x2, x3, x4⟩, xf0, xf1, xf2, xf3, xf4⟩ := cells5 HI.out.own
        have xlt := HI.out.own.lt
        clear hop
        go_wp2_with fail
        obtain ⟨⟨d0, d1, d2, d3, d4⟩, _⟩ := cells5 (own5 HI.out.own (.int .i64 y.kind) (.int .i64 y.op) (.int .i64 y.n) (.string (strOf y.name)) (.slice sa y.args.length sc))
        exact bodyPost_ret (v := .agg #[.int .i64 y.kind, .int .i64 y.op, .int .i64 y.n, .string (strOf y.name), .slice sa y.args.length sc]) (by simp [results, Tryz.results60, go_sem, d0, d1, d2, d3, d4]) rfl (ex_end (x := y) HPW.out HI.out.sfr HI.out.ps (HI.out.tree.mono (fun b hb => hb.1)) HI.out.n _ _ _ _ _)
      · obtain ⟨t, r, rfl⟩ := HI.out.ps.ends.ne
        have hk5 : t.kind ≠ 5 := bin_not5 (by rw [hop]; exact h0)
        have n0 : (op != 0) = true := by simp [h0]
        have n1 : (op == 0) = false := by simp [h0]
        have hlr := ylevel_range op
        have hw1 : IntKind.i64.wrap (levelOf op + 1) = levelOf op + 1 := IntWalk.i64_in _ (by omega)
        obtain ⟨g', hg'⟩ : ∃ g', g = g' + 1 := ⟨g - 1, by have := HI.out.fuel; omega⟩
        subst hg'
        have HRES : Hid ((match climbP g' (levelOf op + 1) r with | .error e => .error e | .ok (z, q) => loopP g' lv (.mk 4 op 0 [] [y, z]) q) = R) := by
          have h1 := HI.out.res
          rw [loopP, if_neg (by rw [hop]; exact h0), hop, List.drop_one, List.tail_cons] at h1
          exact h1
        have HCL : Hid (∀ w1, Ps w1 p tb r → _) := fun w1 h1 => IH.out g' (by have := HI.out.le; omega) (levelOf op + 1) r w1 p tb (by have := HI.out.fuel; rw [List.length_cons] at this; omega) h1
        have HLV : Hid (∀ w1, _) := fun w1 => level_any op w1
        obtain ⟨o, cap, h1⟩ := HI.out.ps
        have HT := Lib.hid (h1.take hk5)
        have c0 := h1.own.at 0 _ rfl
        have z0 := h1.own.fz 0
        have hpl := h1.own.lt
        have hcap := h1.hcap
        have hfit := h1.fit
        obtain ⟨n, hn⟩ : ∃ n, r.length = n := ⟨_, rfl⟩
        rw [List.length_cons, hn] at c0 hcap
        rw [hn] at HT
        have hr0 : 0 < n := by
          obtain ⟨u, q, rfl⟩ := (h1.ends.tail hk5).ne
          rw [← hn]; simp
        have i1 : (1 : Int) ≤ (n : Int) + 1 := by omega
        have i2 : ((n : Int) + 1) ≤ (cap : Int) := by omega
        have i3 : ¬ (cap : Int) - 1 = 0 := by omega
        have i4 : ¬ cap - 1 = 0 := by omega
        have HOP := Lib.hid hop
        clear h1 hop hk5
        clear e0 e1 e2 e3 e4 ef0 ef1 ef2 ef3 ef4
        go_upto_region 6 with (fail)
        obtain ⟨V, hV⟩ : ∃ V, wr.setCell ⟨p, 0, none⟩ (.slice (some ⟨tb, o + 4, none⟩) n (cap - 1)) = V := ⟨_, rfl⟩
        rw [hV] at HT ⊢
        have HEV := Lib.hid (HI.out.e.sfr HT.out.2 HEP.out)
        have HOV := Lib.hid (HI.out.own.sfr HT.out.2 HNE.out)
        have HXV := Lib.hid (HI.out.tree.keep (HT.out.2.keepsD (fun b hb => by have := HPW.out; have := hb.1; omega)))
        have HFV := Lib.hid (HI.out.sfr.trans HT.out.2)
        have HPV := Lib.hid HT.out.1
        clear c0 z0 hpl hcap hfit hr0 i1 i2 i3 i4 hV HT
        go_wp2_with fail
        refine (HLV.out _).mono ?_
        rintro e w4 ⟨rfl, hb⟩
        have HE4 := Lib.hid (HEV.out.old hb)
        have HO4 := Lib.hid (HOV.out.old hb)
        have HX4 := Lib.hid (HXV.out.old hb)
        have HF4 := Lib.hid (HFV.out.trans (SFr.of_below hb))
        have HP4 := Lib.hid (HPV.out.old hb)
        clear hb HEV HOV HXV HFV HPV
        go_wp2_with fail
        refine (HCL.out _ HP4.out).mono ?_
        intro e w5 he
        cases hA : climbP g' (levelOf op + 1) r with
        | error n =>
          rw [hA] at he
          obtain ⟨hf, rfl⟩ := he
          have HF := Lib.hid (HF4.out.trans hf)
          have e2 := HRES.out
          rw [hA] at e2
          dsimp only at e2
          subst e2
          clear hf
          unfold lineV
          go_wp2_with fail
          exact ⟨rfl, HF.out, rfl⟩
        | ok q =>
          obtain ⟨z, r3⟩ := q
          rw [hA] at he
          obtain ⟨hf, v, rfl, hp, hv⟩ := he
          obtain ⟨s5, rfl, hx, hn5⟩ := hv
          obtain ⟨b1, b2, rfl⟩ := hx.shape
          have HF5 := Lib.hid (HF4.out.trans hf)
          have HP5 := Lib.hid hp
          have HE5 := Lib.hid (HE4.out.sfr hf HEP.out)
          have HO5 := Lib.hid (HO4.out.sfr hf HNE.out)
          have HX5 := Lib.hid (HX4.out.keep (hf.keepsD (fun b hb => by have := HPW.out; have := hb.1; omega)))
          have HY5 := Lib.hid (hx.mono (D' := fun b => w.heap.size + 1 ≤ b ∧ b ≠ be) (fun b hb => by have h1 : w4.heap.size ≤ b := hb; have h2 := HE4.out.lt; have h3 := HBE.out; exact ⟨by omega, by omega⟩))
          have HN5 := Lib.hid hn5
          have e2 := HRES.out
          rw [hA] at e2
          dsimp only at e2
          have HR5 := Lib.hid e2
          have hfu : 4 * r3.length + 5 ≤ g' := by
            have h1 := (parse_less g').1 _ _ _ _ hA
            have h2 := HI.out.fuel
            rw [List.length_cons] at h2
            omega
          have hle : g' ≤ f := by have := HI.out.le; omega
          have HFU := Lib.hid hfu
          have HLE := Lib.hid hle
          have hlen : r3.length < r.length := (parse_less g').1 _ _ _ _ hA
          have HLEN := Lib.hid hlen
          clear hf hp hx hn5 e2 hfu hle hlen
          go_upto_region 7 with (fail)
          have hba : Below w5.heap.size w5 (w5.alloc (.cells #[.int .i64 z.kind, .int .i64 z.op, .int .i64 z.n, .string (strOf z.name), .slice b1 z.args.length b2] 27)) := (Below.refl _ _).alloc (Nat.le_refl _) _
          have HE6 := Lib.hid (HE5.out.old hba)
          have HO6 := Lib.hid (HO5.out.old hba)
          have HX6 := Lib.hid (HX5.out.old hba)
          have HY6 := Lib.hid (HY5.out.old hba)
          have HF6 := Lib.hid (HF5.out.trans (SFr.of_below hba))
          have HP6 := Lib.hid (HP5.out.old hba)
          have HG6 := Lib.hid (OwnAt.new w5 [.int .i64 z.kind, .int .i64 z.op, .int .i64 z.n, .string (strOf z.name), .slice b1 z.args.length b2] 27)
          clear hba
          generalize w5.alloc (.cells #[.int .i64 z.kind, .int .i64 z.op, .int .i64 z.n, .string (strOf z.name), .slice b1 z.args.length b2] 27) = W at *
          obtain ⟨⟨e0, e1, e2, e3, e4⟩, ef0, ef1, ef2, ef3, ef4⟩ := cells5 HE6.out
          obtain ⟨⟨g0, g1, g2, g3, g4⟩, _⟩ := cells5 HG6.out
          have elt := HE6.out.lt
          have HI7 := Lib.hid (climb_next (u := .slice b1 z.args.length b2) HPW.out HBE.out HF6.out HP6.out HO6.out HE6.out HX6.out HI.out.n HY6.out HN5.out HFU.out HLE.out HR5.out)
          go_upto_region 4 with (fail)
          generalize (((((W.setCell ⟨be, 0, none⟩ (.int .i64 4)).setCell ⟨be, 1, none⟩ (.int .i64 op)).setCell ⟨be, 2, none⟩ (.int .i64 0)).setCell ⟨be, 3, none⟩ (.string ⟨#[]⟩)).setCell ⟨be, 4, none⟩ (.slice (some ⟨W.heap.size, 0, none⟩) 2 2)).alloc (.cells #[.int .i64 y.kind, .int .i64 y.op, .int .i64 y.n, .string (strOf y.name), .slice sa y.args.length sc, .int .i64 z.kind, .int .i64 z.op, .int .i64 z.n, .string (strOf z.name), .slice b1 z.args.length b2] 27) = W7 at *
          go_wp2_with fail
          refine (HB.out _ _ HI7.out.ps).mono ?_
          rintro e w8 ⟨rfl, hb⟩
          have HI8 := Lib.hid (HI7.out.old hb)
          clear hb
          go_wp2_with fail
          go_roundw
          case rel => exact ⟨g', .mk 4 op 0 [] [y, z], _, r3, rfl, HI8⟩
          case measure =>
            rw [HI8.out.ps.len, HI.out.ps.len, List.length_cons]
            have := HLEN.out
            omega
end Go.Proofs.YtcfpfnoldgnloaaGreatDoor
