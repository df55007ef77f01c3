/-
  simple: a statement that has no others in it. Conditions: the parser lies in memory.
-/
import Derived.Test.YtcfpfnoldgnloaaGreatDoorPn08
set_option linter.unusedVariables false
set_option linter.unusedSimpArgs false
namespace Go.Proofs.YtcfpfnoldgnloaaGreatDoor
open Go.RowKit
set_option maxRecDepth 100000
set_option maxHeartbeats 4000000

/-- A method's ending: its statement stands in its own first block. -/
theorem st_end {w W : World} {p tb : Nat} {l : List Tk} {k : Int} {nm : Bs} {xs : List Ex} {s : Value} (hp : p < w.heap.size) (HF : SFr p w W) (HP : Ps W p tb l) (HX : ExsAt (w.heap.size + 1 ≤ ·) W xs s) (c0 c1 c2 c3 c4 : Value) :
    PEnd (StH w.heap.size) w p tb (.ok (.mk k nm xs [] [], l)) (.returned (.agg #[.int .i64 k, .string (strOf nm), s, .slice none 0 0, .slice none 0 0])) (((((W.setCell ⟨w.heap.size, 0, none⟩ c0).setCell ⟨w.heap.size, 1, none⟩ c1).setCell ⟨w.heap.size, 2, none⟩ c2).setCell ⟨w.heap.size, 3, none⟩ c3).setCell ⟨w.heap.size, 4, none⟩ c4) :=
  ⟨sfr5 HF (Nat.le_refl _) _ _ _ _ _, _, rfl, ps5 HP hp _ _ _ _ _, _, _, _, rfl, (HX.keep (keeps5 W (by show ¬ w.heap.size + 1 ≤ w.heap.size; omega) _ _ _ _ _)).mono (fun b hb => by have : w.heap.size + 1 ≤ b := hb; omega), StsAt.zero, StsAt.zero⟩
/-- So behind the building of []api.Expr{x}. -/
theorem st_end1 {w W : World} {p tb : Nat} {l : List Tk} {k : Int} {nm : Bs} {x : Ex} {s : Value} (hp : p < w.heap.size) (HF : SFr p w W) (HP : Ps W p tb l) (HX : ExsAt (w.heap.size + 1 ≤ ·) W x.args s) (hn : I64 x.n) (hlt : w.heap.size < W.heap.size) (c0 c1 c2 c3 c4 : Value) :
    PEnd (StH w.heap.size) w p tb (.ok (.mk k nm [x] [] [], l)) (.returned (.agg #[.int .i64 k, .string (strOf nm), .slice (some ⟨W.heap.size, 0, none⟩) 1 1, .slice none 0 0, .slice none 0 0])) ((((((W.setCell ⟨w.heap.size, 0, none⟩ c0).setCell ⟨w.heap.size, 1, none⟩ c1).setCell ⟨w.heap.size, 2, none⟩ c2).setCell ⟨w.heap.size, 3, none⟩ c3).setCell ⟨w.heap.size, 4, none⟩ c4).alloc (.cells #[.int .i64 x.kind, .int .i64 x.op, .int .i64 x.n, .string (strOf x.name), s] 27)) := by
  have h1 := HX.keep (keeps5 W (show ¬ w.heap.size + 1 ≤ w.heap.size by omega) c0 c1 c2 c3 c4)
  have h2 := ex_box h1 hn (by rw [set5_size]; omega)
  rw [set5_size] at h2
  exact ⟨(sfr5 HF (Nat.le_refl _) c0 c1 c2 c3 c4).trans (SFr.of_below ((Below.refl _ _).alloc (Nat.le_refl _) _)), _, rfl, (ps5 HP hp c0 c1 c2 c3 c4).alloc _, _, _, _, rfl, h2.mono (fun b hb => by have : w.heap.size + 1 ≤ b := hb; omega), StsAt.zero, StsAt.zero⟩
theorem st_end2 {w W : World} {p tb : Nat} {l : List Tk} {k : Int} {nm : Bs} {x z : Ex} {s u : Value} (hp : p < w.heap.size) (HF : SFr p w W) (HP : Ps W p tb l) (HX : ExsAt (w.heap.size + 1 ≤ ·) W x.args s) (hn : I64 x.n) (HZ : ExsAt (w.heap.size + 1 ≤ ·) W z.args u) (hm : I64 z.n) (hlt : w.heap.size < W.heap.size) (c0 c1 c2 c3 c4 : Value) :
    PEnd (StH w.heap.size) w p tb (.ok (.mk k nm [x, z] [] [], l)) (.returned (.agg #[.int .i64 k, .string (strOf nm), .slice (some ⟨W.heap.size, 0, none⟩) 2 2, .slice none 0 0, .slice none 0 0])) ((((((W.setCell ⟨w.heap.size, 0, none⟩ c0).setCell ⟨w.heap.size, 1, none⟩ c1).setCell ⟨w.heap.size, 2, none⟩ c2).setCell ⟨w.heap.size, 3, none⟩ c3).setCell ⟨w.heap.size, 4, none⟩ c4).alloc (.cells #[.int .i64 x.kind, .int .i64 x.op, .int .i64 x.n, .string (strOf x.name), s, .int .i64 z.kind, .int .i64 z.op, .int .i64 z.n, .string (strOf z.name), u] 27)) := by
  have h1 := HX.keep (keeps5 W (show ¬ w.heap.size + 1 ≤ w.heap.size by omega) c0 c1 c2 c3 c4)
  have h3 := HZ.keep (keeps5 W (show ¬ w.heap.size + 1 ≤ w.heap.size by omega) c0 c1 c2 c3 c4)
  have h2 := ex_box2 h1 hn h3 hm (by rw [set5_size]; omega)
  rw [set5_size] at h2
  exact ⟨(sfr5 HF (Nat.le_refl _) c0 c1 c2 c3 c4).trans (SFr.of_below ((Below.refl _ _).alloc (Nat.le_refl _) _)), _, rfl, (ps5 HP hp c0 c1 c2 c3 c4).alloc _, _, _, _, rfl, h2.mono (fun b hb => by have : w.heap.size + 1 ≤ b := hb; omega), StsAt.zero, StsAt.zero⟩
theorem simple_brk (f : Nat) (t : Tk) (r : List Tk) (w : World) (p tb : Nat) (hl : 4 * (t :: r).length ≤ f) (h : Ps w p tb (t :: r)) (y : isP [98, 114, 101, 97, 107] t = true) :
    Calls Tryz.prog 204 #[.pointer (some ⟨p, 0, none⟩)] w (PEnd (StH w.heap.size) w p tb (simpleP f (t :: r))) := by
  have HPW := Lib.hid h.lt
  have HNE : Hid (w.heap.size ≠ p) := by show _ ≠ _; have := h.lt; omega
  have hb0 : Below w.heap.size w (w.alloc (.cells #[.int .i64 0, .string ⟨#[]⟩, .slice none 0 0, .slice none 0 0, .slice none 0 0] 60)) := (Below.refl _ _).alloc (Nat.le_refl _) _
  have HF0 : Hid (SFr p w (w.alloc (.cells #[.int .i64 0, .string ⟨#[]⟩, .slice none 0 0, .slice none 0 0, .slice none 0 0] 60))) := SFr.of_below hb0
  have HR0 := Lib.hid (OwnAt.new w [.int .i64 0, .string ⟨#[]⟩, .slice none 0 0, .slice none 0 0, .slice none 0 0] 60)
  have HP0 := Lib.hid (h.old hb0)
  clear hb0
  obtain ⟨R, hR⟩ : ∃ R, simpleP f (t :: r) = R := ⟨_, rfl⟩
  rw [hR]
  have HRR := Lib.hid hR
  clear hR
  have HY := Lib.hid y
  have HV : Hid (∀ w1, Ps w1 p tb (t :: r) → _) := fun w1 h1 => psTake_yes p tb t r [98, 114, 101, 97, 107] w1 h1 y
  rw [List.length_cons] at hl
  clear hl y
  clear h
  go_enter Tryz.func204, Tryz.ntmps204
  go_wp2_with fail
  refine (HV.out _ HP0.out).mono ?_
  rintro e w1 ⟨rfl, hf, hp⟩
  have HF1 := Lib.hid (HF0.out.trans hf)
  have HP1 := Lib.hid hp
  have HR1 := Lib.hid (HR0.out.sfr hf HNE.out)
  clear hf hp
  obtain ⟨⟨x0, x1, x2, x3, x4⟩, xf0, xf1, xf2, xf3, xf4⟩ := cells5 HR1.out
  have xlt := HR1.out.lt
  go_wp2_with fail
  have e1 : simpleP f (t :: r) = .ok (.mk 5 [] [] [] [], r) := by unfold simpleP; rw [take_yes HY.out]
  have e2 := HRR.out.symm.trans e1
  subst e2
  obtain ⟨⟨d0, d1, d2, d3, d4⟩, _⟩ := cells5 (own5 HR1.out (.int .i64 5) (.string ⟨#[]⟩) (.slice none 0 0) (.slice none 0 0) (.slice none 0 0))
  exact bodyPost_ret (v := .agg #[.int .i64 5, .string ⟨#[]⟩, .slice none 0 0, .slice none 0 0, .slice none 0 0]) (by simp [results, Tryz.results204, go_sem, d0, d1, d2, d3, d4]) rfl (st_end HPW.out HF1.out HP1.out ExsAt.zero _ _ _ _ _)
theorem simple_cont (f : Nat) (t : Tk) (r : List Tk) (w : World) (p tb : Nat) (hl : 4 * (t :: r).length ≤ f) (h : Ps w p tb (t :: r)) (n0 : isP [98, 114, 101, 97, 107] t = false) (y : isP [99, 111, 110, 116, 105, 110, 117, 101] t = true) :
    Calls Tryz.prog 204 #[.pointer (some ⟨p, 0, none⟩)] w (PEnd (StH w.heap.size) w p tb (simpleP f (t :: r))) := by
  have HPW := Lib.hid h.lt
  have HNE : Hid (w.heap.size ≠ p) := by show _ ≠ _; have := h.lt; omega
  have hb0 : Below w.heap.size w (w.alloc (.cells #[.int .i64 0, .string ⟨#[]⟩, .slice none 0 0, .slice none 0 0, .slice none 0 0] 60)) := (Below.refl _ _).alloc (Nat.le_refl _) _
  have HF0 : Hid (SFr p w (w.alloc (.cells #[.int .i64 0, .string ⟨#[]⟩, .slice none 0 0, .slice none 0 0, .slice none 0 0] 60))) := SFr.of_below hb0
  have HR0 := Lib.hid (OwnAt.new w [.int .i64 0, .string ⟨#[]⟩, .slice none 0 0, .slice none 0 0, .slice none 0 0] 60)
  have HP0 := Lib.hid (h.old hb0)
  clear hb0
  obtain ⟨R, hR⟩ : ∃ R, simpleP f (t :: r) = R := ⟨_, rfl⟩
  rw [hR]
  have HRR := Lib.hid hR
  clear hR
  have HN0 := Lib.hid n0
  have HT0 : Hid (∀ w1, Ps w1 p tb (t :: r) → _) := fun w1 h1 => psTake_no p tb t r [98, 114, 101, 97, 107] w1 h1 n0
  have HY := Lib.hid y
  have HV : Hid (∀ w1, Ps w1 p tb (t :: r) → _) := fun w1 h1 => psTake_yes p tb t r [99, 111, 110, 116, 105, 110, 117, 101] w1 h1 y
  rw [List.length_cons] at hl
  clear hl n0 y
  clear h
  go_enter Tryz.func204, Tryz.ntmps204
  go_wp2_with fail
  refine (HT0.out _ HP0.out).mono ?_
  rintro e w1 ⟨rfl, hb⟩
  have HF1 := Lib.hid (HF0.out.trans (SFr.of_below hb))
  have HP1 := Lib.hid (HP0.out.old hb)
  have HR1 := Lib.hid (HR0.out.old hb)
  clear hb
  go_wp2_with fail
  refine (HV.out _ HP1.out).mono ?_
  rintro e w2 ⟨rfl, hf, hp⟩
  have HF2 := Lib.hid (HF1.out.trans hf)
  have HP2 := Lib.hid hp
  have HR2 := Lib.hid (HR1.out.sfr hf HNE.out)
  clear hf hp
  obtain ⟨⟨x0, x1, x2, x3, x4⟩, xf0, xf1, xf2, xf3, xf4⟩ := cells5 HR2.out
  have xlt := HR2.out.lt
  go_wp2_with fail
  have e1 : simpleP f (t :: r) = .ok (.mk 6 [] [] [] [], r) := by unfold simpleP; rw [take_no HN0.out]; dsimp only; rw [take_yes HY.out]
  have e2 := HRR.out.symm.trans e1
  subst e2
  obtain ⟨⟨d0, d1, d2, d3, d4⟩, _⟩ := cells5 (own5 HR2.out (.int .i64 6) (.string ⟨#[]⟩) (.slice none 0 0) (.slice none 0 0) (.slice none 0 0))
  exact bodyPost_ret (v := .agg #[.int .i64 6, .string ⟨#[]⟩, .slice none 0 0, .slice none 0 0, .slice none 0 0]) (by simp [results, Tryz.results204, go_sem, d0, d1, d2, d3, d4]) rfl (st_end HPW.out HF2.out HP2.out ExsAt.zero _ _ _ _ _)
theorem simple_ret (f : Nat) (t : Tk) (r : List Tk) (w : World) (p tb : Nat) (hl : 4 * (t :: r).length ≤ f) (h : Ps w p tb (t :: r)) (n0 : isP [98, 114, 101, 97, 107] t = false) (n1 : isP [99, 111, 110, 116, 105, 110, 117, 101] t = false) (y : isP [114, 101, 116, 117, 114, 110] t = true) :
    Calls Tryz.prog 204 #[.pointer (some ⟨p, 0, none⟩)] w (PEnd (StH w.heap.size) w p tb (simpleP f (t :: r))) := by
  have HPW := Lib.hid h.lt
  have HNE : Hid (w.heap.size ≠ p) := by show _ ≠ _; have := h.lt; omega
  have hb0 : Below w.heap.size w (w.alloc (.cells #[.int .i64 0, .string ⟨#[]⟩, .slice none 0 0, .slice none 0 0, .slice none 0 0] 60)) := (Below.refl _ _).alloc (Nat.le_refl _) _
  have HF0 : Hid (SFr p w (w.alloc (.cells #[.int .i64 0, .string ⟨#[]⟩, .slice none 0 0, .slice none 0 0, .slice none 0 0] 60))) := SFr.of_below hb0
  have HR0 := Lib.hid (OwnAt.new w [.int .i64 0, .string ⟨#[]⟩, .slice none 0 0, .slice none 0 0, .slice none 0 0] 60)
  have HP0 := Lib.hid (h.old hb0)
  clear hb0
  obtain ⟨R, hR⟩ : ∃ R, simpleP f (t :: r) = R := ⟨_, rfl⟩
  rw [hR]
  have HRR := Lib.hid hR
  clear hR
  have HN0 := Lib.hid n0
  have HT0 : Hid (∀ w1, Ps w1 p tb (t :: r) → _) := fun w1 h1 => psTake_no p tb t r [98, 114, 101, 97, 107] w1 h1 n0
  have HN1 := Lib.hid n1
  have HT1 : Hid (∀ w1, Ps w1 p tb (t :: r) → _) := fun w1 h1 => psTake_no p tb t r [99, 111, 110, 116, 105, 110, 117, 101] w1 h1 n1
  have HY := Lib.hid y
  have HV : Hid (∀ w1, Ps w1 p tb (t :: r) → _) := fun w1 h1 => psTake_yes p tb t r [114, 101, 116, 117, 114, 110] w1 h1 y
  rw [List.length_cons] at hl
  have hE := (yex_all f).2.1
  have HC : Hid (∀ w1, Ps w1 p tb r → _) := fun w1 h1 => hE r w1 p tb (by omega) h1
  clear hE
  clear hl n0 n1 y
  clear h
  go_enter Tryz.func204, Tryz.ntmps204
  go_wp2_with fail
  refine (HT0.out _ HP0.out).mono ?_
  rintro e w1 ⟨rfl, hb⟩
  have HF1 := Lib.hid (HF0.out.trans (SFr.of_below hb))
  have HP1 := Lib.hid (HP0.out.old hb)
  have HR1 := Lib.hid (HR0.out.old hb)
  clear hb
  go_wp2_with fail
  refine (HT1.out _ HP1.out).mono ?_
  rintro e w2 ⟨rfl, hb⟩
  have HF2 := Lib.hid (HF1.out.trans (SFr.of_below hb))
  have HP2 := Lib.hid (HP1.out.old hb)
  have HR2 := Lib.hid (HR1.out.old hb)
  clear hb
  go_wp2_with fail
  refine (HV.out _ HP2.out).mono ?_
  rintro e w3 ⟨rfl, hf, hp⟩
  have HF3 := Lib.hid (HF2.out.trans hf)
  have HP3 := Lib.hid hp
  have HR3 := Lib.hid (HR2.out.sfr hf HNE.out)
  clear hf hp
  go_wp2_with fail
  refine (HC.out _ HP3.out).mono ?_
  intro e w4 he
  cases hA : climbP f 1 r with
  | error n =>
    rw [hA] at he
    obtain ⟨hf, rfl⟩ := he
    have HF := Lib.hid (HF3.out.trans hf)
    have e1 : simpleP f (t :: r) = .error n := by unfold simpleP; rw [take_no HN0.out]; dsimp only; rw [take_no HN1.out]; dsimp only; rw [take_yes HY.out]; dsimp only; rw [hA]
    have e2 := HRR.out.symm.trans e1
    subst e2
    clear e1 hf
    unfold lineV
    go_wp2_with fail
    exact ⟨rfl, HF.out, rfl⟩
  | ok q =>
    obtain ⟨x, r2⟩ := q
    rw [hA] at he
    obtain ⟨hf, v, rfl, hp, hv⟩ := he
    obtain ⟨s3, rfl, hx, hn⟩ := hv
    obtain ⟨a1, a2, rfl⟩ := hx.shape
    have HX4 := Lib.hid (hx.up (show w.heap.size + 1 ≤ w3.heap.size from HR3.out.lt))
    have HN := Lib.hid hn
    clear hx hn
    have HF4 := Lib.hid (HF3.out.trans hf)
    have HP4 := Lib.hid hp
    have HR4 := Lib.hid (HR3.out.sfr hf HNE.out)
    clear hf hp
    have HA4 := Lib.hid hA
    clear hA
    obtain ⟨⟨x0, x1, x2, x3, x4⟩, xf0, xf1, xf2, xf3, xf4⟩ := cells5 HR4.out
    have xlt := HR4.out.lt
    go_wp2_with fail
    have e1 : simpleP f (t :: r) = .ok (.mk 7 [] [x] [] [], r2) := by unfold simpleP; rw [take_no HN0.out]; dsimp only; rw [take_no HN1.out]; dsimp only; rw [take_yes HY.out]; dsimp only; rw [HA4.out]
    have e2 := HRR.out.symm.trans e1
    subst e2
    obtain ⟨⟨d0, d1, d2, d3, d4⟩, _⟩ := cells5 ((own5 HR4.out (.int .i64 7) (.string ⟨#[]⟩) (.slice (some ⟨w4.heap.size, 0, none⟩) 1 1) (.slice none 0 0) (.slice none 0 0)).alloc (.cells #[.int .i64 x.kind, .int .i64 x.op, .int .i64 x.n, .string (strOf x.name), .slice a1 x.args.length a2] 27))
    exact bodyPost_ret (v := .agg #[.int .i64 7, .string ⟨#[]⟩, .slice (some ⟨w4.heap.size, 0, none⟩) 1 1, .slice none 0 0, .slice none 0 0]) (by simp [results, Tryz.results204, go_sem, d0, d1, d2, d3, d4]) rfl (st_end1 HPW.out HF4.out HP4.out HX4.out HN.out HR4.out.lt _ _ _ _ _)
theorem simple_print (f : Nat) (t : Tk) (r : List Tk) (w : World) (p tb : Nat) (hl : 4 * (t :: r).length ≤ f) (h : Ps w p tb (t :: r)) (n0 : isP [98, 114, 101, 97, 107] t = false) (n1 : isP [99, 111, 110, 116, 105, 110, 117, 101] t = false) (n2 : isP [114, 101, 116, 117, 114, 110] t = false) (y : isP [112, 114, 105, 110, 116] t = true) :
    Calls Tryz.prog 204 #[.pointer (some ⟨p, 0, none⟩)] w (PEnd (StH w.heap.size) w p tb (simpleP f (t :: r))) := by
  have HPW := Lib.hid h.lt
  have HNE : Hid (w.heap.size ≠ p) := by show _ ≠ _; have := h.lt; omega
  have hb0 : Below w.heap.size w (w.alloc (.cells #[.int .i64 0, .string ⟨#[]⟩, .slice none 0 0, .slice none 0 0, .slice none 0 0] 60)) := (Below.refl _ _).alloc (Nat.le_refl _) _
  have HF0 : Hid (SFr p w (w.alloc (.cells #[.int .i64 0, .string ⟨#[]⟩, .slice none 0 0, .slice none 0 0, .slice none 0 0] 60))) := SFr.of_below hb0
  have HR0 := Lib.hid (OwnAt.new w [.int .i64 0, .string ⟨#[]⟩, .slice none 0 0, .slice none 0 0, .slice none 0 0] 60)
  have HP0 := Lib.hid (h.old hb0)
  clear hb0
  obtain ⟨R, hR⟩ : ∃ R, simpleP f (t :: r) = R := ⟨_, rfl⟩
  rw [hR]
  have HRR := Lib.hid hR
  clear hR
  have HN0 := Lib.hid n0
  have HT0 : Hid (∀ w1, Ps w1 p tb (t :: r) → _) := fun w1 h1 => psTake_no p tb t r [98, 114, 101, 97, 107] w1 h1 n0
  have HN1 := Lib.hid n1
  have HT1 : Hid (∀ w1, Ps w1 p tb (t :: r) → _) := fun w1 h1 => psTake_no p tb t r [99, 111, 110, 116, 105, 110, 117, 101] w1 h1 n1
  have HN2 := Lib.hid n2
  have HT2 : Hid (∀ w1, Ps w1 p tb (t :: r) → _) := fun w1 h1 => psTake_no p tb t r [114, 101, 116, 117, 114, 110] w1 h1 n2
  have HY := Lib.hid y
  have HV : Hid (∀ w1, Ps w1 p tb (t :: r) → _) := fun w1 h1 => psTake_yes p tb t r [112, 114, 105, 110, 116] w1 h1 y
  rw [List.length_cons] at hl
  have hE := inside_of f
  have HC : Hid (∀ w1, Ps w1 p tb r → _) := fun w1 h1 => hE r w1 p tb (by omega) h1
  clear hE
  clear hl n0 n1 n2 y
  clear h
  go_enter Tryz.func204, Tryz.ntmps204
  go_wp2_with fail
  refine (HT0.out _ HP0.out).mono ?_
  rintro e w1 ⟨rfl, hb⟩
  have HF1 := Lib.hid (HF0.out.trans (SFr.of_below hb))
  have HP1 := Lib.hid (HP0.out.old hb)
  have HR1 := Lib.hid (HR0.out.old hb)
  clear hb
  go_wp2_with fail
  refine (HT1.out _ HP1.out).mono ?_
  rintro e w2 ⟨rfl, hb⟩
  have HF2 := Lib.hid (HF1.out.trans (SFr.of_below hb))
  have HP2 := Lib.hid (HP1.out.old hb)
  have HR2 := Lib.hid (HR1.out.old hb)
  clear hb
  go_wp2_with fail
  refine (HT2.out _ HP2.out).mono ?_
  rintro e w3 ⟨rfl, hb⟩
  have HF3 := Lib.hid (HF2.out.trans (SFr.of_below hb))
  have HP3 := Lib.hid (HP2.out.old hb)
  have HR3 := Lib.hid (HR2.out.old hb)
  clear hb
  go_wp2_with fail
  refine (HV.out _ HP3.out).mono ?_
  rintro e w4 ⟨rfl, hf, hp⟩
  have HF4 := Lib.hid (HF3.out.trans hf)
  have HP4 := Lib.hid hp
  have HR4 := Lib.hid (HR3.out.sfr hf HNE.out)
  clear hf hp
  go_wp2_with fail
  refine (HC.out _ HP4.out).mono ?_
  intro e w5 he
  cases hA : insideP f r with
  | error n =>
    rw [hA] at he
    obtain ⟨hf, rfl⟩ := he
    have HF := Lib.hid (HF4.out.trans hf)
    have e1 : simpleP f (t :: r) = .error n := by unfold simpleP; rw [take_no HN0.out]; dsimp only; rw [take_no HN1.out]; dsimp only; rw [take_no HN2.out]; dsimp only; rw [take_yes HY.out]; dsimp only; rw [hA]
    have e2 := HRR.out.symm.trans e1
    subst e2
    clear e1 hf
    unfold lineV
    go_wp2_with fail
    exact ⟨rfl, HF.out, rfl⟩
  | ok q =>
    obtain ⟨x, r2⟩ := q
    rw [hA] at he
    obtain ⟨hf, v, rfl, hp, hv⟩ := he
    have hv : ExsAt (w4.heap.size ≤ ·) w5 [x] v := hv
    obtain ⟨a1, a2, rfl⟩ := hv.shape
    have HX5 := Lib.hid (hv.up (show w.heap.size + 1 ≤ w4.heap.size from HR4.out.lt))
    clear hv
    have HF5 := Lib.hid (HF4.out.trans hf)
    have HP5 := Lib.hid hp
    have HR5 := Lib.hid (HR4.out.sfr hf HNE.out)
    clear hf hp
    have HA5 := Lib.hid hA
    clear hA
    obtain ⟨⟨x0, x1, x2, x3, x4⟩, xf0, xf1, xf2, xf3, xf4⟩ := cells5 HR5.out
    have xlt := HR5.out.lt
    go_wp2_with fail
    have e1 : simpleP f (t :: r) = .ok (.mk 8 [] [x] [] [], r2) := by unfold simpleP; rw [take_no HN0.out]; dsimp only; rw [take_no HN1.out]; dsimp only; rw [take_no HN2.out]; dsimp only; rw [take_yes HY.out]; dsimp only; rw [HA5.out]
    have e2 := HRR.out.symm.trans e1
    subst e2
    obtain ⟨⟨d0, d1, d2, d3, d4⟩, _⟩ := cells5 (own5 HR5.out (.int .i64 8) (.string ⟨#[]⟩) (.slice a1 1 a2) (.slice none 0 0) (.slice none 0 0))
    exact bodyPost_ret (v := .agg #[.int .i64 8, .string ⟨#[]⟩, .slice a1 1 a2, .slice none 0 0, .slice none 0 0]) (by simp [results, Tryz.results204, go_sem, d0, d1, d2, d3, d4]) rfl (st_end HPW.out HF5.out HP5.out HX5.out _ _ _ _ _)
theorem simple_trap (f : Nat) (t : Tk) (r : List Tk) (w : World) (p tb : Nat) (hl : 4 * (t :: r).length ≤ f) (h : Ps w p tb (t :: r)) (n0 : isP [98, 114, 101, 97, 107] t = false) (n1 : isP [99, 111, 110, 116, 105, 110, 117, 101] t = false) (n2 : isP [114, 101, 116, 117, 114, 110] t = false) (n3 : isP [112, 114, 105, 110, 116] t = false) (y : isP [116, 114, 97, 112] t = true) :
    Calls Tryz.prog 204 #[.pointer (some ⟨p, 0, none⟩)] w (PEnd (StH w.heap.size) w p tb (simpleP f (t :: r))) := by
  have HPW := Lib.hid h.lt
  have HNE : Hid (w.heap.size ≠ p) := by show _ ≠ _; have := h.lt; omega
  have hb0 : Below w.heap.size w (w.alloc (.cells #[.int .i64 0, .string ⟨#[]⟩, .slice none 0 0, .slice none 0 0, .slice none 0 0] 60)) := (Below.refl _ _).alloc (Nat.le_refl _) _
  have HF0 : Hid (SFr p w (w.alloc (.cells #[.int .i64 0, .string ⟨#[]⟩, .slice none 0 0, .slice none 0 0, .slice none 0 0] 60))) := SFr.of_below hb0
  have HR0 := Lib.hid (OwnAt.new w [.int .i64 0, .string ⟨#[]⟩, .slice none 0 0, .slice none 0 0, .slice none 0 0] 60)
  have HP0 := Lib.hid (h.old hb0)
  clear hb0
  obtain ⟨R, hR⟩ : ∃ R, simpleP f (t :: r) = R := ⟨_, rfl⟩
  rw [hR]
  have HRR := Lib.hid hR
  clear hR
  have HN0 := Lib.hid n0
  have HT0 : Hid (∀ w1, Ps w1 p tb (t :: r) → _) := fun w1 h1 => psTake_no p tb t r [98, 114, 101, 97, 107] w1 h1 n0
  have HN1 := Lib.hid n1
  have HT1 : Hid (∀ w1, Ps w1 p tb (t :: r) → _) := fun w1 h1 => psTake_no p tb t r [99, 111, 110, 116, 105, 110, 117, 101] w1 h1 n1
  have HN2 := Lib.hid n2
  have HT2 : Hid (∀ w1, Ps w1 p tb (t :: r) → _) := fun w1 h1 => psTake_no p tb t r [114, 101, 116, 117, 114, 110] w1 h1 n2
  have HN3 := Lib.hid n3
  have HT3 : Hid (∀ w1, Ps w1 p tb (t :: r) → _) := fun w1 h1 => psTake_no p tb t r [112, 114, 105, 110, 116] w1 h1 n3
  have HY := Lib.hid y
  have HV : Hid (∀ w1, Ps w1 p tb (t :: r) → _) := fun w1 h1 => psTake_yes p tb t r [116, 114, 97, 112] w1 h1 y
  rw [List.length_cons] at hl
  have hE := inside_of f
  have HC : Hid (∀ w1, Ps w1 p tb r → _) := fun w1 h1 => hE r w1 p tb (by omega) h1
  clear hE
  clear hl n0 n1 n2 n3 y
  clear h
  go_enter Tryz.func204, Tryz.ntmps204
  go_wp2_with fail
  refine (HT0.out _ HP0.out).mono ?_
  rintro e w1 ⟨rfl, hb⟩
  have HF1 := Lib.hid (HF0.out.trans (SFr.of_below hb))
  have HP1 := Lib.hid (HP0.out.old hb)
  have HR1 := Lib.hid (HR0.out.old hb)
  clear hb
  go_wp2_with fail
  refine (HT1.out _ HP1.out).mono ?_
  rintro e w2 ⟨rfl, hb⟩
  have HF2 := Lib.hid (HF1.out.trans (SFr.of_below hb))
  have HP2 := Lib.hid (HP1.out.old hb)
  have HR2 := Lib.hid (HR1.out.old hb)
  clear hb
  go_wp2_with fail
  refine (HT2.out _ HP2.out).mono ?_
  rintro e w3 ⟨rfl, hb⟩
  have HF3 := Lib.hid (HF2.out.trans (SFr.of_below hb))
  have HP3 := Lib.hid (HP2.out.old hb)
  have HR3 := Lib.hid (HR2.out.old hb)
  clear hb
  go_wp2_with fail
  refine (HT3.out _ HP3.out).mono ?_
  rintro e w4 ⟨rfl, hb⟩
  have HF4 := Lib.hid (HF3.out.trans (SFr.of_below hb))
  have HP4 := Lib.hid (HP3.out.old hb)
  have HR4 := Lib.hid (HR3.out.old hb)
  clear hb
  go_wp2_with fail
  refine (HV.out _ HP4.out).mono ?_
  rintro e w5 ⟨rfl, hf, hp⟩
  have HF5 := Lib.hid (HF4.out.trans hf)
  have HP5 := Lib.hid hp
  have HR5 := Lib.hid (HR4.out.sfr hf HNE.out)
  clear hf hp
  go_wp2_with fail
  refine (HC.out _ HP5.out).mono ?_
  intro e w6 he
  cases hA : insideP f r with
  | error n =>
    rw [hA] at he
    obtain ⟨hf, rfl⟩ := he
    have HF := Lib.hid (HF5.out.trans hf)
    have e1 : simpleP f (t :: r) = .error n := by unfold simpleP; rw [take_no HN0.out]; dsimp only; rw [take_no HN1.out]; dsimp only; rw [take_no HN2.out]; dsimp only; rw [take_no HN3.out]; dsimp only; rw [take_yes HY.out]; dsimp only; rw [hA]
    have e2 := HRR.out.symm.trans e1
    subst e2
    clear e1 hf
    unfold lineV
    go_wp2_with fail
    exact ⟨rfl, HF.out, rfl⟩
  | ok q =>
    obtain ⟨x, r2⟩ := q
    rw [hA] at he
    obtain ⟨hf, v, rfl, hp, hv⟩ := he
    have hv : ExsAt (w5.heap.size ≤ ·) w6 [x] v := hv
    obtain ⟨a1, a2, rfl⟩ := hv.shape
    have HX6 := Lib.hid (hv.up (show w.heap.size + 1 ≤ w5.heap.size from HR5.out.lt))
    clear hv
    have HF6 := Lib.hid (HF5.out.trans hf)
    have HP6 := Lib.hid hp
    have HR6 := Lib.hid (HR5.out.sfr hf HNE.out)
    clear hf hp
    have HA6 := Lib.hid hA
    clear hA
    obtain ⟨⟨x0, x1, x2, x3, x4⟩, xf0, xf1, xf2, xf3, xf4⟩ := cells5 HR6.out
    have xlt := HR6.out.lt
    go_wp2_with fail
    have e1 : simpleP f (t :: r) = .ok (.mk 9 [] [x] [] [], r2) := by unfold simpleP; rw [take_no HN0.out]; dsimp only; rw [take_no HN1.out]; dsimp only; rw [take_no HN2.out]; dsimp only; rw [take_no HN3.out]; dsimp only; rw [take_yes HY.out]; dsimp only; rw [HA6.out]
    have e2 := HRR.out.symm.trans e1
    subst e2
    obtain ⟨⟨d0, d1, d2, d3, d4⟩, _⟩ := cells5 (own5 HR6.out (.int .i64 9) (.string ⟨#[]⟩) (.slice a1 1 a2) (.slice none 0 0) (.slice none 0 0))
    exact bodyPost_ret (v := .agg #[.int .i64 9, .string ⟨#[]⟩, .slice a1 1 a2, .slice none 0 0, .slice none 0 0]) (by simp [results, Tryz.results204, go_sem, d0, d1, d2, d3, d4]) rfl (st_end HPW.out HF6.out HP6.out HX6.out _ _ _ _ _)
theorem simple_noname (f : Nat) (t : Tk) (r : List Tk) (w : World) (p tb : Nat) (hl : 4 * (t :: r).length ≤ f) (h : Ps w p tb (t :: r)) (n0 : isP [98, 114, 101, 97, 107] t = false) (n1 : isP [99, 111, 110, 116, 105, 110, 117, 101] t = false) (n2 : isP [114, 101, 116, 117, 114, 110] t = false) (n3 : isP [112, 114, 105, 110, 116] t = false) (n4 : isP [116, 114, 97, 112] t = false) (n : Int) (hnm : nameP (t :: r) = .error n) :
    Calls Tryz.prog 204 #[.pointer (some ⟨p, 0, none⟩)] w (PEnd (StH w.heap.size) w p tb (simpleP f (t :: r))) := by
  have HPW := Lib.hid h.lt
  have HNE : Hid (w.heap.size ≠ p) := by show _ ≠ _; have := h.lt; omega
  have hb0 : Below w.heap.size w (w.alloc (.cells #[.int .i64 0, .string ⟨#[]⟩, .slice none 0 0, .slice none 0 0, .slice none 0 0] 60)) := (Below.refl _ _).alloc (Nat.le_refl _) _
  have HF0 : Hid (SFr p w (w.alloc (.cells #[.int .i64 0, .string ⟨#[]⟩, .slice none 0 0, .slice none 0 0, .slice none 0 0] 60))) := SFr.of_below hb0
  have HR0 := Lib.hid (OwnAt.new w [.int .i64 0, .string ⟨#[]⟩, .slice none 0 0, .slice none 0 0, .slice none 0 0] 60)
  have HP0 := Lib.hid (h.old hb0)
  clear hb0
  obtain ⟨R, hR⟩ : ∃ R, simpleP f (t :: r) = R := ⟨_, rfl⟩
  rw [hR]
  have HRR := Lib.hid hR
  clear hR
  have HN0 := Lib.hid n0
  have HT0 : Hid (∀ w1, Ps w1 p tb (t :: r) → _) := fun w1 h1 => psTake_no p tb t r [98, 114, 101, 97, 107] w1 h1 n0
  have HN1 := Lib.hid n1
  have HT1 : Hid (∀ w1, Ps w1 p tb (t :: r) → _) := fun w1 h1 => psTake_no p tb t r [99, 111, 110, 116, 105, 110, 117, 101] w1 h1 n1
  have HN2 := Lib.hid n2
  have HT2 : Hid (∀ w1, Ps w1 p tb (t :: r) → _) := fun w1 h1 => psTake_no p tb t r [114, 101, 116, 117, 114, 110] w1 h1 n2
  have HN3 := Lib.hid n3
  have HT3 : Hid (∀ w1, Ps w1 p tb (t :: r) → _) := fun w1 h1 => psTake_no p tb t r [112, 114, 105, 110, 116] w1 h1 n3
  have HN4 := Lib.hid n4
  have HT4 : Hid (∀ w1, Ps w1 p tb (t :: r) → _) := fun w1 h1 => psTake_no p tb t r [116, 114, 97, 112] w1 h1 n4
  rw [List.length_cons] at hl
  have HNM : Hid (∀ w1, Ps w1 p tb (t :: r) → _) := fun w1 h1 => psName_any p tb (t :: r) w1 h1
  have HNE2 := Lib.hid hnm
  clear hnm
  clear hl n0 n1 n2 n3 n4
  clear h
  go_enter Tryz.func204, Tryz.ntmps204
  go_wp2_with fail
  refine (HT0.out _ HP0.out).mono ?_
  rintro e w1 ⟨rfl, hb⟩
  have HF1 := Lib.hid (HF0.out.trans (SFr.of_below hb))
  have HP1 := Lib.hid (HP0.out.old hb)
  have HR1 := Lib.hid (HR0.out.old hb)
  clear hb
  go_wp2_with fail
  refine (HT1.out _ HP1.out).mono ?_
  rintro e w2 ⟨rfl, hb⟩
  have HF2 := Lib.hid (HF1.out.trans (SFr.of_below hb))
  have HP2 := Lib.hid (HP1.out.old hb)
  have HR2 := Lib.hid (HR1.out.old hb)
  clear hb
  go_wp2_with fail
  refine (HT2.out _ HP2.out).mono ?_
  rintro e w3 ⟨rfl, hb⟩
  have HF3 := Lib.hid (HF2.out.trans (SFr.of_below hb))
  have HP3 := Lib.hid (HP2.out.old hb)
  have HR3 := Lib.hid (HR2.out.old hb)
  clear hb
  go_wp2_with fail
  refine (HT3.out _ HP3.out).mono ?_
  rintro e w4 ⟨rfl, hb⟩
  have HF4 := Lib.hid (HF3.out.trans (SFr.of_below hb))
  have HP4 := Lib.hid (HP3.out.old hb)
  have HR4 := Lib.hid (HR3.out.old hb)
  clear hb
  go_wp2_with fail
  refine (HT4.out _ HP4.out).mono ?_
  rintro e w5 ⟨rfl, hb⟩
  have HF5 := Lib.hid (HF4.out.trans (SFr.of_below hb))
  have HP5 := Lib.hid (HP4.out.old hb)
  have HR5 := Lib.hid (HR4.out.old hb)
  clear hb
  go_wp2_with fail
  refine (HNM.out _ HP5.out).mono ?_
  intro e w6 he
  rw [HNE2.out] at he
  obtain ⟨hf, rfl⟩ := he
  have HF := Lib.hid (HF5.out.trans hf)
  have e1 : simpleP f (t :: r) = .error n := by unfold simpleP; rw [take_no HN0.out]; dsimp only; rw [take_no HN1.out]; dsimp only; rw [take_no HN2.out]; dsimp only; rw [take_no HN3.out]; dsimp only; rw [take_no HN4.out]; dsimp only; rw [HNE2.out]
  have e2 := HRR.out.symm.trans e1
  subst e2
  clear e1 hf
  unfold lineV
  go_wp2_with fail
  exact ⟨rfl, HF.out, rfl⟩
theorem simple_call (f : Nat) (t : Tk) (r : List Tk) (w : World) (p tb : Nat) (hl : 4 * (t :: r).length ≤ f) (h : Ps w p tb (t :: r)) (n0 : isP [98, 114, 101, 97, 107] t = false) (n1 : isP [99, 111, 110, 116, 105, 110, 117, 101] t = false) (n2 : isP [114, 101, 116, 117, 114, 110] t = false) (n3 : isP [112, 114, 105, 110, 116] t = false) (n4 : isP [116, 114, 97, 112] t = false) (s : Bs) (u : Tk) (q : List Tk) (hnm : nameP (t :: r) = .ok (s, u :: q)) (yo : isP [40] u = true) :
    Calls Tryz.prog 204 #[.pointer (some ⟨p, 0, none⟩)] w (PEnd (StH w.heap.size) w p tb (simpleP f (t :: r))) := by
  have HPW := Lib.hid h.lt
  have HNE : Hid (w.heap.size ≠ p) := by show _ ≠ _; have := h.lt; omega
  have hb0 : Below w.heap.size w (w.alloc (.cells #[.int .i64 0, .string ⟨#[]⟩, .slice none 0 0, .slice none 0 0, .slice none 0 0] 60)) := (Below.refl _ _).alloc (Nat.le_refl _) _
  have HF0 : Hid (SFr p w (w.alloc (.cells #[.int .i64 0, .string ⟨#[]⟩, .slice none 0 0, .slice none 0 0, .slice none 0 0] 60))) := SFr.of_below hb0
  have HR0 := Lib.hid (OwnAt.new w [.int .i64 0, .string ⟨#[]⟩, .slice none 0 0, .slice none 0 0, .slice none 0 0] 60)
  have HP0 := Lib.hid (h.old hb0)
  clear hb0
  obtain ⟨R, hR⟩ : ∃ R, simpleP f (t :: r) = R := ⟨_, rfl⟩
  rw [hR]
  have HRR := Lib.hid hR
  clear hR
  have HN0 := Lib.hid n0
  have HT0 : Hid (∀ w1, Ps w1 p tb (t :: r) → _) := fun w1 h1 => psTake_no p tb t r [98, 114, 101, 97, 107] w1 h1 n0
  have HN1 := Lib.hid n1
  have HT1 : Hid (∀ w1, Ps w1 p tb (t :: r) → _) := fun w1 h1 => psTake_no p tb t r [99, 111, 110, 116, 105, 110, 117, 101] w1 h1 n1
  have HN2 := Lib.hid n2
  have HT2 : Hid (∀ w1, Ps w1 p tb (t :: r) → _) := fun w1 h1 => psTake_no p tb t r [114, 101, 116, 117, 114, 110] w1 h1 n2
  have HN3 := Lib.hid n3
  have HT3 : Hid (∀ w1, Ps w1 p tb (t :: r) → _) := fun w1 h1 => psTake_no p tb t r [112, 114, 105, 110, 116] w1 h1 n3
  have HN4 := Lib.hid n4
  have HT4 : Hid (∀ w1, Ps w1 p tb (t :: r) → _) := fun w1 h1 => psTake_no p tb t r [116, 114, 97, 112] w1 h1 n4
  rw [List.length_cons] at hl
  have HNM : Hid (∀ w1, Ps w1 p tb (t :: r) → _) := fun w1 h1 => psName_any p tb (t :: r) w1 h1
  have HNQ := Lib.hid hnm
  have hql := name_less hnm
  simp only [List.length_cons] at hql
  have HYO := Lib.hid yo
  have HTO : Hid (∀ w1, Ps w1 p tb (u :: q) → _) := fun w1 h1 => psTake_yes p tb u q [40] w1 h1 yo
  have hA := (yex_all f).2.2.2.2
  have HC : Hid (∀ w1, Ps w1 p tb q → _) := fun w1 h1 => hA q w1 p tb (by omega) h1
  clear yo hA
  clear hnm hql
  clear hl n0 n1 n2 n3 n4
  clear h
  go_enter Tryz.func204, Tryz.ntmps204
  go_wp2_with fail
  refine (HT0.out _ HP0.out).mono ?_
  rintro e w1 ⟨rfl, hb⟩
  have HF1 := Lib.hid (HF0.out.trans (SFr.of_below hb))
  have HP1 := Lib.hid (HP0.out.old hb)
  have HR1 := Lib.hid (HR0.out.old hb)
  clear hb
  go_wp2_with fail
  refine (HT1.out _ HP1.out).mono ?_
  rintro e w2 ⟨rfl, hb⟩
  have HF2 := Lib.hid (HF1.out.trans (SFr.of_below hb))
  have HP2 := Lib.hid (HP1.out.old hb)
  have HR2 := Lib.hid (HR1.out.old hb)
  clear hb
  go_wp2_with fail
  refine (HT2.out _ HP2.out).mono ?_
  rintro e w3 ⟨rfl, hb⟩
  have HF3 := Lib.hid (HF2.out.trans (SFr.of_below hb))
  have HP3 := Lib.hid (HP2.out.old hb)
  have HR3 := Lib.hid (HR2.out.old hb)
  clear hb
  go_wp2_with fail
  refine (HT3.out _ HP3.out).mono ?_
  rintro e w4 ⟨rfl, hb⟩
  have HF4 := Lib.hid (HF3.out.trans (SFr.of_below hb))
  have HP4 := Lib.hid (HP3.out.old hb)
  have HR4 := Lib.hid (HR3.out.old hb)
  clear hb
  go_wp2_with fail
  refine (HT4.out _ HP4.out).mono ?_
  rintro e w5 ⟨rfl, hb⟩
  have HF5 := Lib.hid (HF4.out.trans (SFr.of_below hb))
  have HP5 := Lib.hid (HP4.out.old hb)
  have HR5 := Lib.hid (HR4.out.old hb)
  clear hb
  go_wp2_with fail
  refine (HNM.out _ HP5.out).mono ?_
  intro e w6 he
  rw [HNQ.out] at he
  obtain ⟨hf, v, rfl, hp, hv⟩ := he
  have hv : v = .string (strOf s) := hv
  subst hv
  have HF6 := Lib.hid (HF5.out.trans hf)
  have HP6 := Lib.hid hp
  have HR6 := Lib.hid (HR5.out.sfr hf HNE.out)
  clear hf hp
  go_wp2_with fail
  refine (HTO.out _ HP6.out).mono ?_
  rintro e w7 ⟨rfl, hf, hp⟩
  have HF7 := Lib.hid (HF6.out.trans hf)
  have HP7 := Lib.hid hp
  have HR7 := Lib.hid (HR6.out.sfr hf HNE.out)
  clear hf hp
  go_wp2_with fail
  refine (HC.out _ HP7.out).mono ?_
  intro e w8 he
  cases hA : argsP f q with
  | error n =>
    rw [hA] at he
    obtain ⟨hf, rfl⟩ := he
    have HF := Lib.hid (HF7.out.trans hf)
    have e1 : simpleP f (t :: r) = .error n := by unfold simpleP; rw [take_no HN0.out]; dsimp only; rw [take_no HN1.out]; dsimp only; rw [take_no HN2.out]; dsimp only; rw [take_no HN3.out]; dsimp only; rw [take_no HN4.out]; dsimp only; rw [HNQ.out]; dsimp only; rw [take_yes HYO.out]; dsimp only; rw [hA]
    have e2 := HRR.out.symm.trans e1
    subst e2
    clear e1 hf
    unfold lineV
    go_wp2_with fail
    exact ⟨rfl, HF.out, rfl⟩
  | ok q =>
    obtain ⟨xs, r2⟩ := q
    rw [hA] at he
    obtain ⟨hf, v, rfl, hp, hv⟩ := he
    have hv : ExsAt (w7.heap.size ≤ ·) w8 xs v := hv
    obtain ⟨a1, a2, rfl⟩ := hv.shape
    have HX8 := Lib.hid (hv.up (show w.heap.size + 1 ≤ w7.heap.size from HR7.out.lt))
    clear hv
    have HF8 := Lib.hid (HF7.out.trans hf)
    have HP8 := Lib.hid hp
    have HR8 := Lib.hid (HR7.out.sfr hf HNE.out)
    clear hf hp
    have HA8 := Lib.hid hA
    clear hA
    obtain ⟨⟨x0, x1, x2, x3, x4⟩, xf0, xf1, xf2, xf3, xf4⟩ := cells5 HR8.out
    have xlt := HR8.out.lt
    go_wp2_with fail
    have e1 : simpleP f (t :: r) = .ok (.mk 10 [] [.mk 5 0 0 s xs] [] [], r2) := by unfold simpleP; rw [take_no HN0.out]; dsimp only; rw [take_no HN1.out]; dsimp only; rw [take_no HN2.out]; dsimp only; rw [take_no HN3.out]; dsimp only; rw [take_no HN4.out]; dsimp only; rw [HNQ.out]; dsimp only; rw [take_yes HYO.out]; dsimp only; rw [HA8.out]
    have e2 := HRR.out.symm.trans e1
    subst e2
    obtain ⟨⟨d0, d1, d2, d3, d4⟩, _⟩ := cells5 ((own5 HR8.out (.int .i64 10) (.string ⟨#[]⟩) (.slice (some ⟨w8.heap.size, 0, none⟩) 1 1) (.slice none 0 0) (.slice none 0 0)).alloc (.cells #[.int .i64 5, .int .i64 0, .int .i64 0, .string (strOf s), .slice a1 xs.length a2] 27))
    exact bodyPost_ret (v := .agg #[.int .i64 10, .string ⟨#[]⟩, .slice (some ⟨w8.heap.size, 0, none⟩) 1 1, .slice none 0 0, .slice none 0 0]) (by simp [results, Tryz.results204, go_sem, d0, d1, d2, d3, d4]) rfl (st_end1 (x := .mk 5 0 0 s xs) HPW.out HF8.out HP8.out HX8.out yi64_0 HR8.out.lt _ _ _ _ _)
theorem simple_set (f : Nat) (t : Tk) (r : List Tk) (w : World) (p tb : Nat) (hl : 4 * (t :: r).length ≤ f) (h : Ps w p tb (t :: r)) (n0 : isP [98, 114, 101, 97, 107] t = false) (n1 : isP [99, 111, 110, 116, 105, 110, 117, 101] t = false) (n2 : isP [114, 101, 116, 117, 114, 110] t = false) (n3 : isP [112, 114, 105, 110, 116] t = false) (n4 : isP [116, 114, 97, 112] t = false) (s : Bs) (u : Tk) (q : List Tk) (hnm : nameP (t :: r) = .ok (s, u :: q)) (no : isP [40] u = false) (ni : isP [91] u = false) :
    Calls Tryz.prog 204 #[.pointer (some ⟨p, 0, none⟩)] w (PEnd (StH w.heap.size) w p tb (simpleP f (t :: r))) := by
  have HPW := Lib.hid h.lt
  have HNE : Hid (w.heap.size ≠ p) := by show _ ≠ _; have := h.lt; omega
  have hb0 : Below w.heap.size w (w.alloc (.cells #[.int .i64 0, .string ⟨#[]⟩, .slice none 0 0, .slice none 0 0, .slice none 0 0] 60)) := (Below.refl _ _).alloc (Nat.le_refl _) _
  have HF0 : Hid (SFr p w (w.alloc (.cells #[.int .i64 0, .string ⟨#[]⟩, .slice none 0 0, .slice none 0 0, .slice none 0 0] 60))) := SFr.of_below hb0
  have HR0 := Lib.hid (OwnAt.new w [.int .i64 0, .string ⟨#[]⟩, .slice none 0 0, .slice none 0 0, .slice none 0 0] 60)
  have HP0 := Lib.hid (h.old hb0)
  clear hb0
  obtain ⟨R, hR⟩ : ∃ R, simpleP f (t :: r) = R := ⟨_, rfl⟩
  rw [hR]
  have HRR := Lib.hid hR
  clear hR
  have HN0 := Lib.hid n0
  have HT0 : Hid (∀ w1, Ps w1 p tb (t :: r) → _) := fun w1 h1 => psTake_no p tb t r [98, 114, 101, 97, 107] w1 h1 n0
  have HN1 := Lib.hid n1
  have HT1 : Hid (∀ w1, Ps w1 p tb (t :: r) → _) := fun w1 h1 => psTake_no p tb t r [99, 111, 110, 116, 105, 110, 117, 101] w1 h1 n1
  have HN2 := Lib.hid n2
  have HT2 : Hid (∀ w1, Ps w1 p tb (t :: r) → _) := fun w1 h1 => psTake_no p tb t r [114, 101, 116, 117, 114, 110] w1 h1 n2
  have HN3 := Lib.hid n3
  have HT3 : Hid (∀ w1, Ps w1 p tb (t :: r) → _) := fun w1 h1 => psTake_no p tb t r [112, 114, 105, 110, 116] w1 h1 n3
  have HN4 := Lib.hid n4
  have HT4 : Hid (∀ w1, Ps w1 p tb (t :: r) → _) := fun w1 h1 => psTake_no p tb t r [116, 114, 97, 112] w1 h1 n4
  rw [List.length_cons] at hl
  have HNM : Hid (∀ w1, Ps w1 p tb (t :: r) → _) := fun w1 h1 => psName_any p tb (t :: r) w1 h1
  have HNQ := Lib.hid hnm
  have hql := name_less hnm
  simp only [List.length_cons] at hql
  have HNO := Lib.hid no
  have HNI := Lib.hid ni
  have HTO : Hid (∀ w1, Ps w1 p tb (u :: q) → _) := fun w1 h1 => psTake_no p tb u q [40] w1 h1 no
  have HTI : Hid (∀ w1, Ps w1 p tb (u :: q) → _) := fun w1 h1 => psTake_no p tb u q [91] w1 h1 ni
  have hE := (yex_all f).2.1
  have HC : Hid (∀ q2 w1, 4 * q2.length + 2 ≤ f → Ps w1 p tb q2 → _) := fun q2 w1 h0 h1 => hE q2 w1 p tb h0 h1
  have HLQ : Hid (4 * (u :: q).length + 4 ≤ f) := by show _ ≤ _; simp only [List.length_cons]; omega
  clear no ni hE
  clear hnm hql
  clear hl n0 n1 n2 n3 n4
  clear h
  go_enter Tryz.func204, Tryz.ntmps204
  go_wp2_with fail
  refine (HT0.out _ HP0.out).mono ?_
  rintro e w1 ⟨rfl, hb⟩
  have HF1 := Lib.hid (HF0.out.trans (SFr.of_below hb))
  have HP1 := Lib.hid (HP0.out.old hb)
  have HR1 := Lib.hid (HR0.out.old hb)
  clear hb
  go_wp2_with fail
  refine (HT1.out _ HP1.out).mono ?_
  rintro e w2 ⟨rfl, hb⟩
  have HF2 := Lib.hid (HF1.out.trans (SFr.of_below hb))
  have HP2 := Lib.hid (HP1.out.old hb)
  have HR2 := Lib.hid (HR1.out.old hb)
  clear hb
  go_wp2_with fail
  refine (HT2.out _ HP2.out).mono ?_
  rintro e w3 ⟨rfl, hb⟩
  have HF3 := Lib.hid (HF2.out.trans (SFr.of_below hb))
  have HP3 := Lib.hid (HP2.out.old hb)
  have HR3 := Lib.hid (HR2.out.old hb)
  clear hb
  go_wp2_with fail
  refine (HT3.out _ HP3.out).mono ?_
  rintro e w4 ⟨rfl, hb⟩
  have HF4 := Lib.hid (HF3.out.trans (SFr.of_below hb))
  have HP4 := Lib.hid (HP3.out.old hb)
  have HR4 := Lib.hid (HR3.out.old hb)
  clear hb
  go_wp2_with fail
  refine (HT4.out _ HP4.out).mono ?_
  rintro e w5 ⟨rfl, hb⟩
  have HF5 := Lib.hid (HF4.out.trans (SFr.of_below hb))
  have HP5 := Lib.hid (HP4.out.old hb)
  have HR5 := Lib.hid (HR4.out.old hb)
  clear hb
  go_wp2_with fail
  refine (HNM.out _ HP5.out).mono ?_
  intro e w6 he
  rw [HNQ.out] at he
  obtain ⟨hf, v, rfl, hp, hv⟩ := he
  have hv : v = .string (strOf s) := hv
  subst hv
  have HF6 := Lib.hid (HF5.out.trans hf)
  have HP6 := Lib.hid hp
  have HR6 := Lib.hid (HR5.out.sfr hf HNE.out)
  clear hf hp
  go_wp2_with fail
  refine (HTO.out _ HP6.out).mono ?_
  rintro e w7 ⟨rfl, hb⟩
  have HF7 := Lib.hid (HF6.out.trans (SFr.of_below hb))
  have HP7 := Lib.hid (HP6.out.old hb)
  have HR7 := Lib.hid (HR6.out.old hb)
  clear hb
  go_wp2_with fail
  refine (HTI.out _ HP7.out).mono ?_
  rintro e w8 ⟨rfl, hb⟩
  have HF8 := Lib.hid (HF7.out.trans (SFr.of_below hb))
  have HP8 := Lib.hid (HP7.out.old hb)
  have HR8 := Lib.hid (HR7.out.old hb)
  clear hb
  go_upto_region 18 with (fail)
  have hba : Below w8.heap.size w8 (w8.alloc (.cells #[.string ⟨#[61]⟩] 9)) := (Below.refl _ _).alloc (Nat.le_refl _) _
  have HF9 := Lib.hid (HF8.out.trans (SFr.of_below hba))
  have HP9 := Lib.hid (HP8.out.old hba)
  have HR9 := Lib.hid (HR8.out.old hba)
  have HWN := Lib.hid (psWant_one p tb (u :: q) [61] _ HP9.out w8.heap.size 1 ((OwnAt.new w8 [.string ⟨#[61]⟩] 9).at 0 _ rfl))
  clear hba
  go_wp2_with fail
  refine (HWN.out).mono ?_
  intro e w10 he
  cases hA : ywantP [61] (u :: q) with
  | error n =>
    rw [hA] at he
    obtain ⟨hf, rfl⟩ := he
    have HF := Lib.hid (HF9.out.trans hf)
    have e1 : simpleP f (t :: r) = .error n := by unfold simpleP; rw [take_no HN0.out]; dsimp only; rw [take_no HN1.out]; dsimp only; rw [take_no HN2.out]; dsimp only; rw [take_no HN3.out]; dsimp only; rw [take_no HN4.out]; dsimp only; rw [HNQ.out]; dsimp only; rw [take_no HNO.out]; dsimp only; rw [take_no HNI.out]; dsimp only; rw [hA]
    have e2 := HRR.out.symm.trans e1
    subst e2
    clear e1 hf
    unfold lineV
    go_wp2_with fail
    exact ⟨rfl, HF.out, rfl⟩
  | ok q2 =>
    rw [hA] at he
    obtain ⟨hf, rfl, hp⟩ := he
    have HF10 := Lib.hid (HF9.out.trans hf)
    have HP10 := Lib.hid hp
    have HR10 := Lib.hid (HR9.out.sfr hf HNE.out)
    clear hf hp
    have HA10 := Lib.hid hA
    clear hA
    clear HWN
    have hlq : 4 * q2.length + 2 ≤ f := by have h1 := want_less HA10.out; have h2 := HLQ.out; omega
    go_wp2_with fail
    refine (HC.out q2 _ hlq HP10.out).mono ?_
    intro e w11 he
    cases hA : climbP f 1 q2 with
    | error n =>
      rw [hA] at he
      obtain ⟨hf, rfl⟩ := he
      have HF := Lib.hid (HF10.out.trans hf)
      have e1 : simpleP f (t :: r) = .error n := by unfold simpleP; rw [take_no HN0.out]; dsimp only; rw [take_no HN1.out]; dsimp only; rw [take_no HN2.out]; dsimp only; rw [take_no HN3.out]; dsimp only; rw [take_no HN4.out]; dsimp only; rw [HNQ.out]; dsimp only; rw [take_no HNO.out]; dsimp only; rw [take_no HNI.out]; dsimp only; rw [HA10.out]; dsimp only; rw [hA]
      have e2 := HRR.out.symm.trans e1
      subst e2
      clear e1 hf
      unfold lineV
      go_wp2_with fail
      exact ⟨rfl, HF.out, rfl⟩
    | ok q =>
      obtain ⟨x, r2⟩ := q
      rw [hA] at he
      obtain ⟨hf, v, rfl, hp, hv⟩ := he
      obtain ⟨s3, rfl, hx, hn⟩ := hv
      obtain ⟨a1, a2, rfl⟩ := hx.shape
      have HX11 := Lib.hid (hx.up (show w.heap.size + 1 ≤ w10.heap.size from HR10.out.lt))
      have HN := Lib.hid hn
      clear hx hn
      have HF11 := Lib.hid (HF10.out.trans hf)
      have HP11 := Lib.hid hp
      have HR11 := Lib.hid (HR10.out.sfr hf HNE.out)
      clear hf hp
      have HA11 := Lib.hid hA
      clear hA
      clear hlq
      obtain ⟨⟨x0, x1, x2, x3, x4⟩, xf0, xf1, xf2, xf3, xf4⟩ := cells5 HR11.out
      have xlt := HR11.out.lt
      go_wp2_with fail
      have e1 : simpleP f (t :: r) = .ok (.mk 1 s [x] [] [], r2) := by unfold simpleP; rw [take_no HN0.out]; dsimp only; rw [take_no HN1.out]; dsimp only; rw [take_no HN2.out]; dsimp only; rw [take_no HN3.out]; dsimp only; rw [take_no HN4.out]; dsimp only; rw [HNQ.out]; dsimp only; rw [take_no HNO.out]; dsimp only; rw [take_no HNI.out]; dsimp only; rw [HA10.out]; dsimp only; rw [HA11.out]
      have e2 := HRR.out.symm.trans e1
      subst e2
      obtain ⟨⟨d0, d1, d2, d3, d4⟩, _⟩ := cells5 ((own5 HR11.out (.int .i64 1) (.string (strOf s)) (.slice (some ⟨w11.heap.size, 0, none⟩) 1 1) (.slice none 0 0) (.slice none 0 0)).alloc (.cells #[.int .i64 x.kind, .int .i64 x.op, .int .i64 x.n, .string (strOf x.name), .slice a1 x.args.length a2] 27))
      exact bodyPost_ret (v := .agg #[.int .i64 1, .string (strOf s), .slice (some ⟨w11.heap.size, 0, none⟩) 1 1, .slice none 0 0, .slice none 0 0]) (by simp [results, Tryz.results204, go_sem, d0, d1, d2, d3, d4]) rfl (st_end1 HPW.out HF11.out HP11.out HX11.out HN.out HR11.out.lt _ _ _ _ _)
end Go.Proofs.YtcfpfnoldgnloaaGreatDoor
