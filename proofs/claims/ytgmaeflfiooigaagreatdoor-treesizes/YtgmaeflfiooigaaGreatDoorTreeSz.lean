/-
  TreeSizes: two programs' functions together. Conditions: the programs lie in memory.
  TreeSizes: the law is true. Conditions: the raw numbers and the library's table lie in memory.
-/
import Derived.Test.YtgmaeflfiooigaaGreatDoorTreeZ
import Derived.Test.YtgmaeflfiooigaaGreatDoorTreeLen
import Derived.Test.YtgmaeflfiooigaaGreatDoorTreeG
set_option linter.unusedVariables false
set_option linter.unusedSimpArgs false
namespace Go.Proofs.YtgmaeflfiooigaaGreatDoor
open Go.RowKit
set_option maxHeartbeats 8000000
set_option maxRecDepth 100000

noncomputable def szReg (n : Nat) : Code := ((Tryz.f6.body.bind (regOf n)).getD .skip)
theorem fv_one {D : Nat → Prop} {w : World} {p : FuV} (h : FuParts D w p) : ∀ u, u ∈ fvCells p → u.oneCell' = true := by
  obtain ⟨x, a, b, c⟩ := p
  obtain ⟨h1, h2, ls, h3, h4, h5⟩ := h
  obtain ⟨a1, a2, ha⟩ := h1.shape
  obtain ⟨b1, b2, hb⟩ := h2.shape
  obtain ⟨c1, c2, hc⟩ := h5.shape
  dsimp only at ha hb hc
  subst ha; subst hb; subst hc
  intro u hu
  simp only [fvCells, List.mem_cons, List.not_mem_nil, or_false] at hu
  rcases hu with rfl | rfl | rfl | rfl <;> rfl
theorem fvs_one {w : World} {base : Nat} {ps : List FuV} {v : Value} (h : FusOwn w base ps v) : ∀ u, u ∈ ps.flatMap fvCells → u.oneCell' = true := by
  intro u hu
  obtain ⟨p, hp, hu⟩ := List.mem_flatMap.1 hu
  exact fv_one (h.2 p hp) u hu
structure VSz (b6 b7 : Nat) (va vf ua uf : Value) (ds es : List FuV) (W : World) (L : Nat → Bool) (z8 z20 z21 z22 z23 z24 z25 z26 z27 z28 : Value) (wx : World) : Prop where
  bel : Below W.heap.size W wx
  ord : L 10 = true → ∀ j, j < 10 → L j = true
  ap : L 7 = true → L 4 = true
  c0 : L 0 = true → z20 = .pointer (some ⟨b6, 0, none⟩)
  c1 : L 1 = true → z21 = va
  c2 : L 2 = true → z22 = .pointer (some ⟨b6, 1, none⟩)
  c3 : L 3 = true → z23 = vf
  c4 : L 4 = true → L 7 = false → wx.ownsRow W.heap.size 52 4 z24 ds.length (ds.flatMap fvCells)
  c5 : L 5 = true → z25 = .pointer (some ⟨b7, 1, none⟩)
  c6 : L 6 = true → z26 = uf
  c7 : L 7 = true → wx.ownsRow W.heap.size 52 4 z27 (ds.length + es.length) (ds.flatMap fvCells ++ es.flatMap fvCells)
  c8 : L 8 = true → z28 = .agg #[va, z27]
  c87 : L 8 = true → ¬ L 7 = false
  c9 : L 9 = true → ∃ b, z8 = .pointer (some ⟨b, 0, none⟩) ∧ W.heap.size ≤ b ∧ OwnAt wx b (if L 10 = true then [va, z27] else [.slice none 0 0, .slice none 0 0]) 27
def RSz (b6 b7 : Nat) (va vf ua uf : Value) (ds es : List FuV) (W : World) (q0 q1 q2 q3 q4 q5 q9 q10 q11 q12 q13 q14 q15 q16 q17 q18 q19 q29 q30 q31 q32 q33 q34 q35 q36 q37 q38 q39 q40 q41 q42 q43 q44 q45 q46 q47 q48 q49 q50 q51 q52 q53 q54 q55 q56 q57 q58 q59 q60 q61 q62 q63 q64 q65 q66 q67 q68 q69 q70 q71 q72 q73 q74 : Value) (a' : Act) (w' : World) : Prop :=
  ∃ z8 z20 z21 z22 z23 z24 z25 z26 z27 z28 : Value, (∃ b v, z8 = .pointer (some ⟨b, 0, none⟩) ∧ W.heap.size ≤ b ∧ OwnAt w' b [va, v] 27 ∧ w'.ownsRow W.heap.size 52 4 v (ds.length + es.length) (ds.flatMap fvCells ++ es.flatMap fvCells) ∧ Below W.heap.size W w') ∧ a' = ⟨[q0, q1, q2, q3, q4, q5, .pointer (some ⟨b6, 0, none⟩), .pointer (some ⟨b7, 0, none⟩), z8, q9, q10, q11, q12, q13, q14, q15, q16, q17, q18, q19, z20, z21, z22, z23, z24, z25, z26, z27, z28, q29, q30, q31, q32, q33, q34, q35, q36, q37, q38, q39, q40, q41, q42, q43, q44, q45, q46, q47, q48, q49, q50, q51, q52, q53, q54, q55, q56, q57, q58, q59, q60, q61, q62, q63, q64, q65, q66, q67, q68, q69, q70, q71, q72, q73, q74].toArray, []⟩
def ISz (b6 b7 : Nat) (va vf ua uf : Value) (ds es : List FuV) (W : World) (q0 q1 q2 q3 q4 q5 q9 q10 q11 q12 q13 q14 q15 q16 q17 q18 q19 q29 q30 q31 q32 q33 q34 q35 q36 q37 q38 q39 q40 q41 q42 q43 q44 q45 q46 q47 q48 q49 q50 q51 q52 q53 q54 q55 q56 q57 q58 q59 q60 q61 q62 q63 q64 q65 q66 q67 q68 q69 q70 q71 q72 q73 q74 : Value) (L : Nat → Bool) (a' : Act) (w' : World) : Prop :=
  ∃ z8 z20 z21 z22 z23 z24 z25 z26 z27 z28 : Value, VSz b6 b7 va vf ua uf ds es W L z8 z20 z21 z22 z23 z24 z25 z26 z27 z28 w' ∧ a' = ⟨[q0, q1, q2, q3, q4, q5, .pointer (some ⟨b6, 0, none⟩), .pointer (some ⟨b7, 0, none⟩), z8, q9, q10, q11, q12, q13, q14, q15, q16, q17, q18, q19, z20, z21, z22, z23, z24, z25, z26, z27, z28, q29, q30, q31, q32, q33, q34, q35, q36, q37, q38, q39, q40, q41, q42, q43, q44, q45, q46, q47, q48, q49, q50, q51, q52, q53, q54, q55, q56, q57, q58, q59, q60, q61, q62, q63, q64, q65, q66, q67, q68, q69, q70, q71, q72, q73, q74].toArray, []⟩
theorem row_type {w : World} {base size n b : Nat} {e T : TypeId} {v : Value} {xs cs : List Value} (h : w.ownsRow base e size v n xs) (ho : OwnAt w b cs T) (hT : e ≠ T) : v.ownBlock ≠ some b := by
  rcases h.2 with ⟨rfl, _⟩ | ⟨g, cap, cur, rfl, _, hg, _⟩
  · intro e; cases e
  · intro e
    cases e
    have := hg.symm.trans ho
    simp at this
    exact hT this.2
theorem sz_reg4 (b6 b7 : Nat) (va vf ua uf : Value) (ds es : List FuV) (W : World) (h6 : OwnAt W b6 [va, vf] 27) (h7 : OwnAt W b7 [ua, uf] 27) (base1 base2 : Nat) (hf : FusOwn W base1 ds vf) (hg : FusOwn W base2 es uf) (hn : 0 < ds.length) (hm : 0 < es.length) (hn3 : ds.length ≤ 3) (hm3 : es.length ≤ 3) (hva : ∃ a k c, va = .slice a k c) (q0 q1 q2 q3 q4 q5 q8 q9 q10 q11 q12 q13 q14 q15 q16 q17 q18 q19 q20 q21 q22 q23 q24 q25 q26 q27 q28 q29 q30 q31 q32 q33 q34 q35 q36 q37 q38 q39 q40 q41 q42 q43 q44 q45 q46 q47 q48 q49 q50 q51 q52 q53 q54 q55 q56 q57 q58 q59 q60 q61 q62 q63 q64 q65 q66 q67 q68 q69 q70 q71 q72 q73 q74 : Value) (J K' : Act → World → Prop) (hJ : ∀ a' w', RSz b6 b7 va vf ua uf ds es W q0 q1 q2 q3 q4 q5 q9 q10 q11 q12 q13 q14 q15 q16 q17 q18 q19 q29 q30 q31 q32 q33 q34 q35 q36 q37 q38 q39 q40 q41 q42 q43 q44 q45 q46 q47 q48 q49 q50 q51 q52 q53 q54 q55 q56 q57 q58 q59 q60 q61 q62 q63 q64 q65 q66 q67 q68 q69 q70 q71 q72 q73 q74 a' w' → J a' w') (hM : ∀ a' w', Met J a' w' → K' a' w') :
    Code.wp Tryz.prog (szReg 4) (Exit.then K' (fun _ _ _ => False)) ⟨[q0, q1, q2, q3, q4, q5, .pointer (some ⟨b6, 0, none⟩), .pointer (some ⟨b7, 0, none⟩), q8, q9, q10, q11, q12, q13, q14, q15, q16, q17, q18, q19, q20, q21, q22, q23, q24, q25, q26, q27, q28, q29, q30, q31, q32, q33, q34, q35, q36, q37, q38, q39, q40, q41, q42, q43, q44, q45, q46, q47, q48, q49, q50, q51, q52, q53, q54, q55, q56, q57, q58, q59, q60, q61, q62, q63, q64, q65, q66, q67, q68, q69, q70, q71, q72, q73, q74].toArray, []⟩ W := by
  obtain ⟨i0, hi0, hz0, hz1, hz2⟩ := info_parts infoFu
  obtain ⟨gf, cf, rfl, _, _⟩ := World.ownsRow.form hf.1 hn
  obtain ⟨gg, cg, rfl, _, _⟩ := World.ownsRow.form hg.1 hm
  obtain ⟨va1, va2, va3, rfl⟩ := hva
  have HI0 := Lib.hid hi0; have HZ0 := Lib.hid hz0; have HZ1 := Lib.hid hz1; have HZ2 := Lib.hid hz2
  have HF := Lib.hid hf; have HG := Lib.hid hg
  clear hi0 hz0 hz1 hz2 hf hg
  conv => arg 2; whnf
  dsimp only
  refine region_by (by kernel_rfl) (by kernel_rfl) (ISz b6 b7 (.slice va1 va2 va3) (.slice (some ⟨gf, 0, none⟩) ds.length cf) ua (.slice (some ⟨gg, 0, none⟩) es.length cg) ds es W q0 q1 q2 q3 q4 q5 q9 q10 q11 q12 q13 q14 q15 q16 q17 q18 q19 q29 q30 q31 q32 q33 q34 q35 q36 q37 q38 q39 q40 q41 q42 q43 q44 q45 q46 q47 q48 q49 q50 q51 q52 q53 q54 q55 q56 q57 q58 q59 q60 q61 q62 q63 q64 q65 q66 q67 q68 q69 q70 q71 q72 q73 q74) ?_ ?_ ?_
  · exact ⟨q8, q20, q21, q22, q23, q24, q25, q26, q27, q28, ⟨(Below.refl _ _).drew, fun h => (by cases h), fun h => (by cases h), fun h => (by cases h), fun h => (by cases h), fun h => (by cases h), fun h => (by cases h), fun h => (by cases h), fun h => (by cases h), fun h => (by cases h), fun h => (by cases h), fun h => (by cases h), fun h => (by cases h), fun h => (by cases h)⟩, rfl⟩
  · intro L act wx k hI hk hl hd
    obtain ⟨z8, z20, z21, z22, z23, z24, z25, z26, z27, z28, hV, rfl⟩ := hI
    have hk : k = 0 ∨ k = 1 ∨ k = 2 ∨ k = 3 ∨ k = 4 ∨ k = 5 ∨ k = 6 ∨ k = 7 ∨ k = 8 ∨ k = 9 ∨ k = 10 := by
      have : k < 11 := hk
      omega
    rcases hk with rfl | rfl | rfl | rfl | rfl | rfl | rfl | rfl | rfl | rfl | rfl
    · have n10 : L 10 = false := by
        cases h : L 10 with
        | false => rfl
        | true => have := hV.ord h 0 (by decide); rw [hl] at this; cases this
      have HV := Lib.hid hV; have HD := Lib.hid hd; have HL := Lib.hid hl
      refine op_at _ rfl rfl (fun K' hK => ?_)
      conv => arg 2; whnf
      go_wp2_with fail
      exact ⟨z8, .pointer (some ⟨b6, 0, none⟩), z21, z22, z23, z24, z25, z26, z27, z28, ⟨hV.bel, (fun h j hj => by rw [upd_ne L (show 10 ≠ 0 by decide)] at h; have := hV.ord h 0 (by decide); rw [hl] at this; cases this), (fun h => by rw [upd_ne L (show 4 ≠ 0 by decide)]; exact hV.ap (by rwa [upd_ne L (show 7 ≠ 0 by decide)] at h)), (fun _ => rfl), (fun h => hV.c1 (by rwa [upd_ne L (show 1 ≠ 0 by decide)] at h)), (fun h => hV.c2 (by rwa [upd_ne L (show 2 ≠ 0 by decide)] at h)), (fun h => hV.c3 (by rwa [upd_ne L (show 3 ≠ 0 by decide)] at h)), (fun h h7 => hV.c4 (by rwa [upd_ne L (show 4 ≠ 0 by decide)] at h) (by rwa [upd_ne L (show 7 ≠ 0 by decide)] at h7)), (fun h => hV.c5 (by rwa [upd_ne L (show 5 ≠ 0 by decide)] at h)), (fun h => hV.c6 (by rwa [upd_ne L (show 6 ≠ 0 by decide)] at h)), (fun h => hV.c7 (by rwa [upd_ne L (show 7 ≠ 0 by decide)] at h)), (fun h => hV.c8 (by rwa [upd_ne L (show 8 ≠ 0 by decide)] at h)), (fun h => by rw [upd_ne L (show 7 ≠ 0 by decide)]; exact hV.c87 (by rwa [upd_ne L (show 8 ≠ 0 by decide)] at h)), (fun h => by obtain ⟨b, e1, e2, e3⟩ := hV.c9 (by rwa [upd_ne L (show 9 ≠ 0 by decide)] at h); rw [upd_ne L (show 10 ≠ 0 by decide)]; exact ⟨b, e1, e2, e3⟩)⟩, rfl⟩
    · have n10 : L 10 = false := by
        cases h : L 10 with
        | false => rfl
        | true => have := hV.ord h 1 (by decide); rw [hl] at this; cases this
      have d0 : L 0 = true := hd _ rfl ⟨0, .data⟩ (by simp) rfl
      obtain rfl := hV.c0 d0
      have ho6 := h6.old hV.bel
      have x60 := ho6.at 0 _ rfl
      have x61 := ho6.at 1 _ rfl
      have HV := Lib.hid hV; have HD := Lib.hid hd; have HL := Lib.hid hl
      refine op_at _ rfl rfl (fun K' hK => ?_)
      conv => arg 2; whnf
      go_wp2_with fail
      exact ⟨z8, .pointer (some ⟨b6, 0, none⟩), .slice va1 va2 va3, z22, z23, z24, z25, z26, z27, z28, ⟨hV.bel, (fun h j hj => by rw [upd_ne L (show 10 ≠ 1 by decide)] at h; have := hV.ord h 1 (by decide); rw [hl] at this; cases this), (fun h => by rw [upd_ne L (show 4 ≠ 1 by decide)]; exact hV.ap (by rwa [upd_ne L (show 7 ≠ 1 by decide)] at h)), (fun h => hV.c0 (by rwa [upd_ne L (show 0 ≠ 1 by decide)] at h)), (fun _ => rfl), (fun h => hV.c2 (by rwa [upd_ne L (show 2 ≠ 1 by decide)] at h)), (fun h => hV.c3 (by rwa [upd_ne L (show 3 ≠ 1 by decide)] at h)), (fun h h7 => hV.c4 (by rwa [upd_ne L (show 4 ≠ 1 by decide)] at h) (by rwa [upd_ne L (show 7 ≠ 1 by decide)] at h7)), (fun h => hV.c5 (by rwa [upd_ne L (show 5 ≠ 1 by decide)] at h)), (fun h => hV.c6 (by rwa [upd_ne L (show 6 ≠ 1 by decide)] at h)), (fun h => hV.c7 (by rwa [upd_ne L (show 7 ≠ 1 by decide)] at h)), (fun h => hV.c8 (by rwa [upd_ne L (show 8 ≠ 1 by decide)] at h)), (fun h => by rw [upd_ne L (show 7 ≠ 1 by decide)]; exact hV.c87 (by rwa [upd_ne L (show 8 ≠ 1 by decide)] at h)), (fun h => by obtain ⟨b, e1, e2, e3⟩ := hV.c9 (by rwa [upd_ne L (show 9 ≠ 1 by decide)] at h); rw [upd_ne L (show 10 ≠ 1 by decide)]; exact ⟨b, e1, e2, e3⟩)⟩, rfl⟩
    · have n10 : L 10 = false := by
        cases h : L 10 with
        | false => rfl
        | true => have := hV.ord h 2 (by decide); rw [hl] at this; cases this
      have HV := Lib.hid hV; have HD := Lib.hid hd; have HL := Lib.hid hl
      refine op_at _ rfl rfl (fun K' hK => ?_)
      conv => arg 2; whnf
      go_wp2_with fail
      exact ⟨z8, z20, z21, .pointer (some ⟨b6, 1, none⟩), z23, z24, z25, z26, z27, z28, ⟨hV.bel, (fun h j hj => by rw [upd_ne L (show 10 ≠ 2 by decide)] at h; have := hV.ord h 2 (by decide); rw [hl] at this; cases this), (fun h => by rw [upd_ne L (show 4 ≠ 2 by decide)]; exact hV.ap (by rwa [upd_ne L (show 7 ≠ 2 by decide)] at h)), (fun h => hV.c0 (by rwa [upd_ne L (show 0 ≠ 2 by decide)] at h)), (fun h => hV.c1 (by rwa [upd_ne L (show 1 ≠ 2 by decide)] at h)), (fun _ => rfl), (fun h => hV.c3 (by rwa [upd_ne L (show 3 ≠ 2 by decide)] at h)), (fun h h7 => hV.c4 (by rwa [upd_ne L (show 4 ≠ 2 by decide)] at h) (by rwa [upd_ne L (show 7 ≠ 2 by decide)] at h7)), (fun h => hV.c5 (by rwa [upd_ne L (show 5 ≠ 2 by decide)] at h)), (fun h => hV.c6 (by rwa [upd_ne L (show 6 ≠ 2 by decide)] at h)), (fun h => hV.c7 (by rwa [upd_ne L (show 7 ≠ 2 by decide)] at h)), (fun h => hV.c8 (by rwa [upd_ne L (show 8 ≠ 2 by decide)] at h)), (fun h => by rw [upd_ne L (show 7 ≠ 2 by decide)]; exact hV.c87 (by rwa [upd_ne L (show 8 ≠ 2 by decide)] at h)), (fun h => by obtain ⟨b, e1, e2, e3⟩ := hV.c9 (by rwa [upd_ne L (show 9 ≠ 2 by decide)] at h); rw [upd_ne L (show 10 ≠ 2 by decide)]; exact ⟨b, e1, e2, e3⟩)⟩, rfl⟩
    · have n10 : L 10 = false := by
        cases h : L 10 with
        | false => rfl
        | true => have := hV.ord h 3 (by decide); rw [hl] at this; cases this
      have d2 : L 2 = true := hd _ rfl ⟨2, .data⟩ (by simp) rfl
      obtain rfl := hV.c2 d2
      have ho6 := h6.old hV.bel
      have x60 := ho6.at 0 _ rfl
      have x61 := ho6.at 1 _ rfl
      have HV := Lib.hid hV; have HD := Lib.hid hd; have HL := Lib.hid hl
      refine op_at _ rfl rfl (fun K' hK => ?_)
      conv => arg 2; whnf
      go_wp2_with fail
      exact ⟨z8, z20, z21, .pointer (some ⟨b6, 1, none⟩), .slice (some ⟨gf, 0, none⟩) ds.length cf, z24, z25, z26, z27, z28, ⟨hV.bel, (fun h j hj => by rw [upd_ne L (show 10 ≠ 3 by decide)] at h; have := hV.ord h 3 (by decide); rw [hl] at this; cases this), (fun h => by rw [upd_ne L (show 4 ≠ 3 by decide)]; exact hV.ap (by rwa [upd_ne L (show 7 ≠ 3 by decide)] at h)), (fun h => hV.c0 (by rwa [upd_ne L (show 0 ≠ 3 by decide)] at h)), (fun h => hV.c1 (by rwa [upd_ne L (show 1 ≠ 3 by decide)] at h)), (fun h => hV.c2 (by rwa [upd_ne L (show 2 ≠ 3 by decide)] at h)), (fun _ => rfl), (fun h h7 => hV.c4 (by rwa [upd_ne L (show 4 ≠ 3 by decide)] at h) (by rwa [upd_ne L (show 7 ≠ 3 by decide)] at h7)), (fun h => hV.c5 (by rwa [upd_ne L (show 5 ≠ 3 by decide)] at h)), (fun h => hV.c6 (by rwa [upd_ne L (show 6 ≠ 3 by decide)] at h)), (fun h => hV.c7 (by rwa [upd_ne L (show 7 ≠ 3 by decide)] at h)), (fun h => hV.c8 (by rwa [upd_ne L (show 8 ≠ 3 by decide)] at h)), (fun h => by rw [upd_ne L (show 7 ≠ 3 by decide)]; exact hV.c87 (by rwa [upd_ne L (show 8 ≠ 3 by decide)] at h)), (fun h => by obtain ⟨b, e1, e2, e3⟩ := hV.c9 (by rwa [upd_ne L (show 9 ≠ 3 by decide)] at h); rw [upd_ne L (show 10 ≠ 3 by decide)]; exact ⟨b, e1, e2, e3⟩)⟩, rfl⟩
    · have n10 : L 10 = false := by
        cases h : L 10 with
        | false => rfl
        | true => have := hV.ord h 4 (by decide); rw [hl] at this; cases this
      have d3 : L 3 = true := hd _ rfl ⟨3, .data⟩ (by simp) rfl
      obtain rfl := hV.c3 d3
      have n7 : L 7 = false := by
        cases h : L 7 with
        | false => rfl
        | true => have := hV.ap h; rw [hl] at this; cases this
      have HV := Lib.hid hV; have HD := Lib.hid hd; have HL := Lib.hid hl
      refine op_at _ rfl rfl (fun K' hK => ?_)
      conv => arg 2; whnf
      refine wp_append_lies (P := Tryz.prog) wx _ _ 25 rfl W.heap.size 52 i0 _ 4 88 Tryz.underlying25 HI0.out HZ0.out HZ1.out HZ2.out rfl (by decide) (.slice none 0 0) 0 [] rfl ⟨rfl, .inl ⟨rfl, rfl⟩⟩ ⟨gf, 0, none⟩ ds.length _ (ds.flatMap fvCells) rfl (flat_len fvCells 4 (fun _ => rfl) _) (fun j u hu => below_keeps hV.bel (World.ownsRow.cells HF.out.1 (g := gf) rfl j u hu)) (fvs_one HF.out) hn (by unfold maxLen; omega) (by omega) hV.bel.size _ rfl ?_
      intro g2 cap2 w2 hr2 hg2 ha2 hl2
      rw [List.nil_append, Nat.zero_add] at hr2
      have hnb : ∀ b cs, OwnAt wx b cs 27 → (Value.slice none 0 0).ownBlock ≠ some b := fun b cs _ e => by cases e
      have hbel : Below W.heap.size W w2 := hV.bel.grown hg2 hV.bel.size (fun k e => by cases e)
      go_wp2_with fail
      exact ⟨z8, z20, z21, z22, .slice (some ⟨gf, 0, none⟩) ds.length cf, .slice (some ⟨g2, 0, none⟩) ds.length cap2, z25, z26, z27, z28, ⟨hbel, (fun h j hj => by rw [upd_ne L (show 10 ≠ 4 by decide)] at h; have := hV.ord h 4 (by decide); rw [hl] at this; cases this), (fun _ => by rw [upd_same]), (fun h => hV.c0 (by rwa [upd_ne L (show 0 ≠ 4 by decide)] at h)), (fun h => hV.c1 (by rwa [upd_ne L (show 1 ≠ 4 by decide)] at h)), (fun h => hV.c2 (by rwa [upd_ne L (show 2 ≠ 4 by decide)] at h)), (fun h => hV.c3 (by rwa [upd_ne L (show 3 ≠ 4 by decide)] at h)), (fun _ _ => hr2), (fun h => hV.c5 (by rwa [upd_ne L (show 5 ≠ 4 by decide)] at h)), (fun h => hV.c6 (by rwa [upd_ne L (show 6 ≠ 4 by decide)] at h)), (fun h => by rw [upd_ne L (show 7 ≠ 4 by decide), n7] at h; cases h), (fun h => hV.c8 (by rwa [upd_ne L (show 8 ≠ 4 by decide)] at h)), (fun h => by rw [upd_ne L (show 7 ≠ 4 by decide)]; exact hV.c87 (by rwa [upd_ne L (show 8 ≠ 4 by decide)] at h)), (fun h => by obtain ⟨b, e1, e2, e3⟩ := hV.c9 (by rwa [upd_ne L (show 9 ≠ 4 by decide)] at h); rw [upd_ne L (show 10 ≠ 4 by decide)]; exact ⟨b, e1, e2, e3.low (hg2.block b e3.lt (fun e => hnb b _ e3 e.symm))⟩)⟩, rfl⟩
    · have n10 : L 10 = false := by
        cases h : L 10 with
        | false => rfl
        | true => have := hV.ord h 5 (by decide); rw [hl] at this; cases this
      have HV := Lib.hid hV; have HD := Lib.hid hd; have HL := Lib.hid hl
      refine op_at _ rfl rfl (fun K' hK => ?_)
      conv => arg 2; whnf
      go_wp2_with fail
      exact ⟨z8, z20, z21, z22, z23, z24, .pointer (some ⟨b7, 1, none⟩), z26, z27, z28, ⟨hV.bel, (fun h j hj => by rw [upd_ne L (show 10 ≠ 5 by decide)] at h; have := hV.ord h 5 (by decide); rw [hl] at this; cases this), (fun h => by rw [upd_ne L (show 4 ≠ 5 by decide)]; exact hV.ap (by rwa [upd_ne L (show 7 ≠ 5 by decide)] at h)), (fun h => hV.c0 (by rwa [upd_ne L (show 0 ≠ 5 by decide)] at h)), (fun h => hV.c1 (by rwa [upd_ne L (show 1 ≠ 5 by decide)] at h)), (fun h => hV.c2 (by rwa [upd_ne L (show 2 ≠ 5 by decide)] at h)), (fun h => hV.c3 (by rwa [upd_ne L (show 3 ≠ 5 by decide)] at h)), (fun h h7 => hV.c4 (by rwa [upd_ne L (show 4 ≠ 5 by decide)] at h) (by rwa [upd_ne L (show 7 ≠ 5 by decide)] at h7)), (fun _ => rfl), (fun h => hV.c6 (by rwa [upd_ne L (show 6 ≠ 5 by decide)] at h)), (fun h => hV.c7 (by rwa [upd_ne L (show 7 ≠ 5 by decide)] at h)), (fun h => hV.c8 (by rwa [upd_ne L (show 8 ≠ 5 by decide)] at h)), (fun h => by rw [upd_ne L (show 7 ≠ 5 by decide)]; exact hV.c87 (by rwa [upd_ne L (show 8 ≠ 5 by decide)] at h)), (fun h => by obtain ⟨b, e1, e2, e3⟩ := hV.c9 (by rwa [upd_ne L (show 9 ≠ 5 by decide)] at h); rw [upd_ne L (show 10 ≠ 5 by decide)]; exact ⟨b, e1, e2, e3⟩)⟩, rfl⟩
    · have n10 : L 10 = false := by
        cases h : L 10 with
        | false => rfl
        | true => have := hV.ord h 6 (by decide); rw [hl] at this; cases this
      have d5 : L 5 = true := hd _ rfl ⟨5, .data⟩ (by simp) rfl
      obtain rfl := hV.c5 d5
      have ho7 := h7.old hV.bel
      have x70 := ho7.at 0 _ rfl
      have x71 := ho7.at 1 _ rfl
      have HV := Lib.hid hV; have HD := Lib.hid hd; have HL := Lib.hid hl
      refine op_at _ rfl rfl (fun K' hK => ?_)
      conv => arg 2; whnf
      go_wp2_with fail
      exact ⟨z8, z20, z21, z22, z23, z24, .pointer (some ⟨b7, 1, none⟩), .slice (some ⟨gg, 0, none⟩) es.length cg, z27, z28, ⟨hV.bel, (fun h j hj => by rw [upd_ne L (show 10 ≠ 6 by decide)] at h; have := hV.ord h 6 (by decide); rw [hl] at this; cases this), (fun h => by rw [upd_ne L (show 4 ≠ 6 by decide)]; exact hV.ap (by rwa [upd_ne L (show 7 ≠ 6 by decide)] at h)), (fun h => hV.c0 (by rwa [upd_ne L (show 0 ≠ 6 by decide)] at h)), (fun h => hV.c1 (by rwa [upd_ne L (show 1 ≠ 6 by decide)] at h)), (fun h => hV.c2 (by rwa [upd_ne L (show 2 ≠ 6 by decide)] at h)), (fun h => hV.c3 (by rwa [upd_ne L (show 3 ≠ 6 by decide)] at h)), (fun h h7 => hV.c4 (by rwa [upd_ne L (show 4 ≠ 6 by decide)] at h) (by rwa [upd_ne L (show 7 ≠ 6 by decide)] at h7)), (fun h => hV.c5 (by rwa [upd_ne L (show 5 ≠ 6 by decide)] at h)), (fun _ => rfl), (fun h => hV.c7 (by rwa [upd_ne L (show 7 ≠ 6 by decide)] at h)), (fun h => hV.c8 (by rwa [upd_ne L (show 8 ≠ 6 by decide)] at h)), (fun h => by rw [upd_ne L (show 7 ≠ 6 by decide)]; exact hV.c87 (by rwa [upd_ne L (show 8 ≠ 6 by decide)] at h)), (fun h => by obtain ⟨b, e1, e2, e3⟩ := hV.c9 (by rwa [upd_ne L (show 9 ≠ 6 by decide)] at h); rw [upd_ne L (show 10 ≠ 6 by decide)]; exact ⟨b, e1, e2, e3⟩)⟩, rfl⟩
    · have n10 : L 10 = false := by
        cases h : L 10 with
        | false => rfl
        | true => have := hV.ord h 7 (by decide); rw [hl] at this; cases this
      have d4 : L 4 = true := hd _ rfl ⟨4, .data⟩ (by simp) rfl
      have d6 : L 6 = true := hd _ rfl ⟨6, .data⟩ (by simp) rfl
      obtain rfl := hV.c6 d6
      have hr1 := hV.c4 d4 hl
      have n8 : L 8 = false := by
        cases h : L 8 with
        | false => rfl
        | true => exact absurd (hV.c87 h) (by rw [hl]; decide)
      have HV := Lib.hid hV; have HD := Lib.hid hd; have HL := Lib.hid hl
      refine op_at _ rfl rfl (fun K' hK => ?_)
      conv => arg 2; whnf
      refine wp_append_lies (P := Tryz.prog) wx _ _ 25 rfl W.heap.size 52 i0 _ 4 88 Tryz.underlying25 HI0.out HZ0.out HZ1.out HZ2.out rfl (by decide) z24 ds.length (ds.flatMap fvCells) rfl hr1 ⟨gg, 0, none⟩ es.length _ (es.flatMap fvCells) rfl (flat_len fvCells 4 (fun _ => rfl) _) (fun j u hu => below_keeps hV.bel (World.ownsRow.cells HG.out.1 (g := gg) rfl j u hu)) (fvs_one HG.out) hm (by unfold maxLen; omega) (by omega) hV.bel.size _ rfl ?_
      intro g2 cap2 w2 hr2 hg2 ha2 hl2
      have hnb : ∀ b cs, OwnAt wx b cs 27 → z24.ownBlock ≠ some b := fun b cs ho => row_type hr1 ho (by decide)
      have hbel : Below W.heap.size W w2 := hV.bel.grown hg2 hV.bel.size (fun k e => (World.ownsRow.lt hr1 k e).1)
      go_wp2_with fail
      exact ⟨z8, z20, z21, z22, z23, z24, z25, .slice (some ⟨gg, 0, none⟩) es.length cg, .slice (some ⟨g2, 0, none⟩) (ds.length + es.length) cap2, z28, ⟨hbel, (fun h j hj => by rw [upd_ne L (show 10 ≠ 7 by decide)] at h; have := hV.ord h 7 (by decide); rw [hl] at this; cases this), (fun _ => by rw [upd_ne L (show 4 ≠ 7 by decide)]; exact d4), (fun h => hV.c0 (by rwa [upd_ne L (show 0 ≠ 7 by decide)] at h)), (fun h => hV.c1 (by rwa [upd_ne L (show 1 ≠ 7 by decide)] at h)), (fun h => hV.c2 (by rwa [upd_ne L (show 2 ≠ 7 by decide)] at h)), (fun h => hV.c3 (by rwa [upd_ne L (show 3 ≠ 7 by decide)] at h)), (fun _ h7 => by rw [upd_same] at h7; cases h7), (fun h => hV.c5 (by rwa [upd_ne L (show 5 ≠ 7 by decide)] at h)), (fun h => hV.c6 (by rwa [upd_ne L (show 6 ≠ 7 by decide)] at h)), (fun _ => hr2), (fun h => by rw [upd_ne L (show 8 ≠ 7 by decide), n8] at h; cases h), (fun _ => by rw [upd_same]; decide), (fun h => by obtain ⟨b, e1, e2, e3⟩ := hV.c9 (by rwa [upd_ne L (show 9 ≠ 7 by decide)] at h); rw [n10, if_neg (by decide)] at e3; rw [upd_ne L (show 10 ≠ 7 by decide), n10, if_neg (by decide)]; exact ⟨b, e1, e2, e3.low (hg2.block b e3.lt (fun e => hnb b _ e3 e.symm))⟩)⟩, rfl⟩
    · have n10 : L 10 = false := by
        cases h : L 10 with
        | false => rfl
        | true => have := hV.ord h 8 (by decide); rw [hl] at this; cases this
      have d1 : L 1 = true := hd _ rfl ⟨1, .data⟩ (by simp) rfl
      have d7 : L 7 = true := hd _ rfl ⟨7, .data⟩ (by simp) rfl
      obtain rfl := hV.c1 d1
      have hr7 := hV.c7 d7
      obtain ⟨ra, rk, rc, rfl⟩ := row_shape hr7
      have HV := Lib.hid hV; have HD := Lib.hid hd; have HL := Lib.hid hl
      refine op_at _ rfl rfl (fun K' hK => ?_)
      conv => arg 2; whnf
      go_wp2_with fail
      exact ⟨z8, z20, .slice va1 va2 va3, z22, z23, z24, z25, z26, .slice ra rk rc, .agg #[.slice va1 va2 va3, .slice ra rk rc], ⟨hV.bel, (fun h j hj => by rw [upd_ne L (show 10 ≠ 8 by decide)] at h; have := hV.ord h 8 (by decide); rw [hl] at this; cases this), (fun h => by rw [upd_ne L (show 4 ≠ 8 by decide)]; exact hV.ap (by rwa [upd_ne L (show 7 ≠ 8 by decide)] at h)), (fun h => hV.c0 (by rwa [upd_ne L (show 0 ≠ 8 by decide)] at h)), (fun h => hV.c1 (by rwa [upd_ne L (show 1 ≠ 8 by decide)] at h)), (fun h => hV.c2 (by rwa [upd_ne L (show 2 ≠ 8 by decide)] at h)), (fun h => hV.c3 (by rwa [upd_ne L (show 3 ≠ 8 by decide)] at h)), (fun h h7 => hV.c4 (by rwa [upd_ne L (show 4 ≠ 8 by decide)] at h) (by rwa [upd_ne L (show 7 ≠ 8 by decide)] at h7)), (fun h => hV.c5 (by rwa [upd_ne L (show 5 ≠ 8 by decide)] at h)), (fun h => hV.c6 (by rwa [upd_ne L (show 6 ≠ 8 by decide)] at h)), (fun h => hV.c7 (by rwa [upd_ne L (show 7 ≠ 8 by decide)] at h)), (fun _ => rfl), (fun _ => by rw [upd_ne L (show 7 ≠ 8 by decide), d7]; decide), (fun h => by obtain ⟨b, e1, e2, e3⟩ := hV.c9 (by rwa [upd_ne L (show 9 ≠ 8 by decide)] at h); rw [upd_ne L (show 10 ≠ 8 by decide)]; exact ⟨b, e1, e2, e3⟩)⟩, rfl⟩
    · have n10 : L 10 = false := by
        cases h : L 10 with
        | false => rfl
        | true => have := hV.ord h 9 (by decide); rw [hl] at this; cases this
      have hal : Below wx.heap.size wx (wx.alloc (.cells #[.slice none 0 0, .slice none 0 0] 27)) := (Below.refl _ _).alloc (Nat.le_refl _) _
      have HV := Lib.hid hV; have HD := Lib.hid hd; have HL := Lib.hid hl
      refine op_at _ rfl rfl (fun K' hK => ?_)
      conv => arg 2; whnf
      go_wp2_with fail
      exact ⟨.pointer (some ⟨wx.heap.size, 0, none⟩), z20, z21, z22, z23, z24, z25, z26, z27, z28, ⟨hV.bel.trans (hal.mono hV.bel.size), (fun h j hj => by rw [upd_ne L (show 10 ≠ 9 by decide)] at h; have := hV.ord h 9 (by decide); rw [hl] at this; cases this), (fun h => by rw [upd_ne L (show 4 ≠ 9 by decide)]; exact hV.ap (by rwa [upd_ne L (show 7 ≠ 9 by decide)] at h)), (fun h => hV.c0 (by rwa [upd_ne L (show 0 ≠ 9 by decide)] at h)), (fun h => hV.c1 (by rwa [upd_ne L (show 1 ≠ 9 by decide)] at h)), (fun h => hV.c2 (by rwa [upd_ne L (show 2 ≠ 9 by decide)] at h)), (fun h => hV.c3 (by rwa [upd_ne L (show 3 ≠ 9 by decide)] at h)), (fun h h7 => row_keep (hV.c4 (by rwa [upd_ne L (show 4 ≠ 9 by decide)] at h) (by rwa [upd_ne L (show 7 ≠ 9 by decide)] at h7)) (D := fun _ => True) (fun _ _ => trivial) (BKeeps.below hal)), (fun h => hV.c5 (by rwa [upd_ne L (show 5 ≠ 9 by decide)] at h)), (fun h => hV.c6 (by rwa [upd_ne L (show 6 ≠ 9 by decide)] at h)), (fun h => row_keep (hV.c7 (by rwa [upd_ne L (show 7 ≠ 9 by decide)] at h)) (D := fun _ => True) (fun _ _ => trivial) (BKeeps.below hal)), (fun h => hV.c8 (by rwa [upd_ne L (show 8 ≠ 9 by decide)] at h)), (fun h => by rw [upd_ne L (show 7 ≠ 9 by decide)]; exact hV.c87 (by rwa [upd_ne L (show 8 ≠ 9 by decide)] at h)), (fun _ => ⟨wx.heap.size, rfl, hV.bel.size, by rw [upd_ne L (show 10 ≠ 9 by decide), n10]; exact OwnAt.new wx [.slice none 0 0, .slice none 0 0] _⟩)⟩, rfl⟩
    · have n10 := hl
      have d9 : L 9 = true := hd _ rfl ⟨9, .data⟩ (by simp) rfl
      have d8 : L 8 = true := hd _ rfl ⟨8, .data⟩ (by simp) rfl
      obtain ⟨b, rfl, hb, ho⟩ := hV.c9 d9
      rw [n10, if_neg (by decide)] at ho
      obtain rfl := hV.c8 d8
      have before : ∀ j, j < 10 → L j = true := fun j hj => by
        have hj : j = 0 ∨ j = 1 ∨ j = 2 ∨ j = 3 ∨ j = 4 ∨ j = 5 ∨ j = 6 ∨ j = 7 ∨ j = 8 ∨ j = 9 := by omega
        rcases hj with rfl | rfl | rfl | rfl | rfl | rfl | rfl | rfl | rfl | rfl
        · exact hd _ rfl ⟨0, .phase⟩ (by simp) rfl
        · exact hd _ rfl ⟨1, .phase⟩ (by simp) rfl
        · exact hd _ rfl ⟨2, .phase⟩ (by simp) rfl
        · exact hd _ rfl ⟨3, .phase⟩ (by simp) rfl
        · exact hd _ rfl ⟨4, .phase⟩ (by simp) rfl
        · exact hd _ rfl ⟨5, .phase⟩ (by simp) rfl
        · exact hd _ rfl ⟨6, .phase⟩ (by simp) rfl
        · exact hd _ rfl ⟨7, .phase⟩ (by simp) rfl
        · exact hd _ rfl ⟨8, .data⟩ (by simp) rfl
        · exact hd _ rfl ⟨9, .data⟩ (by simp) rfl
      have hr7 := hV.c7 (before 7 (by decide))
      obtain ⟨ra, rk, rc, rfl⟩ := row_shape hr7
      have hx0 := ho.at 0 _ rfl
      have hx1 := ho.at 1 _ rfl
      have fx0 := ho.fz 0
      have fx1 := ho.fz 1
      have hbl := ho.lt
      have hnr := row_type hr7 ho (by decide)
      have HV := Lib.hid hV; have HD := Lib.hid hd; have HL := Lib.hid hl
      refine op_at _ rfl rfl (fun K' hK => ?_)
      conv => arg 2; whnf
      go_wp2_with fail
      exact ⟨.pointer (some ⟨b, 0, none⟩), z20, z21, z22, z23, z24, z25, z26, .slice ra rk rc, .agg #[.slice va1 va2 va3, .slice ra rk rc], ⟨((hV.bel.setCell (p := ⟨b, 0, none⟩) hb (.slice va1 va2 va3)).setCell (p := ⟨b, 1, none⟩) hb (.slice ra rk rc)), (fun _ j hj => by rw [upd_ne L (show j ≠ 10 by omega)]; exact before j hj), (fun h => by rw [upd_ne L (show 4 ≠ 10 by decide)]; exact hV.ap (by rwa [upd_ne L (show 7 ≠ 10 by decide)] at h)), (fun h => hV.c0 (by rwa [upd_ne L (show 0 ≠ 10 by decide)] at h)), (fun h => hV.c1 (by rwa [upd_ne L (show 1 ≠ 10 by decide)] at h)), (fun h => hV.c2 (by rwa [upd_ne L (show 2 ≠ 10 by decide)] at h)), (fun h => hV.c3 (by rwa [upd_ne L (show 3 ≠ 10 by decide)] at h)), (fun _ h7 => by rw [upd_ne L (show 7 ≠ 10 by decide), before 7 (by decide)] at h7; cases h7), (fun h => hV.c5 (by rwa [upd_ne L (show 5 ≠ 10 by decide)] at h)), (fun h => hV.c6 (by rwa [upd_ne L (show 6 ≠ 10 by decide)] at h)), (fun _ => row_keep (row_keep hr7 (D := (· ≠ b)) (fun k e => by rintro rfl; exact hnr e) (BKeeps.set wx (fun h => h rfl) 0 (.slice va1 va2 va3))) (D := (· ≠ b)) (fun k e => by rintro rfl; exact hnr e) (BKeeps.set _ (fun h => h rfl) 1 (.slice ra rk rc))), (fun h => hV.c8 (by rwa [upd_ne L (show 8 ≠ 10 by decide)] at h)), (fun h => by rw [upd_ne L (show 7 ≠ 10 by decide)]; exact hV.c87 (by rwa [upd_ne L (show 8 ≠ 10 by decide)] at h)), (fun _ => ⟨b, rfl, hb, by rw [upd_same, if_pos rfl]; exact (ho.set 0 (.slice va1 va2 va3)).set 1 (.slice ra rk rc)⟩)⟩, rfl⟩
  · intro L act wx hI hall
    obtain ⟨z8, z20, z21, z22, z23, z24, z25, z26, z27, z28, hV, rfl⟩ := hI
    obtain ⟨b, e1, e2, e3⟩ := hV.c9 (hall 9 (by decide))
    rw [if_pos (hall 10 (by decide))] at e3
    exact hM _ _ (Met.intro (hJ _ _ ⟨z8, z20, z21, z22, z23, z24, z25, z26, z27, z28, ⟨b, z27, e1, e2, e3, hV.c7 (hall 7 (by decide)), hV.bel⟩, rfl⟩))
end Go.Proofs.YtgmaeflfiooigaaGreatDoor

namespace Go.Proofs.YtgmaeflfiooigaaGreatDoor
open Go.RowKit
set_option maxHeartbeats 8000000
set_option maxRecDepth 100000

theorem strOf_app (a b : Bs) : strOf a ++ strOf b = strOf (a ++ b) := by
  apply ByteArray.ext; simp [strOf]
theorem fus_of {D : Nat → Prop} {w : World} {base : Nat} {ps : List FuV} {v : Value} (h : w.ownsRow base 52 4 v ps.length (ps.flatMap fvCells)) (hD : ∀ k, v.ownBlock = some k → D k) (hp : ∀ p, p ∈ ps → FuParts D w p) (hf : Fits ps.length) : FusAt D w (ps.map (·.x)) v := by
  have hl : (ps.map (·.x)).length = ps.length := List.length_map _
  rcases h.2 with ⟨rfl, hz⟩ | ⟨g, cap, cur, rfl, hb, hg, hc, hm, hs, ht⟩
  · have : ps = [] := List.length_eq_zero_iff.1 hz
    subst this; exact FusAt.zero
  · let z : FuV := ⟨Fu.nil, undef, undef, undef⟩
    refine ⟨some ⟨g, 0, none⟩, cap, g, 0, (fun i => (ps.getD i z).p), (fun i => (ps.getD i z).l), (fun i => (ps.getD i z).b), by rw [hl], by rw [hl]; exact hc, by rw [hl]; exact hf, .inr ⟨rfl, hD g rfl⟩, fun i hi => ?_⟩
    rw [hl] at hi
    obtain ⟨p, hp1, hx, hm⟩ : ∃ p, ps[i]? = some p ∧ fuAt (ps.map (·.x)) i = p.x ∧ p ∈ ps := ⟨ps[i], List.getElem?_eq_getElem hi, by simp [fuAt, List.getElem?_eq_getElem hi], List.getElem_mem hi⟩
    have sv : ps.getD i z = p := by rw [List.getD_eq_getElem?_getD, hp1]; rfl
    rw [hx]
    dsimp only
    rw [sv]
    have cell : ∀ q u, q < 4 → (fvCells p)[q]? = some u → w.cell? ⟨g, 0 + i * 4 + q, none⟩ = some u := by
      intro q u hq hu
      have h1 := row_cells h (i * 4 + q) u (by rw [flat_at fvCells 4 (fun _ => rfl) ps i q p hp1 hq]; exact hu)
      rwa [show 0 + (i * 4 + q) = 0 + i * 4 + q by omega] at h1
    obtain ⟨h1, h2, ls, h3, h4, h5⟩ := hp p hm
    have h6 := h5.sts (show ls.length ≤ 140737488355328 by omega)
    rw [h3] at h6
    exact ⟨⟨cell 0 _ (by decide) rfl, cell 1 _ (by decide) rfl, cell 2 _ (by decide) rfl, cell 3 _ (by decide) rfl⟩, h1, h2, h6⟩
/-- What is there of a program: below a bound. -/
structure PrOld (w : World) (p : Pr) (n : Nat) (va vf : Value) (ds : List FuV) : Prop where
  ars : ArsAt (· < n) w p.arrays va
  own : w.ownsRow 0 52 4 vf ds.length (ds.flatMap fvCells)
  eq : ds.map (·.x) = p.funcs
  len : ds.length ≤ 3
  lt : ∀ q, q ∈ ds → FuParts (fun b => b < n ∧ vf.ownBlock ≠ some b) w q
  row : ∀ k, vf.ownBlock = some k → k < n
theorem PrOld.fus {w : World} {p : Pr} {n : Nat} {va vf : Value} {ds : List FuV} (h : PrOld w p n va vf ds) : FusAt (· < n) w p.funcs vf := by
  have q := fus_of h.own h.row (fun q hq => (h.lt q hq).mono (fun b hb _ => hb.1)) (show ds.length ≤ 140737488355328 by have := h.len; omega)
  rwa [h.eq] at q
theorem PrOld.fo {w : World} {p : Pr} {n : Nat} {va vf : Value} {ds : List FuV} (h : PrOld w p n va vf ds) : FusOwn w 0 ds vf := ⟨h.own, fun q hq => (h.lt q hq).mono (fun b hb _ => ⟨Nat.zero_le _, hb.2⟩)⟩
theorem PrOld.keep {w w' : World} {p : Pr} {n : Nat} {va vf : Value} {ds : List FuV} (h : PrOld w p n va vf ds) (hk : ∀ k, k < n → k < w.heap.size → w'.heap[k]? = w.heap[k]?) (hz : w.heap.size ≤ w'.heap.size) : PrOld w' p n va vf ds :=
  have hb : BKeeps (· < n) w w' := fun k hk' hl => hk k hk' hl
  ⟨h.ars.keep hb.keeps, row_keep h.own h.row hb, h.eq, h.len, fun q hq => (h.lt q hq).keep (hb.mono (fun b hb => hb.1)) hz, h.row⟩
theorem PrOld.up {w : World} {p : Pr} {n m : Nat} {va vf : Value} {ds : List FuV} (h : PrOld w p n va vf ds) (hn : n ≤ m) : PrOld w p m va vf ds :=
  ⟨h.ars.mono (fun b hb => Nat.lt_of_lt_of_le hb hn), h.own, h.eq, h.len, fun q hq => (h.lt q hq).mono (fun b hb _ => ⟨Nat.lt_of_lt_of_le hb.1 hn, hb.2⟩), fun k e => Nat.lt_of_lt_of_le (h.row k e) hn⟩
theorem PrOld.old {w w' : World} {p : Pr} {n : Nat} {va vf : Value} {ds : List FuV} (h : PrOld w p n va vf ds) (hb : Below w.heap.size w w') : PrOld w' p n va vf ds := h.keep (fun k _ hl => hb.block k hl) hb.size
theorem PrOld.of {w w' : World} {p : Pr} {va vf : Value} {ds : List FuV} (ha : ArsAt (w.heap.size ≤ ·) w' p.arrays va) (hds : ds.map (·.x) = p.funcs) (hl : ds.length ≤ 3) (hf : FusOwn w' w.heap.size ds vf) : PrOld w' p w'.heap.size va vf ds :=
  ⟨ha.strong.mono (fun b hb => hb.2), row_base hf.1 (fun _ _ => Nat.zero_le _), hds, hl, fun q hq => (hf.2 q hq).mono (fun b hb hl => ⟨hl, hb.2⟩), fun k e => (hf.ge e).2⟩
theorem both_fus {w3 w4 : World} {p q : Pr} {n : Nat} {va vf ua uf v : Value} {ds es : List FuV} (hp : PrOld w4 p n va vf ds) (hq : PrOld w4 q n ua uf es) (hn : n ≤ w3.heap.size) (hrow : w4.ownsRow w3.heap.size 52 4 v (ds.length + es.length) (ds.flatMap fvCells ++ es.flatMap fvCells)) {D : Nat → Prop} (hD : ∀ b, b < n → D b) (hv : ∀ k, v.ownBlock = some k → D k) : FusAt D w4 (bothOf p q).funcs v := by
  have h1 : w4.ownsRow w3.heap.size 52 4 v (ds ++ es).length ((ds ++ es).flatMap fvCells) := by rw [List.length_append, List.flatMap_append]; exact hrow
  have q := fus_of h1 hv (fun x hx => by
    rcases List.mem_append.1 hx with hx | hx
    · exact (hp.lt x hx).mono (fun b hb _ => hD b hb.1)
    · exact (hq.lt x hx).mono (fun b hb _ => hD b hb.1)) (show (ds ++ es).length ≤ 140737488355328 by have := hp.len; have := hq.len; rw [List.length_append]; omega)
  rw [List.map_append, hp.eq, hq.eq] at q
  exact q
theorem sizes_any (one two : List Int) (v0 v1 : Value) (w : World) (h0 : RawAt (· < w.heap.size) w one v0) (h1 : RawAt (· < w.heap.size) w two v1) (hg : 3 < w.heap.size) (ht : TabOk w) :
    Calls Tryz.prog 6 #[v0, v1] w fun e w' => e = .returned (.bool true) ∧ Below w.heap.size w w' := by
  obtain ⟨s0, s1, rfl⟩ := h0.shape
  obtain ⟨t0, t1, rfl⟩ := h1.shape
  have pr := gProg_right one false
  have qr := gProg_right two false
  obtain ⟨br, rr⟩ := both_right pr qr
  have pl := gProg_len one false
  have ql := Nat.le_trans (bare_len (gProg two false)) (gProg_len two false)
  have pc := gProg_counts one false
  have qc := gProg_counts two false
  have pn := prText_ne (p := gProg one false) pc.2.2
  have qn := prText_ne (p := bareOf (gProg two false)) qc.2.2
  have bn := prText_ne (p := bothOf (gProg one false) (gProg two false)) (show 0 < ((gProg one false).funcs ++ (gProg two false).funcs).length by rw [List.length_append]; omega)
  have hfit := prB_fits
  have bl : (prText (bothOf (gProg one false) (gProg two false))).length ≤ 2 * prB := by rw [both_text, List.length_append]; omega
  have c1 := prCount_len pr
  have c2 := prCount_len rr
  have hbt := both_text (gProg one false) (gProg two false)
  have hbc := both_count (gProg one false) (gProg two false)
  generalize prB = B at *
  have HG := Lib.hid hg; have HT := Lib.hid ht; have H0 := Lib.hid h0; have H1 := Lib.hid h1
  have HP := Lib.hid (fun w1 h => prog_any one false (.slice s0 one.length s1) w1 h); have HQ := Lib.hid (fun w1 h => prog_any two false (.slice t0 two.length t1) w1 h)
  generalize gProg one false = p at *
  generalize gProg two false = q at *
  have PCN := Lib.hid pc.2.2; have QCN := Lib.hid qc.2.2
  have PR := Lib.hid pr; have RR := Lib.hid rr; have BR := Lib.hid br; have PN := Lib.hid pn; have QN := Lib.hid qn; have BN := Lib.hid bn
  have PL : Hid (Fits (prText p).length) := by show _ ≤ _; omega
  have QL : Hid (Fits (prText (bareOf q)).length) := by show _ ≤ _; omega
  have BL : Hid (Fits (prText (bothOf p q)).length) := by show _ ≤ _; omega
  have PS : Hid (Small (prCount p)) := by show _ ≤ _; omega
  have QS : Hid (Small (prCount (bareOf q))) := by show _ ≤ _; omega
  have BS : Hid (Small (prCount (bothOf p q))) := by show _ ≤ _; omega
  have HBT := Lib.hid hbt; have HBC := Lib.hid hbc
  have hc1 : (prCount p : Int) ≤ 140737488355328 := by omega
  have hc2 : (prCount (bareOf q) : Int) ≤ 140737488355328 := by omega
  have hc1' : (0 : Int) ≤ (prCount p : Int) := by omega
  have hc2' : (0 : Int) ≤ (prCount (bareOf q) : Int) := by omega
  clear pr qr br rr pl ql pc qc pn qn bn hfit bl c1 c2 hbt hbc hg ht h0 h1
  go_enter Tryz.func6, Tryz.ntmps6
  go_wp2_with fail
  refine (awake_any w HG.out HT.out).mono ?_
  rintro r w1 ⟨rfl, hb1⟩
  have HB1 := Lib.hid hb1
  have HT1 : Hid (TabOk w1) := HT.out.keep (hb1.block _ HG.out)
  have HG1 : Hid (3 < w1.heap.size) := Nat.lt_of_lt_of_le HG.out hb1.size
  clear hb1
  go_wp2_with fail
  refine (HP.out w1 (H0.out.old HB1.out)).mono ?_
  rintro r w2 ⟨va, vf, ds, rfl, hb2, ha2, hds, hd3, hf2⟩
  obtain ⟨a1, a2, rfl⟩ := ha2.shape
  obtain ⟨f1, f2, rfl⟩ := hf2.shape
  have hdn : 0 < ds.length := by have := congrArg List.length hds; rw [List.length_map] at this; have := PCN.out; omega
  have HO2 := Lib.hid (PrOld.of ha2 hds hd3 hf2)
  have HB2 := Lib.hid (HB1.out.trans (hb2.mono HB1.out.size))
  have HT2 : Hid (TabOk w2) := HT1.out.keep (hb2.block _ HG1.out)
  have HG2 : Hid (3 < w2.heap.size) := Nat.lt_of_lt_of_le HG1.out hb2.size
  have hbA : Below w2.heap.size w2 (w2.alloc (.cells #[.slice a1 p.arrays.length a2, .slice f1 ds.length f2] 27)) := (Below.refl _ _).alloc (Nat.le_refl _) _
  have HO2' := Lib.hid (HO2.out.old hbA)
  have HE6 := Lib.hid (OwnAt.new w2 [.slice a1 p.arrays.length a2, .slice f1 ds.length f2] 27)
  have HB2' := Lib.hid (HB2.out.trans (hbA.mono HB2.out.size))
  have HT2' : Hid (TabOk (w2.alloc (.cells #[.slice a1 p.arrays.length a2, .slice f1 ds.length f2] 27))) := HT2.out.keep (hbA.block _ HG2.out)
  have HDN := Lib.hid hdn
  clear hb2 ha2 hds hd3 hf2 hbA HT1 HG1 HO2 HB1 HP hdn HT2
  go_wp2_with fail
  refine (HQ.out _ (H1.out.old HB2'.out)).mono ?_
  rintro r w3 ⟨ua, uf, es, rfl, hb3, ha3, hes, he3, hf3⟩
  obtain ⟨d1, d2, rfl⟩ := ha3.shape
  obtain ⟨g1, g2, rfl⟩ := hf3.shape
  have hen : 0 < es.length := by have := congrArg List.length hes; rw [List.length_map] at this; have := QCN.out; omega
  have hz2 : w2.heap.size + 1 ≤ w3.heap.size := by have := hb3.size; simpa using this
  have HQ3 := Lib.hid (PrOld.of ha3 hes he3 hf3)
  have HP3 := HO2'.out.old hb3
  have HB3 := Lib.hid (HB2'.out.trans (hb3.mono HB2'.out.size))
  have HT3 : Hid (TabOk w3) := HT2'.out.keep (hb3.block _ (by have := HG2.out; simp; omega))
  have HG3 : Hid (3 < w3.heap.size) := by show _ < _; have := HG2.out; omega
  have hbC : Below w3.heap.size w3 (w3.alloc (.cells #[.slice d1 q.arrays.length d2, .slice g1 es.length g2] 27)) := (Below.refl _ _).alloc (Nat.le_refl _) _
  have HEN := Lib.hid hen
  have HE7 := Lib.hid (OwnAt.new w3 [.slice d1 q.arrays.length d2, .slice g1 es.length g2] 27)
  have HE6' := Lib.hid ((HE6.out.old hb3).old hbC)
  have HPC := Lib.hid (HP3.old hbC); have HQC := Lib.hid (HQ3.out.old hbC)
  have HBC' := Lib.hid (HB3.out.trans (hbC.mono HB3.out.size))
  have HTC : Hid (TabOk (w3.alloc (.cells #[.slice d1 q.arrays.length d2, .slice g1 es.length g2] 27))) := HT3.out.keep (hbC.block _ HG3.out)
  clear hb3 ha3 hes he3 hf3 hbC HP3 HQ3 HO2' HB2' HT2' HQ hen HE6 HT3
  go_upto_region 4 with (fail)
  generalize hWC : w3.alloc (.cells #[.slice d1 q.arrays.length d2, .slice g1 es.length g2] 27) = WC at *
  have hWz : WC.heap.size = w3.heap.size + 1 := by rw [← hWC]; simp
  clear hWC
  have HWZ := Lib.hid hWz
  clear hWz
  refine wp_cut (fun a' w' => RSz w2.heap.size w3.heap.size (.slice a1 p.arrays.length a2) (.slice f1 ds.length f2) (.slice d1 q.arrays.length d2) (.slice g1 es.length g2) ds es WC _ _ _ _ _ _ _ _ _ _ _ _ _ _ _ _ _ _ _ _ _ _ _ _ _ _ _ _ _ _ _ _ _ _ _ _ _ _ _ _ _ _ _ _ _ _ _ _ _ _ _ _ _ _ _ _ _ _ _ _ _ _ _ a' w') ?rest (fun J K' hJ hM => then_any (sz_reg4 w2.heap.size w3.heap.size (.slice a1 p.arrays.length a2) (.slice f1 ds.length f2) (.slice d1 q.arrays.length d2) (.slice g1 es.length g2) ds es WC HE6'.out HE7.out 0 0 HPC.out.fo HQC.out.fo HDN.out HEN.out HPC.out.len HQC.out.len ⟨_, _, _, rfl⟩ _ _ _ _ _ _ _ _ _ _ _ _ _ _ _ _ _ _ _ _ _ _ _ _ _ _ _ _ _ _ _ _ _ _ _ _ _ _ _ _ _ _ _ _ _ _ _ _ _ _ _ _ _ _ _ _ _ _ _ _ _ _ _ _ _ _ _ _ _ _ _ _ _ J K' hJ hM))
  case rest =>
  intro a' w4 hT
  obtain ⟨z8, hT⟩ := hT
  obtain ⟨z20, hT⟩ := hT
  obtain ⟨z21, hT⟩ := hT
  obtain ⟨z22, hT⟩ := hT
  obtain ⟨z23, hT⟩ := hT
  obtain ⟨z24, hT⟩ := hT
  obtain ⟨z25, hT⟩ := hT
  obtain ⟨z26, hT⟩ := hT
  obtain ⟨z27, hT⟩ := hT
  obtain ⟨z28, hT⟩ := hT
  obtain ⟨⟨b8, v, e1, hb8, ho8, hrow, hb4⟩, ha'⟩ := hT
  subst ha'
  subst e1
  obtain ⟨ra, rk, rc, rfl⟩ := row_shape hrow
  have hz4 := hb4.size
  have hwz := HWZ.out
  have hown : ∀ k, (Value.slice ra rk rc).ownBlock = some k → k ≠ w3.heap.size := fun k e => by have := (World.ownsRow.lt hrow k e).1; omega
  have hP4 := (HPC.out.old hb4).up (m := w3.heap.size) (by omega)
  have hQ4 := HQC.out.old hb4
  have hbf := both_fus (w3 := WC) hP4 hQ4 (by omega) hrow (D := (· ≠ w3.heap.size)) (fun b hb => Nat.ne_of_lt hb) hown
  have h64 := HE6'.out.old hb4
  have h74 := HE7.out.old hb4
  have hBel4 := HBC'.out.trans (hb4.mono HBC'.out.size)
  have hwsz : w.heap.size ≤ w3.heap.size := HB3.out.size
  have hT4 : TabOk w4 := HTC.out.keep (hb4.block _ (by have := HG3.out; omega))
  have x70' := h74.at 0 _ rfl
  have fx70 := h74.fz 0
  have h7l := h74.lt
  have H6 := Lib.hid (h64.other (show w2.heap.size ≠ w3.heap.size by omega) 0 (.slice none 0 0))
  have H7 := Lib.hid (h74.set 0 (.slice none 0 0))
  have H8 := Lib.hid (ho8.other (show b8 ≠ w3.heap.size by omega) 0 (.slice none 0 0))
  have HP5 := Lib.hid (hP4.keep (w' := w4.setCell ⟨w3.heap.size, 0, none⟩ (.slice none 0 0)) (fun k h1 h2 => Below.heap_setCell _ _ _ _ (by show k ≠ w3.heap.size; omega)) (by simp [World.setCell]))
  have HQ5 := Lib.hid (hQ4.keep (w' := w4.setCell ⟨w3.heap.size, 0, none⟩ (.slice none 0 0)) (fun k h1 h2 => Below.heap_setCell _ _ _ _ (by show k ≠ w3.heap.size; omega)) (by simp [World.setCell]))
  have HF5 := Lib.hid (FusAt.keep (keeps_set w4 (fun h => h rfl) 0 (.slice none 0 0)) hbf)
  have HB5 := Lib.hid (hBel4.setCell (p := ⟨w3.heap.size, 0, none⟩) (by show w.heap.size ≤ w3.heap.size; omega) (.slice none 0 0))
  have HT5 : Hid (TabOk (w4.setCell ⟨w3.heap.size, 0, none⟩ (.slice none 0 0))) := hT4.keep (Below.heap_setCell _ _ _ _ (by show 3 ≠ w3.heap.size; have := HG3.out; omega))
  have hz5 : w3.heap.size < (w4.setCell ⟨w3.heap.size, 0, none⟩ (.slice none 0 0)).heap.size := by simp [World.setCell]; omega
  have HZ5 := Lib.hid hz5
  have HG5 : Hid (3 < w3.heap.size) := HG3.out
  clear hz4 hwz hown hP4 hQ4 hbf h64 h74 hBel4 hwsz hT4 hrow hb4 ho8 HPC HQC HE6' HE7 HBC' HB3 HTC HG3 HWZ hz5
  go_upto_region 6 with (fail)
  generalize w4.setCell ⟨w3.heap.size, 0, none⟩ (.slice none 0 0) = W5 at *
  clear x70' fx70 h7l
  have y0 := H6.out.at 0 _ rfl
  have y1 := H6.out.at 1 _ rfl
  have yl := H6.out.lt
  go_wp2_with fail
  refine (print_good p _ _ W5 (by have := HG5.out; have := HZ5.out; omega) HT5.out (HP5.out.ars.mono (fun b hb => by have := HZ5.out; have : b < w3.heap.size := hb; omega)) (HP5.out.fus.mono (fun b hb => by have := HZ5.out; have : b < w3.heap.size := hb; omega)) PR.out PN.out PL.out).mono ?_
  rintro r w6 ⟨rfl, hbn⟩
  have H6n := Lib.hid (H6.out.old hbn); have H7n := Lib.hid (H7.out.old hbn); have H8n := Lib.hid (H8.out.old hbn)
  have HPn := Lib.hid (HP5.out.old hbn); have HQn := Lib.hid (HQ5.out.old hbn); have HFn := Lib.hid (FusAt.old hbn HF5.out)
  have HBn := Lib.hid (HB5.out.trans (hbn.mono HB5.out.size))
  have HTn : Hid (TabOk w6) := HT5.out.keep (hbn.block _ (by have := HG5.out; have := HZ5.out; omega))
  have HZn : Hid (w3.heap.size < w6.heap.size) := Nat.lt_of_lt_of_le HZ5.out hbn.size
  clear hbn y0 y1 yl H6 H7 H8 HP5 HQ5 HF5 HB5 HT5 HZ5
  have H6 := Lib.hid H6n.out; have H7 := Lib.hid H7n.out; have H8 := Lib.hid H8n.out; have HP5 := Lib.hid HPn.out; have HQ5 := Lib.hid HQn.out; have HF5 := Lib.hid HFn.out; have HB5 := Lib.hid HBn.out; have HT5 := Lib.hid HTn.out; have HZ5 := Lib.hid HZn.out
  clear H6n H7n H8n HPn HQn HFn HBn HTn HZn
  have y0 := H7.out.at 0 _ rfl
  have y1 := H7.out.at 1 _ rfl
  have yl := H7.out.lt
  go_wp2_with fail
  refine (print_good (bareOf q) _ _ w6 (by have := HG5.out; have := HZ5.out; omega) HT5.out ArsAt.zero (HQ5.out.fus.mono (fun b hb => by have := HZ5.out; have : b < w3.heap.size := hb; omega)) RR.out QN.out QL.out).mono ?_
  rintro r w7 ⟨rfl, hbn⟩
  have H6n := Lib.hid (H6.out.old hbn); have H7n := Lib.hid (H7.out.old hbn); have H8n := Lib.hid (H8.out.old hbn)
  have HPn := Lib.hid (HP5.out.old hbn); have HQn := Lib.hid (HQ5.out.old hbn); have HFn := Lib.hid (FusAt.old hbn HF5.out)
  have HBn := Lib.hid (HB5.out.trans (hbn.mono HB5.out.size))
  have HTn : Hid (TabOk w7) := HT5.out.keep (hbn.block _ (by have := HG5.out; have := HZ5.out; omega))
  have HZn : Hid (w3.heap.size < w7.heap.size) := Nat.lt_of_lt_of_le HZ5.out hbn.size
  clear hbn y0 y1 yl H6 H7 H8 HP5 HQ5 HF5 HB5 HT5 HZ5
  have H6 := Lib.hid H6n.out; have H7 := Lib.hid H7n.out; have H8 := Lib.hid H8n.out; have HP5 := Lib.hid HPn.out; have HQ5 := Lib.hid HQn.out; have HF5 := Lib.hid HFn.out; have HB5 := Lib.hid HBn.out; have HT5 := Lib.hid HTn.out; have HZ5 := Lib.hid HZn.out
  clear H6n H7n H8n HPn HQn HFn HBn HTn HZn
  have y0 := H8.out.at 0 _ rfl
  have y1 := H8.out.at 1 _ rfl
  have yl := H8.out.lt
  go_wp2_with fail
  refine (print_good (bothOf p q) _ _ w7 (by have := HG5.out; have := HZ5.out; omega) HT5.out (HP5.out.ars.mono (fun b hb => by have := HZ5.out; have : b < w3.heap.size := hb; omega)) ((FusAt.strong HF5.out).mono (fun b hb => hb.2)) BR.out BN.out BL.out).mono ?_
  rintro r w8 ⟨rfl, hbn⟩
  have H6n := Lib.hid (H6.out.old hbn); have H7n := Lib.hid (H7.out.old hbn); have H8n := Lib.hid (H8.out.old hbn)
  have HPn := Lib.hid (HP5.out.old hbn); have HQn := Lib.hid (HQ5.out.old hbn); have HFn := Lib.hid (FusAt.old hbn HF5.out)
  have HBn := Lib.hid (HB5.out.trans (hbn.mono HB5.out.size))
  have HTn : Hid (TabOk w8) := HT5.out.keep (hbn.block _ (by have := HG5.out; have := HZ5.out; omega))
  have HZn : Hid (w3.heap.size < w8.heap.size) := Nat.lt_of_lt_of_le HZ5.out hbn.size
  clear hbn y0 y1 yl H6 H7 H8 HP5 HQ5 HF5 HB5 HT5 HZ5
  have H6 := Lib.hid H6n.out; have H7 := Lib.hid H7n.out; have H8 := Lib.hid H8n.out; have HP5 := Lib.hid HPn.out; have HQ5 := Lib.hid HQn.out; have HF5 := Lib.hid HFn.out; have HB5 := Lib.hid HBn.out; have HT5 := Lib.hid HTn.out; have HZ5 := Lib.hid HZn.out
  clear H6n H7n H8n HPn HQn HFn HBn HTn HZn
  have x60 := H6.out.at 0 _ rfl
  have x61 := H6.out.at 1 _ rfl
  have x70 := H7.out.at 0 _ rfl
  have x71 := H7.out.at 1 _ rfl
  have x80 := H8.out.at 0 _ rfl
  have x81 := H8.out.at 1 _ rfl
  have hB0 : Below w8.heap.size w8 w8.drew := (Below.refl _ _).drew
  have l6 := H6.out.lt; have l7 := H7.out.lt; have l8 := H8.out.lt
  have HC8 : Hid (∀ w1, Below w8.heap.size w8 w1 → Calls Tryz.prog 18 #[.agg #[.slice a1 p.arrays.length a2, .slice ra rk rc]] w1 (fun e w' => e = .returned (.int .i64 ((prCount p : Int) + (prCount (bareOf q) : Int))) ∧ Below w8.heap.size w8 w')) := fun w1 h => by
    have := (sizePr_any (bothOf p q) (fun _ => True) _ _ w1 ((HP5.out.ars.old h).mono (fun _ _ => trivial)) ((FusAt.old h HF5.out).mono (fun _ _ => trivial)) BS.out).mono (fun e w' (hh : e = _ ∧ _) => (⟨hh.1, h.trans (hh.2.mono h.size)⟩ : e = _ ∧ Below w8.heap.size w8 w'))
    rw [HBC.out, Int.natCast_add] at this; exact this
  have HC6 : Hid (∀ w1, Below w8.heap.size w8 w1 → Calls Tryz.prog 18 #[.agg #[.slice a1 p.arrays.length a2, .slice f1 ds.length f2]] w1 (fun e w' => e = .returned (.int .i64 (prCount p : Int)) ∧ Below w8.heap.size w8 w')) := fun w1 h =>
    (sizePr_any p (fun _ => True) _ _ w1 ((HP5.out.ars.old h).mono (fun _ _ => trivial)) ((FusAt.old h HP5.out.fus).mono (fun _ _ => trivial)) PS.out).mono (fun e w' hh => ⟨hh.1, h.trans (hh.2.mono h.size)⟩)
  have HC7 : Hid (∀ w1, Below w8.heap.size w8 w1 → Calls Tryz.prog 18 #[.agg #[.slice none 0 0, .slice g1 es.length g2]] w1 (fun e w' => e = .returned (.int .i64 (prCount (bareOf q) : Int)) ∧ Below w8.heap.size w8 w')) := fun w1 h =>
    (sizePr_any (bareOf q) (fun _ => True) _ _ w1 ArsAt.zero ((FusAt.old h HQ5.out.fus).mono (fun _ _ => trivial)) QS.out).mono (fun e w' hh => ⟨hh.1, h.trans (hh.2.mono h.size)⟩)
  have hsum : IntKind.i64.wrap ((prCount p : Int) + (prCount (bareOf q) : Int)) = (prCount p : Int) + (prCount (bareOf q) : Int) := IntWalk.i64_in _ (by omega)
  have HCAT := Lib.hid (strOf_app (prText p) (prText (bareOf q)))
  have hln : (prText p).length + (prText (bareOf q)).length ≤ 9223372036854775807 := by have h1 := PL.out.out; have h2 := QL.out.out; omega
  have hln2 : ((prText p).length : Int) + ((prText (bareOf q)).length : Int) ≤ 9223372036854775807 := by omega
  generalize (prCount p : Int) = cp at *
  generalize (prCount (bareOf q) : Int) = cq at *
  generalize prText (bareOf q) = tq at *
  generalize prText p = tp at *
  go_wp2_with fail
  have hn1 : ((9223372036854775807 : Int) < (tp.length : Int) + (tq.length : Int)) = False := eq_false (by omega)
  have hn2 : ((9223372036854775807 : Int) < ((tp.length + tq.length : Nat) : Int)) = False := eq_false (by omega)
  have hn3 : (9223372036854775807 < tp.length + tq.length) = False := eq_false (by omega)
  go_region_held3 (fun w' => w'.cell? ⟨w2.heap.size, 0, none⟩ = some (.slice a1 p.arrays.length a2) ∧ w'.cell? ⟨w2.heap.size, 1, none⟩ = some (.slice f1 ds.length f2) ∧ w'.cell? ⟨w3.heap.size, 0, none⟩ = some (.slice none 0 0) ∧ w'.cell? ⟨w3.heap.size, 1, none⟩ = some (.slice g1 es.length g2) ∧ w'.cell? ⟨b8, 0, none⟩ = some (.slice a1 p.arrays.length a2) ∧ w'.cell? ⟨b8, 1, none⟩ = some (.slice ra rk rc)) (first | (simp [*]; done) | go_keep) (first
    | (go_at_call 18; (with_reducible refine (HC8.out _ (by assumption)).mono ?_); rintro r w9 ⟨he, hB9⟩; subst he; have k60 := below_keeps hB9 x60; have k61 := below_keeps hB9 x61; have k70 := below_keeps hB9 x70; have k71 := below_keeps hB9 x71; have k80 := below_keeps hB9 x80; have k81 := below_keeps hB9 x81)
    | (go_at_call 18; (with_reducible refine (HC6.out _ (by assumption)).mono ?_); rintro r w9 ⟨he, hB9⟩; subst he; have k60 := below_keeps hB9 x60; have k61 := below_keeps hB9 x61; have k70 := below_keeps hB9 x70; have k71 := below_keeps hB9 x71; have k80 := below_keeps hB9 x80; have k81 := below_keeps hB9 x81)
    | (go_at_call 18; (with_reducible refine (HC7.out _ (by assumption)).mono ?_); rintro r w9 ⟨he, hB9⟩; subst he; have k60 := below_keeps hB9 x60; have k61 := below_keeps hB9 x61; have k70 := below_keeps hB9 x70; have k71 := below_keeps hB9 x71; have k80 := below_keeps hB9 x80; have k81 := below_keeps hB9 x81))
  all_goals
    have HB9 := Lib.hid hB9
    clear hB9
    go_wp2_with fail
    go_ret
    exact ⟨by rw [HBT.out, HCAT.out]; simp, HB5.out.trans (HB9.out.mono HB5.out.size)⟩
end Go.Proofs.YtgmaeflfiooigaaGreatDoor
