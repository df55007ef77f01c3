/-
  scope.expr: a raw expression: an array's word. Conditions: the source and the scope lie in memory as the types say.
  scope.expr: a raw expression: an operator of two. Conditions: the source and the scope lie in memory as the types say.
-/
import Derived.Test.YtcfpfnoldgnloaaGreatDoorPn24
set_option linter.unusedVariables false
set_option linter.unusedSimpArgs false
namespace Go.Proofs.YtcfpfnoldgnloaaGreatDoor
open Go.RowKit
set_option maxHeartbeats 4000000
set_option maxRecDepth 100000
@[go_sem] theorem field_ar0 (a b : Value) (w : World) : (Instr.field 85 (.agg #[a, b]) 0).run Tryz.prog w = .ok a w := by kernel_rfl

theorem ge_index (d : Nat) (hd : 2 ≤ d) (hd1 : d ≤ 1000) (s : Nat) (raw : List Int) (a : Nat) (sc : Sc) (vv av fv : Value) (w : World) (hs : SrcAt w s raw a) (hsc : ScAt s w sc vv av fv) (k : Int) (hkk : gK raw d a = k) (hk : k = 5) (hA : sc.hasArrays = true) (ih : ExprTake (d - 1)) :
    Calls Tryz.prog 31 #[scV sc vv av fv, .pointer (some ⟨s, 0, none⟩), .int .i64 d] w (GivesEx w s raw (gKind sc raw (gExpr sc raw (d - 1)) k (gNext raw a 12).2)) := by
  obtain ⟨v1, v2, rfl⟩ := hsc.vars.shape
  obtain ⟨a1, a2, rfl⟩ := hsc.arrays.shape
  obtain ⟨f1, f2, rfl⟩ := hsc.funcs.shape
  have lv := hsc.v1; have la := hsc.a1; have lf := hsc.f1
  have hsl := hs.lt
  have HK : Hid (∀ w1, SrcAt w1 s raw a → Calls Tryz.prog 37 #[.pointer (some ⟨s, 0, none⟩), .int .i64 12] w1 (Takes w1 s raw (.int .i64 (gNext raw a 12).1) (gNext raw a 12).2)) := fun w1 h1 => next_any s raw a 12 w1 h1 (by decide) (by decide)
  have hr := gNext_range raw a 12 (by decide)
  unfold gK at hkk
  rw [if_neg (by omega)] at hkk
  generalize gNext raw a 12 = g at *
  obtain ⟨g, ga⟩ := g
  obtain ⟨g0, g1⟩ := hr
  dsimp only at g0 g1 hkk HK ⊢
  replace hkk := hkk.symm
  subst hkk
  have hb1 : Below w.heap.size w ((w.alloc (.cells #[.slice v1 sc.vars.length v2, .slice a1 sc.arrays.length a2, .slice f1 sc.funcs.length f2, .bool sc.free, .bool sc.loop] 73)).alloc (.cells #[.int .i64 0, .int .i64 0, .int .i64 0, .string ⟨#[]⟩, .slice none 0 0] 27)) := ((Below.refl _ _).alloc (Nat.le_refl _) _).alloc (by simp) _
  have hr1 := OwnAt.new (w.alloc (.cells #[.slice v1 sc.vars.length v2, .slice a1 sc.arrays.length a2, .slice f1 sc.funcs.length f2, .bool sc.free, .bool sc.loop] 73)) [.int .i64 0, .int .i64 0, .int .i64 0, .string ⟨#[]⟩, .slice none 0 0] 27
  rw [show (w.alloc (.cells #[.slice v1 sc.vars.length v2, .slice a1 sc.arrays.length a2, .slice f1 sc.funcs.length f2, .bool sc.free, .bool sc.loop] 73)).heap.size = w.heap.size + 1 by simp] at hr1
  have HC := Lib.hid ((OwnAt.new w [.slice v1 sc.vars.length v2, .slice a1 sc.arrays.length a2, .slice f1 sc.funcs.length f2, .bool sc.free, .bool sc.loop] 73).alloc (.cells #[.int .i64 0, .int .i64 0, .int .i64 0, .string ⟨#[]⟩, .slice none 0 0] 27))
  have HR := Lib.hid hr1
  have HS1 := Lib.hid (hs.old hb1); have HF1 : Hid (SFr s w ((w.alloc (.cells #[.slice v1 sc.vars.length v2, .slice a1 sc.arrays.length a2, .slice f1 sc.funcs.length f2, .bool sc.free, .bool sc.loop] 73)).alloc (.cells #[.int .i64 0, .int .i64 0, .int .i64 0, .string ⟨#[]⟩, .slice none 0 0] 27))) := SFr.of_below hb1
  have HSC := Lib.hid hsc
  have HZ : Hid (w.heap.size + 1 ≠ s) := by show _ ≠ _; omega
  have HY : Hid (w.heap.size ≠ s) := by show _ ≠ _; omega
  have hsx : s < w.heap.size + 1 := by omega
  have hge : w.heap.size ≤ w.heap.size + 1 := by omega
  have hd0 : (0 : Int) ≤ (d : Int) := by omega
  have hdI : (2 : Int) ≤ (d : Int) := by omega
  have hdM : (d : Int) ≤ 1000 := by omega
  have hva : Hid (sc.hasVars = (decide (0 < sc.vars.length) || sc.free)) := hasVars_eq sc
  have haa : Hid (sc.hasArrays = (decide (0 < sc.arrays.length) || sc.free)) := hasArrays_eq sc
  have hfa : Hid (sc.hasFuncs = (decide (0 < sc.funcs.length) || sc.free)) := hasFuncs_eq sc
  clear hb1 hr1 hs hsc
  have E : gKind sc raw (gExpr sc raw (d - 1)) k ga = (.mk 6 0 0 (gArray sc.free sc.arrays raw ga).1.name [(gExpr sc raw (d - 1) (gArray sc.free sc.arrays raw ga).2).1], (gExpr sc raw (d - 1) (gArray sc.free sc.arrays raw ga).2).2) := by unfold gKind; rw [if_neg (by omega), if_neg (by omega), if_neg (by omega), if_neg (by omega), if_pos ⟨hk, hA⟩]
  rw [E]
  clear E
  have HN : Hid (∀ w1, SrcAt w1 s raw ga → ArsAt (· ≠ s) w1 sc.arrays (.slice a1 sc.arrays.length a2) → Calls Tryz.prog 38 #[scV sc (.slice v1 sc.vars.length v2) (.slice a1 sc.arrays.length a2) (.slice f1 sc.funcs.length f2), .pointer (some ⟨s, 0, none⟩)] w1 (Takes w1 s raw (.agg #[.string (strOf (gArray sc.free sc.arrays raw ga).1.name), .int .i64 (gArray sc.free sc.arrays raw ga).1.size]) (gArray sc.free sc.arrays raw ga).2)) := fun w1 h1 h2 => array_take s raw ga sc _ _ _ w1 h1 h2 la
  generalize gArray sc.free sc.arrays raw ga = q at *
  obtain ⟨⟨qn, qz⟩, qa⟩ := q
  dsimp only at *
  have HDM : Hid (((d - 1 : Nat) : Int) = (d : Int) - 1) := by show _ = _; omega
  have HIH : Hid (∀ w1 b, SrcAt w1 s raw b → ScAt s w1 sc (.slice v1 sc.vars.length v2) (.slice a1 sc.arrays.length a2) (.slice f1 sc.funcs.length f2) → Calls Tryz.prog 31 #[scV sc (.slice v1 sc.vars.length v2) (.slice a1 sc.arrays.length a2) (.slice f1 sc.funcs.length f2), .pointer (some ⟨s, 0, none⟩), .int .i64 ((d : Int) - 1)] w1 (GivesEx w1 s raw (gExpr sc raw (d - 1) b))) := fun w1 b h1 h2 => by have q := ih s raw b sc _ _ _ w1 h1 h2; rw [HDM.out] at q; exact q
  go_enter Tryz.func31, Tryz.ntmps31
  go_wp2_with fail
  refine (HK.out _ HS1.out).mono ?_
  rintro r w2 ⟨rfl, hs2, hf2⟩
  have HS2 := Lib.hid hs2; have HF2 := Lib.hid (HF1.out.trans hf2); have HR2 := Lib.hid (HR.out.sfr hf2 HZ.out); have HC2 := Lib.hid (HC.out.sfr hf2 HY.out)
  clear hs2 hf2 HS1 HF1 HR HC HK
  have b0 := HC2.out.at 0 _ rfl
  have b1 := HC2.out.at 1 _ rfl
  have b2 := HC2.out.at 2 _ rfl
  have b3 := HC2.out.at 3 _ rfl
  have b4 := HC2.out.at 4 _ rfl
  go_upto_region 4 with (fail)
  go_cut [8] (fun q wx => q = .bool sc.hasVars ∧ w2 = wx)
  case first =>
    by_cases hlv : 0 < sc.vars.length
    · have hlv' : (0 : Int) < (sc.vars.length : Int) := by omega
      go_wp2_with fail
      go_meet
      exact ⟨by rw [hva.out, decide_eq_true hlv]; rfl, rfl⟩
    · have hlv' : (sc.vars.length : Int) ≤ 0 := by omega
      go_wp2_with fail
      go_meet
      exact ⟨by rw [hva.out, decide_eq_false hlv]; rfl, rfl⟩
  case rest =>
  obtain ⟨rfl, rfl⟩ := hcut
  go_upto_region 5 with (fail)
  go_cut [9] (fun q wx => q = .bool sc.hasArrays ∧ w2 = wx)
  case first =>
    by_cases hlv : 0 < sc.arrays.length
    · have hlv' : (0 : Int) < (sc.arrays.length : Int) := by omega
      go_wp2_with fail
      go_meet
      exact ⟨by rw [haa.out, decide_eq_true hlv]; rfl, rfl⟩
    · have hlv' : (sc.arrays.length : Int) ≤ 0 := by omega
      go_wp2_with fail
      go_meet
      exact ⟨by rw [haa.out, decide_eq_false hlv]; rfl, rfl⟩
  case rest =>
  obtain ⟨rfl, rfl⟩ := hcut
  go_upto_region 6 with (fail)
  go_cut [10] (fun q wx => q = .bool sc.hasFuncs ∧ w2 = wx)
  case first =>
    by_cases hlv : 0 < sc.funcs.length
    · have hlv' : (0 : Int) < (sc.funcs.length : Int) := by omega
      go_wp2_with fail
      go_meet
      exact ⟨by rw [hfa.out, decide_eq_true hlv]; rfl, rfl⟩
    · have hlv' : (sc.funcs.length : Int) ≤ 0 := by omega
      go_wp2_with fail
      go_meet
      exact ⟨by rw [hfa.out, decide_eq_false hlv]; rfl, rfl⟩
  case rest =>
  obtain ⟨rfl, rfl⟩ := hcut
  clear b0 b1 b2 b3 b4 hva haa hfa
  subst hk
  have b0 := HC2.out.at 0 _ rfl
  have b1 := HC2.out.at 1 _ rfl
  have b2 := HC2.out.at 2 _ rfl
  have b3 := HC2.out.at 3 _ rfl
  have b4 := HC2.out.at 4 _ rfl
  go_wp2_with fail
  refine (HN.out _ HS2.out (HSC.out.arrays.keep HF2.out.keeps)).mono ?_
  rintro r w3 ⟨rfl, hs3, hf3⟩
  have HS3 := Lib.hid hs3; have HF3 := Lib.hid (HF2.out.trans hf3); have HR3 := Lib.hid (HR2.out.sfr hf3 HZ.out); have HC3 := Lib.hid (HC2.out.sfr hf3 HY.out)
  clear hs3 hf3
  clear b0 b1 b2 b3 b4
  have b0 := HC3.out.at 0 _ rfl
  have b1 := HC3.out.at 1 _ rfl
  have b2 := HC3.out.at 2 _ rfl
  have b3 := HC3.out.at 3 _ rfl
  have b4 := HC3.out.at 4 _ rfl
  go_wp2_with fail
  refine (HIH.out _ qa HS3.out (HSC.out.sfr HF3.out)).mono ?_
  generalize gExpr sc raw (d - 1) qa = x at *
  obtain ⟨x, xa⟩ := x
  rintro r w4 ⟨xv, rfl, hs4, hf4, hx4, hn4⟩
  obtain ⟨xs, xc, rfl⟩ := hx4.shape
  dsimp only at hs4 hx4 hn4 ⊢
  have HS4 := Lib.hid hs4; have HF4 := Lib.hid (HF3.out.trans hf4); have HR4 := Lib.hid (HR3.out.sfr hf4 HZ.out); have HC4 := Lib.hid (HC3.out.sfr hf4 HY.out)
  have hg4 : w.heap.size + 2 ≤ w3.heap.size := by have := HR3.out.lt; omega
  have Hx := Lib.hid (hx4.mono (D' := (w.heap.size + 2 ≤ ·)) (fun b h => Nat.le_trans hg4 h)); have HNx := Lib.hid hn4
  have HFJ4 := Lib.hid hf4
  clear hs4 hf4 hx4 hn4
  clear b0 b1 b2 b3 b4
  have hB : w.heap.size + 1 < w.heap.size + 2 := by omega
  have hw5 : Below w4.heap.size w4 (w4.alloc (.cells #[.int .i64 x.kind, .int .i64 x.op, .int .i64 x.n, .string (strOf x.name), .slice xs x.args.length xc] 27)) := (Below.refl _ _).alloc (Nat.le_refl _) _
  have HS5 := Lib.hid (HS4.out.old hw5); have HF5 := Lib.hid (HF4.out.trans (SFr.of_below hw5)); have HR5 := Lib.hid (HR4.out.old hw5); have HC5 := Lib.hid (HC4.out.old hw5)
  have HX5 : Hid (ExsAt (w.heap.size + 2 ≤ ·) (w4.alloc (.cells #[.int .i64 x.kind, .int .i64 x.op, .int .i64 x.n, .string (strOf x.name), .slice xs x.args.length xc] 27)) [x] (.slice (some ⟨w4.heap.size, 0, none⟩) 1 1)) := .one x (.slice xs x.args.length xc) (by show _ ≤ _; have := HR4.out.lt; omega) (RowAt.new w4 (exCells x (.slice xs x.args.length xc)) 27) (Hx.out.old hw5) HNx.out
  clear hw5
  have x0 := HR5.out.at 0 _ rfl
  have x1 := HR5.out.at 1 _ rfl
  have x2 := HR5.out.at 2 _ rfl
  have x3 := HR5.out.at 3 _ rfl
  have x4 := HR5.out.at 4 _ rfl
  have fx0 := HR5.out.fz 0
  have fx1 := HR5.out.fz 1
  have fx2 := HR5.out.fz 2
  have fx3 := HR5.out.fz 3
  have fx4 := HR5.out.fz 4
  have HRE := Lib.hid (((((HR5.out.set 0 (.int .i64 6)).set 1 (.int .i64 0)).set 2 (.int .i64 0)).set 3 (.string (strOf qn))).set 4 (.slice (some ⟨w4.heap.size, 0, none⟩) 1 1))
  have HSE := Lib.hid (((((HS5.out.other hsx 0 (.int .i64 6)).other hsx 1 (.int .i64 0)).other hsx 2 (.int .i64 0)).other hsx 3 (.string (strOf qn))).other hsx 4 (.slice (some ⟨w4.heap.size, 0, none⟩) 1 1))
  have HFE := Lib.hid (((((HF5.out.setNew hge 0 (.int .i64 6)).setNew hge 1 (.int .i64 0)).setNew hge 2 (.int .i64 0)).setNew hge 3 (.string (strOf qn))).setNew hge 4 (.slice (some ⟨w4.heap.size, 0, none⟩) 1 1))
  go_wp2_with fail
  have d0 := HRE.out.at 0 _ rfl
  have d1 := HRE.out.at 1 _ rfl
  have d2 := HRE.out.at 2 _ rfl
  have d3 := HRE.out.at 3 _ rfl
  have d4 := HRE.out.at 4 _ rfl
  exact bodyPost_ret (v := .agg #[.int .i64 6, .int .i64 0, .int .i64 0, .string (strOf qn), .slice (some ⟨w4.heap.size, 0, none⟩) 1 1]) (by simp [results, Tryz.results31, go_sem, d0, d1, d2, d3, d4]) rfl ⟨.slice (some ⟨w4.heap.size, 0, none⟩) 1 1, rfl, HSE.out, HFE.out, ((((((HX5.out.keep (set_fresh _ hB 0 _)).keep (set_fresh _ hB 1 _)).keep (set_fresh _ hB 2 _)).keep (set_fresh _ hB 3 _)).keep (set_fresh _ hB 4 _)).mono (fun b h => (Nat.le_trans (by omega) h : w.heap.size ≤ b))), (i64_small ⟨by show _ ≤ (0 : Int); decide, by show (0 : Int) ≤ _; decide⟩)⟩
end Go.Proofs.YtcfpfnoldgnloaaGreatDoor

namespace Go.Proofs.YtcfpfnoldgnloaaGreatDoor
open Go.RowKit
set_option maxHeartbeats 4000000
set_option maxRecDepth 100000

theorem ge_two (d : Nat) (hd : 2 ≤ d) (hd1 : d ≤ 1000) (s : Nat) (raw : List Int) (a : Nat) (sc : Sc) (vv av fv : Value) (w : World) (hs : SrcAt w s raw a) (hsc : ScAt s w sc vv av fv) (k : Int) (hkk : gK raw d a = k) (hT : 7 ≤ k ∨ (k = 5 ∧ sc.hasArrays = false) ∨ (k = 6 ∧ sc.hasFuncs = false)) (ih : ExprTake (d - 1)) :
    Calls Tryz.prog 31 #[scV sc vv av fv, .pointer (some ⟨s, 0, none⟩), .int .i64 d] w (GivesEx w s raw (gKind sc raw (gExpr sc raw (d - 1)) k (gNext raw a 12).2)) := by
  obtain ⟨v1, v2, rfl⟩ := hsc.vars.shape
  obtain ⟨a1, a2, rfl⟩ := hsc.arrays.shape
  obtain ⟨f1, f2, rfl⟩ := hsc.funcs.shape
  have lv := hsc.v1; have la := hsc.a1; have lf := hsc.f1
  have hsl := hs.lt
  have HK : Hid (∀ w1, SrcAt w1 s raw a → Calls Tryz.prog 37 #[.pointer (some ⟨s, 0, none⟩), .int .i64 12] w1 (Takes w1 s raw (.int .i64 (gNext raw a 12).1) (gNext raw a 12).2)) := fun w1 h1 => next_any s raw a 12 w1 h1 (by decide) (by decide)
  have hr := gNext_range raw a 12 (by decide)
  unfold gK at hkk
  rw [if_neg (by omega)] at hkk
  generalize gNext raw a 12 = g at *
  obtain ⟨g, ga⟩ := g
  obtain ⟨g0, g1⟩ := hr
  dsimp only at g0 g1 hkk HK ⊢
  replace hkk := hkk.symm
  subst hkk
  have hb1 : Below w.heap.size w ((w.alloc (.cells #[.slice v1 sc.vars.length v2, .slice a1 sc.arrays.length a2, .slice f1 sc.funcs.length f2, .bool sc.free, .bool sc.loop] 73)).alloc (.cells #[.int .i64 0, .int .i64 0, .int .i64 0, .string ⟨#[]⟩, .slice none 0 0] 27)) := ((Below.refl _ _).alloc (Nat.le_refl _) _).alloc (by simp) _
  have hr1 := OwnAt.new (w.alloc (.cells #[.slice v1 sc.vars.length v2, .slice a1 sc.arrays.length a2, .slice f1 sc.funcs.length f2, .bool sc.free, .bool sc.loop] 73)) [.int .i64 0, .int .i64 0, .int .i64 0, .string ⟨#[]⟩, .slice none 0 0] 27
  rw [show (w.alloc (.cells #[.slice v1 sc.vars.length v2, .slice a1 sc.arrays.length a2, .slice f1 sc.funcs.length f2, .bool sc.free, .bool sc.loop] 73)).heap.size = w.heap.size + 1 by simp] at hr1
  have HC := Lib.hid ((OwnAt.new w [.slice v1 sc.vars.length v2, .slice a1 sc.arrays.length a2, .slice f1 sc.funcs.length f2, .bool sc.free, .bool sc.loop] 73).alloc (.cells #[.int .i64 0, .int .i64 0, .int .i64 0, .string ⟨#[]⟩, .slice none 0 0] 27))
  have HR := Lib.hid hr1
  have HS1 := Lib.hid (hs.old hb1); have HF1 : Hid (SFr s w ((w.alloc (.cells #[.slice v1 sc.vars.length v2, .slice a1 sc.arrays.length a2, .slice f1 sc.funcs.length f2, .bool sc.free, .bool sc.loop] 73)).alloc (.cells #[.int .i64 0, .int .i64 0, .int .i64 0, .string ⟨#[]⟩, .slice none 0 0] 27))) := SFr.of_below hb1
  have HSC := Lib.hid hsc
  have HZ : Hid (w.heap.size + 1 ≠ s) := by show _ ≠ _; omega
  have HY : Hid (w.heap.size ≠ s) := by show _ ≠ _; omega
  have hsx : s < w.heap.size + 1 := by omega
  have hge : w.heap.size ≤ w.heap.size + 1 := by omega
  have hd0 : (0 : Int) ≤ (d : Int) := by omega
  have hdI : (2 : Int) ≤ (d : Int) := by omega
  have hdM : (d : Int) ≤ 1000 := by omega
  have hva : Hid (sc.hasVars = (decide (0 < sc.vars.length) || sc.free)) := hasVars_eq sc
  have haa : Hid (sc.hasArrays = (decide (0 < sc.arrays.length) || sc.free)) := hasArrays_eq sc
  have hfa : Hid (sc.hasFuncs = (decide (0 < sc.funcs.length) || sc.free)) := hasFuncs_eq sc
  clear hb1 hr1 hs hsc
  have E : gKind sc raw (gExpr sc raw (d - 1)) k ga = (.mk 4 (1 + (gNext raw ga 16).1) 0 [] [(gExpr sc raw (d - 1) (gNext raw ga 16).2).1, (gExpr sc raw (d - 1) (gExpr sc raw (d - 1) (gNext raw ga 16).2).2).1], (gExpr sc raw (d - 1) (gExpr sc raw (d - 1) (gNext raw ga 16).2).2).2) := by
    unfold gKind
    rw [if_neg (by omega), if_neg (by omega), if_neg (by omega), if_neg (by omega), if_neg (by rintro ⟨h1, h2⟩; rcases hT with h | ⟨h, h'⟩ | ⟨h, h'⟩ <;> first | omega | (rw [h'] at h2; cases h2)), if_neg (by rintro ⟨h1, h2⟩; rcases hT with h | ⟨h, h'⟩ | ⟨h, h'⟩ <;> first | omega | (rw [h'] at h2; cases h2))]
  rw [E]
  clear E
  have HN : Hid (∀ w1, SrcAt w1 s raw ga → Calls Tryz.prog 37 #[.pointer (some ⟨s, 0, none⟩), .int .i64 16] w1 (Takes w1 s raw (.int .i64 (gNext raw ga 16).1) (gNext raw ga 16).2)) := fun w1 h1 => next_any s raw ga 16 w1 h1 (by decide) (by decide)
  have qr := gNext_range raw ga 16 (by decide)
  generalize gNext raw ga 16 = q at *
  obtain ⟨q, qa⟩ := q
  dsimp only at *
  have HDM : Hid (((d - 1 : Nat) : Int) = (d : Int) - 1) := by show _ = _; omega
  have HIH : Hid (∀ w1 b, SrcAt w1 s raw b → ScAt s w1 sc (.slice v1 sc.vars.length v2) (.slice a1 sc.arrays.length a2) (.slice f1 sc.funcs.length f2) → Calls Tryz.prog 31 #[scV sc (.slice v1 sc.vars.length v2) (.slice a1 sc.arrays.length a2) (.slice f1 sc.funcs.length f2), .pointer (some ⟨s, 0, none⟩), .int .i64 ((d : Int) - 1)] w1 (GivesEx w1 s raw (gExpr sc raw (d - 1) b))) := fun w1 b h1 h2 => by have q := ih s raw b sc _ _ _ w1 h1 h2; rw [HDM.out] at q; exact q
  obtain ⟨q0, q1⟩ := qr
  go_enter Tryz.func31, Tryz.ntmps31
  go_wp2_with fail
  refine (HK.out _ HS1.out).mono ?_
  rintro r w2 ⟨rfl, hs2, hf2⟩
  have HS2 := Lib.hid hs2; have HF2 := Lib.hid (HF1.out.trans hf2); have HR2 := Lib.hid (HR.out.sfr hf2 HZ.out); have HC2 := Lib.hid (HC.out.sfr hf2 HY.out)
  clear hs2 hf2 HS1 HF1 HR HC HK
  have b0 := HC2.out.at 0 _ rfl
  have b1 := HC2.out.at 1 _ rfl
  have b2 := HC2.out.at 2 _ rfl
  have b3 := HC2.out.at 3 _ rfl
  have b4 := HC2.out.at 4 _ rfl
  go_upto_region 4 with (fail)
  go_cut [8] (fun q wx => q = .bool sc.hasVars ∧ w2 = wx)
  case first =>
    by_cases hlv : 0 < sc.vars.length
    · have hlv' : (0 : Int) < (sc.vars.length : Int) := by omega
      go_wp2_with fail
      go_meet
      exact ⟨by rw [hva.out, decide_eq_true hlv]; rfl, rfl⟩
    · have hlv' : (sc.vars.length : Int) ≤ 0 := by omega
      go_wp2_with fail
      go_meet
      exact ⟨by rw [hva.out, decide_eq_false hlv]; rfl, rfl⟩
  case rest =>
  obtain ⟨rfl, rfl⟩ := hcut
  go_upto_region 5 with (fail)
  go_cut [9] (fun q wx => q = .bool sc.hasArrays ∧ w2 = wx)
  case first =>
    by_cases hlv : 0 < sc.arrays.length
    · have hlv' : (0 : Int) < (sc.arrays.length : Int) := by omega
      go_wp2_with fail
      go_meet
      exact ⟨by rw [haa.out, decide_eq_true hlv]; rfl, rfl⟩
    · have hlv' : (sc.arrays.length : Int) ≤ 0 := by omega
      go_wp2_with fail
      go_meet
      exact ⟨by rw [haa.out, decide_eq_false hlv]; rfl, rfl⟩
  case rest =>
  obtain ⟨rfl, rfl⟩ := hcut
  go_upto_region 6 with (fail)
  go_cut [10] (fun q wx => q = .bool sc.hasFuncs ∧ w2 = wx)
  case first =>
    by_cases hlv : 0 < sc.funcs.length
    · have hlv' : (0 : Int) < (sc.funcs.length : Int) := by omega
      go_wp2_with fail
      go_meet
      exact ⟨by rw [hfa.out, decide_eq_true hlv]; rfl, rfl⟩
    · have hlv' : (sc.funcs.length : Int) ≤ 0 := by omega
      go_wp2_with fail
      go_meet
      exact ⟨by rw [hfa.out, decide_eq_false hlv]; rfl, rfl⟩
  case rest =>
  obtain ⟨rfl, rfl⟩ := hcut
  clear b0 b1 b2 b3 b4 hva haa hfa
  rcases hT with h7 | ⟨rfl, hA⟩ | ⟨rfl, hA⟩
  · have t1 : (k == 1) = false := beq_eq_false_iff_ne.2 (by omega)
    have t2 : (k == 2) = false := beq_eq_false_iff_ne.2 (by omega)
    have t3 : (k == 3) = false := beq_eq_false_iff_ne.2 (by omega)
    have t4 : (k == 4) = false := beq_eq_false_iff_ne.2 (by omega)
    have t5 : (k == 5) = false := beq_eq_false_iff_ne.2 (by omega)
    have t6 : (k == 6) = false := beq_eq_false_iff_ne.2 (by omega)
    have b0 := HC2.out.at 0 _ rfl
    have b1 := HC2.out.at 1 _ rfl
    have b2 := HC2.out.at 2 _ rfl
    have b3 := HC2.out.at 3 _ rfl
    have b4 := HC2.out.at 4 _ rfl
    go_wp2_with fail
    refine (HN.out _ HS2.out).mono ?_
    rintro r w3 ⟨rfl, hs3, hf3⟩
    have HS3 := Lib.hid hs3; have HF3 := Lib.hid (HF2.out.trans hf3); have HR3 := Lib.hid (HR2.out.sfr hf3 HZ.out); have HC3 := Lib.hid (HC2.out.sfr hf3 HY.out)
    clear hs3 hf3
    clear b0 b1 b2 b3 b4
    have b0 := HC3.out.at 0 _ rfl
    have b1 := HC3.out.at 1 _ rfl
    have b2 := HC3.out.at 2 _ rfl
    have b3 := HC3.out.at 3 _ rfl
    have b4 := HC3.out.at 4 _ rfl
    go_wp2_with fail
    refine (HIH.out _ qa HS3.out (HSC.out.sfr HF3.out)).mono ?_
    generalize gExpr sc raw (d - 1) qa = x at *
    obtain ⟨x, xa⟩ := x
    rintro r w4 ⟨xv, rfl, hs4, hf4, hx4, hn4⟩
    obtain ⟨xs, xc, rfl⟩ := hx4.shape
    dsimp only at hs4 hx4 hn4 ⊢
    have HS4 := Lib.hid hs4; have HF4 := Lib.hid (HF3.out.trans hf4); have HR4 := Lib.hid (HR3.out.sfr hf4 HZ.out); have HC4 := Lib.hid (HC3.out.sfr hf4 HY.out)
    have hg4 : w.heap.size + 2 ≤ w3.heap.size := by have := HR3.out.lt; omega
    have Hx := Lib.hid (hx4.mono (D' := (w.heap.size + 2 ≤ ·)) (fun b h => Nat.le_trans hg4 h)); have HNx := Lib.hid hn4
    have HFJ4 := Lib.hid hf4
    clear hs4 hf4 hx4 hn4
    clear b0 b1 b2 b3 b4
    have hw5 : Below w4.heap.size w4 (w4.alloc (.cells #[.int .i64 x.kind, .int .i64 x.op, .int .i64 x.n, .string (strOf x.name), .slice xs x.args.length xc] 27)) := (Below.refl _ _).alloc (Nat.le_refl _) _
    have HS5 := Lib.hid (HS4.out.old hw5); have HF5 := Lib.hid (HF4.out.trans (SFr.of_below hw5)); have HR5 := Lib.hid (HR4.out.old hw5); have HC5 := Lib.hid (HC4.out.old hw5)
    have HP5 := Lib.hid (OwnAt.new w4 [.int .i64 x.kind, .int .i64 x.op, .int .i64 x.n, .string (strOf x.name), .slice xs x.args.length xc] 27)
    have Hx5 := Lib.hid (Hx.out.old hw5)
    have hz5 : w4.heap.size ≠ s := by have := HS4.out.lt; omega
    have hu5 : w4.heap.size < (w4.alloc (.cells #[.int .i64 x.kind, .int .i64 x.op, .int .i64 x.n, .string (strOf x.name), .slice xs x.args.length xc] 27)).heap.size := by simp
    clear hw5
    have b0 := HC5.out.at 0 _ rfl
    have b1 := HC5.out.at 1 _ rfl
    have b2 := HC5.out.at 2 _ rfl
    have b3 := HC5.out.at 3 _ rfl
    have b4 := HC5.out.at 4 _ rfl
    go_wp2_with fail
    generalize w4.alloc (.cells #[.int .i64 x.kind, .int .i64 x.op, .int .i64 x.n, .string (strOf x.name), .slice xs x.args.length xc] 27) = w5 at *
    refine (HIH.out _ xa HS5.out (HSC.out.sfr HF5.out)).mono ?_
    generalize gExpr sc raw (d - 1) xa = y at *
    obtain ⟨y, ya⟩ := y
    rintro r w6 ⟨yv, rfl, hs6, hf6, hx6, hn6⟩
    obtain ⟨ys, yc, rfl⟩ := hx6.shape
    dsimp only at hs6 hx6 hn6 ⊢
    have HS6 := Lib.hid hs6; have HF6 := Lib.hid (HF5.out.trans hf6); have HR6 := Lib.hid (HR5.out.sfr hf6 HZ.out); have HC6 := Lib.hid (HC5.out.sfr hf6 HY.out)
    have hg6 : w.heap.size + 2 ≤ w5.heap.size := by have := HR5.out.lt; omega
    have Hy := Lib.hid (hx6.mono (D' := (w.heap.size + 2 ≤ ·)) (fun b h => Nat.le_trans hg6 h)); have HNy := Lib.hid hn6
    have HFJ6 := Lib.hid hf6
    clear hs6 hf6 hx6 hn6
    clear b0 b1 b2 b3 b4
    have HP6 := Lib.hid (HP5.out.sfr HFJ6.out hz5)
    have hxk : Keeps (w.heap.size + 2 ≤ ·) w5 w6 := HFJ6.out.fresh (by omega)
    have Hx6 := Lib.hid (Hx5.out.keep hxk)
    clear hxk
    have hw7 : Below w6.heap.size w6 (w6.alloc (.cells #[.int .i64 y.kind, .int .i64 y.op, .int .i64 y.n, .string (strOf y.name), .slice ys y.args.length yc] 27)) := (Below.refl _ _).alloc (Nat.le_refl _) _
    have HS7 := Lib.hid (HS6.out.old hw7); have HF7 := Lib.hid (HF6.out.trans (SFr.of_below hw7)); have HR7 := Lib.hid (HR6.out.old hw7); have HC7 := Lib.hid (HC6.out.old hw7)
    have HQ7 := Lib.hid (OwnAt.new w6 [.int .i64 y.kind, .int .i64 y.op, .int .i64 y.n, .string (strOf y.name), .slice ys y.args.length yc] 27)
    have Hy7 := Lib.hid (Hy.out.old hw7)
    have hz7 : w6.heap.size ≠ s := by have := HS6.out.lt; omega
    have hu7 : w6.heap.size < (w6.alloc (.cells #[.int .i64 y.kind, .int .i64 y.op, .int .i64 y.n, .string (strOf y.name), .slice ys y.args.length yc] 27)).heap.size := by simp
    clear hw7
    have hw7 : Below w6.heap.size w6 (w6.alloc (.cells #[.int .i64 y.kind, .int .i64 y.op, .int .i64 y.n, .string (strOf y.name), .slice ys y.args.length yc] 27)) := (Below.refl _ _).alloc (Nat.le_refl _) _
    have Hx7 := Lib.hid (Hx6.out.old hw7)
    have HP7 := Lib.hid (HP6.out.old hw7)
    clear hw7
    have p0 := HP7.out.at 0 _ rfl
    have p1 := HP7.out.at 1 _ rfl
    have p2 := HP7.out.at 2 _ rfl
    have p3 := HP7.out.at 3 _ rfl
    have p4 := HP7.out.at 4 _ rfl
    have hB : w.heap.size + 1 < w.heap.size + 2 := by omega
    have hw8 : Below (w6.alloc (.cells #[.int .i64 y.kind, .int .i64 y.op, .int .i64 y.n, .string (strOf y.name), .slice ys y.args.length yc] 27)).heap.size (w6.alloc (.cells #[.int .i64 y.kind, .int .i64 y.op, .int .i64 y.n, .string (strOf y.name), .slice ys y.args.length yc] 27)) ((w6.alloc (.cells #[.int .i64 y.kind, .int .i64 y.op, .int .i64 y.n, .string (strOf y.name), .slice ys y.args.length yc] 27)).alloc (.cells #[.int .i64 x.kind, .int .i64 x.op, .int .i64 x.n, .string (strOf x.name), .slice xs x.args.length xc, .int .i64 y.kind, .int .i64 y.op, .int .i64 y.n, .string (strOf y.name), .slice ys y.args.length yc] 27)) := (Below.refl _ _).alloc (Nat.le_refl _) _
    have HS8 := Lib.hid (HS7.out.old hw8); have HF8 := Lib.hid (HF7.out.trans (SFr.of_below hw8)); have HR8 := Lib.hid (HR7.out.old hw8); have HC8 := Lib.hid (HC7.out.old hw8)
    have hrow := RowAt.new (w6.alloc (.cells #[.int .i64 y.kind, .int .i64 y.op, .int .i64 y.n, .string (strOf y.name), .slice ys y.args.length yc] 27)) (exCells x (.slice xs x.args.length xc) ++ exCells y (.slice ys y.args.length yc)) 27
    rw [show (w6.alloc (.cells #[.int .i64 y.kind, .int .i64 y.op, .int .i64 y.n, .string (strOf y.name), .slice ys y.args.length yc] 27)).heap.size = w6.heap.size + 1 by simp] at hrow
    have hrow : RowAt ((w6.alloc (.cells #[.int .i64 y.kind, .int .i64 y.op, .int .i64 y.n, .string (strOf y.name), .slice ys y.args.length yc] 27)).alloc (.cells #[.int .i64 x.kind, .int .i64 x.op, .int .i64 x.n, .string (strOf x.name), .slice xs x.args.length xc, .int .i64 y.kind, .int .i64 y.op, .int .i64 y.n, .string (strOf y.name), .slice ys y.args.length yc] 27)) (w6.heap.size + 1) 0 (exCells x (.slice xs x.args.length xc) ++ exCells y (.slice ys y.args.length yc)) := hrow
    have hlt := HR6.out.lt
    have HX8 : Hid (ExsAt (w.heap.size + 2 ≤ ·) ((w6.alloc (.cells #[.int .i64 y.kind, .int .i64 y.op, .int .i64 y.n, .string (strOf y.name), .slice ys y.args.length yc] 27)).alloc (.cells #[.int .i64 x.kind, .int .i64 x.op, .int .i64 x.n, .string (strOf x.name), .slice xs x.args.length xc, .int .i64 y.kind, .int .i64 y.op, .int .i64 y.n, .string (strOf y.name), .slice ys y.args.length yc] 27)) [x, y] (.slice (some ⟨w6.heap.size + 1, 0, none⟩) 2 2)) := .two x y _ _ (by show _ ≤ _; omega) hrow (Hx7.out.old hw8) HNx.out (Hy7.out.old hw8) HNy.out
    clear hw8 hrow hlt
    have x0 := HR8.out.at 0 _ rfl
    have x1 := HR8.out.at 1 _ rfl
    have x2 := HR8.out.at 2 _ rfl
    have x3 := HR8.out.at 3 _ rfl
    have x4 := HR8.out.at 4 _ rfl
    have fx0 := HR8.out.fz 0
    have fx1 := HR8.out.fz 1
    have fx2 := HR8.out.fz 2
    have fx3 := HR8.out.fz 3
    have fx4 := HR8.out.fz 4
    have HRE := Lib.hid (((((HR8.out.set 0 (.int .i64 4)).set 1 (.int .i64 (1 + q))).set 2 (.int .i64 0)).set 3 (.string ⟨#[]⟩)).set 4 (.slice (some ⟨w6.heap.size + 1, 0, none⟩) 2 2))
    have HSE := Lib.hid (((((HS8.out.other hsx 0 (.int .i64 4)).other hsx 1 (.int .i64 (1 + q))).other hsx 2 (.int .i64 0)).other hsx 3 (.string ⟨#[]⟩)).other hsx 4 (.slice (some ⟨w6.heap.size + 1, 0, none⟩) 2 2))
    have HFE := Lib.hid (((((HF8.out.setNew hge 0 (.int .i64 4)).setNew hge 1 (.int .i64 (1 + q))).setNew hge 2 (.int .i64 0)).setNew hge 3 (.string ⟨#[]⟩)).setNew hge 4 (.slice (some ⟨w6.heap.size + 1, 0, none⟩) 2 2))
    go_wp2_with fail
    have d0 := HRE.out.at 0 _ rfl
    have d1 := HRE.out.at 1 _ rfl
    have d2 := HRE.out.at 2 _ rfl
    have d3 := HRE.out.at 3 _ rfl
    have d4 := HRE.out.at 4 _ rfl
    exact bodyPost_ret (v := .agg #[.int .i64 4, .int .i64 (1 + q), .int .i64 0, .string ⟨#[]⟩, .slice (some ⟨w6.heap.size + 1, 0, none⟩) 2 2]) (by simp [results, Tryz.results31, go_sem, d0, d1, d2, d3, d4]) rfl ⟨.slice (some ⟨w6.heap.size + 1, 0, none⟩) 2 2, rfl, HSE.out, HFE.out, ((((((HX8.out.keep (set_fresh _ hB 0 _)).keep (set_fresh _ hB 1 _)).keep (set_fresh _ hB 2 _)).keep (set_fresh _ hB 3 _)).keep (set_fresh _ hB 4 _)).mono (fun b h => (Nat.le_trans (by omega) h : w.heap.size ≤ b))), (i64_small ⟨by show _ ≤ (0 : Int); decide, by show (0 : Int) ≤ _; decide⟩)⟩
  · skip
    have b0 := HC2.out.at 0 _ rfl
    have b1 := HC2.out.at 1 _ rfl
    have b2 := HC2.out.at 2 _ rfl
    have b3 := HC2.out.at 3 _ rfl
    have b4 := HC2.out.at 4 _ rfl
    go_wp2_with fail
    refine (HN.out _ HS2.out).mono ?_
    rintro r w3 ⟨rfl, hs3, hf3⟩
    have HS3 := Lib.hid hs3; have HF3 := Lib.hid (HF2.out.trans hf3); have HR3 := Lib.hid (HR2.out.sfr hf3 HZ.out); have HC3 := Lib.hid (HC2.out.sfr hf3 HY.out)
    clear hs3 hf3
    clear b0 b1 b2 b3 b4
    have b0 := HC3.out.at 0 _ rfl
    have b1 := HC3.out.at 1 _ rfl
    have b2 := HC3.out.at 2 _ rfl
    have b3 := HC3.out.at 3 _ rfl
    have b4 := HC3.out.at 4 _ rfl
    go_wp2_with fail
    refine (HIH.out _ qa HS3.out (HSC.out.sfr HF3.out)).mono ?_
    generalize gExpr sc raw (d - 1) qa = x at *
    obtain ⟨x, xa⟩ := x
    rintro r w4 ⟨xv, rfl, hs4, hf4, hx4, hn4⟩
    obtain ⟨xs, xc, rfl⟩ := hx4.shape
    dsimp only at hs4 hx4 hn4 ⊢
    have HS4 := Lib.hid hs4; have HF4 := Lib.hid (HF3.out.trans hf4); have HR4 := Lib.hid (HR3.out.sfr hf4 HZ.out); have HC4 := Lib.hid (HC3.out.sfr hf4 HY.out)
    have hg4 : w.heap.size + 2 ≤ w3.heap.size := by have := HR3.out.lt; omega
    have Hx := Lib.hid (hx4.mono (D' := (w.heap.size + 2 ≤ ·)) (fun b h => Nat.le_trans hg4 h)); have HNx := Lib.hid hn4
    have HFJ4 := Lib.hid hf4
    clear hs4 hf4 hx4 hn4
    clear b0 b1 b2 b3 b4
    have hw5 : Below w4.heap.size w4 (w4.alloc (.cells #[.int .i64 x.kind, .int .i64 x.op, .int .i64 x.n, .string (strOf x.name), .slice xs x.args.length xc] 27)) := (Below.refl _ _).alloc (Nat.le_refl _) _
    have HS5 := Lib.hid (HS4.out.old hw5); have HF5 := Lib.hid (HF4.out.trans (SFr.of_below hw5)); have HR5 := Lib.hid (HR4.out.old hw5); have HC5 := Lib.hid (HC4.out.old hw5)
    have HP5 := Lib.hid (OwnAt.new w4 [.int .i64 x.kind, .int .i64 x.op, .int .i64 x.n, .string (strOf x.name), .slice xs x.args.length xc] 27)
    have Hx5 := Lib.hid (Hx.out.old hw5)
    have hz5 : w4.heap.size ≠ s := by have := HS4.out.lt; omega
    have hu5 : w4.heap.size < (w4.alloc (.cells #[.int .i64 x.kind, .int .i64 x.op, .int .i64 x.n, .string (strOf x.name), .slice xs x.args.length xc] 27)).heap.size := by simp
    clear hw5
    have b0 := HC5.out.at 0 _ rfl
    have b1 := HC5.out.at 1 _ rfl
    have b2 := HC5.out.at 2 _ rfl
    have b3 := HC5.out.at 3 _ rfl
    have b4 := HC5.out.at 4 _ rfl
    go_wp2_with fail
    generalize w4.alloc (.cells #[.int .i64 x.kind, .int .i64 x.op, .int .i64 x.n, .string (strOf x.name), .slice xs x.args.length xc] 27) = w5 at *
    refine (HIH.out _ xa HS5.out (HSC.out.sfr HF5.out)).mono ?_
    generalize gExpr sc raw (d - 1) xa = y at *
    obtain ⟨y, ya⟩ := y
    rintro r w6 ⟨yv, rfl, hs6, hf6, hx6, hn6⟩
    obtain ⟨ys, yc, rfl⟩ := hx6.shape
    dsimp only at hs6 hx6 hn6 ⊢
    have HS6 := Lib.hid hs6; have HF6 := Lib.hid (HF5.out.trans hf6); have HR6 := Lib.hid (HR5.out.sfr hf6 HZ.out); have HC6 := Lib.hid (HC5.out.sfr hf6 HY.out)
    have hg6 : w.heap.size + 2 ≤ w5.heap.size := by have := HR5.out.lt; omega
    have Hy := Lib.hid (hx6.mono (D' := (w.heap.size + 2 ≤ ·)) (fun b h => Nat.le_trans hg6 h)); have HNy := Lib.hid hn6
    have HFJ6 := Lib.hid hf6
    clear hs6 hf6 hx6 hn6
    clear b0 b1 b2 b3 b4
    have HP6 := Lib.hid (HP5.out.sfr HFJ6.out hz5)
    have hxk : Keeps (w.heap.size + 2 ≤ ·) w5 w6 := HFJ6.out.fresh (by omega)
    have Hx6 := Lib.hid (Hx5.out.keep hxk)
    clear hxk
    have hw7 : Below w6.heap.size w6 (w6.alloc (.cells #[.int .i64 y.kind, .int .i64 y.op, .int .i64 y.n, .string (strOf y.name), .slice ys y.args.length yc] 27)) := (Below.refl _ _).alloc (Nat.le_refl _) _
    have HS7 := Lib.hid (HS6.out.old hw7); have HF7 := Lib.hid (HF6.out.trans (SFr.of_below hw7)); have HR7 := Lib.hid (HR6.out.old hw7); have HC7 := Lib.hid (HC6.out.old hw7)
    have HQ7 := Lib.hid (OwnAt.new w6 [.int .i64 y.kind, .int .i64 y.op, .int .i64 y.n, .string (strOf y.name), .slice ys y.args.length yc] 27)
    have Hy7 := Lib.hid (Hy.out.old hw7)
    have hz7 : w6.heap.size ≠ s := by have := HS6.out.lt; omega
    have hu7 : w6.heap.size < (w6.alloc (.cells #[.int .i64 y.kind, .int .i64 y.op, .int .i64 y.n, .string (strOf y.name), .slice ys y.args.length yc] 27)).heap.size := by simp
    clear hw7
    have hw7 : Below w6.heap.size w6 (w6.alloc (.cells #[.int .i64 y.kind, .int .i64 y.op, .int .i64 y.n, .string (strOf y.name), .slice ys y.args.length yc] 27)) := (Below.refl _ _).alloc (Nat.le_refl _) _
    have Hx7 := Lib.hid (Hx6.out.old hw7)
    have HP7 := Lib.hid (HP6.out.old hw7)
    clear hw7
    have p0 := HP7.out.at 0 _ rfl
    have p1 := HP7.out.at 1 _ rfl
    have p2 := HP7.out.at 2 _ rfl
    have p3 := HP7.out.at 3 _ rfl
    have p4 := HP7.out.at 4 _ rfl
    have hB : w.heap.size + 1 < w.heap.size + 2 := by omega
    have hw8 : Below (w6.alloc (.cells #[.int .i64 y.kind, .int .i64 y.op, .int .i64 y.n, .string (strOf y.name), .slice ys y.args.length yc] 27)).heap.size (w6.alloc (.cells #[.int .i64 y.kind, .int .i64 y.op, .int .i64 y.n, .string (strOf y.name), .slice ys y.args.length yc] 27)) ((w6.alloc (.cells #[.int .i64 y.kind, .int .i64 y.op, .int .i64 y.n, .string (strOf y.name), .slice ys y.args.length yc] 27)).alloc (.cells #[.int .i64 x.kind, .int .i64 x.op, .int .i64 x.n, .string (strOf x.name), .slice xs x.args.length xc, .int .i64 y.kind, .int .i64 y.op, .int .i64 y.n, .string (strOf y.name), .slice ys y.args.length yc] 27)) := (Below.refl _ _).alloc (Nat.le_refl _) _
    have HS8 := Lib.hid (HS7.out.old hw8); have HF8 := Lib.hid (HF7.out.trans (SFr.of_below hw8)); have HR8 := Lib.hid (HR7.out.old hw8); have HC8 := Lib.hid (HC7.out.old hw8)
    have hrow := RowAt.new (w6.alloc (.cells #[.int .i64 y.kind, .int .i64 y.op, .int .i64 y.n, .string (strOf y.name), .slice ys y.args.length yc] 27)) (exCells x (.slice xs x.args.length xc) ++ exCells y (.slice ys y.args.length yc)) 27
    rw [show (w6.alloc (.cells #[.int .i64 y.kind, .int .i64 y.op, .int .i64 y.n, .string (strOf y.name), .slice ys y.args.length yc] 27)).heap.size = w6.heap.size + 1 by simp] at hrow
    have hrow : RowAt ((w6.alloc (.cells #[.int .i64 y.kind, .int .i64 y.op, .int .i64 y.n, .string (strOf y.name), .slice ys y.args.length yc] 27)).alloc (.cells #[.int .i64 x.kind, .int .i64 x.op, .int .i64 x.n, .string (strOf x.name), .slice xs x.args.length xc, .int .i64 y.kind, .int .i64 y.op, .int .i64 y.n, .string (strOf y.name), .slice ys y.args.length yc] 27)) (w6.heap.size + 1) 0 (exCells x (.slice xs x.args.length xc) ++ exCells y (.slice ys y.args.length yc)) := hrow
    have hlt := HR6.out.lt
    have HX8 : Hid (ExsAt (w.heap.size + 2 ≤ ·) ((w6.alloc (.cells #[.int .i64 y.kind, .int .i64 y.op, .int .i64 y.n, .string (strOf y.name), .slice ys y.args.length yc] 27)).alloc (.cells #[.int .i64 x.kind, .int .i64 x.op, .int .i64 x.n, .string (strOf x.name), .slice xs x.args.length xc, .int .i64 y.kind, .int .i64 y.op, .int .i64 y.n, .string (strOf y.name), .slice ys y.args.length yc] 27)) [x, y] (.slice (some ⟨w6.heap.size + 1, 0, none⟩) 2 2)) := .two x y _ _ (by show _ ≤ _; omega) hrow (Hx7.out.old hw8) HNx.out (Hy7.out.old hw8) HNy.out
    clear hw8 hrow hlt
    have x0 := HR8.out.at 0 _ rfl
    have x1 := HR8.out.at 1 _ rfl
    have x2 := HR8.out.at 2 _ rfl
    have x3 := HR8.out.at 3 _ rfl
    have x4 := HR8.out.at 4 _ rfl
    have fx0 := HR8.out.fz 0
    have fx1 := HR8.out.fz 1
    have fx2 := HR8.out.fz 2
    have fx3 := HR8.out.fz 3
    have fx4 := HR8.out.fz 4
    have HRE := Lib.hid (((((HR8.out.set 0 (.int .i64 4)).set 1 (.int .i64 (1 + q))).set 2 (.int .i64 0)).set 3 (.string ⟨#[]⟩)).set 4 (.slice (some ⟨w6.heap.size + 1, 0, none⟩) 2 2))
    have HSE := Lib.hid (((((HS8.out.other hsx 0 (.int .i64 4)).other hsx 1 (.int .i64 (1 + q))).other hsx 2 (.int .i64 0)).other hsx 3 (.string ⟨#[]⟩)).other hsx 4 (.slice (some ⟨w6.heap.size + 1, 0, none⟩) 2 2))
    have HFE := Lib.hid (((((HF8.out.setNew hge 0 (.int .i64 4)).setNew hge 1 (.int .i64 (1 + q))).setNew hge 2 (.int .i64 0)).setNew hge 3 (.string ⟨#[]⟩)).setNew hge 4 (.slice (some ⟨w6.heap.size + 1, 0, none⟩) 2 2))
    go_wp2_with fail
    have d0 := HRE.out.at 0 _ rfl
    have d1 := HRE.out.at 1 _ rfl
    have d2 := HRE.out.at 2 _ rfl
    have d3 := HRE.out.at 3 _ rfl
    have d4 := HRE.out.at 4 _ rfl
    exact bodyPost_ret (v := .agg #[.int .i64 4, .int .i64 (1 + q), .int .i64 0, .string ⟨#[]⟩, .slice (some ⟨w6.heap.size + 1, 0, none⟩) 2 2]) (by simp [results, Tryz.results31, go_sem, d0, d1, d2, d3, d4]) rfl ⟨.slice (some ⟨w6.heap.size + 1, 0, none⟩) 2 2, rfl, HSE.out, HFE.out, ((((((HX8.out.keep (set_fresh _ hB 0 _)).keep (set_fresh _ hB 1 _)).keep (set_fresh _ hB 2 _)).keep (set_fresh _ hB 3 _)).keep (set_fresh _ hB 4 _)).mono (fun b h => (Nat.le_trans (by omega) h : w.heap.size ≤ b))), (i64_small ⟨by show _ ≤ (0 : Int); decide, by show (0 : Int) ≤ _; decide⟩)⟩
  · skip
    have b0 := HC2.out.at 0 _ rfl
    have b1 := HC2.out.at 1 _ rfl
    have b2 := HC2.out.at 2 _ rfl
    have b3 := HC2.out.at 3 _ rfl
    have b4 := HC2.out.at 4 _ rfl
    go_wp2_with fail
    refine (HN.out _ HS2.out).mono ?_
    rintro r w3 ⟨rfl, hs3, hf3⟩
    have HS3 := Lib.hid hs3; have HF3 := Lib.hid (HF2.out.trans hf3); have HR3 := Lib.hid (HR2.out.sfr hf3 HZ.out); have HC3 := Lib.hid (HC2.out.sfr hf3 HY.out)
    clear hs3 hf3
    clear b0 b1 b2 b3 b4
    have b0 := HC3.out.at 0 _ rfl
    have b1 := HC3.out.at 1 _ rfl
    have b2 := HC3.out.at 2 _ rfl
    have b3 := HC3.out.at 3 _ rfl
    have b4 := HC3.out.at 4 _ rfl
    go_wp2_with fail
    refine (HIH.out _ qa HS3.out (HSC.out.sfr HF3.out)).mono ?_
    generalize gExpr sc raw (d - 1) qa = x at *
    obtain ⟨x, xa⟩ := x
    rintro r w4 ⟨xv, rfl, hs4, hf4, hx4, hn4⟩
    obtain ⟨xs, xc, rfl⟩ := hx4.shape
    dsimp only at hs4 hx4 hn4 ⊢
    have HS4 := Lib.hid hs4; have HF4 := Lib.hid (HF3.out.trans hf4); have HR4 := Lib.hid (HR3.out.sfr hf4 HZ.out); have HC4 := Lib.hid (HC3.out.sfr hf4 HY.out)
    have hg4 : w.heap.size + 2 ≤ w3.heap.size := by have := HR3.out.lt; omega
    have Hx := Lib.hid (hx4.mono (D' := (w.heap.size + 2 ≤ ·)) (fun b h => Nat.le_trans hg4 h)); have HNx := Lib.hid hn4
    have HFJ4 := Lib.hid hf4
    clear hs4 hf4 hx4 hn4
    clear b0 b1 b2 b3 b4
    have hw5 : Below w4.heap.size w4 (w4.alloc (.cells #[.int .i64 x.kind, .int .i64 x.op, .int .i64 x.n, .string (strOf x.name), .slice xs x.args.length xc] 27)) := (Below.refl _ _).alloc (Nat.le_refl _) _
    have HS5 := Lib.hid (HS4.out.old hw5); have HF5 := Lib.hid (HF4.out.trans (SFr.of_below hw5)); have HR5 := Lib.hid (HR4.out.old hw5); have HC5 := Lib.hid (HC4.out.old hw5)
    have HP5 := Lib.hid (OwnAt.new w4 [.int .i64 x.kind, .int .i64 x.op, .int .i64 x.n, .string (strOf x.name), .slice xs x.args.length xc] 27)
    have Hx5 := Lib.hid (Hx.out.old hw5)
    have hz5 : w4.heap.size ≠ s := by have := HS4.out.lt; omega
    have hu5 : w4.heap.size < (w4.alloc (.cells #[.int .i64 x.kind, .int .i64 x.op, .int .i64 x.n, .string (strOf x.name), .slice xs x.args.length xc] 27)).heap.size := by simp
    clear hw5
    have b0 := HC5.out.at 0 _ rfl
    have b1 := HC5.out.at 1 _ rfl
    have b2 := HC5.out.at 2 _ rfl
    have b3 := HC5.out.at 3 _ rfl
    have b4 := HC5.out.at 4 _ rfl
    go_wp2_with fail
    generalize w4.alloc (.cells #[.int .i64 x.kind, .int .i64 x.op, .int .i64 x.n, .string (strOf x.name), .slice xs x.args.length xc] 27) = w5 at *
    refine (HIH.out _ xa HS5.out (HSC.out.sfr HF5.out)).mono ?_
    generalize gExpr sc raw (d - 1) xa = y at *
    obtain ⟨y, ya⟩ := y
    rintro r w6 ⟨yv, rfl, hs6, hf6, hx6, hn6⟩
    obtain ⟨ys, yc, rfl⟩ := hx6.shape
    dsimp only at hs6 hx6 hn6 ⊢
    have HS6 := Lib.hid hs6; have HF6 := Lib.hid (HF5.out.trans hf6); have HR6 := Lib.hid (HR5.out.sfr hf6 HZ.out); have HC6 := Lib.hid (HC5.out.sfr hf6 HY.out)
    have hg6 : w.heap.size + 2 ≤ w5.heap.size := by have := HR5.out.lt; omega
    have Hy := Lib.hid (hx6.mono (D' := (w.heap.size + 2 ≤ ·)) (fun b h => Nat.le_trans hg6 h)); have HNy := Lib.hid hn6
    have HFJ6 := Lib.hid hf6
    clear hs6 hf6 hx6 hn6
    clear b0 b1 b2 b3 b4
    have HP6 := Lib.hid (HP5.out.sfr HFJ6.out hz5)
    have hxk : Keeps (w.heap.size + 2 ≤ ·) w5 w6 := HFJ6.out.fresh (by omega)
    have Hx6 := Lib.hid (Hx5.out.keep hxk)
    clear hxk
    have hw7 : Below w6.heap.size w6 (w6.alloc (.cells #[.int .i64 y.kind, .int .i64 y.op, .int .i64 y.n, .string (strOf y.name), .slice ys y.args.length yc] 27)) := (Below.refl _ _).alloc (Nat.le_refl _) _
    have HS7 := Lib.hid (HS6.out.old hw7); have HF7 := Lib.hid (HF6.out.trans (SFr.of_below hw7)); have HR7 := Lib.hid (HR6.out.old hw7); have HC7 := Lib.hid (HC6.out.old hw7)
    have HQ7 := Lib.hid (OwnAt.new w6 [.int .i64 y.kind, .int .i64 y.op, .int .i64 y.n, .string (strOf y.name), .slice ys y.args.length yc] 27)
    have Hy7 := Lib.hid (Hy.out.old hw7)
    have hz7 : w6.heap.size ≠ s := by have := HS6.out.lt; omega
    have hu7 : w6.heap.size < (w6.alloc (.cells #[.int .i64 y.kind, .int .i64 y.op, .int .i64 y.n, .string (strOf y.name), .slice ys y.args.length yc] 27)).heap.size := by simp
    clear hw7
    have hw7 : Below w6.heap.size w6 (w6.alloc (.cells #[.int .i64 y.kind, .int .i64 y.op, .int .i64 y.n, .string (strOf y.name), .slice ys y.args.length yc] 27)) := (Below.refl _ _).alloc (Nat.le_refl _) _
    have Hx7 := Lib.hid (Hx6.out.old hw7)
    have HP7 := Lib.hid (HP6.out.old hw7)
    clear hw7
    have p0 := HP7.out.at 0 _ rfl
    have p1 := HP7.out.at 1 _ rfl
    have p2 := HP7.out.at 2 _ rfl
    have p3 := HP7.out.at 3 _ rfl
    have p4 := HP7.out.at 4 _ rfl
    have hB : w.heap.size + 1 < w.heap.size + 2 := by omega
    have hw8 : Below (w6.alloc (.cells #[.int .i64 y.kind, .int .i64 y.op, .int .i64 y.n, .string (strOf y.name), .slice ys y.args.length yc] 27)).heap.size (w6.alloc (.cells #[.int .i64 y.kind, .int .i64 y.op, .int .i64 y.n, .string (strOf y.name), .slice ys y.args.length yc] 27)) ((w6.alloc (.cells #[.int .i64 y.kind, .int .i64 y.op, .int .i64 y.n, .string (strOf y.name), .slice ys y.args.length yc] 27)).alloc (.cells #[.int .i64 x.kind, .int .i64 x.op, .int .i64 x.n, .string (strOf x.name), .slice xs x.args.length xc, .int .i64 y.kind, .int .i64 y.op, .int .i64 y.n, .string (strOf y.name), .slice ys y.args.length yc] 27)) := (Below.refl _ _).alloc (Nat.le_refl _) _
    have HS8 := Lib.hid (HS7.out.old hw8); have HF8 := Lib.hid (HF7.out.trans (SFr.of_below hw8)); have HR8 := Lib.hid (HR7.out.old hw8); have HC8 := Lib.hid (HC7.out.old hw8)
    have hrow := RowAt.new (w6.alloc (.cells #[.int .i64 y.kind, .int .i64 y.op, .int .i64 y.n, .string (strOf y.name), .slice ys y.args.length yc] 27)) (exCells x (.slice xs x.args.length xc) ++ exCells y (.slice ys y.args.length yc)) 27
    rw [show (w6.alloc (.cells #[.int .i64 y.kind, .int .i64 y.op, .int .i64 y.n, .string (strOf y.name), .slice ys y.args.length yc] 27)).heap.size = w6.heap.size + 1 by simp] at hrow
    have hrow : RowAt ((w6.alloc (.cells #[.int .i64 y.kind, .int .i64 y.op, .int .i64 y.n, .string (strOf y.name), .slice ys y.args.length yc] 27)).alloc (.cells #[.int .i64 x.kind, .int .i64 x.op, .int .i64 x.n, .string (strOf x.name), .slice xs x.args.length xc, .int .i64 y.kind, .int .i64 y.op, .int .i64 y.n, .string (strOf y.name), .slice ys y.args.length yc] 27)) (w6.heap.size + 1) 0 (exCells x (.slice xs x.args.length xc) ++ exCells y (.slice ys y.args.length yc)) := hrow
    have hlt := HR6.out.lt
    have HX8 : Hid (ExsAt (w.heap.size + 2 ≤ ·) ((w6.alloc (.cells #[.int .i64 y.kind, .int .i64 y.op, .int .i64 y.n, .string (strOf y.name), .slice ys y.args.length yc] 27)).alloc (.cells #[.int .i64 x.kind, .int .i64 x.op, .int .i64 x.n, .string (strOf x.name), .slice xs x.args.length xc, .int .i64 y.kind, .int .i64 y.op, .int .i64 y.n, .string (strOf y.name), .slice ys y.args.length yc] 27)) [x, y] (.slice (some ⟨w6.heap.size + 1, 0, none⟩) 2 2)) := .two x y _ _ (by show _ ≤ _; omega) hrow (Hx7.out.old hw8) HNx.out (Hy7.out.old hw8) HNy.out
    clear hw8 hrow hlt
    have x0 := HR8.out.at 0 _ rfl
    have x1 := HR8.out.at 1 _ rfl
    have x2 := HR8.out.at 2 _ rfl
    have x3 := HR8.out.at 3 _ rfl
    have x4 := HR8.out.at 4 _ rfl
    have fx0 := HR8.out.fz 0
    have fx1 := HR8.out.fz 1
    have fx2 := HR8.out.fz 2
    have fx3 := HR8.out.fz 3
    have fx4 := HR8.out.fz 4
    have HRE := Lib.hid (((((HR8.out.set 0 (.int .i64 4)).set 1 (.int .i64 (1 + q))).set 2 (.int .i64 0)).set 3 (.string ⟨#[]⟩)).set 4 (.slice (some ⟨w6.heap.size + 1, 0, none⟩) 2 2))
    have HSE := Lib.hid (((((HS8.out.other hsx 0 (.int .i64 4)).other hsx 1 (.int .i64 (1 + q))).other hsx 2 (.int .i64 0)).other hsx 3 (.string ⟨#[]⟩)).other hsx 4 (.slice (some ⟨w6.heap.size + 1, 0, none⟩) 2 2))
    have HFE := Lib.hid (((((HF8.out.setNew hge 0 (.int .i64 4)).setNew hge 1 (.int .i64 (1 + q))).setNew hge 2 (.int .i64 0)).setNew hge 3 (.string ⟨#[]⟩)).setNew hge 4 (.slice (some ⟨w6.heap.size + 1, 0, none⟩) 2 2))
    go_wp2_with fail
    have d0 := HRE.out.at 0 _ rfl
    have d1 := HRE.out.at 1 _ rfl
    have d2 := HRE.out.at 2 _ rfl
    have d3 := HRE.out.at 3 _ rfl
    have d4 := HRE.out.at 4 _ rfl
    exact bodyPost_ret (v := .agg #[.int .i64 4, .int .i64 (1 + q), .int .i64 0, .string ⟨#[]⟩, .slice (some ⟨w6.heap.size + 1, 0, none⟩) 2 2]) (by simp [results, Tryz.results31, go_sem, d0, d1, d2, d3, d4]) rfl ⟨.slice (some ⟨w6.heap.size + 1, 0, none⟩) 2 2, rfl, HSE.out, HFE.out, ((((((HX8.out.keep (set_fresh _ hB 0 _)).keep (set_fresh _ hB 1 _)).keep (set_fresh _ hB 2 _)).keep (set_fresh _ hB 3 _)).keep (set_fresh _ hB 4 _)).mono (fun b h => (Nat.le_trans (by omega) h : w.heap.size ≤ b))), (i64_small ⟨by show _ ≤ (0 : Int); decide, by show (0 : Int) ≤ _; decide⟩)⟩
end Go.Proofs.YtcfpfnoldgnloaaGreatDoor
