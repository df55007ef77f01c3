/-
  scope.expr: a raw expression: a variable. Conditions: the source and the scope lie in memory as the types say.
  scope.expr: a raw expression: what is read. Conditions: the source and the scope lie in memory as the types say.
  scope.expr: a raw expression: an operator of one. Conditions: the source and the scope lie in memory as the types say.
-/
import Derived.Test.YtcfpfnoldgnloaaGreatDoorPn24
set_option linter.unusedVariables false
set_option linter.unusedSimpArgs false
namespace Go.Proofs.YtcfpfnoldgnloaaGreatDoor
open Go.RowKit
set_option maxHeartbeats 4000000
set_option maxRecDepth 100000

theorem ge_var (d : Nat) (hd : 2 ≤ d) (hd1 : d ≤ 1000) (s : Nat) (raw : List Int) (a : Nat) (sc : Sc) (vv av fv : Value) (w : World) (hs : SrcAt w s raw a) (hsc : ScAt s w sc vv av fv) (k : Int) (hkk : gK raw d a = k) (hk : k = 1 ∨ k = 2) (hv : sc.hasVars = true) :
    Calls Tryz.prog 31 #[scV sc vv av fv, .pointer (some ⟨s, 0, none⟩), .int .i64 d] w (GivesEx w s raw (gKind sc raw (gExpr sc raw (d - 1)) k (gNext raw a 12).2)) := by
  obtain ⟨v1, v2, rfl⟩ := hsc.vars.shape
  obtain ⟨a1, a2, rfl⟩ := hsc.arrays.shape
  obtain ⟨f1, f2, rfl⟩ := hsc.funcs.shape
  have lv := hsc.v1; have la := hsc.a1; have lf := hsc.f1
  have hsl := hs.lt
  have HK : Hid (∀ w1, SrcAt w1 s raw a → Calls Tryz.prog 37 #[.pointer (some ⟨s, 0, none⟩), .int .i64 12] w1 (Takes w1 s raw (.int .i64 (gNext raw a 12).1) (gNext raw a 12).2)) := fun w1 h1 => next_any s raw a 12 w1 h1 (by decide) (by decide)
  have hr := gNext_range raw a 12 (by decide)
  unfold gK at hkk
  rw [if_neg (by omega)] at hkk
  generalize gNext raw a 12 = g at *
  obtain ⟨g, ga⟩ := g
  obtain ⟨g0, g1⟩ := hr
  dsimp only at g0 g1 hkk HK ⊢
  replace hkk := hkk.symm
  subst hkk
  have hb1 : Below w.heap.size w ((w.alloc (.cells #[.slice v1 sc.vars.length v2, .slice a1 sc.arrays.length a2, .slice f1 sc.funcs.length f2, .bool sc.free, .bool sc.loop] 73)).alloc (.cells #[.int .i64 0, .int .i64 0, .int .i64 0, .string ⟨#[]⟩, .slice none 0 0] 27)) := ((Below.refl _ _).alloc (Nat.le_refl _) _).alloc (by simp) _
  have hr1 := OwnAt.new (w.alloc (.cells #[.slice v1 sc.vars.length v2, .slice a1 sc.arrays.length a2, .slice f1 sc.funcs.length f2, .bool sc.free, .bool sc.loop] 73)) [.int .i64 0, .int .i64 0, .int .i64 0, .string ⟨#[]⟩, .slice none 0 0] 27
  rw [show (w.alloc (.cells #[.slice v1 sc.vars.length v2, .slice a1 sc.arrays.length a2, .slice f1 sc.funcs.length f2, .bool sc.free, .bool sc.loop] 73)).heap.size = w.heap.size + 1 by simp] at hr1
  have HC := Lib.hid ((OwnAt.new w [.slice v1 sc.vars.length v2, .slice a1 sc.arrays.length a2, .slice f1 sc.funcs.length f2, .bool sc.free, .bool sc.loop] 73).alloc (.cells #[.int .i64 0, .int .i64 0, .int .i64 0, .string ⟨#[]⟩, .slice none 0 0] 27))
  have HR := Lib.hid hr1
  have HS1 := Lib.hid (hs.old hb1); have HF1 : Hid (SFr s w ((w.alloc (.cells #[.slice v1 sc.vars.length v2, .slice a1 sc.arrays.length a2, .slice f1 sc.funcs.length f2, .bool sc.free, .bool sc.loop] 73)).alloc (.cells #[.int .i64 0, .int .i64 0, .int .i64 0, .string ⟨#[]⟩, .slice none 0 0] 27))) := SFr.of_below hb1
  have HSC := Lib.hid hsc
  have HZ : Hid (w.heap.size + 1 ≠ s) := by show _ ≠ _; omega
  have HY : Hid (w.heap.size ≠ s) := by show _ ≠ _; omega
  have hsx : s < w.heap.size + 1 := by omega
  have hge : w.heap.size ≤ w.heap.size + 1 := by omega
  have hd0 : (0 : Int) ≤ (d : Int) := by omega
  have hdI : (2 : Int) ≤ (d : Int) := by omega
  have hdM : (d : Int) ≤ 1000 := by omega
  have hva : Hid (sc.hasVars = (decide (0 < sc.vars.length) || sc.free)) := hasVars_eq sc
  have haa : Hid (sc.hasArrays = (decide (0 < sc.arrays.length) || sc.free)) := hasArrays_eq sc
  have hfa : Hid (sc.hasFuncs = (decide (0 < sc.funcs.length) || sc.free)) := hasFuncs_eq sc
  clear hb1 hr1 hs hsc
  have E : gKind sc raw (gExpr sc raw (d - 1)) k ga = (.mk 2 0 0 (gName sc.free sc.vars raw ga).1 [], (gName sc.free sc.vars raw ga).2) := by unfold gKind; rw [if_pos ⟨hk, hv⟩]
  rw [E]
  clear E
  have HNM : Hid (∀ w1, SrcAt w1 s raw ga → StrsAt (· ≠ s) w1 sc.vars (.slice v1 sc.vars.length v2) → Calls Tryz.prog 69 #[scV sc (.slice v1 sc.vars.length v2) (.slice a1 sc.arrays.length a2) (.slice f1 sc.funcs.length f2), .pointer (some ⟨s, 0, none⟩), .slice v1 sc.vars.length v2] w1 (Takes w1 s raw (.string (strOf (gName sc.free sc.vars raw ga).1)) (gName sc.free sc.vars raw ga).2)) := fun w1 h1 h2 => name_take s raw ga sc _ _ _ _ sc.vars w1 h1 h2 lv
  generalize gName sc.free sc.vars raw ga = n at *
  go_enter Tryz.func31, Tryz.ntmps31
  go_wp2_with fail
  refine (HK.out _ HS1.out).mono ?_
  rintro r w2 ⟨rfl, hs2, hf2⟩
  have HS2 := Lib.hid hs2; have HF2 := Lib.hid (HF1.out.trans hf2); have HR2 := Lib.hid (HR.out.sfr hf2 HZ.out); have HC2 := Lib.hid (HC.out.sfr hf2 HY.out)
  clear hs2 hf2 HS1 HF1 HR HC HK
  have b0 := HC2.out.at 0 _ rfl
  have b1 := HC2.out.at 1 _ rfl
  have b2 := HC2.out.at 2 _ rfl
  have b3 := HC2.out.at 3 _ rfl
  have b4 := HC2.out.at 4 _ rfl
  go_upto_region 4 with (fail)
  go_cut [8] (fun q wx => q = .bool sc.hasVars ∧ w2 = wx)
  case first =>
    by_cases hlv : 0 < sc.vars.length
    · have hlv' : (0 : Int) < (sc.vars.length : Int) := by omega
      go_wp2_with fail
      go_meet
      exact ⟨by rw [hva.out, decide_eq_true hlv]; rfl, rfl⟩
    · have hlv' : (sc.vars.length : Int) ≤ 0 := by omega
      go_wp2_with fail
      go_meet
      exact ⟨by rw [hva.out, decide_eq_false hlv]; rfl, rfl⟩
  case rest =>
  obtain ⟨rfl, rfl⟩ := hcut
  go_upto_region 5 with (fail)
  go_cut [9] (fun q wx => q = .bool sc.hasArrays ∧ w2 = wx)
  case first =>
    by_cases hlv : 0 < sc.arrays.length
    · have hlv' : (0 : Int) < (sc.arrays.length : Int) := by omega
      go_wp2_with fail
      go_meet
      exact ⟨by rw [haa.out, decide_eq_true hlv]; rfl, rfl⟩
    · have hlv' : (sc.arrays.length : Int) ≤ 0 := by omega
      go_wp2_with fail
      go_meet
      exact ⟨by rw [haa.out, decide_eq_false hlv]; rfl, rfl⟩
  case rest =>
  obtain ⟨rfl, rfl⟩ := hcut
  go_upto_region 6 with (fail)
  go_cut [10] (fun q wx => q = .bool sc.hasFuncs ∧ w2 = wx)
  case first =>
    by_cases hlv : 0 < sc.funcs.length
    · have hlv' : (0 : Int) < (sc.funcs.length : Int) := by omega
      go_wp2_with fail
      go_meet
      exact ⟨by rw [hfa.out, decide_eq_true hlv]; rfl, rfl⟩
    · have hlv' : (sc.funcs.length : Int) ≤ 0 := by omega
      go_wp2_with fail
      go_meet
      exact ⟨by rw [hfa.out, decide_eq_false hlv]; rfl, rfl⟩
  case rest =>
  obtain ⟨rfl, rfl⟩ := hcut
  clear b0 b1 b2 b3 b4 hva haa hfa
  rcases hk with rfl | rfl
  all_goals
    have b0 := HC2.out.at 0 _ rfl
    have b1 := HC2.out.at 1 _ rfl
    have b2 := HC2.out.at 2 _ rfl
    have b3 := HC2.out.at 3 _ rfl
    have b4 := HC2.out.at 4 _ rfl
    go_wp2_with fail
    refine (HNM.out _ HS2.out (HSC.out.vars.keep HF2.out.keeps)).mono ?_
    rintro r w3 ⟨rfl, hs3, hf3⟩
    have HS3 := Lib.hid hs3; have HF3 := Lib.hid (HF2.out.trans hf3); have HR3 := Lib.hid (HR2.out.sfr hf3 HZ.out); have HC3 := Lib.hid (HC2.out.sfr hf3 HY.out)
    clear hs3 hf3
    have x0 := HR3.out.at 0 _ rfl
    have x1 := HR3.out.at 1 _ rfl
    have x2 := HR3.out.at 2 _ rfl
    have x3 := HR3.out.at 3 _ rfl
    have x4 := HR3.out.at 4 _ rfl
    have fx0 := HR3.out.fz 0
    have fx1 := HR3.out.fz 1
    have fx2 := HR3.out.fz 2
    have fx3 := HR3.out.fz 3
    have fx4 := HR3.out.fz 4
    have HRE := Lib.hid (((((HR3.out.set 0 (.int .i64 2)).set 1 (.int .i64 0)).set 2 (.int .i64 0)).set 3 (.string (strOf n.1))).set 4 (.slice none 0 0))
    have HSE := Lib.hid (((((HS3.out.other hsx 0 (.int .i64 2)).other hsx 1 (.int .i64 0)).other hsx 2 (.int .i64 0)).other hsx 3 (.string (strOf n.1))).other hsx 4 (.slice none 0 0))
    have HFE := Lib.hid (((((HF3.out.setNew hge 0 (.int .i64 2)).setNew hge 1 (.int .i64 0)).setNew hge 2 (.int .i64 0)).setNew hge 3 (.string (strOf n.1))).setNew hge 4 (.slice none 0 0))
    go_wp2_with fail
    have d0 := HRE.out.at 0 _ rfl
    have d1 := HRE.out.at 1 _ rfl
    have d2 := HRE.out.at 2 _ rfl
    have d3 := HRE.out.at 3 _ rfl
    have d4 := HRE.out.at 4 _ rfl
    exact bodyPost_ret (v := .agg #[.int .i64 2, .int .i64 0, .int .i64 0, .string (strOf n.1), .slice none 0 0]) (by simp [results, Tryz.results31, go_sem, d0, d1, d2, d3, d4]) rfl ⟨.slice none 0 0, rfl, HSE.out, HFE.out, ExsAt.zero, (i64_small ⟨by show _ ≤ (0 : Int); decide, by show (0 : Int) ≤ _; decide⟩)⟩

theorem ge_var0 (d : Nat) (hd : d < 2) (hd1 : d ≤ 1000) (s : Nat) (raw : List Int) (a : Nat) (sc : Sc) (vv av fv : Value) (w : World) (hs : SrcAt w s raw a) (hsc : ScAt s w sc vv av fv) (k : Int) (hkk : gK raw d a = k) (hk : k = 1 ∨ k = 2) (hv : sc.hasVars = true) :
    Calls Tryz.prog 31 #[scV sc vv av fv, .pointer (some ⟨s, 0, none⟩), .int .i64 d] w (GivesEx w s raw (gKind sc raw (gExpr sc raw (d - 1)) k (gNext raw a 12).2)) := by
  obtain ⟨v1, v2, rfl⟩ := hsc.vars.shape
  obtain ⟨a1, a2, rfl⟩ := hsc.arrays.shape
  obtain ⟨f1, f2, rfl⟩ := hsc.funcs.shape
  have lv := hsc.v1; have la := hsc.a1; have lf := hsc.f1
  have hsl := hs.lt
  have HK : Hid (∀ w1, SrcAt w1 s raw a → Calls Tryz.prog 37 #[.pointer (some ⟨s, 0, none⟩), .int .i64 12] w1 (Takes w1 s raw (.int .i64 (gNext raw a 12).1) (gNext raw a 12).2)) := fun w1 h1 => next_any s raw a 12 w1 h1 (by decide) (by decide)
  have hr := gNext_range raw a 12 (by decide)
  unfold gK at hkk
  rw [if_pos hd] at hkk
  generalize gNext raw a 12 = g at *
  obtain ⟨g, ga⟩ := g
  obtain ⟨g0, g1⟩ := hr
  dsimp only at g0 g1 hkk HK ⊢
  have hk0 : 0 ≤ k := by omega
  have hk1 : k < 4 := by omega
  have HKK := Lib.hid hkk; clear hkk
  have hb1 : Below w.heap.size w ((w.alloc (.cells #[.slice v1 sc.vars.length v2, .slice a1 sc.arrays.length a2, .slice f1 sc.funcs.length f2, .bool sc.free, .bool sc.loop] 73)).alloc (.cells #[.int .i64 0, .int .i64 0, .int .i64 0, .string ⟨#[]⟩, .slice none 0 0] 27)) := ((Below.refl _ _).alloc (Nat.le_refl _) _).alloc (by simp) _
  have hr1 := OwnAt.new (w.alloc (.cells #[.slice v1 sc.vars.length v2, .slice a1 sc.arrays.length a2, .slice f1 sc.funcs.length f2, .bool sc.free, .bool sc.loop] 73)) [.int .i64 0, .int .i64 0, .int .i64 0, .string ⟨#[]⟩, .slice none 0 0] 27
  rw [show (w.alloc (.cells #[.slice v1 sc.vars.length v2, .slice a1 sc.arrays.length a2, .slice f1 sc.funcs.length f2, .bool sc.free, .bool sc.loop] 73)).heap.size = w.heap.size + 1 by simp] at hr1
  have HC := Lib.hid ((OwnAt.new w [.slice v1 sc.vars.length v2, .slice a1 sc.arrays.length a2, .slice f1 sc.funcs.length f2, .bool sc.free, .bool sc.loop] 73).alloc (.cells #[.int .i64 0, .int .i64 0, .int .i64 0, .string ⟨#[]⟩, .slice none 0 0] 27))
  have HR := Lib.hid hr1
  have HS1 := Lib.hid (hs.old hb1); have HF1 : Hid (SFr s w ((w.alloc (.cells #[.slice v1 sc.vars.length v2, .slice a1 sc.arrays.length a2, .slice f1 sc.funcs.length f2, .bool sc.free, .bool sc.loop] 73)).alloc (.cells #[.int .i64 0, .int .i64 0, .int .i64 0, .string ⟨#[]⟩, .slice none 0 0] 27))) := SFr.of_below hb1
  have HSC := Lib.hid hsc
  have HZ : Hid (w.heap.size + 1 ≠ s) := by show _ ≠ _; omega
  have HY : Hid (w.heap.size ≠ s) := by show _ ≠ _; omega
  have hsx : s < w.heap.size + 1 := by omega
  have hge : w.heap.size ≤ w.heap.size + 1 := by omega
  have hd0 : (0 : Int) ≤ (d : Int) := by omega
  have hdI : (d : Int) < 2 := by omega
  have hdM : (d : Int) ≤ 1000 := by omega
  have hva : Hid (sc.hasVars = (decide (0 < sc.vars.length) || sc.free)) := hasVars_eq sc
  have haa : Hid (sc.hasArrays = (decide (0 < sc.arrays.length) || sc.free)) := hasArrays_eq sc
  have hfa : Hid (sc.hasFuncs = (decide (0 < sc.funcs.length) || sc.free)) := hasFuncs_eq sc
  clear hb1 hr1 hs hsc
  have E : gKind sc raw (gExpr sc raw (d - 1)) k ga = (.mk 2 0 0 (gName sc.free sc.vars raw ga).1 [], (gName sc.free sc.vars raw ga).2) := by unfold gKind; rw [if_pos ⟨hk, hv⟩]
  rw [E]
  clear E
  have HNM : Hid (∀ w1, SrcAt w1 s raw ga → StrsAt (· ≠ s) w1 sc.vars (.slice v1 sc.vars.length v2) → Calls Tryz.prog 69 #[scV sc (.slice v1 sc.vars.length v2) (.slice a1 sc.arrays.length a2) (.slice f1 sc.funcs.length f2), .pointer (some ⟨s, 0, none⟩), .slice v1 sc.vars.length v2] w1 (Takes w1 s raw (.string (strOf (gName sc.free sc.vars raw ga).1)) (gName sc.free sc.vars raw ga).2)) := fun w1 h1 h2 => name_take s raw ga sc _ _ _ _ sc.vars w1 h1 h2 lv
  generalize gName sc.free sc.vars raw ga = n at *
  go_enter Tryz.func31, Tryz.ntmps31
  go_wp2_with fail
  refine (HK.out _ HS1.out).mono ?_
  rintro r w2 ⟨rfl, hs2, hf2⟩
  have HS2 := Lib.hid hs2; have HF2 := Lib.hid (HF1.out.trans hf2); have HR2 := Lib.hid (HR.out.sfr hf2 HZ.out); have HC2 := Lib.hid (HC.out.sfr hf2 HY.out)
  clear hs2 hf2 HS1 HF1 HR HC HK
  have b0 := HC2.out.at 0 _ rfl
  have b1 := HC2.out.at 1 _ rfl
  have b2 := HC2.out.at 2 _ rfl
  have b3 := HC2.out.at 3 _ rfl
  have b4 := HC2.out.at 4 _ rfl
  go_upto_region 4 with (fail)
  go_cut [8] (fun q wx => q = .bool sc.hasVars ∧ w2 = wx)
  case first =>
    by_cases hlv : 0 < sc.vars.length
    · have hlv' : (0 : Int) < (sc.vars.length : Int) := by omega
      go_wp2_with fail
      go_meet
      exact ⟨by rw [hva.out, decide_eq_true hlv]; rfl, rfl⟩
    · have hlv' : (sc.vars.length : Int) ≤ 0 := by omega
      go_wp2_with fail
      go_meet
      exact ⟨by rw [hva.out, decide_eq_false hlv]; rfl, rfl⟩
  case rest =>
  obtain ⟨rfl, rfl⟩ := hcut
  go_upto_region 5 with (fail)
  go_cut [9] (fun q wx => q = .bool sc.hasArrays ∧ w2 = wx)
  case first =>
    by_cases hlv : 0 < sc.arrays.length
    · have hlv' : (0 : Int) < (sc.arrays.length : Int) := by omega
      go_wp2_with fail
      go_meet
      exact ⟨by rw [haa.out, decide_eq_true hlv]; rfl, rfl⟩
    · have hlv' : (sc.arrays.length : Int) ≤ 0 := by omega
      go_wp2_with fail
      go_meet
      exact ⟨by rw [haa.out, decide_eq_false hlv]; rfl, rfl⟩
  case rest =>
  obtain ⟨rfl, rfl⟩ := hcut
  go_upto_region 6 with (fail)
  go_cut [10] (fun q wx => q = .bool sc.hasFuncs ∧ w2 = wx)
  case first =>
    by_cases hlv : 0 < sc.funcs.length
    · have hlv' : (0 : Int) < (sc.funcs.length : Int) := by omega
      go_wp2_with fail
      go_meet
      exact ⟨by rw [hfa.out, decide_eq_true hlv]; rfl, rfl⟩
    · have hlv' : (sc.funcs.length : Int) ≤ 0 := by omega
      go_wp2_with fail
      go_meet
      exact ⟨by rw [hfa.out, decide_eq_false hlv]; rfl, rfl⟩
  case rest =>
  obtain ⟨rfl, rfl⟩ := hcut
  clear b0 b1 b2 b3 b4 hva haa hfa
  rcases hk with rfl | rfl
  all_goals
    rw [HKK.out]
    have b0 := HC2.out.at 0 _ rfl
    have b1 := HC2.out.at 1 _ rfl
    have b2 := HC2.out.at 2 _ rfl
    have b3 := HC2.out.at 3 _ rfl
    have b4 := HC2.out.at 4 _ rfl
    go_wp2_with fail
    refine (HNM.out _ HS2.out (HSC.out.vars.keep HF2.out.keeps)).mono ?_
    rintro r w3 ⟨rfl, hs3, hf3⟩
    have HS3 := Lib.hid hs3; have HF3 := Lib.hid (HF2.out.trans hf3); have HR3 := Lib.hid (HR2.out.sfr hf3 HZ.out); have HC3 := Lib.hid (HC2.out.sfr hf3 HY.out)
    clear hs3 hf3
    have x0 := HR3.out.at 0 _ rfl
    have x1 := HR3.out.at 1 _ rfl
    have x2 := HR3.out.at 2 _ rfl
    have x3 := HR3.out.at 3 _ rfl
    have x4 := HR3.out.at 4 _ rfl
    have fx0 := HR3.out.fz 0
    have fx1 := HR3.out.fz 1
    have fx2 := HR3.out.fz 2
    have fx3 := HR3.out.fz 3
    have fx4 := HR3.out.fz 4
    have HRE := Lib.hid (((((HR3.out.set 0 (.int .i64 2)).set 1 (.int .i64 0)).set 2 (.int .i64 0)).set 3 (.string (strOf n.1))).set 4 (.slice none 0 0))
    have HSE := Lib.hid (((((HS3.out.other hsx 0 (.int .i64 2)).other hsx 1 (.int .i64 0)).other hsx 2 (.int .i64 0)).other hsx 3 (.string (strOf n.1))).other hsx 4 (.slice none 0 0))
    have HFE := Lib.hid (((((HF3.out.setNew hge 0 (.int .i64 2)).setNew hge 1 (.int .i64 0)).setNew hge 2 (.int .i64 0)).setNew hge 3 (.string (strOf n.1))).setNew hge 4 (.slice none 0 0))
    go_wp2_with fail
    have d0 := HRE.out.at 0 _ rfl
    have d1 := HRE.out.at 1 _ rfl
    have d2 := HRE.out.at 2 _ rfl
    have d3 := HRE.out.at 3 _ rfl
    have d4 := HRE.out.at 4 _ rfl
    exact bodyPost_ret (v := .agg #[.int .i64 2, .int .i64 0, .int .i64 0, .string (strOf n.1), .slice none 0 0]) (by simp [results, Tryz.results31, go_sem, d0, d1, d2, d3, d4]) rfl ⟨.slice none 0 0, rfl, HSE.out, HFE.out, ExsAt.zero, (i64_small ⟨by show _ ≤ (0 : Int); decide, by show (0 : Int) ≤ _; decide⟩)⟩
end Go.Proofs.YtcfpfnoldgnloaaGreatDoor

namespace Go.Proofs.YtcfpfnoldgnloaaGreatDoor
open Go.RowKit
set_option maxHeartbeats 4000000
set_option maxRecDepth 100000

theorem ge_read (d : Nat) (hd : 2 ≤ d) (hd1 : d ≤ 1000) (s : Nat) (raw : List Int) (a : Nat) (sc : Sc) (vv av fv : Value) (w : World) (hs : SrcAt w s raw a) (hsc : ScAt s w sc vv av fv) (k : Int) (hkk : gK raw d a = k) (hk : k = 3) (hq : (gNext raw (gNext raw a 12).2 3).1 = 2) :
    Calls Tryz.prog 31 #[scV sc vv av fv, .pointer (some ⟨s, 0, none⟩), .int .i64 d] w (GivesEx w s raw (gKind sc raw (gExpr sc raw (d - 1)) k (gNext raw a 12).2)) := by
  obtain ⟨v1, v2, rfl⟩ := hsc.vars.shape
  obtain ⟨a1, a2, rfl⟩ := hsc.arrays.shape
  obtain ⟨f1, f2, rfl⟩ := hsc.funcs.shape
  have lv := hsc.v1; have la := hsc.a1; have lf := hsc.f1
  have hsl := hs.lt
  have HK : Hid (∀ w1, SrcAt w1 s raw a → Calls Tryz.prog 37 #[.pointer (some ⟨s, 0, none⟩), .int .i64 12] w1 (Takes w1 s raw (.int .i64 (gNext raw a 12).1) (gNext raw a 12).2)) := fun w1 h1 => next_any s raw a 12 w1 h1 (by decide) (by decide)
  have hr := gNext_range raw a 12 (by decide)
  unfold gK at hkk
  rw [if_neg (by omega)] at hkk
  generalize gNext raw a 12 = g at *
  obtain ⟨g, ga⟩ := g
  obtain ⟨g0, g1⟩ := hr
  dsimp only at g0 g1 hkk HK ⊢
  replace hkk := hkk.symm
  subst hkk
  have hb1 : Below w.heap.size w ((w.alloc (.cells #[.slice v1 sc.vars.length v2, .slice a1 sc.arrays.length a2, .slice f1 sc.funcs.length f2, .bool sc.free, .bool sc.loop] 73)).alloc (.cells #[.int .i64 0, .int .i64 0, .int .i64 0, .string ⟨#[]⟩, .slice none 0 0] 27)) := ((Below.refl _ _).alloc (Nat.le_refl _) _).alloc (by simp) _
  have hr1 := OwnAt.new (w.alloc (.cells #[.slice v1 sc.vars.length v2, .slice a1 sc.arrays.length a2, .slice f1 sc.funcs.length f2, .bool sc.free, .bool sc.loop] 73)) [.int .i64 0, .int .i64 0, .int .i64 0, .string ⟨#[]⟩, .slice none 0 0] 27
  rw [show (w.alloc (.cells #[.slice v1 sc.vars.length v2, .slice a1 sc.arrays.length a2, .slice f1 sc.funcs.length f2, .bool sc.free, .bool sc.loop] 73)).heap.size = w.heap.size + 1 by simp] at hr1
  have HC := Lib.hid ((OwnAt.new w [.slice v1 sc.vars.length v2, .slice a1 sc.arrays.length a2, .slice f1 sc.funcs.length f2, .bool sc.free, .bool sc.loop] 73).alloc (.cells #[.int .i64 0, .int .i64 0, .int .i64 0, .string ⟨#[]⟩, .slice none 0 0] 27))
  have HR := Lib.hid hr1
  have HS1 := Lib.hid (hs.old hb1); have HF1 : Hid (SFr s w ((w.alloc (.cells #[.slice v1 sc.vars.length v2, .slice a1 sc.arrays.length a2, .slice f1 sc.funcs.length f2, .bool sc.free, .bool sc.loop] 73)).alloc (.cells #[.int .i64 0, .int .i64 0, .int .i64 0, .string ⟨#[]⟩, .slice none 0 0] 27))) := SFr.of_below hb1
  have HSC := Lib.hid hsc
  have HZ : Hid (w.heap.size + 1 ≠ s) := by show _ ≠ _; omega
  have HY : Hid (w.heap.size ≠ s) := by show _ ≠ _; omega
  have hsx : s < w.heap.size + 1 := by omega
  have hge : w.heap.size ≤ w.heap.size + 1 := by omega
  have hd0 : (0 : Int) ≤ (d : Int) := by omega
  have hdI : (2 : Int) ≤ (d : Int) := by omega
  have hdM : (d : Int) ≤ 1000 := by omega
  have hva : Hid (sc.hasVars = (decide (0 < sc.vars.length) || sc.free)) := hasVars_eq sc
  have haa : Hid (sc.hasArrays = (decide (0 < sc.arrays.length) || sc.free)) := hasArrays_eq sc
  have hfa : Hid (sc.hasFuncs = (decide (0 < sc.funcs.length) || sc.free)) := hasFuncs_eq sc
  clear hb1 hr1 hs hsc
  have E : gKind sc raw (gExpr sc raw (d - 1)) k ga = (.mk 7 0 0 [] [], (gNext raw ga 3).2) := by unfold gKind; rw [if_neg (by omega), if_pos ⟨hk, hq⟩]
  rw [E]
  clear E
  have HN : Hid (∀ w1, SrcAt w1 s raw ga → Calls Tryz.prog 37 #[.pointer (some ⟨s, 0, none⟩), .int .i64 3] w1 (Takes w1 s raw (.int .i64 (gNext raw ga 3).1) (gNext raw ga 3).2)) := fun w1 h1 => next_any s raw ga 3 w1 h1 (by decide) (by decide)
  have qr := gNext_range raw ga 3 (by decide)
  generalize gNext raw ga 3 = q at *
  obtain ⟨q, qa⟩ := q
  dsimp only at *
  subst hq
  go_enter Tryz.func31, Tryz.ntmps31
  go_wp2_with fail
  refine (HK.out _ HS1.out).mono ?_
  rintro r w2 ⟨rfl, hs2, hf2⟩
  have HS2 := Lib.hid hs2; have HF2 := Lib.hid (HF1.out.trans hf2); have HR2 := Lib.hid (HR.out.sfr hf2 HZ.out); have HC2 := Lib.hid (HC.out.sfr hf2 HY.out)
  clear hs2 hf2 HS1 HF1 HR HC HK
  have b0 := HC2.out.at 0 _ rfl
  have b1 := HC2.out.at 1 _ rfl
  have b2 := HC2.out.at 2 _ rfl
  have b3 := HC2.out.at 3 _ rfl
  have b4 := HC2.out.at 4 _ rfl
  go_upto_region 4 with (fail)
  go_cut [8] (fun q wx => q = .bool sc.hasVars ∧ w2 = wx)
  case first =>
    by_cases hlv : 0 < sc.vars.length
    · have hlv' : (0 : Int) < (sc.vars.length : Int) := by omega
      go_wp2_with fail
      go_meet
      exact ⟨by rw [hva.out, decide_eq_true hlv]; rfl, rfl⟩
    · have hlv' : (sc.vars.length : Int) ≤ 0 := by omega
      go_wp2_with fail
      go_meet
      exact ⟨by rw [hva.out, decide_eq_false hlv]; rfl, rfl⟩
  case rest =>
  obtain ⟨rfl, rfl⟩ := hcut
  go_upto_region 5 with (fail)
  go_cut [9] (fun q wx => q = .bool sc.hasArrays ∧ w2 = wx)
  case first =>
    by_cases hlv : 0 < sc.arrays.length
    · have hlv' : (0 : Int) < (sc.arrays.length : Int) := by omega
      go_wp2_with fail
      go_meet
      exact ⟨by rw [haa.out, decide_eq_true hlv]; rfl, rfl⟩
    · have hlv' : (sc.arrays.length : Int) ≤ 0 := by omega
      go_wp2_with fail
      go_meet
      exact ⟨by rw [haa.out, decide_eq_false hlv]; rfl, rfl⟩
  case rest =>
  obtain ⟨rfl, rfl⟩ := hcut
  go_upto_region 6 with (fail)
  go_cut [10] (fun q wx => q = .bool sc.hasFuncs ∧ w2 = wx)
  case first =>
    by_cases hlv : 0 < sc.funcs.length
    · have hlv' : (0 : Int) < (sc.funcs.length : Int) := by omega
      go_wp2_with fail
      go_meet
      exact ⟨by rw [hfa.out, decide_eq_true hlv]; rfl, rfl⟩
    · have hlv' : (sc.funcs.length : Int) ≤ 0 := by omega
      go_wp2_with fail
      go_meet
      exact ⟨by rw [hfa.out, decide_eq_false hlv]; rfl, rfl⟩
  case rest =>
  obtain ⟨rfl, rfl⟩ := hcut
  clear b0 b1 b2 b3 b4 hva haa hfa
  subst hk
  go_wp2_with fail
  refine (HN.out _ HS2.out).mono ?_
  rintro r w3 ⟨rfl, hs3, hf3⟩
  have HS3 := Lib.hid hs3; have HF3 := Lib.hid (HF2.out.trans hf3); have HR3 := Lib.hid (HR2.out.sfr hf3 HZ.out); have HC3 := Lib.hid (HC2.out.sfr hf3 HY.out)
  clear hs3 hf3
  have x0 := HR3.out.at 0 _ rfl
  have x1 := HR3.out.at 1 _ rfl
  have x2 := HR3.out.at 2 _ rfl
  have x3 := HR3.out.at 3 _ rfl
  have x4 := HR3.out.at 4 _ rfl
  have fx0 := HR3.out.fz 0
  have fx1 := HR3.out.fz 1
  have fx2 := HR3.out.fz 2
  have fx3 := HR3.out.fz 3
  have fx4 := HR3.out.fz 4
  have HRE := Lib.hid (((((HR3.out.set 0 (.int .i64 7)).set 1 (.int .i64 0)).set 2 (.int .i64 0)).set 3 (.string ⟨#[]⟩)).set 4 (.slice none 0 0))
  have HSE := Lib.hid (((((HS3.out.other hsx 0 (.int .i64 7)).other hsx 1 (.int .i64 0)).other hsx 2 (.int .i64 0)).other hsx 3 (.string ⟨#[]⟩)).other hsx 4 (.slice none 0 0))
  have HFE := Lib.hid (((((HF3.out.setNew hge 0 (.int .i64 7)).setNew hge 1 (.int .i64 0)).setNew hge 2 (.int .i64 0)).setNew hge 3 (.string ⟨#[]⟩)).setNew hge 4 (.slice none 0 0))
  go_wp2_with fail
  have d0 := HRE.out.at 0 _ rfl
  have d1 := HRE.out.at 1 _ rfl
  have d2 := HRE.out.at 2 _ rfl
  have d3 := HRE.out.at 3 _ rfl
  have d4 := HRE.out.at 4 _ rfl
  exact bodyPost_ret (v := .agg #[.int .i64 7, .int .i64 0, .int .i64 0, .string ⟨#[]⟩, .slice none 0 0]) (by simp [results, Tryz.results31, go_sem, d0, d1, d2, d3, d4]) rfl ⟨.slice none 0 0, rfl, HSE.out, HFE.out, ExsAt.zero, (i64_small ⟨by show _ ≤ (0 : Int); decide, by show (0 : Int) ≤ _; decide⟩)⟩

theorem ge_read0 (d : Nat) (hd : d < 2) (hd1 : d ≤ 1000) (s : Nat) (raw : List Int) (a : Nat) (sc : Sc) (vv av fv : Value) (w : World) (hs : SrcAt w s raw a) (hsc : ScAt s w sc vv av fv) (k : Int) (hkk : gK raw d a = k) (hk : k = 3) (hq : (gNext raw (gNext raw a 12).2 3).1 = 2) :
    Calls Tryz.prog 31 #[scV sc vv av fv, .pointer (some ⟨s, 0, none⟩), .int .i64 d] w (GivesEx w s raw (gKind sc raw (gExpr sc raw (d - 1)) k (gNext raw a 12).2)) := by
  obtain ⟨v1, v2, rfl⟩ := hsc.vars.shape
  obtain ⟨a1, a2, rfl⟩ := hsc.arrays.shape
  obtain ⟨f1, f2, rfl⟩ := hsc.funcs.shape
  have lv := hsc.v1; have la := hsc.a1; have lf := hsc.f1
  have hsl := hs.lt
  have HK : Hid (∀ w1, SrcAt w1 s raw a → Calls Tryz.prog 37 #[.pointer (some ⟨s, 0, none⟩), .int .i64 12] w1 (Takes w1 s raw (.int .i64 (gNext raw a 12).1) (gNext raw a 12).2)) := fun w1 h1 => next_any s raw a 12 w1 h1 (by decide) (by decide)
  have hr := gNext_range raw a 12 (by decide)
  unfold gK at hkk
  rw [if_pos hd] at hkk
  generalize gNext raw a 12 = g at *
  obtain ⟨g, ga⟩ := g
  obtain ⟨g0, g1⟩ := hr
  dsimp only at g0 g1 hkk HK ⊢
  have hk0 : 0 ≤ k := by omega
  have hk1 : k < 4 := by omega
  have HKK := Lib.hid hkk; clear hkk
  have hb1 : Below w.heap.size w ((w.alloc (.cells #[.slice v1 sc.vars.length v2, .slice a1 sc.arrays.length a2, .slice f1 sc.funcs.length f2, .bool sc.free, .bool sc.loop] 73)).alloc (.cells #[.int .i64 0, .int .i64 0, .int .i64 0, .string ⟨#[]⟩, .slice none 0 0] 27)) := ((Below.refl _ _).alloc (Nat.le_refl _) _).alloc (by simp) _
  have hr1 := OwnAt.new (w.alloc (.cells #[.slice v1 sc.vars.length v2, .slice a1 sc.arrays.length a2, .slice f1 sc.funcs.length f2, .bool sc.free, .bool sc.loop] 73)) [.int .i64 0, .int .i64 0, .int .i64 0, .string ⟨#[]⟩, .slice none 0 0] 27
  rw [show (w.alloc (.cells #[.slice v1 sc.vars.length v2, .slice a1 sc.arrays.length a2, .slice f1 sc.funcs.length f2, .bool sc.free, .bool sc.loop] 73)).heap.size = w.heap.size + 1 by simp] at hr1
  have HC := Lib.hid ((OwnAt.new w [.slice v1 sc.vars.length v2, .slice a1 sc.arrays.length a2, .slice f1 sc.funcs.length f2, .bool sc.free, .bool sc.loop] 73).alloc (.cells #[.int .i64 0, .int .i64 0, .int .i64 0, .string ⟨#[]⟩, .slice none 0 0] 27))
  have HR := Lib.hid hr1
  have HS1 := Lib.hid (hs.old hb1); have HF1 : Hid (SFr s w ((w.alloc (.cells #[.slice v1 sc.vars.length v2, .slice a1 sc.arrays.length a2, .slice f1 sc.funcs.length f2, .bool sc.free, .bool sc.loop] 73)).alloc (.cells #[.int .i64 0, .int .i64 0, .int .i64 0, .string ⟨#[]⟩, .slice none 0 0] 27))) := SFr.of_below hb1
  have HSC := Lib.hid hsc
  have HZ : Hid (w.heap.size + 1 ≠ s) := by show _ ≠ _; omega
  have HY : Hid (w.heap.size ≠ s) := by show _ ≠ _; omega
  have hsx : s < w.heap.size + 1 := by omega
  have hge : w.heap.size ≤ w.heap.size + 1 := by omega
  have hd0 : (0 : Int) ≤ (d : Int) := by omega
  have hdI : (d : Int) < 2 := by omega
  have hdM : (d : Int) ≤ 1000 := by omega
  have hva : Hid (sc.hasVars = (decide (0 < sc.vars.length) || sc.free)) := hasVars_eq sc
  have haa : Hid (sc.hasArrays = (decide (0 < sc.arrays.length) || sc.free)) := hasArrays_eq sc
  have hfa : Hid (sc.hasFuncs = (decide (0 < sc.funcs.length) || sc.free)) := hasFuncs_eq sc
  clear hb1 hr1 hs hsc
  have E : gKind sc raw (gExpr sc raw (d - 1)) k ga = (.mk 7 0 0 [] [], (gNext raw ga 3).2) := by unfold gKind; rw [if_neg (by omega), if_pos ⟨hk, hq⟩]
  rw [E]
  clear E
  have HN : Hid (∀ w1, SrcAt w1 s raw ga → Calls Tryz.prog 37 #[.pointer (some ⟨s, 0, none⟩), .int .i64 3] w1 (Takes w1 s raw (.int .i64 (gNext raw ga 3).1) (gNext raw ga 3).2)) := fun w1 h1 => next_any s raw ga 3 w1 h1 (by decide) (by decide)
  have qr := gNext_range raw ga 3 (by decide)
  generalize gNext raw ga 3 = q at *
  obtain ⟨q, qa⟩ := q
  dsimp only at *
  subst hq
  go_enter Tryz.func31, Tryz.ntmps31
  go_wp2_with fail
  refine (HK.out _ HS1.out).mono ?_
  rintro r w2 ⟨rfl, hs2, hf2⟩
  have HS2 := Lib.hid hs2; have HF2 := Lib.hid (HF1.out.trans hf2); have HR2 := Lib.hid (HR.out.sfr hf2 HZ.out); have HC2 := Lib.hid (HC.out.sfr hf2 HY.out)
  clear hs2 hf2 HS1 HF1 HR HC HK
  have b0 := HC2.out.at 0 _ rfl
  have b1 := HC2.out.at 1 _ rfl
  have b2 := HC2.out.at 2 _ rfl
  have b3 := HC2.out.at 3 _ rfl
  have b4 := HC2.out.at 4 _ rfl
  go_upto_region 4 with (fail)
  go_cut [8] (fun q wx => q = .bool sc.hasVars ∧ w2 = wx)
  case first =>
    by_cases hlv : 0 < sc.vars.length
    · have hlv' : (0 : Int) < (sc.vars.length : Int) := by omega
      go_wp2_with fail
      go_meet
      exact ⟨by rw [hva.out, decide_eq_true hlv]; rfl, rfl⟩
    · have hlv' : (sc.vars.length : Int) ≤ 0 := by omega
      go_wp2_with fail
      go_meet
      exact ⟨by rw [hva.out, decide_eq_false hlv]; rfl, rfl⟩
  case rest =>
  obtain ⟨rfl, rfl⟩ := hcut
  go_upto_region 5 with (fail)
  go_cut [9] (fun q wx => q = .bool sc.hasArrays ∧ w2 = wx)
  case first =>
    by_cases hlv : 0 < sc.arrays.length
    · have hlv' : (0 : Int) < (sc.arrays.length : Int) := by omega
      go_wp2_with fail
      go_meet
      exact ⟨by rw [haa.out, decide_eq_true hlv]; rfl, rfl⟩
    · have hlv' : (sc.arrays.length : Int) ≤ 0 := by omega
      go_wp2_with fail
      go_meet
      exact ⟨by rw [haa.out, decide_eq_false hlv]; rfl, rfl⟩
  case rest =>
  obtain ⟨rfl, rfl⟩ := hcut
  go_upto_region 6 with (fail)
  go_cut [10] (fun q wx => q = .bool sc.hasFuncs ∧ w2 = wx)
  case first =>
    by_cases hlv : 0 < sc.funcs.length
    · have hlv' : (0 : Int) < (sc.funcs.length : Int) := by omega
      go_wp2_with fail
      go_meet
      exact ⟨by rw [hfa.out, decide_eq_true hlv]; rfl, rfl⟩
    · have hlv' : (sc.funcs.length : Int) ≤ 0 := by omega
      go_wp2_with fail
      go_meet
      exact ⟨by rw [hfa.out, decide_eq_false hlv]; rfl, rfl⟩
  case rest =>
  obtain ⟨rfl, rfl⟩ := hcut
  clear b0 b1 b2 b3 b4 hva haa hfa
  subst hk
  rw [HKK.out]
  go_wp2_with fail
  refine (HN.out _ HS2.out).mono ?_
  rintro r w3 ⟨rfl, hs3, hf3⟩
  have HS3 := Lib.hid hs3; have HF3 := Lib.hid (HF2.out.trans hf3); have HR3 := Lib.hid (HR2.out.sfr hf3 HZ.out); have HC3 := Lib.hid (HC2.out.sfr hf3 HY.out)
  clear hs3 hf3
  have x0 := HR3.out.at 0 _ rfl
  have x1 := HR3.out.at 1 _ rfl
  have x2 := HR3.out.at 2 _ rfl
  have x3 := HR3.out.at 3 _ rfl
  have x4 := HR3.out.at 4 _ rfl
  have fx0 := HR3.out.fz 0
  have fx1 := HR3.out.fz 1
  have fx2 := HR3.out.fz 2
  have fx3 := HR3.out.fz 3
  have fx4 := HR3.out.fz 4
  have HRE := Lib.hid (((((HR3.out.set 0 (.int .i64 7)).set 1 (.int .i64 0)).set 2 (.int .i64 0)).set 3 (.string ⟨#[]⟩)).set 4 (.slice none 0 0))
  have HSE := Lib.hid (((((HS3.out.other hsx 0 (.int .i64 7)).other hsx 1 (.int .i64 0)).other hsx 2 (.int .i64 0)).other hsx 3 (.string ⟨#[]⟩)).other hsx 4 (.slice none 0 0))
  have HFE := Lib.hid (((((HF3.out.setNew hge 0 (.int .i64 7)).setNew hge 1 (.int .i64 0)).setNew hge 2 (.int .i64 0)).setNew hge 3 (.string ⟨#[]⟩)).setNew hge 4 (.slice none 0 0))
  go_wp2_with fail
  have d0 := HRE.out.at 0 _ rfl
  have d1 := HRE.out.at 1 _ rfl
  have d2 := HRE.out.at 2 _ rfl
  have d3 := HRE.out.at 3 _ rfl
  have d4 := HRE.out.at 4 _ rfl
  exact bodyPost_ret (v := .agg #[.int .i64 7, .int .i64 0, .int .i64 0, .string ⟨#[]⟩, .slice none 0 0]) (by simp [results, Tryz.results31, go_sem, d0, d1, d2, d3, d4]) rfl ⟨.slice none 0 0, rfl, HSE.out, HFE.out, ExsAt.zero, (i64_small ⟨by show _ ≤ (0 : Int); decide, by show (0 : Int) ≤ _; decide⟩)⟩
end Go.Proofs.YtcfpfnoldgnloaaGreatDoor

namespace Go.Proofs.YtcfpfnoldgnloaaGreatDoor
open Go.RowKit
set_option maxHeartbeats 4000000
set_option maxRecDepth 100000

theorem ge_one (d : Nat) (hd : 2 ≤ d) (hd1 : d ≤ 1000) (s : Nat) (raw : List Int) (a : Nat) (sc : Sc) (vv av fv : Value) (w : World) (hs : SrcAt w s raw a) (hsc : ScAt s w sc vv av fv) (k : Int) (hkk : gK raw d a = k) (hk : k = 4) (ih : ExprTake (d - 1)) :
    Calls Tryz.prog 31 #[scV sc vv av fv, .pointer (some ⟨s, 0, none⟩), .int .i64 d] w (GivesEx w s raw (gKind sc raw (gExpr sc raw (d - 1)) k (gNext raw a 12).2)) := by
  obtain ⟨v1, v2, rfl⟩ := hsc.vars.shape
  obtain ⟨a1, a2, rfl⟩ := hsc.arrays.shape
  obtain ⟨f1, f2, rfl⟩ := hsc.funcs.shape
  have lv := hsc.v1; have la := hsc.a1; have lf := hsc.f1
  have hsl := hs.lt
  have HK : Hid (∀ w1, SrcAt w1 s raw a → Calls Tryz.prog 37 #[.pointer (some ⟨s, 0, none⟩), .int .i64 12] w1 (Takes w1 s raw (.int .i64 (gNext raw a 12).1) (gNext raw a 12).2)) := fun w1 h1 => next_any s raw a 12 w1 h1 (by decide) (by decide)
  have hr := gNext_range raw a 12 (by decide)
  unfold gK at hkk
  rw [if_neg (by omega)] at hkk
  generalize gNext raw a 12 = g at *
  obtain ⟨g, ga⟩ := g
  obtain ⟨g0, g1⟩ := hr
  dsimp only at g0 g1 hkk HK ⊢
  replace hkk := hkk.symm
  subst hkk
  have hb1 : Below w.heap.size w ((w.alloc (.cells #[.slice v1 sc.vars.length v2, .slice a1 sc.arrays.length a2, .slice f1 sc.funcs.length f2, .bool sc.free, .bool sc.loop] 73)).alloc (.cells #[.int .i64 0, .int .i64 0, .int .i64 0, .string ⟨#[]⟩, .slice none 0 0] 27)) := ((Below.refl _ _).alloc (Nat.le_refl _) _).alloc (by simp) _
  have hr1 := OwnAt.new (w.alloc (.cells #[.slice v1 sc.vars.length v2, .slice a1 sc.arrays.length a2, .slice f1 sc.funcs.length f2, .bool sc.free, .bool sc.loop] 73)) [.int .i64 0, .int .i64 0, .int .i64 0, .string ⟨#[]⟩, .slice none 0 0] 27
  rw [show (w.alloc (.cells #[.slice v1 sc.vars.length v2, .slice a1 sc.arrays.length a2, .slice f1 sc.funcs.length f2, .bool sc.free, .bool sc.loop] 73)).heap.size = w.heap.size + 1 by simp] at hr1
  have HC := Lib.hid ((OwnAt.new w [.slice v1 sc.vars.length v2, .slice a1 sc.arrays.length a2, .slice f1 sc.funcs.length f2, .bool sc.free, .bool sc.loop] 73).alloc (.cells #[.int .i64 0, .int .i64 0, .int .i64 0, .string ⟨#[]⟩, .slice none 0 0] 27))
  have HR := Lib.hid hr1
  have HS1 := Lib.hid (hs.old hb1); have HF1 : Hid (SFr s w ((w.alloc (.cells #[.slice v1 sc.vars.length v2, .slice a1 sc.arrays.length a2, .slice f1 sc.funcs.length f2, .bool sc.free, .bool sc.loop] 73)).alloc (.cells #[.int .i64 0, .int .i64 0, .int .i64 0, .string ⟨#[]⟩, .slice none 0 0] 27))) := SFr.of_below hb1
  have HSC := Lib.hid hsc
  have HZ : Hid (w.heap.size + 1 ≠ s) := by show _ ≠ _; omega
  have HY : Hid (w.heap.size ≠ s) := by show _ ≠ _; omega
  have hsx : s < w.heap.size + 1 := by omega
  have hge : w.heap.size ≤ w.heap.size + 1 := by omega
  have hd0 : (0 : Int) ≤ (d : Int) := by omega
  have hdI : (2 : Int) ≤ (d : Int) := by omega
  have hdM : (d : Int) ≤ 1000 := by omega
  have hva : Hid (sc.hasVars = (decide (0 < sc.vars.length) || sc.free)) := hasVars_eq sc
  have haa : Hid (sc.hasArrays = (decide (0 < sc.arrays.length) || sc.free)) := hasArrays_eq sc
  have hfa : Hid (sc.hasFuncs = (decide (0 < sc.funcs.length) || sc.free)) := hasFuncs_eq sc
  clear hb1 hr1 hs hsc
  have E : gKind sc raw (gExpr sc raw (d - 1)) k ga = (.mk 3 (17 + (gNext raw ga 3).1) 0 [] [(gExpr sc raw (d - 1) (gNext raw ga 3).2).1], (gExpr sc raw (d - 1) (gNext raw ga 3).2).2) := by unfold gKind; rw [if_neg (by omega), if_neg (by omega), if_neg (by omega), if_pos hk]
  rw [E]
  clear E
  have HN : Hid (∀ w1, SrcAt w1 s raw ga → Calls Tryz.prog 37 #[.pointer (some ⟨s, 0, none⟩), .int .i64 3] w1 (Takes w1 s raw (.int .i64 (gNext raw ga 3).1) (gNext raw ga 3).2)) := fun w1 h1 => next_any s raw ga 3 w1 h1 (by decide) (by decide)
  have qr := gNext_range raw ga 3 (by decide)
  generalize gNext raw ga 3 = q at *
  obtain ⟨q, qa⟩ := q
  dsimp only at *
  have HDM : Hid (((d - 1 : Nat) : Int) = (d : Int) - 1) := by show _ = _; omega
  have HIH : Hid (∀ w1 b, SrcAt w1 s raw b → ScAt s w1 sc (.slice v1 sc.vars.length v2) (.slice a1 sc.arrays.length a2) (.slice f1 sc.funcs.length f2) → Calls Tryz.prog 31 #[scV sc (.slice v1 sc.vars.length v2) (.slice a1 sc.arrays.length a2) (.slice f1 sc.funcs.length f2), .pointer (some ⟨s, 0, none⟩), .int .i64 ((d : Int) - 1)] w1 (GivesEx w1 s raw (gExpr sc raw (d - 1) b))) := fun w1 b h1 h2 => by have q := ih s raw b sc _ _ _ w1 h1 h2; rw [HDM.out] at q; exact q
  obtain ⟨q0, q1⟩ := qr
  go_enter Tryz.func31, Tryz.ntmps31
  go_wp2_with fail
  refine (HK.out _ HS1.out).mono ?_
  rintro r w2 ⟨rfl, hs2, hf2⟩
  have HS2 := Lib.hid hs2; have HF2 := Lib.hid (HF1.out.trans hf2); have HR2 := Lib.hid (HR.out.sfr hf2 HZ.out); have HC2 := Lib.hid (HC.out.sfr hf2 HY.out)
  clear hs2 hf2 HS1 HF1 HR HC HK
  have b0 := HC2.out.at 0 _ rfl
  have b1 := HC2.out.at 1 _ rfl
  have b2 := HC2.out.at 2 _ rfl
  have b3 := HC2.out.at 3 _ rfl
  have b4 := HC2.out.at 4 _ rfl
  go_upto_region 4 with (fail)
  go_cut [8] (fun q wx => q = .bool sc.hasVars ∧ w2 = wx)
  case first =>
    by_cases hlv : 0 < sc.vars.length
    · have hlv' : (0 : Int) < (sc.vars.length : Int) := by omega
      go_wp2_with fail
      go_meet
      exact ⟨by rw [hva.out, decide_eq_true hlv]; rfl, rfl⟩
    · have hlv' : (sc.vars.length : Int) ≤ 0 := by omega
      go_wp2_with fail
      go_meet
      exact ⟨by rw [hva.out, decide_eq_false hlv]; rfl, rfl⟩
  case rest =>
  obtain ⟨rfl, rfl⟩ := hcut
  go_upto_region 5 with (fail)
  go_cut [9] (fun q wx => q = .bool sc.hasArrays ∧ w2 = wx)
  case first =>
    by_cases hlv : 0 < sc.arrays.length
    · have hlv' : (0 : Int) < (sc.arrays.length : Int) := by omega
      go_wp2_with fail
      go_meet
      exact ⟨by rw [haa.out, decide_eq_true hlv]; rfl, rfl⟩
    · have hlv' : (sc.arrays.length : Int) ≤ 0 := by omega
      go_wp2_with fail
      go_meet
      exact ⟨by rw [haa.out, decide_eq_false hlv]; rfl, rfl⟩
  case rest =>
  obtain ⟨rfl, rfl⟩ := hcut
  go_upto_region 6 with (fail)
  go_cut [10] (fun q wx => q = .bool sc.hasFuncs ∧ w2 = wx)
  case first =>
    by_cases hlv : 0 < sc.funcs.length
    · have hlv' : (0 : Int) < (sc.funcs.length : Int) := by omega
      go_wp2_with fail
      go_meet
      exact ⟨by rw [hfa.out, decide_eq_true hlv]; rfl, rfl⟩
    · have hlv' : (sc.funcs.length : Int) ≤ 0 := by omega
      go_wp2_with fail
      go_meet
      exact ⟨by rw [hfa.out, decide_eq_false hlv]; rfl, rfl⟩
  case rest =>
  obtain ⟨rfl, rfl⟩ := hcut
  clear b0 b1 b2 b3 b4 hva haa hfa
  subst hk
  have b0 := HC2.out.at 0 _ rfl
  have b1 := HC2.out.at 1 _ rfl
  have b2 := HC2.out.at 2 _ rfl
  have b3 := HC2.out.at 3 _ rfl
  have b4 := HC2.out.at 4 _ rfl
  go_wp2_with fail
  refine (HN.out _ HS2.out).mono ?_
  rintro r w3 ⟨rfl, hs3, hf3⟩
  have HS3 := Lib.hid hs3; have HF3 := Lib.hid (HF2.out.trans hf3); have HR3 := Lib.hid (HR2.out.sfr hf3 HZ.out); have HC3 := Lib.hid (HC2.out.sfr hf3 HY.out)
  clear hs3 hf3
  clear b0 b1 b2 b3 b4
  have b0 := HC3.out.at 0 _ rfl
  have b1 := HC3.out.at 1 _ rfl
  have b2 := HC3.out.at 2 _ rfl
  have b3 := HC3.out.at 3 _ rfl
  have b4 := HC3.out.at 4 _ rfl
  go_wp2_with fail
  refine (HIH.out _ qa HS3.out (HSC.out.sfr HF3.out)).mono ?_
  generalize gExpr sc raw (d - 1) qa = x at *
  obtain ⟨x, xa⟩ := x
  rintro r w4 ⟨xv, rfl, hs4, hf4, hx4, hn4⟩
  obtain ⟨xs, xc, rfl⟩ := hx4.shape
  dsimp only at hs4 hx4 hn4 ⊢
  have HS4 := Lib.hid hs4; have HF4 := Lib.hid (HF3.out.trans hf4); have HR4 := Lib.hid (HR3.out.sfr hf4 HZ.out); have HC4 := Lib.hid (HC3.out.sfr hf4 HY.out)
  have hg4 : w.heap.size + 2 ≤ w3.heap.size := by have := HR3.out.lt; omega
  have Hx := Lib.hid (hx4.mono (D' := (w.heap.size + 2 ≤ ·)) (fun b h => Nat.le_trans hg4 h)); have HNx := Lib.hid hn4
  have HFJ4 := Lib.hid hf4
  clear hs4 hf4 hx4 hn4
  clear b0 b1 b2 b3 b4
  have hB : w.heap.size + 1 < w.heap.size + 2 := by omega
  have hw5 : Below w4.heap.size w4 (w4.alloc (.cells #[.int .i64 x.kind, .int .i64 x.op, .int .i64 x.n, .string (strOf x.name), .slice xs x.args.length xc] 27)) := (Below.refl _ _).alloc (Nat.le_refl _) _
  have HS5 := Lib.hid (HS4.out.old hw5); have HF5 := Lib.hid (HF4.out.trans (SFr.of_below hw5)); have HR5 := Lib.hid (HR4.out.old hw5); have HC5 := Lib.hid (HC4.out.old hw5)
  have HX5 : Hid (ExsAt (w.heap.size + 2 ≤ ·) (w4.alloc (.cells #[.int .i64 x.kind, .int .i64 x.op, .int .i64 x.n, .string (strOf x.name), .slice xs x.args.length xc] 27)) [x] (.slice (some ⟨w4.heap.size, 0, none⟩) 1 1)) := .one x (.slice xs x.args.length xc) (by show _ ≤ _; have := HR4.out.lt; omega) (RowAt.new w4 (exCells x (.slice xs x.args.length xc)) 27) (Hx.out.old hw5) HNx.out
  clear hw5
  have HW5 : Hid True := trivial
  have HS5' := HS5
  have x0 := HR5.out.at 0 _ rfl
  have x1 := HR5.out.at 1 _ rfl
  have x2 := HR5.out.at 2 _ rfl
  have x3 := HR5.out.at 3 _ rfl
  have x4 := HR5.out.at 4 _ rfl
  have fx0 := HR5.out.fz 0
  have fx1 := HR5.out.fz 1
  have fx2 := HR5.out.fz 2
  have fx3 := HR5.out.fz 3
  have fx4 := HR5.out.fz 4
  have HRE := Lib.hid (((((HR5.out.set 0 (.int .i64 3)).set 1 (.int .i64 (17 + q))).set 2 (.int .i64 0)).set 3 (.string ⟨#[]⟩)).set 4 (.slice (some ⟨w4.heap.size, 0, none⟩) 1 1))
  have HSE := Lib.hid (((((HS5.out.other hsx 0 (.int .i64 3)).other hsx 1 (.int .i64 (17 + q))).other hsx 2 (.int .i64 0)).other hsx 3 (.string ⟨#[]⟩)).other hsx 4 (.slice (some ⟨w4.heap.size, 0, none⟩) 1 1))
  have HFE := Lib.hid (((((HF5.out.setNew hge 0 (.int .i64 3)).setNew hge 1 (.int .i64 (17 + q))).setNew hge 2 (.int .i64 0)).setNew hge 3 (.string ⟨#[]⟩)).setNew hge 4 (.slice (some ⟨w4.heap.size, 0, none⟩) 1 1))
  go_wp2_with fail
  have d0 := HRE.out.at 0 _ rfl
  have d1 := HRE.out.at 1 _ rfl
  have d2 := HRE.out.at 2 _ rfl
  have d3 := HRE.out.at 3 _ rfl
  have d4 := HRE.out.at 4 _ rfl
  exact bodyPost_ret (v := .agg #[.int .i64 3, .int .i64 (17 + q), .int .i64 0, .string ⟨#[]⟩, .slice (some ⟨w4.heap.size, 0, none⟩) 1 1]) (by simp [results, Tryz.results31, go_sem, d0, d1, d2, d3, d4]) rfl ⟨.slice (some ⟨w4.heap.size, 0, none⟩) 1 1, rfl, HSE.out, HFE.out, ((((((HX5.out.keep (set_fresh _ hB 0 _)).keep (set_fresh _ hB 1 _)).keep (set_fresh _ hB 2 _)).keep (set_fresh _ hB 3 _)).keep (set_fresh _ hB 4 _)).mono (fun b h => (Nat.le_trans (by omega) h : w.heap.size ≤ b))), (i64_small ⟨by show _ ≤ (0 : Int); decide, by show (0 : Int) ≤ _; decide⟩)⟩
end Go.Proofs.YtcfpfnoldgnloaaGreatDoor
