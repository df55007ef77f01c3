/-
  scope.expr: a raw expression: a call. Conditions: the source and the scope lie in memory as the types say.
  scope.expr: a raw expression: a number. Conditions: the source and the scope lie in memory as the types say.
  scope.expr: a raw expression: a number. Conditions: the source and the scope lie in memory as the types say.
  scope.expr: a raw expression: a number. Conditions: the source and the scope lie in memory as the types say.
-/
import Derived.Test.YtcfpfnoldgnloaaGreatDoorPn24
set_option linter.unusedVariables false
set_option linter.unusedSimpArgs false
namespace Go.Proofs.YtcfpfnoldgnloaaGreatDoor
open Go.RowKit
set_option maxHeartbeats 4000000
set_option maxRecDepth 100000

def CallTake (d : Nat) : Prop := ∀ (s : Nat) (raw : List Int) (a : Nat) (sc : Sc) (vv av fv : Value) (w : World), SrcAt w s raw a → ScAt s w sc vv av fv →
  Calls Tryz.prog 70 #[scV sc vv av fv, .pointer (some ⟨s, 0, none⟩), .int .i64 d] w (GivesEx w s raw (gCall sc raw (gExpr sc raw (d - 1)) a))

theorem ge_call (d : Nat) (hd : 2 ≤ d) (hd1 : d ≤ 1000) (s : Nat) (raw : List Int) (a : Nat) (sc : Sc) (vv av fv : Value) (w : World) (hs : SrcAt w s raw a) (hsc : ScAt s w sc vv av fv) (k : Int) (hkk : gK raw d a = k) (hk : k = 6) (hA : sc.hasFuncs = true) (ic : CallTake d) :
    Calls Tryz.prog 31 #[scV sc vv av fv, .pointer (some ⟨s, 0, none⟩), .int .i64 d] w (GivesEx w s raw (gKind sc raw (gExpr sc raw (d - 1)) k (gNext raw a 12).2)) := by
  obtain ⟨v1, v2, rfl⟩ := hsc.vars.shape
  obtain ⟨a1, a2, rfl⟩ := hsc.arrays.shape
  obtain ⟨f1, f2, rfl⟩ := hsc.funcs.shape
  have lv := hsc.v1; have la := hsc.a1; have lf := hsc.f1
  have hsl := hs.lt
  have HK : Hid (∀ w1, SrcAt w1 s raw a → Calls Tryz.prog 37 #[.pointer (some ⟨s, 0, none⟩), .int .i64 12] w1 (Takes w1 s raw (.int .i64 (gNext raw a 12).1) (gNext raw a 12).2)) := fun w1 h1 => next_any s raw a 12 w1 h1 (by decide) (by decide)
  have hr := gNext_range raw a 12 (by decide)
  unfold gK at hkk
  rw [if_neg (by omega)] at hkk
  generalize gNext raw a 12 = g at *
  obtain ⟨g, ga⟩ := g
  obtain ⟨g0, g1⟩ := hr
  dsimp only at g0 g1 hkk HK ⊢
  replace hkk := hkk.symm
  subst hkk
  have hb1 : Below w.heap.size w ((w.alloc (.cells #[.slice v1 sc.vars.length v2, .slice a1 sc.arrays.length a2, .slice f1 sc.funcs.length f2, .bool sc.free, .bool sc.loop] 73)).alloc (.cells #[.int .i64 0, .int .i64 0, .int .i64 0, .string ⟨#[]⟩, .slice none 0 0] 27)) := ((Below.refl _ _).alloc (Nat.le_refl _) _).alloc (by simp) _
  have hr1 := OwnAt.new (w.alloc (.cells #[.slice v1 sc.vars.length v2, .slice a1 sc.arrays.length a2, .slice f1 sc.funcs.length f2, .bool sc.free, .bool sc.loop] 73)) [.int .i64 0, .int .i64 0, .int .i64 0, .string ⟨#[]⟩, .slice none 0 0] 27
  rw [show (w.alloc (.cells #[.slice v1 sc.vars.length v2, .slice a1 sc.arrays.length a2, .slice f1 sc.funcs.length f2, .bool sc.free, .bool sc.loop] 73)).heap.size = w.heap.size + 1 by simp] at hr1
  have HC := Lib.hid ((OwnAt.new w [.slice v1 sc.vars.length v2, .slice a1 sc.arrays.length a2, .slice f1 sc.funcs.length f2, .bool sc.free, .bool sc.loop] 73).alloc (.cells #[.int .i64 0, .int .i64 0, .int .i64 0, .string ⟨#[]⟩, .slice none 0 0] 27))
  have HR := Lib.hid hr1
  have HS1 := Lib.hid (hs.old hb1); have HF1 : Hid (SFr s w ((w.alloc (.cells #[.slice v1 sc.vars.length v2, .slice a1 sc.arrays.length a2, .slice f1 sc.funcs.length f2, .bool sc.free, .bool sc.loop] 73)).alloc (.cells #[.int .i64 0, .int .i64 0, .int .i64 0, .string ⟨#[]⟩, .slice none 0 0] 27))) := SFr.of_below hb1
  have HSC := Lib.hid hsc
  have HZ : Hid (w.heap.size + 1 ≠ s) := by show _ ≠ _; omega
  have HY : Hid (w.heap.size ≠ s) := by show _ ≠ _; omega
  have hsx : s < w.heap.size + 1 := by omega
  have hge : w.heap.size ≤ w.heap.size + 1 := by omega
  have hd0 : (0 : Int) ≤ (d : Int) := by omega
  have hdI : (2 : Int) ≤ (d : Int) := by omega
  have hdM : (d : Int) ≤ 1000 := by omega
  have hva : Hid (sc.hasVars = (decide (0 < sc.vars.length) || sc.free)) := hasVars_eq sc
  have haa : Hid (sc.hasArrays = (decide (0 < sc.arrays.length) || sc.free)) := hasArrays_eq sc
  have hfa : Hid (sc.hasFuncs = (decide (0 < sc.funcs.length) || sc.free)) := hasFuncs_eq sc
  clear hb1 hr1 hs hsc
  have E : gKind sc raw (gExpr sc raw (d - 1)) k ga = gCall sc raw (gExpr sc raw (d - 1)) ga := by unfold gKind; rw [if_neg (by omega), if_neg (by omega), if_neg (by omega), if_neg (by omega), if_neg (by omega), if_pos ⟨hk, hA⟩]
  rw [E]
  clear E
  have HN : Hid (∀ w1, SrcAt w1 s raw ga → ScAt s w1 sc (.slice v1 sc.vars.length v2) (.slice a1 sc.arrays.length a2) (.slice f1 sc.funcs.length f2) → Calls Tryz.prog 70 #[scV sc (.slice v1 sc.vars.length v2) (.slice a1 sc.arrays.length a2) (.slice f1 sc.funcs.length f2), .pointer (some ⟨s, 0, none⟩), .int .i64 (d : Int)] w1 (GivesEx w1 s raw (gCall sc raw (gExpr sc raw (d - 1)) ga))) := fun w1 h1 h2 => ic s raw ga sc _ _ _ w1 h1 h2
  generalize gCall sc raw (gExpr sc raw (d - 1)) ga = x at *
  obtain ⟨x, xa⟩ := x
  go_enter Tryz.func31, Tryz.ntmps31
  go_wp2_with fail
  refine (HK.out _ HS1.out).mono ?_
  rintro r w2 ⟨rfl, hs2, hf2⟩
  have HS2 := Lib.hid hs2; have HF2 := Lib.hid (HF1.out.trans hf2); have HR2 := Lib.hid (HR.out.sfr hf2 HZ.out); have HC2 := Lib.hid (HC.out.sfr hf2 HY.out)
  clear hs2 hf2 HS1 HF1 HR HC HK
  have b0 := HC2.out.at 0 _ rfl
  have b1 := HC2.out.at 1 _ rfl
  have b2 := HC2.out.at 2 _ rfl
  have b3 := HC2.out.at 3 _ rfl
  have b4 := HC2.out.at 4 _ rfl
  go_upto_region 4 with (fail)
  go_cut [8] (fun q wx => q = .bool sc.hasVars ∧ w2 = wx)
  case first =>
    by_cases hlv : 0 < sc.vars.length
    · have hlv' : (0 : Int) < (sc.vars.length : Int) := by omega
      go_wp2_with fail
      go_meet
      exact ⟨by rw [hva.out, decide_eq_true hlv]; rfl, rfl⟩
    · have hlv' : (sc.vars.length : Int) ≤ 0 := by omega
      go_wp2_with fail
      go_meet
      exact ⟨by rw [hva.out, decide_eq_false hlv]; rfl, rfl⟩
  case rest =>
  obtain ⟨rfl, rfl⟩ := hcut
  go_upto_region 5 with (fail)
  go_cut [9] (fun q wx => q = .bool sc.hasArrays ∧ w2 = wx)
  case first =>
    by_cases hlv : 0 < sc.arrays.length
    · have hlv' : (0 : Int) < (sc.arrays.length : Int) := by omega
      go_wp2_with fail
      go_meet
      exact ⟨by rw [haa.out, decide_eq_true hlv]; rfl, rfl⟩
    · have hlv' : (sc.arrays.length : Int) ≤ 0 := by omega
      go_wp2_with fail
      go_meet
      exact ⟨by rw [haa.out, decide_eq_false hlv]; rfl, rfl⟩
  case rest =>
  obtain ⟨rfl, rfl⟩ := hcut
  go_upto_region 6 with (fail)
  go_cut [10] (fun q wx => q = .bool sc.hasFuncs ∧ w2 = wx)
  case first =>
    by_cases hlv : 0 < sc.funcs.length
    · have hlv' : (0 : Int) < (sc.funcs.length : Int) := by omega
      go_wp2_with fail
      go_meet
      exact ⟨by rw [hfa.out, decide_eq_true hlv]; rfl, rfl⟩
    · have hlv' : (sc.funcs.length : Int) ≤ 0 := by omega
      go_wp2_with fail
      go_meet
      exact ⟨by rw [hfa.out, decide_eq_false hlv]; rfl, rfl⟩
  case rest =>
  obtain ⟨rfl, rfl⟩ := hcut
  clear b0 b1 b2 b3 b4 hva haa hfa
  subst hk
  have b0 := HC2.out.at 0 _ rfl
  have b1 := HC2.out.at 1 _ rfl
  have b2 := HC2.out.at 2 _ rfl
  have b3 := HC2.out.at 3 _ rfl
  have b4 := HC2.out.at 4 _ rfl
  go_wp2_with fail
  refine (HN.out _ HS2.out (HSC.out.sfr HF2.out)).mono ?_
  rintro r w3 ⟨xv, rfl, hs3, hf3, hx3, hn3⟩
  obtain ⟨xs, xc, rfl⟩ := hx3.shape
  dsimp only at hs3 hx3 hn3 ⊢
  have HS3 := Lib.hid hs3; have HF3 := Lib.hid (HF2.out.trans hf3); have HR3 := Lib.hid (HR2.out.sfr hf3 HZ.out)
  have hg3 : w.heap.size + 2 ≤ w2.heap.size := by have := HR2.out.lt; omega
  have Hx := Lib.hid (hx3.mono (D' := (w.heap.size + 2 ≤ ·)) (fun b h => Nat.le_trans hg3 h)); have HNx := Lib.hid hn3
  have hB : w.heap.size + 1 < w.heap.size + 2 := by omega
  clear hs3 hf3 hx3 hn3 b0 b1 b2 b3 b4
  have x0 := HR3.out.at 0 _ rfl
  have x1 := HR3.out.at 1 _ rfl
  have x2 := HR3.out.at 2 _ rfl
  have x3 := HR3.out.at 3 _ rfl
  have x4 := HR3.out.at 4 _ rfl
  have fx0 := HR3.out.fz 0
  have fx1 := HR3.out.fz 1
  have fx2 := HR3.out.fz 2
  have fx3 := HR3.out.fz 3
  have fx4 := HR3.out.fz 4
  have HRE := Lib.hid (((((HR3.out.set 0 (.int .i64 x.kind)).set 1 (.int .i64 x.op)).set 2 (.int .i64 x.n)).set 3 (.string (strOf x.name))).set 4 (.slice xs x.args.length xc))
  have HSE := Lib.hid (((((HS3.out.other hsx 0 (.int .i64 x.kind)).other hsx 1 (.int .i64 x.op)).other hsx 2 (.int .i64 x.n)).other hsx 3 (.string (strOf x.name))).other hsx 4 (.slice xs x.args.length xc))
  have HFE := Lib.hid (((((HF3.out.setNew hge 0 (.int .i64 x.kind)).setNew hge 1 (.int .i64 x.op)).setNew hge 2 (.int .i64 x.n)).setNew hge 3 (.string (strOf x.name))).setNew hge 4 (.slice xs x.args.length xc))
  go_wp2_with fail
  have d0 := HRE.out.at 0 _ rfl
  have d1 := HRE.out.at 1 _ rfl
  have d2 := HRE.out.at 2 _ rfl
  have d3 := HRE.out.at 3 _ rfl
  have d4 := HRE.out.at 4 _ rfl
  exact bodyPost_ret (v := .agg #[.int .i64 x.kind, .int .i64 x.op, .int .i64 x.n, .string (strOf x.name), .slice xs x.args.length xc]) (by simp [results, Tryz.results31, go_sem, d0, d1, d2, d3, d4]) rfl ⟨.slice xs x.args.length xc, rfl, HSE.out, HFE.out, ((((((Hx.out.keep (set_fresh _ hB 0 _)).keep (set_fresh _ hB 1 _)).keep (set_fresh _ hB 2 _)).keep (set_fresh _ hB 3 _)).keep (set_fresh _ hB 4 _)).mono (fun b h => (Nat.le_trans (by omega) h : w.heap.size ≤ b))), HNx.out⟩
end Go.Proofs.YtcfpfnoldgnloaaGreatDoor

namespace Go.Proofs.YtcfpfnoldgnloaaGreatDoor
open Go.RowKit
set_option maxHeartbeats 4000000
set_option maxRecDepth 100000

theorem num_tmod (m : Int) (h : 0 ≤ m) : 0 ≤ m.tmod 63 ∧ m.tmod 63 ≤ 64 := by
  rw [Int.tmod_eq_emod_of_nonneg h]; omega
theorem num_shift (m : Int) (h : 0 ≤ m) : IntKind.i64.wrap (2 ^ (m.tmod 63).toNat) = numOf m 6 := by
  rw [Int.tmod_eq_emod_of_nonneg h]
  have h1 : (m % 63).toNat ≤ 62 := by omega
  have h3 : numOf m 6 = 2 ^ (m % 63).toNat := rfl
  rw [h3]
  generalize (m % 63).toNat = e at *
  have h4 : (2 : Nat) ^ e ≤ 2 ^ 62 := Nat.pow_le_pow_right (by decide) h1
  have h5 : ((2 : Int) ^ e) = ((2 ^ e : Nat) : Int) := by simp
  have h6 : (2 : Nat) ^ 62 = 4611686018427387904 := by decide
  rw [h5]
  generalize 2 ^ e = z at *
  exact IntWalk.i64_in _ (by omega)
theorem numOf_i64 (m j : Int) (h : 0 ≤ m ∧ m < 1000) : I64 (numOf m j) := by
  have := numOf_range m j h
  exact ⟨by omega, by omega⟩
theorem num_mul (m : Int) (h : 0 ≤ m) (h1 : m < 1000) : IntKind.i64.wrap (m * m) = m * m := by
  have a : 0 ≤ m * m := Int.mul_nonneg h h
  have b : m * m ≤ 999 * 999 := Int.mul_le_mul (by omega) (by omega) (by omega) (by omega)
  exact IntWalk.i64_in _ (by omega)
theorem num_at (m j : Int) (h : 0 ≤ j) (h1 : j < 8) : ([Value.int .i64 0, Value.int .i64 1, Value.int .i64 2, Value.int .i64 3, Value.int .i64 m, Value.int .i64 (m * m), Value.int .i64 (numOf m 6), Value.int .i64 9223372036854775807] : List Value)[j.toNat]'(by simp; omega) = .int .i64 (numOf m j) := by
  have : j = 0 ∨ j = 1 ∨ j = 2 ∨ j = 3 ∨ j = 4 ∨ j = 5 ∨ j = 6 ∨ j = 7 := by omega
  rcases this with rfl | rfl | rfl | rfl | rfl | rfl | rfl | rfl <;> rfl

theorem ge_num3 (d : Nat) (hd : 2 ≤ d) (hd1 : d ≤ 1000) (s : Nat) (raw : List Int) (a : Nat) (sc : Sc) (vv av fv : Value) (w : World) (hs : SrcAt w s raw a) (hsc : ScAt s w sc vv av fv) (k : Int) (hkk : gK raw d a = k) (hk : k = 3) (hq : ¬ (gNext raw (gNext raw a 12).2 3).1 = 2) :
    Calls Tryz.prog 31 #[scV sc vv av fv, .pointer (some ⟨s, 0, none⟩), .int .i64 d] w (GivesEx w s raw (gKind sc raw (gExpr sc raw (d - 1)) k (gNext raw a 12).2)) := by
  obtain ⟨v1, v2, rfl⟩ := hsc.vars.shape
  obtain ⟨a1, a2, rfl⟩ := hsc.arrays.shape
  obtain ⟨f1, f2, rfl⟩ := hsc.funcs.shape
  have lv := hsc.v1; have la := hsc.a1; have lf := hsc.f1
  have hsl := hs.lt
  have HK : Hid (∀ w1, SrcAt w1 s raw a → Calls Tryz.prog 37 #[.pointer (some ⟨s, 0, none⟩), .int .i64 12] w1 (Takes w1 s raw (.int .i64 (gNext raw a 12).1) (gNext raw a 12).2)) := fun w1 h1 => next_any s raw a 12 w1 h1 (by decide) (by decide)
  have hr := gNext_range raw a 12 (by decide)
  unfold gK at hkk
  rw [if_neg (by omega)] at hkk
  generalize gNext raw a 12 = g at *
  obtain ⟨g, ga⟩ := g
  obtain ⟨g0, g1⟩ := hr
  dsimp only at g0 g1 hkk HK ⊢
  replace hkk := hkk.symm
  subst hkk
  have hb1 : Below w.heap.size w ((w.alloc (.cells #[.slice v1 sc.vars.length v2, .slice a1 sc.arrays.length a2, .slice f1 sc.funcs.length f2, .bool sc.free, .bool sc.loop] 73)).alloc (.cells #[.int .i64 0, .int .i64 0, .int .i64 0, .string ⟨#[]⟩, .slice none 0 0] 27)) := ((Below.refl _ _).alloc (Nat.le_refl _) _).alloc (by simp) _
  have hr1 := OwnAt.new (w.alloc (.cells #[.slice v1 sc.vars.length v2, .slice a1 sc.arrays.length a2, .slice f1 sc.funcs.length f2, .bool sc.free, .bool sc.loop] 73)) [.int .i64 0, .int .i64 0, .int .i64 0, .string ⟨#[]⟩, .slice none 0 0] 27
  rw [show (w.alloc (.cells #[.slice v1 sc.vars.length v2, .slice a1 sc.arrays.length a2, .slice f1 sc.funcs.length f2, .bool sc.free, .bool sc.loop] 73)).heap.size = w.heap.size + 1 by simp] at hr1
  have HC := Lib.hid ((OwnAt.new w [.slice v1 sc.vars.length v2, .slice a1 sc.arrays.length a2, .slice f1 sc.funcs.length f2, .bool sc.free, .bool sc.loop] 73).alloc (.cells #[.int .i64 0, .int .i64 0, .int .i64 0, .string ⟨#[]⟩, .slice none 0 0] 27))
  have HR := Lib.hid hr1
  have HS1 := Lib.hid (hs.old hb1); have HF1 : Hid (SFr s w ((w.alloc (.cells #[.slice v1 sc.vars.length v2, .slice a1 sc.arrays.length a2, .slice f1 sc.funcs.length f2, .bool sc.free, .bool sc.loop] 73)).alloc (.cells #[.int .i64 0, .int .i64 0, .int .i64 0, .string ⟨#[]⟩, .slice none 0 0] 27))) := SFr.of_below hb1
  have HSC := Lib.hid hsc
  have HZ : Hid (w.heap.size + 1 ≠ s) := by show _ ≠ _; omega
  have HY : Hid (w.heap.size ≠ s) := by show _ ≠ _; omega
  have hsx : s < w.heap.size + 1 := by omega
  have hge : w.heap.size ≤ w.heap.size + 1 := by omega
  have hd0 : (0 : Int) ≤ (d : Int) := by omega
  have hdI : (2 : Int) ≤ (d : Int) := by omega
  have hdM : (d : Int) ≤ 1000 := by omega
  have hva : Hid (sc.hasVars = (decide (0 < sc.vars.length) || sc.free)) := hasVars_eq sc
  have haa : Hid (sc.hasArrays = (decide (0 < sc.arrays.length) || sc.free)) := hasArrays_eq sc
  have hfa : Hid (sc.hasFuncs = (decide (0 < sc.funcs.length) || sc.free)) := hasFuncs_eq sc
  clear hb1 hr1 hs hsc
  have E : gKind sc raw (gExpr sc raw (d - 1)) k ga = (.mk 1 0 (numOf (gNext raw (gNext raw ga 3).2 1000).1 (gNext raw (gNext raw (gNext raw ga 3).2 1000).2 8).1) [] [], (gNext raw (gNext raw (gNext raw ga 3).2 1000).2 8).2) := by
    unfold gKind
    rw [if_neg (by rintro ⟨h1, h2⟩; omega), if_neg (fun h => hq h.2), if_pos (by omega)]
    rw [if_pos hk]
  rw [E]
  clear E
  have HN : Hid (∀ w1, SrcAt w1 s raw ga → Calls Tryz.prog 37 #[.pointer (some ⟨s, 0, none⟩), .int .i64 3] w1 (Takes w1 s raw (.int .i64 (gNext raw ga 3).1) (gNext raw ga 3).2)) := fun w1 h1 => next_any s raw ga 3 w1 h1 (by decide) (by decide)
  have qr := gNext_range raw ga 3 (by decide)
  generalize gNext raw ga 3 = q at *
  obtain ⟨q, qa⟩ := q
  dsimp only at *
  have hqb : (q == 2) = false := beq_eq_false_iff_ne.2 hq
  clear hq
  have HM : Hid (∀ w1, SrcAt w1 s raw qa → Calls Tryz.prog 37 #[.pointer (some ⟨s, 0, none⟩), .int .i64 1000] w1 (Takes w1 s raw (.int .i64 (gNext raw qa 1000).1) (gNext raw qa 1000).2)) := fun w1 h1 => next_any s raw qa 1000 w1 h1 (by decide) (by decide)
  have mr := gNext_range raw qa 1000 (by decide)
  generalize gNext raw qa 1000 = m at *
  obtain ⟨m, ma⟩ := m
  dsimp only at *
  have HJ : Hid (∀ w1, SrcAt w1 s raw ma → Calls Tryz.prog 37 #[.pointer (some ⟨s, 0, none⟩), .int .i64 8] w1 (Takes w1 s raw (.int .i64 (gNext raw ma 8).1) (gNext raw ma 8).2)) := fun w1 h1 => next_any s raw ma 8 w1 h1 (by decide) (by decide)
  have jr := gNext_range raw ma 8 (by decide)
  generalize gNext raw ma 8 = j at *
  obtain ⟨j, ja⟩ := j
  dsimp only at *
  obtain ⟨m0, m1⟩ := mr
  obtain ⟨j0, j1⟩ := jr
  have HSH := num_shift m m0
  obtain ⟨mt0, mt1⟩ := num_tmod m m0
  have HMM := num_mul m m0 m1
  have HLJ := num_at m j j0 j1
  go_enter Tryz.func31, Tryz.ntmps31
  go_wp2_with fail
  refine (HK.out _ HS1.out).mono ?_
  rintro r w2 ⟨rfl, hs2, hf2⟩
  have HS2 := Lib.hid hs2; have HF2 := Lib.hid (HF1.out.trans hf2); have HR2 := Lib.hid (HR.out.sfr hf2 HZ.out); have HC2 := Lib.hid (HC.out.sfr hf2 HY.out)
  clear hs2 hf2 HS1 HF1 HR HC HK
  have b0 := HC2.out.at 0 _ rfl
  have b1 := HC2.out.at 1 _ rfl
  have b2 := HC2.out.at 2 _ rfl
  have b3 := HC2.out.at 3 _ rfl
  have b4 := HC2.out.at 4 _ rfl
  go_upto_region 4 with (fail)
  go_cut [8] (fun q wx => q = .bool sc.hasVars ∧ w2 = wx)
  case first =>
    by_cases hlv : 0 < sc.vars.length
    · have hlv' : (0 : Int) < (sc.vars.length : Int) := by omega
      go_wp2_with fail
      go_meet
      exact ⟨by rw [hva.out, decide_eq_true hlv]; rfl, rfl⟩
    · have hlv' : (sc.vars.length : Int) ≤ 0 := by omega
      go_wp2_with fail
      go_meet
      exact ⟨by rw [hva.out, decide_eq_false hlv]; rfl, rfl⟩
  case rest =>
  obtain ⟨rfl, rfl⟩ := hcut
  go_upto_region 5 with (fail)
  go_cut [9] (fun q wx => q = .bool sc.hasArrays ∧ w2 = wx)
  case first =>
    by_cases hlv : 0 < sc.arrays.length
    · have hlv' : (0 : Int) < (sc.arrays.length : Int) := by omega
      go_wp2_with fail
      go_meet
      exact ⟨by rw [haa.out, decide_eq_true hlv]; rfl, rfl⟩
    · have hlv' : (sc.arrays.length : Int) ≤ 0 := by omega
      go_wp2_with fail
      go_meet
      exact ⟨by rw [haa.out, decide_eq_false hlv]; rfl, rfl⟩
  case rest =>
  obtain ⟨rfl, rfl⟩ := hcut
  go_upto_region 6 with (fail)
  go_cut [10] (fun q wx => q = .bool sc.hasFuncs ∧ w2 = wx)
  case first =>
    by_cases hlv : 0 < sc.funcs.length
    · have hlv' : (0 : Int) < (sc.funcs.length : Int) := by omega
      go_wp2_with fail
      go_meet
      exact ⟨by rw [hfa.out, decide_eq_true hlv]; rfl, rfl⟩
    · have hlv' : (sc.funcs.length : Int) ≤ 0 := by omega
      go_wp2_with fail
      go_meet
      exact ⟨by rw [hfa.out, decide_eq_false hlv]; rfl, rfl⟩
  case rest =>
  obtain ⟨rfl, rfl⟩ := hcut
  clear b0 b1 b2 b3 b4 hva haa hfa
  subst hk
  go_wp2_with fail
  refine (HN.out _ HS2.out).mono ?_
  rintro r w3 ⟨rfl, hs3, hf3⟩
  have HS3 := Lib.hid hs3; have HF3 := Lib.hid (HF2.out.trans hf3); have HR3 := Lib.hid (HR2.out.sfr hf3 HZ.out); have HC3 := Lib.hid (HC2.out.sfr hf3 HY.out)
  clear hs3 hf3
  go_wp2_with fail
  refine (HM.out _ HS3.out).mono ?_
  rintro r w5 ⟨rfl, hs5, hf5⟩
  have HS5 := Lib.hid hs5; have HF5 := Lib.hid (HF3.out.trans hf5); have HR5 := Lib.hid (HR3.out.sfr hf5 HZ.out)
  clear hs5 hf5
  have x0 := HR5.out.at 0 _ rfl
  have x1 := HR5.out.at 1 _ rfl
  have x2 := HR5.out.at 2 _ rfl
  have x3 := HR5.out.at 3 _ rfl
  have x4 := HR5.out.at 4 _ rfl
  have fx0 := HR5.out.fz 0
  have fx1 := HR5.out.fz 1
  have fx2 := HR5.out.fz 2
  have fx3 := HR5.out.fz 3
  have fx4 := HR5.out.fz 4
  have hX5 := HR5.out.lt
  go_wp2_with fail
  have hdr : Below w5.heap.size w5 w5.drew := (Below.refl _ _).drew
  have HSd := Lib.hid (HS5.out.old hdr); have HFd := Lib.hid (HF5.out.trans (SFr.of_below hdr)); have HRd := Lib.hid (HR5.out.old hdr)
  have hs5l := HS5.out.lt
  have hs5n : w5.heap.size ≠ s := by omega
  have hj8 : j.toNat < 8 := by omega
  clear hdr x0 x1 x2 x3 x4 fx0 fx1 fx2 fx3 fx4
  go_region_with (first
    | (go_at_call 37; refine (HJ.out _ (by first | exact HSd.out | exact HSd.out.alloc _)).mono ?_; rintro r w6 ⟨he, hs6, hf6⟩; subst he; have hc : ∀ b o, b < _ → b ≠ s → w6.cell? ⟨b, o, none⟩ = _ := fun b o h hn => World.cell?_of_block (a := ⟨b, o, none⟩) (hf6.block b h hn); have HS6 := Lib.hid hs6; have HF6 : Hid (SFr s w w6) := (by first | exact HFd.out.trans hf6 | exact (HFd.out.trans (SFr.alloc _)).trans hf6); have hR6 : OwnAt w6 (w.heap.size + 1) _ _ := (by first | exact HRd.out.sfr hf6 HZ.out | exact (HRd.out.alloc _).sfr hf6 HZ.out); have HR6 := Lib.hid hR6; have x0 := hR6.at 0 _ rfl; have x1 := hR6.at 1 _ rfl; have x2 := hR6.at 2 _ rfl; have x3 := hR6.at 3 _ rfl; have x4 := hR6.at 4 _ rfl; have fx0 := hR6.fz 0; have fx1 := hR6.fz 1; have fx2 := hR6.fz 2; have fx3 := hR6.fz 3; have fx4 := hR6.fz 4; have hX6 := hR6.lt; have hz6 := hf6.size; clear hs6 hf6 hR6))
  · have HRE := Lib.hid (((((HR6.out.set 0 (.int .i64 1)).set 1 (.int .i64 0)).set 2 (.int .i64 (numOf m j))).set 3 (.string ⟨#[]⟩)).set 4 (.slice none 0 0))
    have HSE := Lib.hid (((((HS6.out.other hsx 0 (.int .i64 1)).other hsx 1 (.int .i64 0)).other hsx 2 (.int .i64 (numOf m j))).other hsx 3 (.string ⟨#[]⟩)).other hsx 4 (.slice none 0 0))
    have HFE := Lib.hid (((((HF6.out.setNew hge 0 (.int .i64 1)).setNew hge 1 (.int .i64 0)).setNew hge 2 (.int .i64 (numOf m j))).setNew hge 3 (.string ⟨#[]⟩)).setNew hge 4 (.slice none 0 0))
    go_wp2_with fail
    have d0 := HRE.out.at 0 _ rfl
    have d1 := HRE.out.at 1 _ rfl
    have d2 := HRE.out.at 2 _ rfl
    have d3 := HRE.out.at 3 _ rfl
    have d4 := HRE.out.at 4 _ rfl
    exact bodyPost_ret (v := .agg #[.int .i64 1, .int .i64 0, .int .i64 (numOf m j), .string ⟨#[]⟩, .slice none 0 0]) (by simp [results, Tryz.results31, go_sem, d0, d1, d2, d3, d4]) rfl ⟨.slice none 0 0, rfl, HSE.out, HFE.out, ExsAt.zero, numOf_i64 m j ⟨m0, m1⟩⟩
  · have HRE := Lib.hid ((((((HR6.out.set 0 (.int .i64 1)).set 1 (.int .i64 0)).set 2 (.int .i64 (numOf m j))).set 3 (.string ⟨#[]⟩)).set 4 (.slice none 0 0)).alloc (.cells #[.int .i64 0, .int .i64 1, .int .i64 2, .int .i64 3, .int .i64 m, .int .i64 (m * m), .int .i64 (numOf m 6), .int .i64 9223372036854775807] 3))
    have HSE := Lib.hid ((((((HS6.out.other hsx 0 (.int .i64 1)).other hsx 1 (.int .i64 0)).other hsx 2 (.int .i64 (numOf m j))).other hsx 3 (.string ⟨#[]⟩)).other hsx 4 (.slice none 0 0)).alloc (.cells #[.int .i64 0, .int .i64 1, .int .i64 2, .int .i64 3, .int .i64 m, .int .i64 (m * m), .int .i64 (numOf m 6), .int .i64 9223372036854775807] 3))
    have HFE := Lib.hid ((((((HF6.out.setNew hge 0 (.int .i64 1)).setNew hge 1 (.int .i64 0)).setNew hge 2 (.int .i64 (numOf m j))).setNew hge 3 (.string ⟨#[]⟩)).setNew hge 4 (.slice none 0 0)).trans (SFr.alloc (.cells #[.int .i64 0, .int .i64 1, .int .i64 2, .int .i64 3, .int .i64 m, .int .i64 (m * m), .int .i64 (numOf m 6), .int .i64 9223372036854775807] 3)))
    go_wp2_with fail
    have d0 := HRE.out.at 0 _ rfl
    have d1 := HRE.out.at 1 _ rfl
    have d2 := HRE.out.at 2 _ rfl
    have d3 := HRE.out.at 3 _ rfl
    have d4 := HRE.out.at 4 _ rfl
    exact bodyPost_ret (v := .agg #[.int .i64 1, .int .i64 0, .int .i64 (numOf m j), .string ⟨#[]⟩, .slice none 0 0]) (by simp [results, Tryz.results31, go_sem, d0, d1, d2, d3, d4]) rfl ⟨.slice none 0 0, rfl, HSE.out, HFE.out, ExsAt.zero, numOf_i64 m j ⟨m0, m1⟩⟩
end Go.Proofs.YtcfpfnoldgnloaaGreatDoor

namespace Go.Proofs.YtcfpfnoldgnloaaGreatDoor
open Go.RowKit
set_option maxHeartbeats 4000000
set_option maxRecDepth 100000

theorem ge_num30 (d : Nat) (hd : d < 2) (hd1 : d ≤ 1000) (s : Nat) (raw : List Int) (a : Nat) (sc : Sc) (vv av fv : Value) (w : World) (hs : SrcAt w s raw a) (hsc : ScAt s w sc vv av fv) (k : Int) (hkk : gK raw d a = k) (hk : k = 3) (hq : ¬ (gNext raw (gNext raw a 12).2 3).1 = 2) :
    Calls Tryz.prog 31 #[scV sc vv av fv, .pointer (some ⟨s, 0, none⟩), .int .i64 d] w (GivesEx w s raw (gKind sc raw (gExpr sc raw (d - 1)) k (gNext raw a 12).2)) := by
  obtain ⟨v1, v2, rfl⟩ := hsc.vars.shape
  obtain ⟨a1, a2, rfl⟩ := hsc.arrays.shape
  obtain ⟨f1, f2, rfl⟩ := hsc.funcs.shape
  have lv := hsc.v1; have la := hsc.a1; have lf := hsc.f1
  have hsl := hs.lt
  have HK : Hid (∀ w1, SrcAt w1 s raw a → Calls Tryz.prog 37 #[.pointer (some ⟨s, 0, none⟩), .int .i64 12] w1 (Takes w1 s raw (.int .i64 (gNext raw a 12).1) (gNext raw a 12).2)) := fun w1 h1 => next_any s raw a 12 w1 h1 (by decide) (by decide)
  have hr := gNext_range raw a 12 (by decide)
  unfold gK at hkk
  rw [if_pos hd] at hkk
  generalize gNext raw a 12 = g at *
  obtain ⟨g, ga⟩ := g
  obtain ⟨g0, g1⟩ := hr
  dsimp only at g0 g1 hkk HK ⊢
  have hk0 : 0 ≤ k := by omega
  have hk1 : k < 4 := by omega
  have HKK := Lib.hid hkk; clear hkk
  have hb1 : Below w.heap.size w ((w.alloc (.cells #[.slice v1 sc.vars.length v2, .slice a1 sc.arrays.length a2, .slice f1 sc.funcs.length f2, .bool sc.free, .bool sc.loop] 73)).alloc (.cells #[.int .i64 0, .int .i64 0, .int .i64 0, .string ⟨#[]⟩, .slice none 0 0] 27)) := ((Below.refl _ _).alloc (Nat.le_refl _) _).alloc (by simp) _
  have hr1 := OwnAt.new (w.alloc (.cells #[.slice v1 sc.vars.length v2, .slice a1 sc.arrays.length a2, .slice f1 sc.funcs.length f2, .bool sc.free, .bool sc.loop] 73)) [.int .i64 0, .int .i64 0, .int .i64 0, .string ⟨#[]⟩, .slice none 0 0] 27
  rw [show (w.alloc (.cells #[.slice v1 sc.vars.length v2, .slice a1 sc.arrays.length a2, .slice f1 sc.funcs.length f2, .bool sc.free, .bool sc.loop] 73)).heap.size = w.heap.size + 1 by simp] at hr1
  have HC := Lib.hid ((OwnAt.new w [.slice v1 sc.vars.length v2, .slice a1 sc.arrays.length a2, .slice f1 sc.funcs.length f2, .bool sc.free, .bool sc.loop] 73).alloc (.cells #[.int .i64 0, .int .i64 0, .int .i64 0, .string ⟨#[]⟩, .slice none 0 0] 27))
  have HR := Lib.hid hr1
  have HS1 := Lib.hid (hs.old hb1); have HF1 : Hid (SFr s w ((w.alloc (.cells #[.slice v1 sc.vars.length v2, .slice a1 sc.arrays.length a2, .slice f1 sc.funcs.length f2, .bool sc.free, .bool sc.loop] 73)).alloc (.cells #[.int .i64 0, .int .i64 0, .int .i64 0, .string ⟨#[]⟩, .slice none 0 0] 27))) := SFr.of_below hb1
  have HSC := Lib.hid hsc
  have HZ : Hid (w.heap.size + 1 ≠ s) := by show _ ≠ _; omega
  have HY : Hid (w.heap.size ≠ s) := by show _ ≠ _; omega
  have hsx : s < w.heap.size + 1 := by omega
  have hge : w.heap.size ≤ w.heap.size + 1 := by omega
  have hd0 : (0 : Int) ≤ (d : Int) := by omega
  have hdI : (d : Int) < 2 := by omega
  have hdM : (d : Int) ≤ 1000 := by omega
  have hva : Hid (sc.hasVars = (decide (0 < sc.vars.length) || sc.free)) := hasVars_eq sc
  have haa : Hid (sc.hasArrays = (decide (0 < sc.arrays.length) || sc.free)) := hasArrays_eq sc
  have hfa : Hid (sc.hasFuncs = (decide (0 < sc.funcs.length) || sc.free)) := hasFuncs_eq sc
  clear hb1 hr1 hs hsc
  have E : gKind sc raw (gExpr sc raw (d - 1)) k ga = (.mk 1 0 (numOf (gNext raw (gNext raw ga 3).2 1000).1 (gNext raw (gNext raw (gNext raw ga 3).2 1000).2 8).1) [] [], (gNext raw (gNext raw (gNext raw ga 3).2 1000).2 8).2) := by
    unfold gKind
    rw [if_neg (by rintro ⟨h1, h2⟩; omega), if_neg (fun h => hq h.2), if_pos (by omega)]
    rw [if_pos hk]
  rw [E]
  clear E
  have HN : Hid (∀ w1, SrcAt w1 s raw ga → Calls Tryz.prog 37 #[.pointer (some ⟨s, 0, none⟩), .int .i64 3] w1 (Takes w1 s raw (.int .i64 (gNext raw ga 3).1) (gNext raw ga 3).2)) := fun w1 h1 => next_any s raw ga 3 w1 h1 (by decide) (by decide)
  have qr := gNext_range raw ga 3 (by decide)
  generalize gNext raw ga 3 = q at *
  obtain ⟨q, qa⟩ := q
  dsimp only at *
  have hqb : (q == 2) = false := beq_eq_false_iff_ne.2 hq
  clear hq
  have HM : Hid (∀ w1, SrcAt w1 s raw qa → Calls Tryz.prog 37 #[.pointer (some ⟨s, 0, none⟩), .int .i64 1000] w1 (Takes w1 s raw (.int .i64 (gNext raw qa 1000).1) (gNext raw qa 1000).2)) := fun w1 h1 => next_any s raw qa 1000 w1 h1 (by decide) (by decide)
  have mr := gNext_range raw qa 1000 (by decide)
  generalize gNext raw qa 1000 = m at *
  obtain ⟨m, ma⟩ := m
  dsimp only at *
  have HJ : Hid (∀ w1, SrcAt w1 s raw ma → Calls Tryz.prog 37 #[.pointer (some ⟨s, 0, none⟩), .int .i64 8] w1 (Takes w1 s raw (.int .i64 (gNext raw ma 8).1) (gNext raw ma 8).2)) := fun w1 h1 => next_any s raw ma 8 w1 h1 (by decide) (by decide)
  have jr := gNext_range raw ma 8 (by decide)
  generalize gNext raw ma 8 = j at *
  obtain ⟨j, ja⟩ := j
  dsimp only at *
  obtain ⟨m0, m1⟩ := mr
  obtain ⟨j0, j1⟩ := jr
  have HSH := num_shift m m0
  obtain ⟨mt0, mt1⟩ := num_tmod m m0
  have HMM := num_mul m m0 m1
  have HLJ := num_at m j j0 j1
  go_enter Tryz.func31, Tryz.ntmps31
  go_wp2_with fail
  refine (HK.out _ HS1.out).mono ?_
  rintro r w2 ⟨rfl, hs2, hf2⟩
  have HS2 := Lib.hid hs2; have HF2 := Lib.hid (HF1.out.trans hf2); have HR2 := Lib.hid (HR.out.sfr hf2 HZ.out); have HC2 := Lib.hid (HC.out.sfr hf2 HY.out)
  clear hs2 hf2 HS1 HF1 HR HC HK
  have b0 := HC2.out.at 0 _ rfl
  have b1 := HC2.out.at 1 _ rfl
  have b2 := HC2.out.at 2 _ rfl
  have b3 := HC2.out.at 3 _ rfl
  have b4 := HC2.out.at 4 _ rfl
  go_upto_region 4 with (fail)
  go_cut [8] (fun q wx => q = .bool sc.hasVars ∧ w2 = wx)
  case first =>
    by_cases hlv : 0 < sc.vars.length
    · have hlv' : (0 : Int) < (sc.vars.length : Int) := by omega
      go_wp2_with fail
      go_meet
      exact ⟨by rw [hva.out, decide_eq_true hlv]; rfl, rfl⟩
    · have hlv' : (sc.vars.length : Int) ≤ 0 := by omega
      go_wp2_with fail
      go_meet
      exact ⟨by rw [hva.out, decide_eq_false hlv]; rfl, rfl⟩
  case rest =>
  obtain ⟨rfl, rfl⟩ := hcut
  go_upto_region 5 with (fail)
  go_cut [9] (fun q wx => q = .bool sc.hasArrays ∧ w2 = wx)
  case first =>
    by_cases hlv : 0 < sc.arrays.length
    · have hlv' : (0 : Int) < (sc.arrays.length : Int) := by omega
      go_wp2_with fail
      go_meet
      exact ⟨by rw [haa.out, decide_eq_true hlv]; rfl, rfl⟩
    · have hlv' : (sc.arrays.length : Int) ≤ 0 := by omega
      go_wp2_with fail
      go_meet
      exact ⟨by rw [haa.out, decide_eq_false hlv]; rfl, rfl⟩
  case rest =>
  obtain ⟨rfl, rfl⟩ := hcut
  go_upto_region 6 with (fail)
  go_cut [10] (fun q wx => q = .bool sc.hasFuncs ∧ w2 = wx)
  case first =>
    by_cases hlv : 0 < sc.funcs.length
    · have hlv' : (0 : Int) < (sc.funcs.length : Int) := by omega
      go_wp2_with fail
      go_meet
      exact ⟨by rw [hfa.out, decide_eq_true hlv]; rfl, rfl⟩
    · have hlv' : (sc.funcs.length : Int) ≤ 0 := by omega
      go_wp2_with fail
      go_meet
      exact ⟨by rw [hfa.out, decide_eq_false hlv]; rfl, rfl⟩
  case rest =>
  obtain ⟨rfl, rfl⟩ := hcut
  clear b0 b1 b2 b3 b4 hva haa hfa
  subst hk
  rw [HKK.out]
  go_wp2_with fail
  refine (HN.out _ HS2.out).mono ?_
  rintro r w3 ⟨rfl, hs3, hf3⟩
  have HS3 := Lib.hid hs3; have HF3 := Lib.hid (HF2.out.trans hf3); have HR3 := Lib.hid (HR2.out.sfr hf3 HZ.out); have HC3 := Lib.hid (HC2.out.sfr hf3 HY.out)
  clear hs3 hf3
  go_wp2_with fail
  refine (HM.out _ HS3.out).mono ?_
  rintro r w5 ⟨rfl, hs5, hf5⟩
  have HS5 := Lib.hid hs5; have HF5 := Lib.hid (HF3.out.trans hf5); have HR5 := Lib.hid (HR3.out.sfr hf5 HZ.out)
  clear hs5 hf5
  have x0 := HR5.out.at 0 _ rfl
  have x1 := HR5.out.at 1 _ rfl
  have x2 := HR5.out.at 2 _ rfl
  have x3 := HR5.out.at 3 _ rfl
  have x4 := HR5.out.at 4 _ rfl
  have fx0 := HR5.out.fz 0
  have fx1 := HR5.out.fz 1
  have fx2 := HR5.out.fz 2
  have fx3 := HR5.out.fz 3
  have fx4 := HR5.out.fz 4
  have hX5 := HR5.out.lt
  go_wp2_with fail
  have hdr : Below w5.heap.size w5 w5.drew := (Below.refl _ _).drew
  have HSd := Lib.hid (HS5.out.old hdr); have HFd := Lib.hid (HF5.out.trans (SFr.of_below hdr)); have HRd := Lib.hid (HR5.out.old hdr)
  have hs5l := HS5.out.lt
  have hs5n : w5.heap.size ≠ s := by omega
  have hj8 : j.toNat < 8 := by omega
  clear hdr x0 x1 x2 x3 x4 fx0 fx1 fx2 fx3 fx4
  go_region_with (first
    | (go_at_call 37; refine (HJ.out _ (by first | exact HSd.out | exact HSd.out.alloc _)).mono ?_; rintro r w6 ⟨he, hs6, hf6⟩; subst he; have hc : ∀ b o, b < _ → b ≠ s → w6.cell? ⟨b, o, none⟩ = _ := fun b o h hn => World.cell?_of_block (a := ⟨b, o, none⟩) (hf6.block b h hn); have HS6 := Lib.hid hs6; have HF6 : Hid (SFr s w w6) := (by first | exact HFd.out.trans hf6 | exact (HFd.out.trans (SFr.alloc _)).trans hf6); have hR6 : OwnAt w6 (w.heap.size + 1) _ _ := (by first | exact HRd.out.sfr hf6 HZ.out | exact (HRd.out.alloc _).sfr hf6 HZ.out); have HR6 := Lib.hid hR6; have x0 := hR6.at 0 _ rfl; have x1 := hR6.at 1 _ rfl; have x2 := hR6.at 2 _ rfl; have x3 := hR6.at 3 _ rfl; have x4 := hR6.at 4 _ rfl; have fx0 := hR6.fz 0; have fx1 := hR6.fz 1; have fx2 := hR6.fz 2; have fx3 := hR6.fz 3; have fx4 := hR6.fz 4; have hX6 := hR6.lt; have hz6 := hf6.size; clear hs6 hf6 hR6))
  · have HRE := Lib.hid (((((HR6.out.set 0 (.int .i64 1)).set 1 (.int .i64 0)).set 2 (.int .i64 (numOf m j))).set 3 (.string ⟨#[]⟩)).set 4 (.slice none 0 0))
    have HSE := Lib.hid (((((HS6.out.other hsx 0 (.int .i64 1)).other hsx 1 (.int .i64 0)).other hsx 2 (.int .i64 (numOf m j))).other hsx 3 (.string ⟨#[]⟩)).other hsx 4 (.slice none 0 0))
    have HFE := Lib.hid (((((HF6.out.setNew hge 0 (.int .i64 1)).setNew hge 1 (.int .i64 0)).setNew hge 2 (.int .i64 (numOf m j))).setNew hge 3 (.string ⟨#[]⟩)).setNew hge 4 (.slice none 0 0))
    go_wp2_with fail
    have d0 := HRE.out.at 0 _ rfl
    have d1 := HRE.out.at 1 _ rfl
    have d2 := HRE.out.at 2 _ rfl
    have d3 := HRE.out.at 3 _ rfl
    have d4 := HRE.out.at 4 _ rfl
    exact bodyPost_ret (v := .agg #[.int .i64 1, .int .i64 0, .int .i64 (numOf m j), .string ⟨#[]⟩, .slice none 0 0]) (by simp [results, Tryz.results31, go_sem, d0, d1, d2, d3, d4]) rfl ⟨.slice none 0 0, rfl, HSE.out, HFE.out, ExsAt.zero, numOf_i64 m j ⟨m0, m1⟩⟩
  · have HRE := Lib.hid ((((((HR6.out.set 0 (.int .i64 1)).set 1 (.int .i64 0)).set 2 (.int .i64 (numOf m j))).set 3 (.string ⟨#[]⟩)).set 4 (.slice none 0 0)).alloc (.cells #[.int .i64 0, .int .i64 1, .int .i64 2, .int .i64 3, .int .i64 m, .int .i64 (m * m), .int .i64 (numOf m 6), .int .i64 9223372036854775807] 3))
    have HSE := Lib.hid ((((((HS6.out.other hsx 0 (.int .i64 1)).other hsx 1 (.int .i64 0)).other hsx 2 (.int .i64 (numOf m j))).other hsx 3 (.string ⟨#[]⟩)).other hsx 4 (.slice none 0 0)).alloc (.cells #[.int .i64 0, .int .i64 1, .int .i64 2, .int .i64 3, .int .i64 m, .int .i64 (m * m), .int .i64 (numOf m 6), .int .i64 9223372036854775807] 3))
    have HFE := Lib.hid ((((((HF6.out.setNew hge 0 (.int .i64 1)).setNew hge 1 (.int .i64 0)).setNew hge 2 (.int .i64 (numOf m j))).setNew hge 3 (.string ⟨#[]⟩)).setNew hge 4 (.slice none 0 0)).trans (SFr.alloc (.cells #[.int .i64 0, .int .i64 1, .int .i64 2, .int .i64 3, .int .i64 m, .int .i64 (m * m), .int .i64 (numOf m 6), .int .i64 9223372036854775807] 3)))
    go_wp2_with fail
    have d0 := HRE.out.at 0 _ rfl
    have d1 := HRE.out.at 1 _ rfl
    have d2 := HRE.out.at 2 _ rfl
    have d3 := HRE.out.at 3 _ rfl
    have d4 := HRE.out.at 4 _ rfl
    exact bodyPost_ret (v := .agg #[.int .i64 1, .int .i64 0, .int .i64 (numOf m j), .string ⟨#[]⟩, .slice none 0 0]) (by simp [results, Tryz.results31, go_sem, d0, d1, d2, d3, d4]) rfl ⟨.slice none 0 0, rfl, HSE.out, HFE.out, ExsAt.zero, numOf_i64 m j ⟨m0, m1⟩⟩
end Go.Proofs.YtcfpfnoldgnloaaGreatDoor

namespace Go.Proofs.YtcfpfnoldgnloaaGreatDoor
open Go.RowKit
set_option maxHeartbeats 4000000
set_option maxRecDepth 100000

theorem ge_num (d : Nat) (hd : 2 ≤ d) (hd1 : d ≤ 1000) (s : Nat) (raw : List Int) (a : Nat) (sc : Sc) (vv av fv : Value) (w : World) (hs : SrcAt w s raw a) (hsc : ScAt s w sc vv av fv) (k : Int) (hkk : gK raw d a = k) (hN : k = 0 ∨ ((k = 1 ∨ k = 2) ∧ sc.hasVars = false)) :
    Calls Tryz.prog 31 #[scV sc vv av fv, .pointer (some ⟨s, 0, none⟩), .int .i64 d] w (GivesEx w s raw (gKind sc raw (gExpr sc raw (d - 1)) k (gNext raw a 12).2)) := by
  obtain ⟨v1, v2, rfl⟩ := hsc.vars.shape
  obtain ⟨a1, a2, rfl⟩ := hsc.arrays.shape
  obtain ⟨f1, f2, rfl⟩ := hsc.funcs.shape
  have lv := hsc.v1; have la := hsc.a1; have lf := hsc.f1
  have hsl := hs.lt
  have HK : Hid (∀ w1, SrcAt w1 s raw a → Calls Tryz.prog 37 #[.pointer (some ⟨s, 0, none⟩), .int .i64 12] w1 (Takes w1 s raw (.int .i64 (gNext raw a 12).1) (gNext raw a 12).2)) := fun w1 h1 => next_any s raw a 12 w1 h1 (by decide) (by decide)
  have hr := gNext_range raw a 12 (by decide)
  unfold gK at hkk
  rw [if_neg (by omega)] at hkk
  generalize gNext raw a 12 = g at *
  obtain ⟨g, ga⟩ := g
  obtain ⟨g0, g1⟩ := hr
  dsimp only at g0 g1 hkk HK ⊢
  replace hkk := hkk.symm
  subst hkk
  have hb1 : Below w.heap.size w ((w.alloc (.cells #[.slice v1 sc.vars.length v2, .slice a1 sc.arrays.length a2, .slice f1 sc.funcs.length f2, .bool sc.free, .bool sc.loop] 73)).alloc (.cells #[.int .i64 0, .int .i64 0, .int .i64 0, .string ⟨#[]⟩, .slice none 0 0] 27)) := ((Below.refl _ _).alloc (Nat.le_refl _) _).alloc (by simp) _
  have hr1 := OwnAt.new (w.alloc (.cells #[.slice v1 sc.vars.length v2, .slice a1 sc.arrays.length a2, .slice f1 sc.funcs.length f2, .bool sc.free, .bool sc.loop] 73)) [.int .i64 0, .int .i64 0, .int .i64 0, .string ⟨#[]⟩, .slice none 0 0] 27
  rw [show (w.alloc (.cells #[.slice v1 sc.vars.length v2, .slice a1 sc.arrays.length a2, .slice f1 sc.funcs.length f2, .bool sc.free, .bool sc.loop] 73)).heap.size = w.heap.size + 1 by simp] at hr1
  have HC := Lib.hid ((OwnAt.new w [.slice v1 sc.vars.length v2, .slice a1 sc.arrays.length a2, .slice f1 sc.funcs.length f2, .bool sc.free, .bool sc.loop] 73).alloc (.cells #[.int .i64 0, .int .i64 0, .int .i64 0, .string ⟨#[]⟩, .slice none 0 0] 27))
  have HR := Lib.hid hr1
  have HS1 := Lib.hid (hs.old hb1); have HF1 : Hid (SFr s w ((w.alloc (.cells #[.slice v1 sc.vars.length v2, .slice a1 sc.arrays.length a2, .slice f1 sc.funcs.length f2, .bool sc.free, .bool sc.loop] 73)).alloc (.cells #[.int .i64 0, .int .i64 0, .int .i64 0, .string ⟨#[]⟩, .slice none 0 0] 27))) := SFr.of_below hb1
  have HSC := Lib.hid hsc
  have HZ : Hid (w.heap.size + 1 ≠ s) := by show _ ≠ _; omega
  have HY : Hid (w.heap.size ≠ s) := by show _ ≠ _; omega
  have hsx : s < w.heap.size + 1 := by omega
  have hge : w.heap.size ≤ w.heap.size + 1 := by omega
  have hd0 : (0 : Int) ≤ (d : Int) := by omega
  have hdI : (2 : Int) ≤ (d : Int) := by omega
  have hdM : (d : Int) ≤ 1000 := by omega
  have hva : Hid (sc.hasVars = (decide (0 < sc.vars.length) || sc.free)) := hasVars_eq sc
  have haa : Hid (sc.hasArrays = (decide (0 < sc.arrays.length) || sc.free)) := hasArrays_eq sc
  have hfa : Hid (sc.hasFuncs = (decide (0 < sc.funcs.length) || sc.free)) := hasFuncs_eq sc
  clear hb1 hr1 hs hsc
  have E : gKind sc raw (gExpr sc raw (d - 1)) k ga = (.mk 1 0 (numOf (gNext raw ga 1000).1 (gNext raw (gNext raw ga 1000).2 8).1) [] [], (gNext raw (gNext raw ga 1000).2 8).2) := by
    unfold gKind
    rw [if_neg (by rintro ⟨h1, h2⟩; rcases hN with h | ⟨h, h'⟩ <;> first | omega | (rw [h'] at h2; cases h2)), if_neg (by omega), if_pos (by omega)]
    rw [if_neg (show ¬ k = 3 by omega)]
  rw [E]
  clear E
  have HM : Hid (∀ w1, SrcAt w1 s raw ga → Calls Tryz.prog 37 #[.pointer (some ⟨s, 0, none⟩), .int .i64 1000] w1 (Takes w1 s raw (.int .i64 (gNext raw ga 1000).1) (gNext raw ga 1000).2)) := fun w1 h1 => next_any s raw ga 1000 w1 h1 (by decide) (by decide)
  have mr := gNext_range raw ga 1000 (by decide)
  generalize gNext raw ga 1000 = m at *
  obtain ⟨m, ma⟩ := m
  dsimp only at *
  have HJ : Hid (∀ w1, SrcAt w1 s raw ma → Calls Tryz.prog 37 #[.pointer (some ⟨s, 0, none⟩), .int .i64 8] w1 (Takes w1 s raw (.int .i64 (gNext raw ma 8).1) (gNext raw ma 8).2)) := fun w1 h1 => next_any s raw ma 8 w1 h1 (by decide) (by decide)
  have jr := gNext_range raw ma 8 (by decide)
  generalize gNext raw ma 8 = j at *
  obtain ⟨j, ja⟩ := j
  dsimp only at *
  obtain ⟨m0, m1⟩ := mr
  obtain ⟨j0, j1⟩ := jr
  have HSH := num_shift m m0
  obtain ⟨mt0, mt1⟩ := num_tmod m m0
  have HMM := num_mul m m0 m1
  have HLJ := num_at m j j0 j1
  go_enter Tryz.func31, Tryz.ntmps31
  go_wp2_with fail
  refine (HK.out _ HS1.out).mono ?_
  rintro r w2 ⟨rfl, hs2, hf2⟩
  have HS2 := Lib.hid hs2; have HF2 := Lib.hid (HF1.out.trans hf2); have HR2 := Lib.hid (HR.out.sfr hf2 HZ.out); have HC2 := Lib.hid (HC.out.sfr hf2 HY.out)
  clear hs2 hf2 HS1 HF1 HR HC HK
  have b0 := HC2.out.at 0 _ rfl
  have b1 := HC2.out.at 1 _ rfl
  have b2 := HC2.out.at 2 _ rfl
  have b3 := HC2.out.at 3 _ rfl
  have b4 := HC2.out.at 4 _ rfl
  go_upto_region 4 with (fail)
  go_cut [8] (fun q wx => q = .bool sc.hasVars ∧ w2 = wx)
  case first =>
    by_cases hlv : 0 < sc.vars.length
    · have hlv' : (0 : Int) < (sc.vars.length : Int) := by omega
      go_wp2_with fail
      go_meet
      exact ⟨by rw [hva.out, decide_eq_true hlv]; rfl, rfl⟩
    · have hlv' : (sc.vars.length : Int) ≤ 0 := by omega
      go_wp2_with fail
      go_meet
      exact ⟨by rw [hva.out, decide_eq_false hlv]; rfl, rfl⟩
  case rest =>
  obtain ⟨rfl, rfl⟩ := hcut
  go_upto_region 5 with (fail)
  go_cut [9] (fun q wx => q = .bool sc.hasArrays ∧ w2 = wx)
  case first =>
    by_cases hlv : 0 < sc.arrays.length
    · have hlv' : (0 : Int) < (sc.arrays.length : Int) := by omega
      go_wp2_with fail
      go_meet
      exact ⟨by rw [haa.out, decide_eq_true hlv]; rfl, rfl⟩
    · have hlv' : (sc.arrays.length : Int) ≤ 0 := by omega
      go_wp2_with fail
      go_meet
      exact ⟨by rw [haa.out, decide_eq_false hlv]; rfl, rfl⟩
  case rest =>
  obtain ⟨rfl, rfl⟩ := hcut
  go_upto_region 6 with (fail)
  go_cut [10] (fun q wx => q = .bool sc.hasFuncs ∧ w2 = wx)
  case first =>
    by_cases hlv : 0 < sc.funcs.length
    · have hlv' : (0 : Int) < (sc.funcs.length : Int) := by omega
      go_wp2_with fail
      go_meet
      exact ⟨by rw [hfa.out, decide_eq_true hlv]; rfl, rfl⟩
    · have hlv' : (sc.funcs.length : Int) ≤ 0 := by omega
      go_wp2_with fail
      go_meet
      exact ⟨by rw [hfa.out, decide_eq_false hlv]; rfl, rfl⟩
  case rest =>
  obtain ⟨rfl, rfl⟩ := hcut
  clear b0 b1 b2 b3 b4 hva haa hfa
  rcases hN with rfl | ⟨rfl | rfl, hV⟩
  all_goals
    go_wp2_with fail
    refine (HM.out _ HS2.out).mono ?_
    rintro r w5 ⟨rfl, hs5, hf5⟩
    have HS5 := Lib.hid hs5; have HF5 := Lib.hid (HF2.out.trans hf5); have HR5 := Lib.hid (HR2.out.sfr hf5 HZ.out)
    clear hs5 hf5
    have x0 := HR5.out.at 0 _ rfl
    have x1 := HR5.out.at 1 _ rfl
    have x2 := HR5.out.at 2 _ rfl
    have x3 := HR5.out.at 3 _ rfl
    have x4 := HR5.out.at 4 _ rfl
    have fx0 := HR5.out.fz 0
    have fx1 := HR5.out.fz 1
    have fx2 := HR5.out.fz 2
    have fx3 := HR5.out.fz 3
    have fx4 := HR5.out.fz 4
    have hX5 := HR5.out.lt
    go_wp2_with fail
    have hdr : Below w5.heap.size w5 w5.drew := (Below.refl _ _).drew
    have HSd := Lib.hid (HS5.out.old hdr); have HFd := Lib.hid (HF5.out.trans (SFr.of_below hdr)); have HRd := Lib.hid (HR5.out.old hdr)
    have hs5l := HS5.out.lt
    have hs5n : w5.heap.size ≠ s := by omega
    have hj8 : j.toNat < 8 := by omega
    clear hdr x0 x1 x2 x3 x4 fx0 fx1 fx2 fx3 fx4
    go_region_with (first
      | (go_at_call 37; refine (HJ.out _ (by first | exact HSd.out | exact HSd.out.alloc _)).mono ?_; rintro r w6 ⟨he, hs6, hf6⟩; subst he; have hc : ∀ b o, b < _ → b ≠ s → w6.cell? ⟨b, o, none⟩ = _ := fun b o h hn => World.cell?_of_block (a := ⟨b, o, none⟩) (hf6.block b h hn); have HS6 := Lib.hid hs6; have HF6 : Hid (SFr s w w6) := (by first | exact HFd.out.trans hf6 | exact (HFd.out.trans (SFr.alloc _)).trans hf6); have hR6 : OwnAt w6 (w.heap.size + 1) _ _ := (by first | exact HRd.out.sfr hf6 HZ.out | exact (HRd.out.alloc _).sfr hf6 HZ.out); have HR6 := Lib.hid hR6; have x0 := hR6.at 0 _ rfl; have x1 := hR6.at 1 _ rfl; have x2 := hR6.at 2 _ rfl; have x3 := hR6.at 3 _ rfl; have x4 := hR6.at 4 _ rfl; have fx0 := hR6.fz 0; have fx1 := hR6.fz 1; have fx2 := hR6.fz 2; have fx3 := hR6.fz 3; have fx4 := hR6.fz 4; have hX6 := hR6.lt; have hz6 := hf6.size; clear hs6 hf6 hR6))
    · have HRE := Lib.hid (((((HR6.out.set 0 (.int .i64 1)).set 1 (.int .i64 0)).set 2 (.int .i64 (numOf m j))).set 3 (.string ⟨#[]⟩)).set 4 (.slice none 0 0))
      have HSE := Lib.hid (((((HS6.out.other hsx 0 (.int .i64 1)).other hsx 1 (.int .i64 0)).other hsx 2 (.int .i64 (numOf m j))).other hsx 3 (.string ⟨#[]⟩)).other hsx 4 (.slice none 0 0))
      have HFE := Lib.hid (((((HF6.out.setNew hge 0 (.int .i64 1)).setNew hge 1 (.int .i64 0)).setNew hge 2 (.int .i64 (numOf m j))).setNew hge 3 (.string ⟨#[]⟩)).setNew hge 4 (.slice none 0 0))
      go_wp2_with fail
      have d0 := HRE.out.at 0 _ rfl
      have d1 := HRE.out.at 1 _ rfl
      have d2 := HRE.out.at 2 _ rfl
      have d3 := HRE.out.at 3 _ rfl
      have d4 := HRE.out.at 4 _ rfl
      exact bodyPost_ret (v := .agg #[.int .i64 1, .int .i64 0, .int .i64 (numOf m j), .string ⟨#[]⟩, .slice none 0 0]) (by simp [results, Tryz.results31, go_sem, d0, d1, d2, d3, d4]) rfl ⟨.slice none 0 0, rfl, HSE.out, HFE.out, ExsAt.zero, numOf_i64 m j ⟨m0, m1⟩⟩
    · have HRE := Lib.hid ((((((HR6.out.set 0 (.int .i64 1)).set 1 (.int .i64 0)).set 2 (.int .i64 (numOf m j))).set 3 (.string ⟨#[]⟩)).set 4 (.slice none 0 0)).alloc (.cells #[.int .i64 0, .int .i64 1, .int .i64 2, .int .i64 3, .int .i64 m, .int .i64 (m * m), .int .i64 (numOf m 6), .int .i64 9223372036854775807] 3))
      have HSE := Lib.hid ((((((HS6.out.other hsx 0 (.int .i64 1)).other hsx 1 (.int .i64 0)).other hsx 2 (.int .i64 (numOf m j))).other hsx 3 (.string ⟨#[]⟩)).other hsx 4 (.slice none 0 0)).alloc (.cells #[.int .i64 0, .int .i64 1, .int .i64 2, .int .i64 3, .int .i64 m, .int .i64 (m * m), .int .i64 (numOf m 6), .int .i64 9223372036854775807] 3))
      have HFE := Lib.hid ((((((HF6.out.setNew hge 0 (.int .i64 1)).setNew hge 1 (.int .i64 0)).setNew hge 2 (.int .i64 (numOf m j))).setNew hge 3 (.string ⟨#[]⟩)).setNew hge 4 (.slice none 0 0)).trans (SFr.alloc (.cells #[.int .i64 0, .int .i64 1, .int .i64 2, .int .i64 3, .int .i64 m, .int .i64 (m * m), .int .i64 (numOf m 6), .int .i64 9223372036854775807] 3)))
      go_wp2_with fail
      have d0 := HRE.out.at 0 _ rfl
      have d1 := HRE.out.at 1 _ rfl
      have d2 := HRE.out.at 2 _ rfl
      have d3 := HRE.out.at 3 _ rfl
      have d4 := HRE.out.at 4 _ rfl
      exact bodyPost_ret (v := .agg #[.int .i64 1, .int .i64 0, .int .i64 (numOf m j), .string ⟨#[]⟩, .slice none 0 0]) (by simp [results, Tryz.results31, go_sem, d0, d1, d2, d3, d4]) rfl ⟨.slice none 0 0, rfl, HSE.out, HFE.out, ExsAt.zero, numOf_i64 m j ⟨m0, m1⟩⟩
end Go.Proofs.YtcfpfnoldgnloaaGreatDoor
