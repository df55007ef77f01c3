/-
  scope.expr: a raw expression: a number. Conditions: the source and the scope lie in memory as the types say.
  scope.expr: a raw expression. Conditions: the source and the scope lie in memory as the types say.
  scope.call: a raw call. Conditions: the source and the scope lie in memory as the types say.
-/
import Derived.Test.YtcfpfnoldgnloaaGreatDoorPn27
import Derived.Test.YtcfpfnoldgnloaaGreatDoorPn25
import Derived.Test.YtcfpfnoldgnloaaGreatDoorPn26
import Derived.Test.YtcfpfnoldgnloaaGreatDoorPn05
set_option linter.unusedVariables false
set_option linter.unusedSimpArgs false
namespace Go.Proofs.YtcfpfnoldgnloaaGreatDoor
open Go.RowKit
set_option maxHeartbeats 4000000
set_option maxRecDepth 100000

theorem ge_num0 (d : Nat) (hd : d < 2) (hd1 : d ≤ 1000) (s : Nat) (raw : List Int) (a : Nat) (sc : Sc) (vv av fv : Value) (w : World) (hs : SrcAt w s raw a) (hsc : ScAt s w sc vv av fv) (k : Int) (hkk : gK raw d a = k) (hN : k = 0 ∨ ((k = 1 ∨ k = 2) ∧ sc.hasVars = false)) :
    Calls Tryz.prog 31 #[scV sc vv av fv, .pointer (some ⟨s, 0, none⟩), .int .i64 d] w (GivesEx w s raw (gKind sc raw (gExpr sc raw (d - 1)) k (gNext raw a 12).2)) := by
  obtain ⟨v1, v2, rfl⟩ := hsc.vars.shape
  obtain ⟨a1, a2, rfl⟩ := hsc.arrays.shape
  obtain ⟨f1, f2, rfl⟩ := hsc.funcs.shape
  have lv := hsc.v1; have la := hsc.a1; have lf := hsc.f1
  have hsl := hs.lt
  have HK : Hid (∀ w1, SrcAt w1 s raw a → Calls Tryz.prog 37 #[.pointer (some ⟨s, 0, none⟩), .int .i64 12] w1 (Takes w1 s raw (.int .i64 (gNext raw a 12).1) (gNext raw a 12).2)) := fun w1 h1 => next_any s raw a 12 w1 h1 (by decide) (by decide)
  have hr := gNext_range raw a 12 (by decide)
  unfold gK at hkk
  rw [if_pos hd] at hkk
  generalize gNext raw a 12 = g at *
  obtain ⟨g, ga⟩ := g
  obtain ⟨g0, g1⟩ := hr
  dsimp only at g0 g1 hkk HK ⊢
  have hk0 : 0 ≤ k := by omega
  have hk1 : k < 4 := by omega
  have HKK := Lib.hid hkk; clear hkk
  have hb1 : Below w.heap.size w ((w.alloc (.cells #[.slice v1 sc.vars.length v2, .slice a1 sc.arrays.length a2, .slice f1 sc.funcs.length f2, .bool sc.free, .bool sc.loop] 73)).alloc (.cells #[.int .i64 0, .int .i64 0, .int .i64 0, .string ⟨#[]⟩, .slice none 0 0] 27)) := ((Below.refl _ _).alloc (Nat.le_refl _) _).alloc (by simp) _
  have hr1 := OwnAt.new (w.alloc (.cells #[.slice v1 sc.vars.length v2, .slice a1 sc.arrays.length a2, .slice f1 sc.funcs.length f2, .bool sc.free, .bool sc.loop] 73)) [.int .i64 0, .int .i64 0, .int .i64 0, .string ⟨#[]⟩, .slice none 0 0] 27
  rw [show (w.alloc (.cells #[.slice v1 sc.vars.length v2, .slice a1 sc.arrays.length a2, .slice f1 sc.funcs.length f2, .bool sc.free, .bool sc.loop] 73)).heap.size = w.heap.size + 1 by simp] at hr1
  have HC := Lib.hid ((OwnAt.new w [.slice v1 sc.vars.length v2, .slice a1 sc.arrays.length a2, .slice f1 sc.funcs.length f2, .bool sc.free, .bool sc.loop] 73).alloc (.cells #[.int .i64 0, .int .i64 0, .int .i64 0, .string ⟨#[]⟩, .slice none 0 0] 27))
  have HR := Lib.hid hr1
  have HS1 := Lib.hid (hs.old hb1); have HF1 : Hid (SFr s w ((w.alloc (.cells #[.slice v1 sc.vars.length v2, .slice a1 sc.arrays.length a2, .slice f1 sc.funcs.length f2, .bool sc.free, .bool sc.loop] 73)).alloc (.cells #[.int .i64 0, .int .i64 0, .int .i64 0, .string ⟨#[]⟩, .slice none 0 0] 27))) := SFr.of_below hb1
  have HSC := Lib.hid hsc
  have HZ : Hid (w.heap.size + 1 ≠ s) := by show _ ≠ _; omega
  have HY : Hid (w.heap.size ≠ s) := by show _ ≠ _; omega
  have hsx : s < w.heap.size + 1 := by omega
  have hge : w.heap.size ≤ w.heap.size + 1 := by omega
  have hd0 : (0 : Int) ≤ (d : Int) := by omega
  have hdI : (d : Int) < 2 := by omega
  have hdM : (d : Int) ≤ 1000 := by omega
  have hva : Hid (sc.hasVars = (decide (0 < sc.vars.length) || sc.free)) := hasVars_eq sc
  have haa : Hid (sc.hasArrays = (decide (0 < sc.arrays.length) || sc.free)) := hasArrays_eq sc
  have hfa : Hid (sc.hasFuncs = (decide (0 < sc.funcs.length) || sc.free)) := hasFuncs_eq sc
  clear hb1 hr1 hs hsc
  have E : gKind sc raw (gExpr sc raw (d - 1)) k ga = (.mk 1 0 (numOf (gNext raw ga 1000).1 (gNext raw (gNext raw ga 1000).2 8).1) [] [], (gNext raw (gNext raw ga 1000).2 8).2) := by
    unfold gKind
    rw [if_neg (by rintro ⟨h1, h2⟩; rcases hN with h | ⟨h, h'⟩ <;> first | omega | (rw [h'] at h2; cases h2)), if_neg (by omega), if_pos (by omega)]
    rw [if_neg (show ¬ k = 3 by omega)]
  rw [E]
  clear E
  have HM : Hid (∀ w1, SrcAt w1 s raw ga → Calls Tryz.prog 37 #[.pointer (some ⟨s, 0, none⟩), .int .i64 1000] w1 (Takes w1 s raw (.int .i64 (gNext raw ga 1000).1) (gNext raw ga 1000).2)) := fun w1 h1 => next_any s raw ga 1000 w1 h1 (by decide) (by decide)
  have mr := gNext_range raw ga 1000 (by decide)
  generalize gNext raw ga 1000 = m at *
  obtain ⟨m, ma⟩ := m
  dsimp only at *
  have HJ : Hid (∀ w1, SrcAt w1 s raw ma → Calls Tryz.prog 37 #[.pointer (some ⟨s, 0, none⟩), .int .i64 8] w1 (Takes w1 s raw (.int .i64 (gNext raw ma 8).1) (gNext raw ma 8).2)) := fun w1 h1 => next_any s raw ma 8 w1 h1 (by decide) (by decide)
  have jr := gNext_range raw ma 8 (by decide)
  generalize gNext raw ma 8 = j at *
  obtain ⟨j, ja⟩ := j
  dsimp only at *
  obtain ⟨m0, m1⟩ := mr
  obtain ⟨j0, j1⟩ := jr
  have HSH := num_shift m m0
  obtain ⟨mt0, mt1⟩ := num_tmod m m0
  have HMM := num_mul m m0 m1
  have HLJ := num_at m j j0 j1
  go_enter Tryz.func31, Tryz.ntmps31
  go_wp2_with fail
  refine (HK.out _ HS1.out).mono ?_
  rintro r w2 ⟨rfl, hs2, hf2⟩
  have HS2 := Lib.hid hs2; have HF2 := Lib.hid (HF1.out.trans hf2); have HR2 := Lib.hid (HR.out.sfr hf2 HZ.out); have HC2 := Lib.hid (HC.out.sfr hf2 HY.out)
  clear hs2 hf2 HS1 HF1 HR HC HK
  have b0 := HC2.out.at 0 _ rfl
  have b1 := HC2.out.at 1 _ rfl
  have b2 := HC2.out.at 2 _ rfl
  have b3 := HC2.out.at 3 _ rfl
  have b4 := HC2.out.at 4 _ rfl
  go_upto_region 4 with (fail)
  go_cut [8] (fun q wx => q = .bool sc.hasVars ∧ w2 = wx)
  case first =>
    by_cases hlv : 0 < sc.vars.length
    · have hlv' : (0 : Int) < (sc.vars.length : Int) := by omega
      go_wp2_with fail
      go_meet
      exact ⟨by rw [hva.out, decide_eq_true hlv]; rfl, rfl⟩
    · have hlv' : (sc.vars.length : Int) ≤ 0 := by omega
      go_wp2_with fail
      go_meet
      exact ⟨by rw [hva.out, decide_eq_false hlv]; rfl, rfl⟩
  case rest =>
  obtain ⟨rfl, rfl⟩ := hcut
  go_upto_region 5 with (fail)
  go_cut [9] (fun q wx => q = .bool sc.hasArrays ∧ w2 = wx)
  case first =>
    by_cases hlv : 0 < sc.arrays.length
    · have hlv' : (0 : Int) < (sc.arrays.length : Int) := by omega
      go_wp2_with fail
      go_meet
      exact ⟨by rw [haa.out, decide_eq_true hlv]; rfl, rfl⟩
    · have hlv' : (sc.arrays.length : Int) ≤ 0 := by omega
      go_wp2_with fail
      go_meet
      exact ⟨by rw [haa.out, decide_eq_false hlv]; rfl, rfl⟩
  case rest =>
  obtain ⟨rfl, rfl⟩ := hcut
  go_upto_region 6 with (fail)
  go_cut [10] (fun q wx => q = .bool sc.hasFuncs ∧ w2 = wx)
  case first =>
    by_cases hlv : 0 < sc.funcs.length
    · have hlv' : (0 : Int) < (sc.funcs.length : Int) := by omega
      go_wp2_with fail
      go_meet
      exact ⟨by rw [hfa.out, decide_eq_true hlv]; rfl, rfl⟩
    · have hlv' : (sc.funcs.length : Int) ≤ 0 := by omega
      go_wp2_with fail
      go_meet
      exact ⟨by rw [hfa.out, decide_eq_false hlv]; rfl, rfl⟩
  case rest =>
  obtain ⟨rfl, rfl⟩ := hcut
  clear b0 b1 b2 b3 b4 hva haa hfa
  rcases hN with rfl | ⟨rfl | rfl, hV⟩
  all_goals
    rw [HKK.out]
    go_wp2_with fail
    refine (HM.out _ HS2.out).mono ?_
    rintro r w5 ⟨rfl, hs5, hf5⟩
    have HS5 := Lib.hid hs5; have HF5 := Lib.hid (HF2.out.trans hf5); have HR5 := Lib.hid (HR2.out.sfr hf5 HZ.out)
    clear hs5 hf5
    have x0 := HR5.out.at 0 _ rfl
    have x1 := HR5.out.at 1 _ rfl
    have x2 := HR5.out.at 2 _ rfl
    have x3 := HR5.out.at 3 _ rfl
    have x4 := HR5.out.at 4 _ rfl
    have fx0 := HR5.out.fz 0
    have fx1 := HR5.out.fz 1
    have fx2 := HR5.out.fz 2
    have fx3 := HR5.out.fz 3
    have fx4 := HR5.out.fz 4
    have hX5 := HR5.out.lt
    go_wp2_with fail
    have hdr : Below w5.heap.size w5 w5.drew := (Below.refl _ _).drew
    have HSd := Lib.hid (HS5.out.old hdr); have HFd := Lib.hid (HF5.out.trans (SFr.of_below hdr)); have HRd := Lib.hid (HR5.out.old hdr)
    have hs5l := HS5.out.lt
    have hs5n : w5.heap.size ≠ s := by omega
    have hj8 : j.toNat < 8 := by omega
    clear hdr x0 x1 x2 x3 x4 fx0 fx1 fx2 fx3 fx4
    go_region_with (first
      | (go_at_call 37; refine (HJ.out _ (by first | exact HSd.out | exact HSd.out.alloc _)).mono ?_; rintro r w6 ⟨he, hs6, hf6⟩; subst he; have hc : ∀ b o, b < _ → b ≠ s → w6.cell? ⟨b, o, none⟩ = _ := fun b o h hn => World.cell?_of_block (a := ⟨b, o, none⟩) (hf6.block b h hn); have HS6 := Lib.hid hs6; have HF6 : Hid (SFr s w w6) := (by first | exact HFd.out.trans hf6 | exact (HFd.out.trans (SFr.alloc _)).trans hf6); have hR6 : OwnAt w6 (w.heap.size + 1) _ _ := (by first | exact HRd.out.sfr hf6 HZ.out | exact (HRd.out.alloc _).sfr hf6 HZ.out); have HR6 := Lib.hid hR6; have x0 := hR6.at 0 _ rfl; have x1 := hR6.at 1 _ rfl; have x2 := hR6.at 2 _ rfl; have x3 := hR6.at 3 _ rfl; have x4 := hR6.at 4 _ rfl; have fx0 := hR6.fz 0; have fx1 := hR6.fz 1; have fx2 := hR6.fz 2; have fx3 := hR6.fz 3; have fx4 := hR6.fz 4; have hX6 := hR6.lt; have hz6 := hf6.size; clear hs6 hf6 hR6))
    · have HRE := Lib.hid (((((HR6.out.set 0 (.int .i64 1)).set 1 (.int .i64 0)).set 2 (.int .i64 (numOf m j))).set 3 (.string ⟨#[]⟩)).set 4 (.slice none 0 0))
      have HSE := Lib.hid (((((HS6.out.other hsx 0 (.int .i64 1)).other hsx 1 (.int .i64 0)).other hsx 2 (.int .i64 (numOf m j))).other hsx 3 (.string ⟨#[]⟩)).other hsx 4 (.slice none 0 0))
      have HFE := Lib.hid (((((HF6.out.setNew hge 0 (.int .i64 1)).setNew hge 1 (.int .i64 0)).setNew hge 2 (.int .i64 (numOf m j))).setNew hge 3 (.string ⟨#[]⟩)).setNew hge 4 (.slice none 0 0))
      go_wp2_with fail
      have d0 := HRE.out.at 0 _ rfl
      have d1 := HRE.out.at 1 _ rfl
      have d2 := HRE.out.at 2 _ rfl
      have d3 := HRE.out.at 3 _ rfl
      have d4 := HRE.out.at 4 _ rfl
      exact bodyPost_ret (v := .agg #[.int .i64 1, .int .i64 0, .int .i64 (numOf m j), .string ⟨#[]⟩, .slice none 0 0]) (by simp [results, Tryz.results31, go_sem, d0, d1, d2, d3, d4]) rfl ⟨.slice none 0 0, rfl, HSE.out, HFE.out, ExsAt.zero, numOf_i64 m j ⟨m0, m1⟩⟩
    · have HRE := Lib.hid ((((((HR6.out.set 0 (.int .i64 1)).set 1 (.int .i64 0)).set 2 (.int .i64 (numOf m j))).set 3 (.string ⟨#[]⟩)).set 4 (.slice none 0 0)).alloc (.cells #[.int .i64 0, .int .i64 1, .int .i64 2, .int .i64 3, .int .i64 m, .int .i64 (m * m), .int .i64 (numOf m 6), .int .i64 9223372036854775807] 3))
      have HSE := Lib.hid ((((((HS6.out.other hsx 0 (.int .i64 1)).other hsx 1 (.int .i64 0)).other hsx 2 (.int .i64 (numOf m j))).other hsx 3 (.string ⟨#[]⟩)).other hsx 4 (.slice none 0 0)).alloc (.cells #[.int .i64 0, .int .i64 1, .int .i64 2, .int .i64 3, .int .i64 m, .int .i64 (m * m), .int .i64 (numOf m 6), .int .i64 9223372036854775807] 3))
      have HFE := Lib.hid ((((((HF6.out.setNew hge 0 (.int .i64 1)).setNew hge 1 (.int .i64 0)).setNew hge 2 (.int .i64 (numOf m j))).setNew hge 3 (.string ⟨#[]⟩)).setNew hge 4 (.slice none 0 0)).trans (SFr.alloc (.cells #[.int .i64 0, .int .i64 1, .int .i64 2, .int .i64 3, .int .i64 m, .int .i64 (m * m), .int .i64 (numOf m 6), .int .i64 9223372036854775807] 3)))
      go_wp2_with fail
      have d0 := HRE.out.at 0 _ rfl
      have d1 := HRE.out.at 1 _ rfl
      have d2 := HRE.out.at 2 _ rfl
      have d3 := HRE.out.at 3 _ rfl
      have d4 := HRE.out.at 4 _ rfl
      exact bodyPost_ret (v := .agg #[.int .i64 1, .int .i64 0, .int .i64 (numOf m j), .string ⟨#[]⟩, .slice none 0 0]) (by simp [results, Tryz.results31, go_sem, d0, d1, d2, d3, d4]) rfl ⟨.slice none 0 0, rfl, HSE.out, HFE.out, ExsAt.zero, numOf_i64 m j ⟨m0, m1⟩⟩
end Go.Proofs.YtcfpfnoldgnloaaGreatDoor

namespace Go.Proofs.YtcfpfnoldgnloaaGreatDoor
open Go.RowKit
set_option maxHeartbeats 4000000
set_option maxRecDepth 100000

theorem expr_take (d : Nat) (hd1 : d ≤ 1000) (ih : 2 ≤ d → ExprTake (d - 1)) (ic : 2 ≤ d → CallTake d) : ExprTake d := by
  intro s raw a sc vv av fv w hs hsc
  rw [gExpr_top]
  unfold gTop
  generalize hk : gK raw d a = k
  rcases Nat.lt_or_ge d 2 with hd | hd
  · have hlow := gK_low raw d a hd
    rw [hk] at hlow
    have h0 : 0 ≤ k := by
      have := gNext_range raw a 12 (by decide)
      rw [← hk]; unfold gK; rw [if_pos hd]; omega
    have h4 : k = 0 ∨ k = 1 ∨ k = 2 ∨ k = 3 := by omega
    cases hv : sc.hasVars
    · rcases h4 with rfl | rfl | rfl | rfl
      · exact ge_num0 d hd hd1 s raw a sc vv av fv w hs hsc _ hk (.inl rfl)
      · exact ge_num0 d hd hd1 s raw a sc vv av fv w hs hsc _ hk (.inr ⟨.inl rfl, hv⟩)
      · exact ge_num0 d hd hd1 s raw a sc vv av fv w hs hsc _ hk (.inr ⟨.inr rfl, hv⟩)
      · by_cases hq : (gNext raw (gNext raw a 12).2 3).1 = 2
        · exact ge_read0 d hd hd1 s raw a sc vv av fv w hs hsc _ hk rfl hq
        · exact ge_num30 d hd hd1 s raw a sc vv av fv w hs hsc _ hk rfl hq
    · rcases h4 with rfl | rfl | rfl | rfl
      · exact ge_num0 d hd hd1 s raw a sc vv av fv w hs hsc _ hk (.inl rfl)
      · exact ge_var0 d hd hd1 s raw a sc vv av fv w hs hsc _ hk (.inl rfl) hv
      · exact ge_var0 d hd hd1 s raw a sc vv av fv w hs hsc _ hk (.inr rfl) hv
      · by_cases hq : (gNext raw (gNext raw a 12).2 3).1 = 2
        · exact ge_read0 d hd hd1 s raw a sc vv av fv w hs hsc _ hk rfl hq
        · exact ge_num30 d hd hd1 s raw a sc vv av fv w hs hsc _ hk rfl hq
  · have ih := ih hd
    have ic := ic hd
    have hr : 0 ≤ k ∧ k < 12 := by
      have := gNext_range raw a 12 (by decide)
      rw [← hk]; unfold gK; rw [if_neg (by omega)]; exact this
    have h4 : k = 0 ∨ k = 1 ∨ k = 2 ∨ k = 3 ∨ k = 4 ∨ k = 5 ∨ k = 6 ∨ 7 ≤ k := by omega
    rcases h4 with h | h | h | h | h | h | h | h
    · exact ge_num d hd hd1 s raw a sc vv av fv w hs hsc _ hk (.inl h)
    · cases hv : sc.hasVars
      · exact ge_num d hd hd1 s raw a sc vv av fv w hs hsc _ hk (.inr ⟨.inl h, hv⟩)
      · exact ge_var d hd hd1 s raw a sc vv av fv w hs hsc _ hk (.inl h) hv
    · cases hv : sc.hasVars
      · exact ge_num d hd hd1 s raw a sc vv av fv w hs hsc _ hk (.inr ⟨.inr h, hv⟩)
      · exact ge_var d hd hd1 s raw a sc vv av fv w hs hsc _ hk (.inr h) hv
    · by_cases hq : (gNext raw (gNext raw a 12).2 3).1 = 2
      · exact ge_read d hd hd1 s raw a sc vv av fv w hs hsc _ hk h hq
      · exact ge_num3 d hd hd1 s raw a sc vv av fv w hs hsc _ hk h hq
    · exact ge_one d hd hd1 s raw a sc vv av fv w hs hsc _ hk h ih
    · cases hA : sc.hasArrays
      · exact ge_two d hd hd1 s raw a sc vv av fv w hs hsc _ hk (.inr (.inl ⟨h, hA⟩)) ih
      · exact ge_index d hd hd1 s raw a sc vv av fv w hs hsc _ hk h hA ih
    · cases hA : sc.hasFuncs
      · exact ge_two d hd hd1 s raw a sc vv av fv w hs hsc _ hk (.inr (.inr ⟨h, hA⟩)) ih
      · exact ge_call d hd hd1 s raw a sc vv av fv w hs hsc _ hk h hA ic
    · exact ge_two d hd hd1 s raw a sc vv av fv w hs hsc _ hk (.inl h) ih
end Go.Proofs.YtcfpfnoldgnloaaGreatDoor

namespace Go.Proofs.YtcfpfnoldgnloaaGreatDoor
open Go.RowKit
set_option maxHeartbeats 4000000
set_option maxRecDepth 100000

theorem SrcAt.low {w w' : World} {s : Nat} {raw : List Int} {a : Nat} (h : SrcAt w s raw a) (hk : ∀ k, k ≤ s → w'.heap[k]? = w.heap[k]?) : SrcAt w' s raw a := by
  obtain ⟨u, h1, h2, h3⟩ := h
  refine ⟨u, (hk s (Nat.le_refl _)).trans h1, h2.keep (fun b off x hb hx => ?_), h3⟩
  rw [World.cell?_of_block (w := w) (hk b (Nat.le_of_lt hb))]; exact hx
theorem OwnAt.low {w w' : World} {b : Nat} {cs : List Value} {T : TypeId} (h : OwnAt w b cs T) (hk : w'.heap[b]? = w.heap[b]?) : OwnAt w' b cs T := hk.trans h
theorem SFr.grow {s : Nat} {w w1 w' : World} {row : Option Nat} (h : SFr s w w1) (hg : w1.grownBy w' row) (hr : ∀ k, row = some k → w.heap.size ≤ k) : SFr s w w' :=
  ⟨hg.os.trans h.os, hg.tape.trans h.tape, hg.output.trans h.output, Nat.le_trans h.size hg.size, fun k hk hs => (hg.block k (Nat.lt_of_lt_of_le hk h.size) (fun e => by have := hr k e.symm; omega)).trans (h.block k hk hs)⟩
theorem ExsOwn.shape {w : World} {base : Nat} {ps : List (Ex × Value)} {v : Value} (h : ExsOwn w base ps v) : ∃ a cap, v = .slice a ps.length cap := by
  rcases h.1.2 with ⟨rfl, h0⟩ | ⟨g, cap, cur, rfl, _⟩
  · exact ⟨none, 0, by rw [h0]⟩
  · exact ⟨_, _, rfl⟩
theorem ExsOwn.ge {w : World} {base : Nat} {ps : List (Ex × Value)} {v : Value} (h : ExsOwn w base ps v) {k : Nat} (hk : v.ownBlock = some k) : base ≤ k ∧ k < w.heap.size := h.1.lt k hk
/-- What holds at the head of call's loop. -/
def CallInv (w : World) (s : Nat) (raw : List Int) (g : Nat → Ex × Nat) (a0 : Nat) (scs : List Value) (nm : Value) (k : Nat) (wr : World) : Prop :=
  ∃ ps v, ps.map (·.1) = (gMany g k a0).1 ∧ SrcAt wr s raw (gMany g k a0).2 ∧ SFr s w wr ∧ OwnAt wr w.heap.size scs 73 ∧ OwnAt wr (w.heap.size + 1) [.int .i64 0, .int .i64 0, .int .i64 0, .string ⟨#[]⟩, .slice none 0 0] 27 ∧
    OwnAt wr (w.heap.size + 2) [.int .i64 5, .int .i64 0, .int .i64 0, nm, v] 27 ∧ ExsOwn wr (w.heap.size + 3) ps v
theorem news_at {w : World} {b : Nat} {cs : List Value} (h : RowAt w b 0 cs) : ∀ j u, cs[j]? = some u → w.cell? ((⟨b, 0, none⟩ : Addr).add j) = some u := by
  intro j u hu
  have h2 : (⟨b, 0, none⟩ : Addr).add j = ⟨b, j, none⟩ := by unfold Addr.add; split <;> simp_all
  rw [h2]; exact h.at j u hu
theorem ex_one (x : Ex) (a : Option Addr) (n c : Nat) : ∀ u, u ∈ exCells x (.slice a n c) → u.oneCell' = true := by
  intro u hu
  simp only [exCells, List.mem_cons, List.not_mem_nil, or_false] at hu
  rcases hu with rfl | rfl | rfl | rfl | rfl <;> rfl
theorem gMany_succ (g : Nat → Ex × Nat) (k a : Nat) : gMany g (k + 1) a = ((gMany g k a).1 ++ [(g (gMany g k a).2).1], (g (gMany g k a).2).2) := rfl

theorem call_raw (d : Nat) (hd : 2 ≤ d) (hd1 : d ≤ 1000) (ih : ExprTake (d - 1)) (s : Nat) (raw : List Int) (a : Nat) (sc : Sc) (vv av fv : Value) (w : World) (hs : SrcAt w s raw a) (hsc : ScAt s w sc vv av fv) (h : (sc.free || sc.funcs.isEmpty) = true) :
    Calls Tryz.prog 70 #[scV sc vv av fv, .pointer (some ⟨s, 0, none⟩), .int .i64 d] w (GivesEx w s raw (gCall sc raw (gExpr sc raw (d - 1)) a)) := by
  obtain ⟨v1, v2, rfl⟩ := hsc.vars.shape
  obtain ⟨a1, a2, rfl⟩ := hsc.arrays.shape
  obtain ⟨f1, f2, rfl⟩ := hsc.funcs.shape
  have lf := hsc.f1
  have hsl := hs.lt
  have hb1 : Below w.heap.size w (((w.alloc (.cells #[.slice v1 sc.vars.length v2, .slice a1 sc.arrays.length a2, .slice f1 sc.funcs.length f2, .bool sc.free, .bool sc.loop] 73)).alloc (.cells #[.int .i64 0, .int .i64 0, .int .i64 0, .string ⟨#[]⟩, .slice none 0 0] 27)).alloc (.cells #[.int .i64 5, .int .i64 0, .int .i64 0, .string ⟨#[]⟩, .slice none 0 0] 27)) := (((Below.refl _ _).alloc (Nat.le_refl _) _).alloc (by simp) _).alloc (by simp; omega) _
  have hc1 : OwnAt (((w.alloc (.cells #[.slice v1 sc.vars.length v2, .slice a1 sc.arrays.length a2, .slice f1 sc.funcs.length f2, .bool sc.free, .bool sc.loop] 73)).alloc (.cells #[.int .i64 0, .int .i64 0, .int .i64 0, .string ⟨#[]⟩, .slice none 0 0] 27)).alloc (.cells #[.int .i64 5, .int .i64 0, .int .i64 0, .string ⟨#[]⟩, .slice none 0 0] 27)) w.heap.size [.slice v1 sc.vars.length v2, .slice a1 sc.arrays.length a2, .slice f1 sc.funcs.length f2, .bool sc.free, .bool sc.loop] 73 := ((OwnAt.new w _ _).alloc _).alloc _
  have hr1 := OwnAt.new (w.alloc (.cells #[.slice v1 sc.vars.length v2, .slice a1 sc.arrays.length a2, .slice f1 sc.funcs.length f2, .bool sc.free, .bool sc.loop] 73)) [.int .i64 0, .int .i64 0, .int .i64 0, .string ⟨#[]⟩, .slice none 0 0] 27
  rw [show (w.alloc (.cells #[.slice v1 sc.vars.length v2, .slice a1 sc.arrays.length a2, .slice f1 sc.funcs.length f2, .bool sc.free, .bool sc.loop] 73)).heap.size = w.heap.size + 1 by simp] at hr1
  have hr1 : OwnAt (((w.alloc (.cells #[.slice v1 sc.vars.length v2, .slice a1 sc.arrays.length a2, .slice f1 sc.funcs.length f2, .bool sc.free, .bool sc.loop] 73)).alloc (.cells #[.int .i64 0, .int .i64 0, .int .i64 0, .string ⟨#[]⟩, .slice none 0 0] 27)).alloc (.cells #[.int .i64 5, .int .i64 0, .int .i64 0, .string ⟨#[]⟩, .slice none 0 0] 27)) (w.heap.size + 1) [.int .i64 0, .int .i64 0, .int .i64 0, .string ⟨#[]⟩, .slice none 0 0] 27 := OwnAt.alloc hr1 _
  have he1 := OwnAt.new ((w.alloc (.cells #[.slice v1 sc.vars.length v2, .slice a1 sc.arrays.length a2, .slice f1 sc.funcs.length f2, .bool sc.free, .bool sc.loop] 73)).alloc (.cells #[.int .i64 0, .int .i64 0, .int .i64 0, .string ⟨#[]⟩, .slice none 0 0] 27)) [.int .i64 5, .int .i64 0, .int .i64 0, .string ⟨#[]⟩, .slice none 0 0] 27
  rw [show ((w.alloc (.cells #[.slice v1 sc.vars.length v2, .slice a1 sc.arrays.length a2, .slice f1 sc.funcs.length f2, .bool sc.free, .bool sc.loop] 73)).alloc (.cells #[.int .i64 0, .int .i64 0, .int .i64 0, .string ⟨#[]⟩, .slice none 0 0] 27)).heap.size = w.heap.size + 2 by simp] at he1
  have he1 : OwnAt (((w.alloc (.cells #[.slice v1 sc.vars.length v2, .slice a1 sc.arrays.length a2, .slice f1 sc.funcs.length f2, .bool sc.free, .bool sc.loop] 73)).alloc (.cells #[.int .i64 0, .int .i64 0, .int .i64 0, .string ⟨#[]⟩, .slice none 0 0] 27)).alloc (.cells #[.int .i64 5, .int .i64 0, .int .i64 0, .string ⟨#[]⟩, .slice none 0 0] 27)) (w.heap.size + 2) [.int .i64 5, .int .i64 0, .int .i64 0, .string ⟨#[]⟩, .slice none 0 0] 27 := he1
  have HC1 := Lib.hid hc1; have HR1 := Lib.hid hr1; have HE1 := Lib.hid he1
  have HS1 := Lib.hid (hs.old hb1); have HF1 : Hid (SFr s w (((w.alloc (.cells #[.slice v1 sc.vars.length v2, .slice a1 sc.arrays.length a2, .slice f1 sc.funcs.length f2, .bool sc.free, .bool sc.loop] 73)).alloc (.cells #[.int .i64 0, .int .i64 0, .int .i64 0, .string ⟨#[]⟩, .slice none 0 0] 27)).alloc (.cells #[.int .i64 5, .int .i64 0, .int .i64 0, .string ⟨#[]⟩, .slice none 0 0] 27))) := SFr.of_below hb1
  have HSC := Lib.hid hsc
  have HDM : Hid (((d - 1 : Nat) : Int) = (d : Int) - 1) := by show _ = _; omega
  have HIH : Hid (∀ w1 b, SrcAt w1 s raw b → ScAt s w1 sc (.slice v1 sc.vars.length v2) (.slice a1 sc.arrays.length a2) (.slice f1 sc.funcs.length f2) → Calls Tryz.prog 31 #[scV sc (.slice v1 sc.vars.length v2) (.slice a1 sc.arrays.length a2) (.slice f1 sc.funcs.length f2), .pointer (some ⟨s, 0, none⟩), .int .i64 ((d : Int) - 1)] w1 (GivesEx w1 s raw (gExpr sc raw (d - 1) b))) := fun w1 b h1 h2 => by have q := ih s raw b sc _ _ _ w1 h1 h2; rw [HDM.out] at q; exact q
  have HZ : Hid (w.heap.size + 1 ≠ s) := by show _ ≠ _; omega
  have HY : Hid (w.heap.size ≠ s) := by show _ ≠ _; omega
  have HX : Hid (w.heap.size + 2 ≠ s) := by show _ ≠ _; omega
  have hd0 : (2 : Int) ≤ (d : Int) := by omega
  have hdM : (d : Int) ≤ 1000 := by omega
  clear hb1 hc1 hr1 he1 hs ih
  have E : gCall sc raw (gExpr sc raw (d - 1)) a = (.mk 5 0 0 (varOf (gNext raw a 312).1) (gMany (gExpr sc raw (d - 1)) (gNext raw (gNext raw a 312).2 7).1.toNat (gNext raw (gNext raw a 312).2 7).2).1, (gMany (gExpr sc raw (d - 1)) (gNext raw (gNext raw a 312).2 7).1.toNat (gNext raw (gNext raw a 312).2 7).2).2) := by unfold gCall; rw [if_pos h]
  rw [E]
  clear E
  have HN : Hid (∀ w1, SrcAt w1 s raw a → Calls Tryz.prog 37 #[.pointer (some ⟨s, 0, none⟩), .int .i64 312] w1 (Takes w1 s raw (.int .i64 (gNext raw a 312).1) (gNext raw a 312).2)) := fun w1 h1 => next_any s raw a 312 w1 h1 (by decide) (by decide)
  have HV : Hid (∀ w, Calls Tryz.prog 83 #[.int .i64 (gNext raw a 312).1] w fun e w' => e = .returned (.string (strOf (varOf (gNext raw a 312).1))) ∧ Below w.heap.size w w') := fun w => var_any _ (gNext_i64 raw a 312 (by decide) (by decide)) w
  have HM : Hid (∀ w1, SrcAt w1 s raw (gNext raw a 312).2 → Calls Tryz.prog 37 #[.pointer (some ⟨s, 0, none⟩), .int .i64 7] w1 (Takes w1 s raw (.int .i64 (gNext raw (gNext raw a 312).2 7).1) (gNext raw (gNext raw a 312).2 7).2)) := fun w1 h1 => next_any s raw _ 7 w1 h1 (by decide) (by decide)
  have hr := gNext_range raw (gNext raw a 312).2 7 (by decide)
  have hcase : (sc.free = false ∧ sc.funcs.length = 0) ∨ sc.free = true := by
    revert h; cases sc.free
    · intro h; exact .inl ⟨rfl, by simpa using h⟩
    · intro _; exact .inr rfl
  clear h
  unfold scV at HIH ⊢
  generalize sc.free = fb at *
  generalize sc.funcs.length = fn at *
  generalize gNext raw (gNext raw a 312).2 7 = q at *
  generalize gNext raw a 312 = g at *
  obtain ⟨c, a0⟩ := q
  obtain ⟨c0, c1⟩ := hr
  dsimp only at *
  obtain ⟨c, rfl⟩ := Int.eq_ofNat_of_zero_le c0
  rw [Int.toNat_natCast]
  have hc6 : c ≤ 1000000 := by omega
  generalize varOf g.1 = nm at *
  have b0 := HC1.out.at 0 _ rfl
  have b1 := HC1.out.at 1 _ rfl
  have b2 := HC1.out.at 2 _ rfl
  have b3 := HC1.out.at 3 _ rfl
  have b4 := HC1.out.at 4 _ rfl
  rcases hcase with ⟨rfl, rfl⟩ | rfl
  · go_enter Tryz.func70, Tryz.ntmps70
    go_wp2_with fail
    refine (HN.out _ HS1.out).mono ?_
    rintro r w2 ⟨rfl, hs2, hf2⟩
    have HS2 := Lib.hid hs2; have HF2 := Lib.hid (HF1.out.trans hf2); have HR2 := Lib.hid (HR1.out.sfr hf2 HZ.out); have HC2 := Lib.hid (HC1.out.sfr hf2 HY.out); have HE2 := Lib.hid (HE1.out.sfr hf2 HX.out)
    clear hs2 hf2
    go_wp2_with fail
    refine (HV.out _).mono ?_
    rintro r w3 ⟨rfl, hb3⟩
    have HS3 := Lib.hid (HS2.out.old hb3); have HF3 := Lib.hid (HF2.out.trans (SFr.of_below hb3)); have HR3 := Lib.hid (HR2.out.old hb3); have HC3 := Lib.hid (HC2.out.old hb3); have HE3 := Lib.hid (HE2.out.old hb3)
    clear hb3
    have e0 := HE3.out.at 0 _ rfl
    have e1 := HE3.out.at 1 _ rfl
    have e2 := HE3.out.at 2 _ rfl
    have e3 := HE3.out.at 3 _ rfl
    have e4 := HE3.out.at 4 _ rfl
    have fe3 := HE3.out.fz 3
    have hsx : s < w.heap.size + 2 := by omega
    have hge : w.heap.size ≤ w.heap.size + 2 := by omega
    have HS4 := Lib.hid (HS3.out.other hsx 3 (.string (strOf nm))); have HF4 := Lib.hid (HF3.out.setNew hge 3 (.string (strOf nm))); have HE4 := Lib.hid (HE3.out.set 3 (.string (strOf nm)))
    have HR4 := Lib.hid (HR3.out.other (show w.heap.size + 1 ≠ w.heap.size + 2 by omega) 3 (.string (strOf nm))); have HC4 := Lib.hid (HC3.out.other (show w.heap.size ≠ w.heap.size + 2 by omega) 3 (.string (strOf nm)))
    go_wp2_with fail
    generalize w3.setCell ⟨w.heap.size + 2, 3, none⟩ (.string (strOf nm)) = w4 at *
    clear e0 e1 e2 e3 e4 fe3 b0 b1 b2 b3 b4
    refine (HM.out _ HS4.out).mono ?_
    rintro r w5 ⟨rfl, hs5, hf5⟩
    have HS5 := Lib.hid hs5; have HF5 := Lib.hid (HF4.out.trans hf5); have HR5 := Lib.hid (HR4.out.sfr hf5 HZ.out); have HC5 := Lib.hid (HC4.out.sfr hf5 HY.out); have HE5 := Lib.hid (HE4.out.sfr hf5 HX.out)
    clear hs5 hf5
    go_wp2_with fail
    go_loopw [10] (fun q wr => ∃ k : Nat, k ≤ c ∧ q = .int .i64 k ∧ CallInv w s raw (gExpr sc raw (d - 1)) a0 [.slice v1 sc.vars.length v2, .slice a1 sc.arrays.length a2, .slice f1 0 f2, .bool false, .bool sc.loop] (.string (strOf nm)) k wr) (fun q _ => c - (intOf q).toNat)
    case atStart => exact ⟨0, Nat.zero_le _, rfl, [], _, rfl, HS5.out, HF5.out, HC5.out, HR5.out, HE5.out, ExsOwn.zero _ _⟩
    case round =>
      obtain ⟨k, hk, rfl, hinv⟩ := hrel
      obtain ⟨ps, v, hps, hsr, hfr, hC, hR, hE, hO⟩ := hinv
      obtain ⟨va, vc, rfl⟩ := hO.shape
      have HPS := Lib.hid hps; have HSK := Lib.hid hsr; have HFK := Lib.hid hfr; have HCK := Lib.hid hC; have HRK := Lib.hid hR; have HEK := Lib.hid hE; have HOK := Lib.hid hO
      clear hps hsr hfr hC hR hE hO
      have b0 := HCK.out.at 0 _ rfl
      have b1 := HCK.out.at 1 _ rfl
      have b2 := HCK.out.at 2 _ rfl
      have b3 := HCK.out.at 3 _ rfl
      have b4 := HCK.out.at 4 _ rfl
      have e0 := HEK.out.at 0 _ rfl
      have e1 := HEK.out.at 1 _ rfl
      have e2 := HEK.out.at 2 _ rfl
      have e3 := HEK.out.at 3 _ rfl
      have e4 := HEK.out.at 4 _ rfl
      have fe4 := HEK.out.fz 4
      have hE2 := HEK.out.lt
      by_cases hlt : k < c
      · have hlen : Hid (ps.length ≤ 1000000) := by show _ ≤ _; have h1 := congrArg List.length HPS.out; rw [List.length_map, gMany_len] at h1; omega
        have hnx : gMany (gExpr sc raw (d - 1)) (k + 1) a0 = ((gMany (gExpr sc raw (d - 1)) k a0).1 ++ [(gExpr sc raw (d - 1) (gMany (gExpr sc raw (d - 1)) k a0).2).1], (gExpr sc raw (d - 1) (gMany (gExpr sc raw (d - 1)) k a0).2).2) := rfl
        have HNX := Lib.hid hnx
        clear hnx
        have HCL := Lib.hid (fun w1 h1 h2 => HIH.out w1 (gMany (gExpr sc raw (d - 1)) k a0).2 h1 h2)
        generalize gExpr sc raw (d - 1) (gMany (gExpr sc raw (d - 1)) k a0).2 = x at *
        obtain ⟨x, xa⟩ := x
        generalize gMany (gExpr sc raw (d - 1)) k a0 = mk at HPS HSK HNX HCL
        obtain ⟨lk, bk⟩ := mk
        dsimp only at HPS HSK HNX HCL
        have hdr : Below wr.heap.size wr wr.drew := (Below.refl _ _).drew
        have HSd := Lib.hid (HSK.out.old hdr); have HFd := Lib.hid (HFK.out.trans (SFr.of_below hdr))
        have HCd := Lib.hid (HCK.out.old hdr); have HRd := Lib.hid (HRK.out.old hdr); have HEd := Lib.hid (HEK.out.old hdr)
        have HOd := Lib.hid (HOK.out.keep (w' := wr.drew) (fun _ _ _ => rfl))
        clear hdr
        obtain ⟨i0, hi0, hz0, hz1, hz2⟩ := info_parts infoEx
        have hE3 : w.heap.size + 3 ≤ wr.heap.size := by omega
        have hwd : IntKind.i64.wrap ((d : Int) - 1) = (d : Int) - 1 := IntWalk.i64_in _ (by omega)
        go_wp2_with fail
        go_region_law (first
          | ((try go_simp); go_at_call 31; refine (HCL.out _ HSd.out (HSC.out.sfr HFd.out)).mono ?_; rintro r w6 ⟨xv, he, hs6, hf6, hx6, hn6⟩; obtain ⟨xs, xc, hxv⟩ := hx6.shape; subst hxv; subst he; have hc : ∀ b o, b < _ → b ≠ s → w6.cell? ⟨b, o, none⟩ = _ := fun b o h hn => World.cell?_of_block (a := ⟨b, o, none⟩) (hf6.block b h hn); have HS6 := Lib.hid hs6; have HF6 := Lib.hid (HFd.out.trans hf6); have HC6 := Lib.hid (HCd.out.sfr hf6 HY.out); have HR6 := Lib.hid (HRd.out.sfr hf6 HZ.out); have HE6 := Lib.hid (HEd.out.sfr hf6 HX.out); have HO6 := Lib.hid (HOd.out.keep (w' := w6) (fun k h1 h2 => hf6.block k h1 (by omega))); have Hx6 := Lib.hid hx6; have Hn6 := Lib.hid hn6; have hz6 := hf6.size; have u4 := HE6.out.at 4 _ rfl; have hX6 := HE6.out.lt; clear hs6 hf6 hx6 hn6; have hw7 : Below w6.heap.size w6 (w6.alloc (.cells #[.int .i64 x.kind, .int .i64 x.op, .int .i64 x.n, .string (strOf x.name), .slice xs x.args.length xc] 27)) := (Below.refl _ _).alloc (Nat.le_refl _) _; have HS7 := Lib.hid (HS6.out.old hw7); have HF7 := Lib.hid (HF6.out.trans (SFr.of_below hw7)); have HC7 := Lib.hid (HC6.out.old hw7); have HR7 := Lib.hid (HR6.out.old hw7); have HE7 := Lib.hid (HE6.out.old hw7); have HO7 := Lib.hid (HO6.out.keep (w' := (w6.alloc (.cells #[.int .i64 x.kind, .int .i64 x.op, .int .i64 x.n, .string (strOf x.name), .slice xs x.args.length xc] 27))) (fun k h1 h2 => hw7.block k h1)); have HN7 := Lib.hid (RowAt.new w6 (exCells x (.slice xs x.args.length xc)) 27); have Hx7 : Hid (ExsAt (fun b => w.heap.size + 3 ≤ b ∧ (Value.slice va ps.length vc).ownBlock ≠ some b) (w6.alloc (.cells #[.int .i64 x.kind, .int .i64 x.op, .int .i64 x.n, .string (strOf x.name), .slice xs x.args.length xc] 27)) x.args (.slice xs x.args.length xc)) := ((Hx6.out.old hw7).mono (fun b hb => ⟨Nat.le_trans hE3 hb, fun e => by have h1 := (HOK.out.ge e).2; have h2 : wr.heap.size ≤ b := hb; omega⟩)); clear hw7)
          | (refine step_append_lies (P := Tryz.prog) _ rfl _ _ 25 rfl (w.heap.size + 3) 27 i0 _ 5 64 Tryz.underlying25 hi0 hz0 hz1 hz2 rfl (by decide) (.slice va ps.length vc) ps.length (exFlat ps) rfl HO7.out.1 ⟨w6.heap.size, 0, none⟩ 1 1 (exCells x (.slice xs x.args.length xc)) rfl rfl (news_at HN7.out) (ex_one x _ _ _) (by decide) (by have := hlen.out; unfold maxLen; omega) (by have := hlen.out; omega) (by have := HE7.out.lt; omega) _ rfl ?_; intro g cap w8 hown hgrow hat hlt8; have hge8 : ∀ k, (Value.slice va ps.length vc).ownBlock = some k → w.heap.size + 3 ≤ k := fun k e => (HO7.out.ge e).1; have HS8 := Lib.hid (HS7.out.low (w' := w8) (fun k hk => hgrow.block k (Nat.lt_of_le_of_lt hk HS7.out.lt) (fun e => by have := hge8 k e.symm; omega))); have HF8 := Lib.hid (HF7.out.grow hgrow (fun k e => by have := hge8 k e; omega)); have HC8 := Lib.hid (HC7.out.low (hgrow.block _ HC7.out.lt (fun e => by have := hge8 _ e.symm; omega))); have HR8 := Lib.hid (HR7.out.low (hgrow.block _ HR7.out.lt (fun e => by have := hge8 _ e.symm; omega))); have hE8 := HE7.out.low (hgrow.block _ HE7.out.lt (fun e => by have := hge8 _ e.symm; omega)); have HE8 := Lib.hid hE8; have HO8 := Lib.hid (HO7.out.snoc x _ Hx7.out Hn6.out hown hgrow hat); have y4 := hE8.at 4 _ rfl; have fy4 := hE8.fz 4; have hX8 := hE8.lt; clear hown hgrow hat hE8))
        all_goals
          have HE9 := Lib.hid (HE8.out.set 4 (.slice (some ⟨g, 0, none⟩) (ps.length + 1) cap))
          have HS9 := Lib.hid (HS8.out.other hsx 4 (.slice (some ⟨g, 0, none⟩) (ps.length + 1) cap)); have HF9 := Lib.hid (HF8.out.setNew hge 4 (.slice (some ⟨g, 0, none⟩) (ps.length + 1) cap))
          have HR9 := Lib.hid (HR8.out.other (show w.heap.size + 1 ≠ w.heap.size + 2 by omega) 4 (.slice (some ⟨g, 0, none⟩) (ps.length + 1) cap)); have HC9 := Lib.hid (HC8.out.other (show w.heap.size ≠ w.heap.size + 2 by omega) 4 (.slice (some ⟨g, 0, none⟩) (ps.length + 1) cap))
          have HO9 := Lib.hid (HO8.out.keep (w' := w8.setCell ⟨w.heap.size + 2, 4, none⟩ (.slice (some ⟨g, 0, none⟩) (ps.length + 1) cap)) (fun k h1 h2 => Below.heap_setCell _ _ _ _ (by show k ≠ w.heap.size + 2; omega)))
          go_wp2_with fail
          go_roundw
          case rel => exact ⟨k + 1, by omega, by go_num, ⟨ps ++ [(x, .slice xs x.args.length xc)], _, by rw [HNX.out, List.map_append, HPS.out]; rfl, by rw [HNX.out]; exact HS9.out, HF9.out, HC9.out, HR9.out, HE9.out, HO9.out⟩⟩
          case measure => simp [intOf]; omega
      · obtain rfl : k = c := by omega
        have x0 := HRK.out.at 0 _ rfl
        have x1 := HRK.out.at 1 _ rfl
        have x2 := HRK.out.at 2 _ rfl
        have x3 := HRK.out.at 3 _ rfl
        have x4 := HRK.out.at 4 _ rfl
        have fx0 := HRK.out.fz 0
        have fx1 := HRK.out.fz 1
        have fx2 := HRK.out.fz 2
        have fx3 := HRK.out.fz 3
        have fx4 := HRK.out.fz 4
        have hsx1 : s < w.heap.size + 1 := by omega
        have hge1 : w.heap.size ≤ w.heap.size + 1 := by omega
        have hlen : Hid (Fits ps.length) := by show _ ≤ _; have h1 := congrArg List.length HPS.out; rw [List.length_map, gMany_len] at h1; omega
        have HX9 := Lib.hid (HOK.out.exs hlen.out)
        rw [HPS.out] at HX9
        have hB : w.heap.size + 1 < w.heap.size + 3 := by omega
        have HRE := Lib.hid (((((HRK.out.set 0 (.int .i64 5)).set 1 (.int .i64 0)).set 2 (.int .i64 0)).set 3 (.string (strOf nm))).set 4 (.slice va ps.length vc))
        have HSE := Lib.hid (((((HSK.out.other hsx1 0 (.int .i64 5)).other hsx1 1 (.int .i64 0)).other hsx1 2 (.int .i64 0)).other hsx1 3 (.string (strOf nm))).other hsx1 4 (.slice va ps.length vc))
        have HFE := Lib.hid (((((HFK.out.setNew hge1 0 (.int .i64 5)).setNew hge1 1 (.int .i64 0)).setNew hge1 2 (.int .i64 0)).setNew hge1 3 (.string (strOf nm))).setNew hge1 4 (.slice va ps.length vc))
        go_wp2_with fail
        have d0 := HRE.out.at 0 _ rfl
        have d1 := HRE.out.at 1 _ rfl
        have d2 := HRE.out.at 2 _ rfl
        have d3 := HRE.out.at 3 _ rfl
        have d4 := HRE.out.at 4 _ rfl
        exact bodyPost_ret (v := .agg #[.int .i64 5, .int .i64 0, .int .i64 0, (.string (strOf nm)), .slice va ps.length vc]) (by simp [results, Tryz.results70, go_sem, d0, d1, d2, d3, d4]) rfl ⟨.slice va ps.length vc, rfl, HSE.out, HFE.out, ((((((HX9.out.keep (set_fresh _ hB 0 _)).keep (set_fresh _ hB 1 _)).keep (set_fresh _ hB 2 _)).keep (set_fresh _ hB 3 _)).keep (set_fresh _ hB 4 _)).mono (fun b h => (Nat.le_trans (by omega) h : w.heap.size ≤ b))), (i64_small ⟨by show _ ≤ (0 : Int); decide, by show (0 : Int) ≤ _; decide⟩)⟩
  · go_enter Tryz.func70, Tryz.ntmps70
    go_wp2_with fail
    refine (HN.out _ HS1.out).mono ?_
    rintro r w2 ⟨rfl, hs2, hf2⟩
    have HS2 := Lib.hid hs2; have HF2 := Lib.hid (HF1.out.trans hf2); have HR2 := Lib.hid (HR1.out.sfr hf2 HZ.out); have HC2 := Lib.hid (HC1.out.sfr hf2 HY.out); have HE2 := Lib.hid (HE1.out.sfr hf2 HX.out)
    clear hs2 hf2
    go_wp2_with fail
    refine (HV.out _).mono ?_
    rintro r w3 ⟨rfl, hb3⟩
    have HS3 := Lib.hid (HS2.out.old hb3); have HF3 := Lib.hid (HF2.out.trans (SFr.of_below hb3)); have HR3 := Lib.hid (HR2.out.old hb3); have HC3 := Lib.hid (HC2.out.old hb3); have HE3 := Lib.hid (HE2.out.old hb3)
    clear hb3
    have e0 := HE3.out.at 0 _ rfl
    have e1 := HE3.out.at 1 _ rfl
    have e2 := HE3.out.at 2 _ rfl
    have e3 := HE3.out.at 3 _ rfl
    have e4 := HE3.out.at 4 _ rfl
    have fe3 := HE3.out.fz 3
    have hsx : s < w.heap.size + 2 := by omega
    have hge : w.heap.size ≤ w.heap.size + 2 := by omega
    have HS4 := Lib.hid (HS3.out.other hsx 3 (.string (strOf nm))); have HF4 := Lib.hid (HF3.out.setNew hge 3 (.string (strOf nm))); have HE4 := Lib.hid (HE3.out.set 3 (.string (strOf nm)))
    have HR4 := Lib.hid (HR3.out.other (show w.heap.size + 1 ≠ w.heap.size + 2 by omega) 3 (.string (strOf nm))); have HC4 := Lib.hid (HC3.out.other (show w.heap.size ≠ w.heap.size + 2 by omega) 3 (.string (strOf nm)))
    go_wp2_with fail
    generalize w3.setCell ⟨w.heap.size + 2, 3, none⟩ (.string (strOf nm)) = w4 at *
    clear e0 e1 e2 e3 e4 fe3 b0 b1 b2 b3 b4
    refine (HM.out _ HS4.out).mono ?_
    rintro r w5 ⟨rfl, hs5, hf5⟩
    have HS5 := Lib.hid hs5; have HF5 := Lib.hid (HF4.out.trans hf5); have HR5 := Lib.hid (HR4.out.sfr hf5 HZ.out); have HC5 := Lib.hid (HC4.out.sfr hf5 HY.out); have HE5 := Lib.hid (HE4.out.sfr hf5 HX.out)
    clear hs5 hf5
    go_wp2_with fail
    go_loopw [10] (fun q wr => ∃ k : Nat, k ≤ c ∧ q = .int .i64 k ∧ CallInv w s raw (gExpr sc raw (d - 1)) a0 [.slice v1 sc.vars.length v2, .slice a1 sc.arrays.length a2, .slice f1 fn f2, .bool true, .bool sc.loop] (.string (strOf nm)) k wr) (fun q _ => c - (intOf q).toNat)
    case atStart => exact ⟨0, Nat.zero_le _, rfl, [], _, rfl, HS5.out, HF5.out, HC5.out, HR5.out, HE5.out, ExsOwn.zero _ _⟩
    case round =>
      obtain ⟨k, hk, rfl, hinv⟩ := hrel
      obtain ⟨ps, v, hps, hsr, hfr, hC, hR, hE, hO⟩ := hinv
      obtain ⟨va, vc, rfl⟩ := hO.shape
      have HPS := Lib.hid hps; have HSK := Lib.hid hsr; have HFK := Lib.hid hfr; have HCK := Lib.hid hC; have HRK := Lib.hid hR; have HEK := Lib.hid hE; have HOK := Lib.hid hO
      clear hps hsr hfr hC hR hE hO
      have b0 := HCK.out.at 0 _ rfl
      have b1 := HCK.out.at 1 _ rfl
      have b2 := HCK.out.at 2 _ rfl
      have b3 := HCK.out.at 3 _ rfl
      have b4 := HCK.out.at 4 _ rfl
      have e0 := HEK.out.at 0 _ rfl
      have e1 := HEK.out.at 1 _ rfl
      have e2 := HEK.out.at 2 _ rfl
      have e3 := HEK.out.at 3 _ rfl
      have e4 := HEK.out.at 4 _ rfl
      have fe4 := HEK.out.fz 4
      have hE2 := HEK.out.lt
      by_cases hlt : k < c
      · have hlen : Hid (ps.length ≤ 1000000) := by show _ ≤ _; have h1 := congrArg List.length HPS.out; rw [List.length_map, gMany_len] at h1; omega
        have hnx : gMany (gExpr sc raw (d - 1)) (k + 1) a0 = ((gMany (gExpr sc raw (d - 1)) k a0).1 ++ [(gExpr sc raw (d - 1) (gMany (gExpr sc raw (d - 1)) k a0).2).1], (gExpr sc raw (d - 1) (gMany (gExpr sc raw (d - 1)) k a0).2).2) := rfl
        have HNX := Lib.hid hnx
        clear hnx
        have HCL := Lib.hid (fun w1 h1 h2 => HIH.out w1 (gMany (gExpr sc raw (d - 1)) k a0).2 h1 h2)
        generalize gExpr sc raw (d - 1) (gMany (gExpr sc raw (d - 1)) k a0).2 = x at *
        obtain ⟨x, xa⟩ := x
        generalize gMany (gExpr sc raw (d - 1)) k a0 = mk at HPS HSK HNX HCL
        obtain ⟨lk, bk⟩ := mk
        dsimp only at HPS HSK HNX HCL
        have hdr : Below wr.heap.size wr wr.drew := (Below.refl _ _).drew
        have HSd := Lib.hid (HSK.out.old hdr); have HFd := Lib.hid (HFK.out.trans (SFr.of_below hdr))
        have HCd := Lib.hid (HCK.out.old hdr); have HRd := Lib.hid (HRK.out.old hdr); have HEd := Lib.hid (HEK.out.old hdr)
        have HOd := Lib.hid (HOK.out.keep (w' := wr.drew) (fun _ _ _ => rfl))
        clear hdr
        obtain ⟨i0, hi0, hz0, hz1, hz2⟩ := info_parts infoEx
        have hE3 : w.heap.size + 3 ≤ wr.heap.size := by omega
        have hwd : IntKind.i64.wrap ((d : Int) - 1) = (d : Int) - 1 := IntWalk.i64_in _ (by omega)
        go_wp2_with fail
        go_region_law (first
          | ((try go_simp); go_at_call 31; refine (HCL.out _ HSd.out (HSC.out.sfr HFd.out)).mono ?_; rintro r w6 ⟨xv, he, hs6, hf6, hx6, hn6⟩; obtain ⟨xs, xc, hxv⟩ := hx6.shape; subst hxv; subst he; have hc : ∀ b o, b < _ → b ≠ s → w6.cell? ⟨b, o, none⟩ = _ := fun b o h hn => World.cell?_of_block (a := ⟨b, o, none⟩) (hf6.block b h hn); have HS6 := Lib.hid hs6; have HF6 := Lib.hid (HFd.out.trans hf6); have HC6 := Lib.hid (HCd.out.sfr hf6 HY.out); have HR6 := Lib.hid (HRd.out.sfr hf6 HZ.out); have HE6 := Lib.hid (HEd.out.sfr hf6 HX.out); have HO6 := Lib.hid (HOd.out.keep (w' := w6) (fun k h1 h2 => hf6.block k h1 (by omega))); have Hx6 := Lib.hid hx6; have Hn6 := Lib.hid hn6; have hz6 := hf6.size; have u4 := HE6.out.at 4 _ rfl; have hX6 := HE6.out.lt; clear hs6 hf6 hx6 hn6; have hw7 : Below w6.heap.size w6 (w6.alloc (.cells #[.int .i64 x.kind, .int .i64 x.op, .int .i64 x.n, .string (strOf x.name), .slice xs x.args.length xc] 27)) := (Below.refl _ _).alloc (Nat.le_refl _) _; have HS7 := Lib.hid (HS6.out.old hw7); have HF7 := Lib.hid (HF6.out.trans (SFr.of_below hw7)); have HC7 := Lib.hid (HC6.out.old hw7); have HR7 := Lib.hid (HR6.out.old hw7); have HE7 := Lib.hid (HE6.out.old hw7); have HO7 := Lib.hid (HO6.out.keep (w' := (w6.alloc (.cells #[.int .i64 x.kind, .int .i64 x.op, .int .i64 x.n, .string (strOf x.name), .slice xs x.args.length xc] 27))) (fun k h1 h2 => hw7.block k h1)); have HN7 := Lib.hid (RowAt.new w6 (exCells x (.slice xs x.args.length xc)) 27); have Hx7 : Hid (ExsAt (fun b => w.heap.size + 3 ≤ b ∧ (Value.slice va ps.length vc).ownBlock ≠ some b) (w6.alloc (.cells #[.int .i64 x.kind, .int .i64 x.op, .int .i64 x.n, .string (strOf x.name), .slice xs x.args.length xc] 27)) x.args (.slice xs x.args.length xc)) := ((Hx6.out.old hw7).mono (fun b hb => ⟨Nat.le_trans hE3 hb, fun e => by have h1 := (HOK.out.ge e).2; have h2 : wr.heap.size ≤ b := hb; omega⟩)); clear hw7)
          | (refine step_append_lies (P := Tryz.prog) _ rfl _ _ 25 rfl (w.heap.size + 3) 27 i0 _ 5 64 Tryz.underlying25 hi0 hz0 hz1 hz2 rfl (by decide) (.slice va ps.length vc) ps.length (exFlat ps) rfl HO7.out.1 ⟨w6.heap.size, 0, none⟩ 1 1 (exCells x (.slice xs x.args.length xc)) rfl rfl (news_at HN7.out) (ex_one x _ _ _) (by decide) (by have := hlen.out; unfold maxLen; omega) (by have := hlen.out; omega) (by have := HE7.out.lt; omega) _ rfl ?_; intro g cap w8 hown hgrow hat hlt8; have hge8 : ∀ k, (Value.slice va ps.length vc).ownBlock = some k → w.heap.size + 3 ≤ k := fun k e => (HO7.out.ge e).1; have HS8 := Lib.hid (HS7.out.low (w' := w8) (fun k hk => hgrow.block k (Nat.lt_of_le_of_lt hk HS7.out.lt) (fun e => by have := hge8 k e.symm; omega))); have HF8 := Lib.hid (HF7.out.grow hgrow (fun k e => by have := hge8 k e; omega)); have HC8 := Lib.hid (HC7.out.low (hgrow.block _ HC7.out.lt (fun e => by have := hge8 _ e.symm; omega))); have HR8 := Lib.hid (HR7.out.low (hgrow.block _ HR7.out.lt (fun e => by have := hge8 _ e.symm; omega))); have hE8 := HE7.out.low (hgrow.block _ HE7.out.lt (fun e => by have := hge8 _ e.symm; omega)); have HE8 := Lib.hid hE8; have HO8 := Lib.hid (HO7.out.snoc x _ Hx7.out Hn6.out hown hgrow hat); have y4 := hE8.at 4 _ rfl; have fy4 := hE8.fz 4; have hX8 := hE8.lt; clear hown hgrow hat hE8))
        all_goals
          have HE9 := Lib.hid (HE8.out.set 4 (.slice (some ⟨g, 0, none⟩) (ps.length + 1) cap))
          have HS9 := Lib.hid (HS8.out.other hsx 4 (.slice (some ⟨g, 0, none⟩) (ps.length + 1) cap)); have HF9 := Lib.hid (HF8.out.setNew hge 4 (.slice (some ⟨g, 0, none⟩) (ps.length + 1) cap))
          have HR9 := Lib.hid (HR8.out.other (show w.heap.size + 1 ≠ w.heap.size + 2 by omega) 4 (.slice (some ⟨g, 0, none⟩) (ps.length + 1) cap)); have HC9 := Lib.hid (HC8.out.other (show w.heap.size ≠ w.heap.size + 2 by omega) 4 (.slice (some ⟨g, 0, none⟩) (ps.length + 1) cap))
          have HO9 := Lib.hid (HO8.out.keep (w' := w8.setCell ⟨w.heap.size + 2, 4, none⟩ (.slice (some ⟨g, 0, none⟩) (ps.length + 1) cap)) (fun k h1 h2 => Below.heap_setCell _ _ _ _ (by show k ≠ w.heap.size + 2; omega)))
          go_wp2_with fail
          go_roundw
          case rel => exact ⟨k + 1, by omega, by go_num, ⟨ps ++ [(x, .slice xs x.args.length xc)], _, by rw [HNX.out, List.map_append, HPS.out]; rfl, by rw [HNX.out]; exact HS9.out, HF9.out, HC9.out, HR9.out, HE9.out, HO9.out⟩⟩
          case measure => simp [intOf]; omega
      · obtain rfl : k = c := by omega
        have x0 := HRK.out.at 0 _ rfl
        have x1 := HRK.out.at 1 _ rfl
        have x2 := HRK.out.at 2 _ rfl
        have x3 := HRK.out.at 3 _ rfl
        have x4 := HRK.out.at 4 _ rfl
        have fx0 := HRK.out.fz 0
        have fx1 := HRK.out.fz 1
        have fx2 := HRK.out.fz 2
        have fx3 := HRK.out.fz 3
        have fx4 := HRK.out.fz 4
        have hsx1 : s < w.heap.size + 1 := by omega
        have hge1 : w.heap.size ≤ w.heap.size + 1 := by omega
        have hlen : Hid (Fits ps.length) := by show _ ≤ _; have h1 := congrArg List.length HPS.out; rw [List.length_map, gMany_len] at h1; omega
        have HX9 := Lib.hid (HOK.out.exs hlen.out)
        rw [HPS.out] at HX9
        have hB : w.heap.size + 1 < w.heap.size + 3 := by omega
        have HRE := Lib.hid (((((HRK.out.set 0 (.int .i64 5)).set 1 (.int .i64 0)).set 2 (.int .i64 0)).set 3 (.string (strOf nm))).set 4 (.slice va ps.length vc))
        have HSE := Lib.hid (((((HSK.out.other hsx1 0 (.int .i64 5)).other hsx1 1 (.int .i64 0)).other hsx1 2 (.int .i64 0)).other hsx1 3 (.string (strOf nm))).other hsx1 4 (.slice va ps.length vc))
        have HFE := Lib.hid (((((HFK.out.setNew hge1 0 (.int .i64 5)).setNew hge1 1 (.int .i64 0)).setNew hge1 2 (.int .i64 0)).setNew hge1 3 (.string (strOf nm))).setNew hge1 4 (.slice va ps.length vc))
        go_wp2_with fail
        have d0 := HRE.out.at 0 _ rfl
        have d1 := HRE.out.at 1 _ rfl
        have d2 := HRE.out.at 2 _ rfl
        have d3 := HRE.out.at 3 _ rfl
        have d4 := HRE.out.at 4 _ rfl
        exact bodyPost_ret (v := .agg #[.int .i64 5, .int .i64 0, .int .i64 0, (.string (strOf nm)), .slice va ps.length vc]) (by simp [results, Tryz.results70, go_sem, d0, d1, d2, d3, d4]) rfl ⟨.slice va ps.length vc, rfl, HSE.out, HFE.out, ((((((HX9.out.keep (set_fresh _ hB 0 _)).keep (set_fresh _ hB 1 _)).keep (set_fresh _ hB 2 _)).keep (set_fresh _ hB 3 _)).keep (set_fresh _ hB 4 _)).mono (fun b h => (Nat.le_trans (by omega) h : w.heap.size ≤ b))), (i64_small ⟨by show _ ≤ (0 : Int); decide, by show (0 : Int) ≤ _; decide⟩)⟩
end Go.Proofs.YtcfpfnoldgnloaaGreatDoor
