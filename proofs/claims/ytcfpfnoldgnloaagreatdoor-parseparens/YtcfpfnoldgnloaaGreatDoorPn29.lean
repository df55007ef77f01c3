/-
  scope.call of a function that there is. Conditions: as scope.call.
  scope.expr and scope.call, at every depth. Conditions: the source and the scope lie in memory as the types say.
  Expr: a raw right expression. Condition: the raw numbers lie in memory.
  The printer in memory: a builder in its first field, tabs in its second. Conditions: the text written takes at most 2^47 bytes.
  WriteString into the printer's builder, put. Conditions: the text takes at most 2^47 bytes.
-/
import Derived.Test.YtcfpfnoldgnloaaGreatDoorPn28
import Derived.Test.YtcfpfnoldgnloaaGreatDoorPn03
import Derived.Test.YtcfpfnoldgnloaaGreatDoorPn00
import Derived.Lib.Strings
import Derived.Lib.Slices
import Derived.Lib.Walk
import Derived.Lib.Builder
import Derived.Lib.AppendStr
import Derived.Lib.UnsafeStr
import Derived.Lib.MakeNoZero
import Derived.Laws.Externs
set_option linter.unusedVariables false
set_option linter.unusedSimpArgs false
namespace Go.Proofs.YtcfpfnoldgnloaaGreatDoor
open Go.RowKit
set_option maxHeartbeats 4000000
set_option maxRecDepth 100000

theorem call_of (d : Nat) (hd : 2 ≤ d) (hd1 : d ≤ 1000) (ih : ExprTake (d - 1)) (s : Nat) (raw : List Int) (a : Nat) (sc : Sc) (vv av fv : Value) (w : World) (hs : SrcAt w s raw a) (hsc : ScAt s w sc vv av fv) (h : (sc.free || sc.funcs.isEmpty) = false) :
    Calls Tryz.prog 70 #[scV sc vv av fv, .pointer (some ⟨s, 0, none⟩), .int .i64 d] w (GivesEx w s raw (gCall sc raw (gExpr sc raw (d - 1)) a)) := by
  have hpos : 0 < sc.funcs.length := gpos (by rw [h]; simp)
  have hf : sc.free = false := by revert h; cases sc.free <;> simp
  obtain ⟨v1, v2, rfl⟩ := hsc.vars.shape
  obtain ⟨a1, a2, rfl⟩ := hsc.arrays.shape
  obtain ⟨f1, f2, rfl⟩ := hsc.funcs.shape
  have lf := hsc.f1
  have hsl := hs.lt
  have hb1 : Below w.heap.size w (((w.alloc (.cells #[.slice v1 sc.vars.length v2, .slice a1 sc.arrays.length a2, .slice f1 sc.funcs.length f2, .bool sc.free, .bool sc.loop] 73)).alloc (.cells #[.int .i64 0, .int .i64 0, .int .i64 0, .string ⟨#[]⟩, .slice none 0 0] 27)).alloc (.cells #[.int .i64 5, .int .i64 0, .int .i64 0, .string ⟨#[]⟩, .slice none 0 0] 27)) := (((Below.refl _ _).alloc (Nat.le_refl _) _).alloc (by simp) _).alloc (by simp; omega) _
  have hc1 : OwnAt (((w.alloc (.cells #[.slice v1 sc.vars.length v2, .slice a1 sc.arrays.length a2, .slice f1 sc.funcs.length f2, .bool sc.free, .bool sc.loop] 73)).alloc (.cells #[.int .i64 0, .int .i64 0, .int .i64 0, .string ⟨#[]⟩, .slice none 0 0] 27)).alloc (.cells #[.int .i64 5, .int .i64 0, .int .i64 0, .string ⟨#[]⟩, .slice none 0 0] 27)) w.heap.size [.slice v1 sc.vars.length v2, .slice a1 sc.arrays.length a2, .slice f1 sc.funcs.length f2, .bool sc.free, .bool sc.loop] 73 := ((OwnAt.new w _ _).alloc _).alloc _
  have hr1 := OwnAt.new (w.alloc (.cells #[.slice v1 sc.vars.length v2, .slice a1 sc.arrays.length a2, .slice f1 sc.funcs.length f2, .bool sc.free, .bool sc.loop] 73)) [.int .i64 0, .int .i64 0, .int .i64 0, .string ⟨#[]⟩, .slice none 0 0] 27
  rw [show (w.alloc (.cells #[.slice v1 sc.vars.length v2, .slice a1 sc.arrays.length a2, .slice f1 sc.funcs.length f2, .bool sc.free, .bool sc.loop] 73)).heap.size = w.heap.size + 1 by simp] at hr1
  have hr1 : OwnAt (((w.alloc (.cells #[.slice v1 sc.vars.length v2, .slice a1 sc.arrays.length a2, .slice f1 sc.funcs.length f2, .bool sc.free, .bool sc.loop] 73)).alloc (.cells #[.int .i64 0, .int .i64 0, .int .i64 0, .string ⟨#[]⟩, .slice none 0 0] 27)).alloc (.cells #[.int .i64 5, .int .i64 0, .int .i64 0, .string ⟨#[]⟩, .slice none 0 0] 27)) (w.heap.size + 1) [.int .i64 0, .int .i64 0, .int .i64 0, .string ⟨#[]⟩, .slice none 0 0] 27 := OwnAt.alloc hr1 _
  have he1 := OwnAt.new ((w.alloc (.cells #[.slice v1 sc.vars.length v2, .slice a1 sc.arrays.length a2, .slice f1 sc.funcs.length f2, .bool sc.free, .bool sc.loop] 73)).alloc (.cells #[.int .i64 0, .int .i64 0, .int .i64 0, .string ⟨#[]⟩, .slice none 0 0] 27)) [.int .i64 5, .int .i64 0, .int .i64 0, .string ⟨#[]⟩, .slice none 0 0] 27
  rw [show ((w.alloc (.cells #[.slice v1 sc.vars.length v2, .slice a1 sc.arrays.length a2, .slice f1 sc.funcs.length f2, .bool sc.free, .bool sc.loop] 73)).alloc (.cells #[.int .i64 0, .int .i64 0, .int .i64 0, .string ⟨#[]⟩, .slice none 0 0] 27)).heap.size = w.heap.size + 2 by simp] at he1
  have he1 : OwnAt (((w.alloc (.cells #[.slice v1 sc.vars.length v2, .slice a1 sc.arrays.length a2, .slice f1 sc.funcs.length f2, .bool sc.free, .bool sc.loop] 73)).alloc (.cells #[.int .i64 0, .int .i64 0, .int .i64 0, .string ⟨#[]⟩, .slice none 0 0] 27)).alloc (.cells #[.int .i64 5, .int .i64 0, .int .i64 0, .string ⟨#[]⟩, .slice none 0 0] 27)) (w.heap.size + 2) [.int .i64 5, .int .i64 0, .int .i64 0, .string ⟨#[]⟩, .slice none 0 0] 27 := he1
  have HC1 := Lib.hid hc1; have HR1 := Lib.hid hr1; have HE1 := Lib.hid he1
  have HS1 := Lib.hid (hs.old hb1); have HF1 : Hid (SFr s w (((w.alloc (.cells #[.slice v1 sc.vars.length v2, .slice a1 sc.arrays.length a2, .slice f1 sc.funcs.length f2, .bool sc.free, .bool sc.loop] 73)).alloc (.cells #[.int .i64 0, .int .i64 0, .int .i64 0, .string ⟨#[]⟩, .slice none 0 0] 27)).alloc (.cells #[.int .i64 5, .int .i64 0, .int .i64 0, .string ⟨#[]⟩, .slice none 0 0] 27))) := SFr.of_below hb1
  have HSC := Lib.hid hsc
  have HDM : Hid (((d - 1 : Nat) : Int) = (d : Int) - 1) := by show _ = _; omega
  have HIH : Hid (∀ w1 b, SrcAt w1 s raw b → ScAt s w1 sc (.slice v1 sc.vars.length v2) (.slice a1 sc.arrays.length a2) (.slice f1 sc.funcs.length f2) → Calls Tryz.prog 31 #[scV sc (.slice v1 sc.vars.length v2) (.slice a1 sc.arrays.length a2) (.slice f1 sc.funcs.length f2), .pointer (some ⟨s, 0, none⟩), .int .i64 ((d : Int) - 1)] w1 (GivesEx w1 s raw (gExpr sc raw (d - 1) b))) := fun w1 b h1 h2 => by have q := ih s raw b sc _ _ _ w1 h1 h2; rw [HDM.out] at q; exact q
  have HZ : Hid (w.heap.size + 1 ≠ s) := by show _ ≠ _; omega
  have HY : Hid (w.heap.size ≠ s) := by show _ ≠ _; omega
  have HX : Hid (w.heap.size + 2 ≠ s) := by show _ ≠ _; omega
  have hd0 : (2 : Int) ≤ (d : Int) := by omega
  have hdM : (d : Int) ≤ 1000 := by omega
  clear hb1 hc1 hr1 he1 hs ih
  have E : gCall sc raw (gExpr sc raw (d - 1)) a = (.mk 5 0 0 (fuAt sc.funcs (gNext raw a sc.funcs.length).1.toNat).name (gMany (gExpr sc raw (d - 1)) (fuAt sc.funcs (gNext raw a sc.funcs.length).1.toNat).params.length (gNext raw a sc.funcs.length).2).1, (gMany (gExpr sc raw (d - 1)) (fuAt sc.funcs (gNext raw a sc.funcs.length).1.toNat).params.length (gNext raw a sc.funcs.length).2).2) := by unfold gCall; rw [if_neg (by rw [h]; simp)]
  rw [E]
  clear E
  have HN : Hid (∀ w1, SrcAt w1 s raw a → Calls Tryz.prog 37 #[.pointer (some ⟨s, 0, none⟩), .int .i64 sc.funcs.length] w1 (Takes w1 s raw (.int .i64 (gNext raw a sc.funcs.length).1) (gNext raw a sc.funcs.length).2)) := fun w1 h1 => next_any s raw a sc.funcs.length w1 h1 (by omega) (by omega)
  have hr := gNext_range raw a sc.funcs.length (by omega)
  generalize gNext raw a sc.funcs.length = g at *
  obtain ⟨i, a0⟩ := g
  obtain ⟨i0, i1⟩ := hr
  dsimp only at *
  obtain ⟨i, rfl⟩ := Int.eq_ofNat_of_zero_le i0
  rw [Int.toNat_natCast]
  have hi : i < sc.funcs.length := by omega
  obtain ⟨eb, off, xp, xl, xb, rfl, hD, hbl, z0, z1, z2, z3, hxp, hxl, hxb⟩ := FusAt.cellAt hsc.funcs i hi
  obtain ⟨p1, p2, rfl⟩ := hxp.shape
  obtain ⟨l1, l2, rfl⟩ := hxl.shape
  obtain ⟨y1, y2, rfl⟩ := hxb.shape
  have hc6 : (fuAt sc.funcs i).params.length ≤ 1000000 := hsc.p1 _ (fuAt_mem hi)
  have heb : eb ≠ s := hD
  generalize fuAt sc.funcs i = x at *
  have hb1 : Below w.heap.size w (((w.alloc (.cells #[.slice v1 sc.vars.length v2, .slice a1 sc.arrays.length a2, .slice (some ⟨eb, off, none⟩) sc.funcs.length f2, .bool sc.free, .bool sc.loop] 73)).alloc (.cells #[.int .i64 0, .int .i64 0, .int .i64 0, .string ⟨#[]⟩, .slice none 0 0] 27)).alloc (.cells #[.int .i64 5, .int .i64 0, .int .i64 0, .string ⟨#[]⟩, .slice none 0 0] 27)) := (((Below.refl _ _).alloc (Nat.le_refl _) _).alloc (by simp) _).alloc (by simp; omega) _
  replace z0 := below_keeps hb1 z0
  replace z1 := below_keeps hb1 z1
  replace z2 := below_keeps hb1 z2
  replace z3 := below_keeps hb1 z3
  clear hb1 h hxp hxl hxb hD hsc
  unfold scV at HIH ⊢
  rw [hf] at HC1 HR1 HE1 HS1 HF1 HIH z0 z1 z2 z3 ⊢
  clear hf
  have hne : ((sc.funcs.length : Int) == 0) = false := beq_eq_false_iff_ne.2 (by omega)
  generalize sc.funcs.length = fn at *
  have b0 := HC1.out.at 0 _ rfl
  have b1 := HC1.out.at 1 _ rfl
  have b2 := HC1.out.at 2 _ rfl
  have b3 := HC1.out.at 3 _ rfl
  have b4 := HC1.out.at 4 _ rfl
  go_enter Tryz.func70, Tryz.ntmps70
  go_upto_if 19 with (fail)
  generalize (((w.alloc (.cells #[.slice v1 sc.vars.length v2, .slice a1 sc.arrays.length a2, .slice (some ⟨eb, off, none⟩) fn f2, .bool false, .bool sc.loop] 73)).alloc (.cells #[.int .i64 0, .int .i64 0, .int .i64 0, .string ⟨#[]⟩, .slice none 0 0] 27)).alloc (.cells #[.int .i64 5, .int .i64 0, .int .i64 0, .string ⟨#[]⟩, .slice none 0 0] 27)) = W1 at *
  go_cut [8] (fun q wx => q = .int .i64 x.params.length ∧ SrcAt wx s raw a0 ∧ SFr s w wx ∧ OwnAt wx w.heap.size [.slice v1 sc.vars.length v2, .slice a1 sc.arrays.length a2, .slice (some ⟨eb, off, none⟩) fn f2, .bool false, .bool sc.loop] 73 ∧ OwnAt wx (w.heap.size + 1) [.int .i64 0, .int .i64 0, .int .i64 0, .string ⟨#[]⟩, .slice none 0 0] 27 ∧ OwnAt wx (w.heap.size + 2) [.int .i64 5, .int .i64 0, .int .i64 0, .string (strOf x.name), .slice none 0 0] 27)
  case first =>
    go_upto_region 6 with (fail)
    have hdr : Below W1.heap.size W1 W1.drew := (Below.refl _ _).drew
    have HSd := Lib.hid (HS1.out.old hdr); have HFd := Lib.hid (HF1.out.trans (SFr.of_below hdr)); have HCd := Lib.hid (HC1.out.old hdr); have HRd := Lib.hid (HR1.out.old hdr); have HEd := Lib.hid (HE1.out.old hdr)
    have z0d : W1.drew.cell? ⟨eb, off + i * 4, none⟩ = some (.string (strOf x.name)) := z0
    have z1d : W1.drew.cell? ⟨eb, off + i * 4 + 1, none⟩ = some (.slice p1 x.params.length p2) := z1
    have z2d : W1.drew.cell? ⟨eb, off + i * 4 + 2, none⟩ = some (.slice l1 x.locals.length l2) := z2
    have z3d : W1.drew.cell? ⟨eb, off + i * 4 + 3, none⟩ = some (.slice y1 x.body.length y2) := z3
    have hX1 := HE1.out.lt
    have hsW : s < W1.heap.size := HS1.out.lt
    have hWs : W1.heap.size ≠ s := by omega
    have hsx : s < w.heap.size + 2 := by omega
    have hge : w.heap.size ≤ w.heap.size + 2 := by omega
    have hgW : w.heap.size ≤ W1.heap.size := by omega
    have hebW : eb ≠ W1.heap.size := by omega
    have hwW : w.heap.size ≠ W1.heap.size := by omega
    have hwW1 : w.heap.size + 1 ≠ W1.heap.size := by omega
    have hwW2 : w.heap.size + 2 ≠ W1.heap.size := by omega
    clear hdr
    go_region_held3 (fun w' => w'.cell? ⟨w.heap.size, 2, none⟩ = some (.slice (some ⟨eb, off, none⟩) fn f2) ∧ w'.cell? ⟨eb, off + i * 4, none⟩ = some (.string (strOf x.name)) ∧ w'.cell? ⟨eb, off + i * 4 + 1, none⟩ = some (.slice p1 x.params.length p2) ∧ w'.cell? ⟨eb, off + i * 4 + 2, none⟩ = some (.slice l1 x.locals.length l2) ∧ w'.cell? ⟨eb, off + i * 4 + 3, none⟩ = some (.slice y1 x.body.length y2)) (first | (simp [*, World.cell?_alloc_lt, cell_set_ne]; done) | go_keep) (first
      | (go_at_call 37; refine (HN.out _ (by first | exact HSd.out | exact HSd.out.alloc _)).mono ?_; rintro r w4 ⟨he, hs4, hf4⟩; subst he; have HS4 := Lib.hid hs4; have HF4 : Hid (SFr s w w4) := (by first | exact HFd.out.trans hf4 | exact (HFd.out.trans (SFr.alloc _)).trans hf4); have hC4 : OwnAt w4 w.heap.size _ _ := (by first | exact HCd.out.sfr hf4 HY.out | exact (HCd.out.alloc _).sfr hf4 HY.out); have hR4 : OwnAt w4 (w.heap.size + 1) _ _ := (by first | exact HRd.out.sfr hf4 HZ.out | exact (HRd.out.alloc _).sfr hf4 HZ.out); have hE4 : OwnAt w4 (w.heap.size + 2) _ _ := (by first | exact HEd.out.sfr hf4 HX.out | exact (HEd.out.alloc _).sfr hf4 HX.out); have HC4 := Lib.hid hC4; have HR4 := Lib.hid hR4; have HE4 := Lib.hid hE4; have k2 := hC4.at 2 _ rfl; have m0 : w4.cell? ⟨eb, off + i * 4, none⟩ = some (.string (strOf x.name)) := (by first | exact hf4.cell heb z0d | exact hf4.cell heb (below_keeps ((Below.refl _ _).alloc (Nat.le_refl _) _) z0d)); have m1 : w4.cell? ⟨eb, off + i * 4 + 1, none⟩ = some (.slice p1 x.params.length p2) := (by first | exact hf4.cell heb z1d | exact hf4.cell heb (below_keeps ((Below.refl _ _).alloc (Nat.le_refl _) _) z1d)); have m2 : w4.cell? ⟨eb, off + i * 4 + 2, none⟩ = some (.slice l1 x.locals.length l2) := (by first | exact hf4.cell heb z2d | exact hf4.cell heb (below_keeps ((Below.refl _ _).alloc (Nat.le_refl _) _) z2d)); have m3 : w4.cell? ⟨eb, off + i * 4 + 3, none⟩ = some (.slice y1 x.body.length y2) := (by first | exact hf4.cell heb z3d | exact hf4.cell heb (below_keeps ((Below.refl _ _).alloc (Nat.le_refl _) _) z3d)); have g3 := hE4.fz 3; have g4 := hE4.at 3 _ rfl; have hX4 := hE4.lt; have hb4 : eb < w4.heap.size := World.block_lt_of_cell? _ _ m0; (first | (have hV4 : OwnAt w4 W1.heap.size _ _ := (OwnAt.new W1.drew [.string ⟨#[]⟩, .slice none 0 0, .slice none 0 0, .slice none 0 0] 58).sfr hf4 hWs; have o0 := hV4.at 0 _ rfl; have o1 := hV4.at 1 _ rfl; have o2 := hV4.at 2 _ rfl; have o3 := hV4.at 3 _ rfl; have fo0 := hV4.fz 0; have fo1 := hV4.fz 1; have fo2 := hV4.fz 2; have fo3 := hV4.fz 3; have HV4 := Lib.hid hV4; have hlV := hV4.lt; clear hV4) | skip); clear hs4 hf4 hC4 hR4 hE4))
    · have HSE := Lib.hid ((HS4.out.other hsx 3 (.string (strOf x.name))).alloc (.cells #[.string (strOf x.name), .slice p1 x.params.length p2, .slice l1 x.locals.length l2, .slice y1 x.body.length y2] 58))
      have HFE := Lib.hid ((HF4.out.setNew hge 3 (.string (strOf x.name))).trans (SFr.alloc (.cells #[.string (strOf x.name), .slice p1 x.params.length p2, .slice l1 x.locals.length l2, .slice y1 x.body.length y2] 58)))
      have HCE := Lib.hid ((HC4.out.other (show w.heap.size ≠ w.heap.size + 2 by omega) 3 (.string (strOf x.name))).alloc (.cells #[.string (strOf x.name), .slice p1 x.params.length p2, .slice l1 x.locals.length l2, .slice y1 x.body.length y2] 58))
      have HRE := Lib.hid ((HR4.out.other (show w.heap.size + 1 ≠ w.heap.size + 2 by omega) 3 (.string (strOf x.name))).alloc (.cells #[.string (strOf x.name), .slice p1 x.params.length p2, .slice l1 x.locals.length l2, .slice y1 x.body.length y2] 58))
      have HEE := Lib.hid ((HE4.out.set 3 (.string (strOf x.name))).alloc (.cells #[.string (strOf x.name), .slice p1 x.params.length p2, .slice l1 x.locals.length l2, .slice y1 x.body.length y2] 58))
      go_wp2_with fail
      go_meet
      exact ⟨rfl, HSE.out, HFE.out, HCE.out, HRE.out, HEE.out⟩
    · have HSE := Lib.hid (((((HS4.out.other hsW 0 (.string (strOf x.name))).other hsW 1 (.slice p1 x.params.length p2)).other hsW 2 (.slice l1 x.locals.length l2)).other hsW 3 (.slice y1 x.body.length y2)).other hsx 3 (.string (strOf x.name)))
      have HFE := Lib.hid (((((HF4.out.setNew hgW 0 (.string (strOf x.name))).setNew hgW 1 (.slice p1 x.params.length p2)).setNew hgW 2 (.slice l1 x.locals.length l2)).setNew hgW 3 (.slice y1 x.body.length y2)).setNew hge 3 (.string (strOf x.name)))
      have HCE := Lib.hid (((((HC4.out.other hwW 0 (.string (strOf x.name))).other hwW 1 (.slice p1 x.params.length p2)).other hwW 2 (.slice l1 x.locals.length l2)).other hwW 3 (.slice y1 x.body.length y2)).other (show w.heap.size ≠ w.heap.size + 2 by omega) 3 (.string (strOf x.name)))
      have HRE := Lib.hid (((((HR4.out.other hwW1 0 (.string (strOf x.name))).other hwW1 1 (.slice p1 x.params.length p2)).other hwW1 2 (.slice l1 x.locals.length l2)).other hwW1 3 (.slice y1 x.body.length y2)).other (show w.heap.size + 1 ≠ w.heap.size + 2 by omega) 3 (.string (strOf x.name)))
      have HEE := Lib.hid (((((HE4.out.other hwW2 0 (.string (strOf x.name))).other hwW2 1 (.slice p1 x.params.length p2)).other hwW2 2 (.slice l1 x.locals.length l2)).other hwW2 3 (.slice y1 x.body.length y2)).set 3 (.string (strOf x.name)))
      go_wp2_with fail
      go_meet
      exact ⟨rfl, HSE.out, HFE.out, HCE.out, HRE.out, HEE.out⟩
  case rest =>
    obtain ⟨rfl, hs5, hf5, hC5, hR5, hE5⟩ := hcut
    have HS5 := Lib.hid hs5; have HF5 := Lib.hid hf5; have HC5 := Lib.hid hC5; have HR5 := Lib.hid hR5; have HE5 := Lib.hid hE5
    have hsx : s < w.heap.size + 2 := by omega
    have hge : w.heap.size ≤ w.heap.size + 2 := by omega
    clear hs5 hf5 hC5 hR5 hE5 HN HS1 HF1 HC1 HR1 HE1 z0 z1 z2 z3 b0 b1 b2 b3 b4
    generalize x.params.length = c at *
    generalize x.name = nm at *
    go_wp2_with fail
    go_loopw [10] (fun q wr => ∃ k : Nat, k ≤ c ∧ q = .int .i64 k ∧ CallInv w s raw (gExpr sc raw (d - 1)) a0 [.slice v1 sc.vars.length v2, .slice a1 sc.arrays.length a2, .slice (some ⟨eb, off, none⟩) fn f2, .bool false, .bool sc.loop] (.string (strOf nm)) k wr) (fun q _ => c - (intOf q).toNat)
    case atStart => exact ⟨0, Nat.zero_le _, rfl, [], _, rfl, HS5.out, HF5.out, HC5.out, HR5.out, HE5.out, ExsOwn.zero _ _⟩
    case round =>
      obtain ⟨k, hk, rfl, hinv⟩ := hrel
      obtain ⟨ps, v, hps, hsr, hfr, hC, hR, hE, hO⟩ := hinv
      obtain ⟨va, vc, rfl⟩ := hO.shape
      have HPS := Lib.hid hps; have HSK := Lib.hid hsr; have HFK := Lib.hid hfr; have HCK := Lib.hid hC; have HRK := Lib.hid hR; have HEK := Lib.hid hE; have HOK := Lib.hid hO
      clear hps hsr hfr hC hR hE hO
      have b0 := HCK.out.at 0 _ rfl
      have b1 := HCK.out.at 1 _ rfl
      have b2 := HCK.out.at 2 _ rfl
      have b3 := HCK.out.at 3 _ rfl
      have b4 := HCK.out.at 4 _ rfl
      have e0 := HEK.out.at 0 _ rfl
      have e1 := HEK.out.at 1 _ rfl
      have e2 := HEK.out.at 2 _ rfl
      have e3 := HEK.out.at 3 _ rfl
      have e4 := HEK.out.at 4 _ rfl
      have fe4 := HEK.out.fz 4
      have hE2 := HEK.out.lt
      by_cases hlt : k < c
      · have hlen : Hid (ps.length ≤ 1000000) := by show _ ≤ _; have h1 := congrArg List.length HPS.out; rw [List.length_map, gMany_len] at h1; omega
        have hnx : gMany (gExpr sc raw (d - 1)) (k + 1) a0 = ((gMany (gExpr sc raw (d - 1)) k a0).1 ++ [(gExpr sc raw (d - 1) (gMany (gExpr sc raw (d - 1)) k a0).2).1], (gExpr sc raw (d - 1) (gMany (gExpr sc raw (d - 1)) k a0).2).2) := rfl
        have HNX := Lib.hid hnx
        clear hnx
        have HCL := Lib.hid (fun w1 h1 h2 => HIH.out w1 (gMany (gExpr sc raw (d - 1)) k a0).2 h1 h2)
        generalize gExpr sc raw (d - 1) (gMany (gExpr sc raw (d - 1)) k a0).2 = x at *
        obtain ⟨x, xa⟩ := x
        generalize gMany (gExpr sc raw (d - 1)) k a0 = mk at HPS HSK HNX HCL
        obtain ⟨lk, bk⟩ := mk
        dsimp only at HPS HSK HNX HCL
        have hdr : Below wr.heap.size wr wr.drew := (Below.refl _ _).drew
        have HSd := Lib.hid (HSK.out.old hdr); have HFd := Lib.hid (HFK.out.trans (SFr.of_below hdr))
        have HCd := Lib.hid (HCK.out.old hdr); have HRd := Lib.hid (HRK.out.old hdr); have HEd := Lib.hid (HEK.out.old hdr)
        have HOd := Lib.hid (HOK.out.keep (w' := wr.drew) (fun _ _ _ => rfl))
        clear hdr
        obtain ⟨i0, hi0, hz0, hz1, hz2⟩ := info_parts infoEx
        have hE3 : w.heap.size + 3 ≤ wr.heap.size := by omega
        have hwd : IntKind.i64.wrap ((d : Int) - 1) = (d : Int) - 1 := IntWalk.i64_in _ (by omega)
        go_wp2_with fail
        go_region_law (first
          | ((try go_simp); go_at_call 31; refine (HCL.out _ HSd.out (HSC.out.sfr HFd.out)).mono ?_; rintro r w6 ⟨xv, he, hs6, hf6, hx6, hn6⟩; obtain ⟨xs, xc, hxv⟩ := hx6.shape; subst hxv; subst he; have hc : ∀ b o, b < _ → b ≠ s → w6.cell? ⟨b, o, none⟩ = _ := fun b o h hn => World.cell?_of_block (a := ⟨b, o, none⟩) (hf6.block b h hn); have HS6 := Lib.hid hs6; have HF6 := Lib.hid (HFd.out.trans hf6); have HC6 := Lib.hid (HCd.out.sfr hf6 HY.out); have HR6 := Lib.hid (HRd.out.sfr hf6 HZ.out); have HE6 := Lib.hid (HEd.out.sfr hf6 HX.out); have HO6 := Lib.hid (HOd.out.keep (w' := w6) (fun k h1 h2 => hf6.block k h1 (by omega))); have Hx6 := Lib.hid hx6; have Hn6 := Lib.hid hn6; have hz6 := hf6.size; have u4 := HE6.out.at 4 _ rfl; have hX6 := HE6.out.lt; clear hs6 hf6 hx6 hn6; have hw7 : Below w6.heap.size w6 (w6.alloc (.cells #[.int .i64 x.kind, .int .i64 x.op, .int .i64 x.n, .string (strOf x.name), .slice xs x.args.length xc] 27)) := (Below.refl _ _).alloc (Nat.le_refl _) _; have HS7 := Lib.hid (HS6.out.old hw7); have HF7 := Lib.hid (HF6.out.trans (SFr.of_below hw7)); have HC7 := Lib.hid (HC6.out.old hw7); have HR7 := Lib.hid (HR6.out.old hw7); have HE7 := Lib.hid (HE6.out.old hw7); have HO7 := Lib.hid (HO6.out.keep (w' := (w6.alloc (.cells #[.int .i64 x.kind, .int .i64 x.op, .int .i64 x.n, .string (strOf x.name), .slice xs x.args.length xc] 27))) (fun k h1 h2 => hw7.block k h1)); have HN7 := Lib.hid (RowAt.new w6 (exCells x (.slice xs x.args.length xc)) 27); have Hx7 : Hid (ExsAt (fun b => w.heap.size + 3 ≤ b ∧ (Value.slice va ps.length vc).ownBlock ≠ some b) (w6.alloc (.cells #[.int .i64 x.kind, .int .i64 x.op, .int .i64 x.n, .string (strOf x.name), .slice xs x.args.length xc] 27)) x.args (.slice xs x.args.length xc)) := ((Hx6.out.old hw7).mono (fun b hb => ⟨Nat.le_trans hE3 hb, fun e => by have h1 := (HOK.out.ge e).2; have h2 : wr.heap.size ≤ b := hb; omega⟩)); clear hw7)
          | (refine step_append_lies (P := Tryz.prog) _ rfl _ _ 25 rfl (w.heap.size + 3) 27 i0 _ 5 64 Tryz.underlying25 hi0 hz0 hz1 hz2 rfl (by decide) (.slice va ps.length vc) ps.length (exFlat ps) rfl HO7.out.1 ⟨w6.heap.size, 0, none⟩ 1 1 (exCells x (.slice xs x.args.length xc)) rfl rfl (news_at HN7.out) (ex_one x _ _ _) (by decide) (by have := hlen.out; unfold maxLen; omega) (by have := hlen.out; omega) (by have := HE7.out.lt; omega) _ rfl ?_; intro g cap w8 hown hgrow hat hlt8; have hge8 : ∀ k, (Value.slice va ps.length vc).ownBlock = some k → w.heap.size + 3 ≤ k := fun k e => (HO7.out.ge e).1; have HS8 := Lib.hid (HS7.out.low (w' := w8) (fun k hk => hgrow.block k (Nat.lt_of_le_of_lt hk HS7.out.lt) (fun e => by have := hge8 k e.symm; omega))); have HF8 := Lib.hid (HF7.out.grow hgrow (fun k e => by have := hge8 k e; omega)); have HC8 := Lib.hid (HC7.out.low (hgrow.block _ HC7.out.lt (fun e => by have := hge8 _ e.symm; omega))); have HR8 := Lib.hid (HR7.out.low (hgrow.block _ HR7.out.lt (fun e => by have := hge8 _ e.symm; omega))); have hE8 := HE7.out.low (hgrow.block _ HE7.out.lt (fun e => by have := hge8 _ e.symm; omega)); have HE8 := Lib.hid hE8; have HO8 := Lib.hid (HO7.out.snoc x _ Hx7.out Hn6.out hown hgrow hat); have y4 := hE8.at 4 _ rfl; have fy4 := hE8.fz 4; have hX8 := hE8.lt; clear hown hgrow hat hE8))
        all_goals
          have HE9 := Lib.hid (HE8.out.set 4 (.slice (some ⟨g, 0, none⟩) (ps.length + 1) cap))
          have HS9 := Lib.hid (HS8.out.other hsx 4 (.slice (some ⟨g, 0, none⟩) (ps.length + 1) cap)); have HF9 := Lib.hid (HF8.out.setNew hge 4 (.slice (some ⟨g, 0, none⟩) (ps.length + 1) cap))
          have HR9 := Lib.hid (HR8.out.other (show w.heap.size + 1 ≠ w.heap.size + 2 by omega) 4 (.slice (some ⟨g, 0, none⟩) (ps.length + 1) cap)); have HC9 := Lib.hid (HC8.out.other (show w.heap.size ≠ w.heap.size + 2 by omega) 4 (.slice (some ⟨g, 0, none⟩) (ps.length + 1) cap))
          have HO9 := Lib.hid (HO8.out.keep (w' := w8.setCell ⟨w.heap.size + 2, 4, none⟩ (.slice (some ⟨g, 0, none⟩) (ps.length + 1) cap)) (fun k h1 h2 => Below.heap_setCell _ _ _ _ (by show k ≠ w.heap.size + 2; omega)))
          go_wp2_with fail
          go_roundw
          case rel => exact ⟨k + 1, by omega, by go_num, ⟨ps ++ [(x, .slice xs x.args.length xc)], _, by rw [HNX.out, List.map_append, HPS.out]; rfl, by rw [HNX.out]; exact HS9.out, HF9.out, HC9.out, HR9.out, HE9.out, HO9.out⟩⟩
          case measure => simp [intOf]; omega
      · obtain rfl : k = c := by omega
        have x0 := HRK.out.at 0 _ rfl
        have x1 := HRK.out.at 1 _ rfl
        have x2 := HRK.out.at 2 _ rfl
        have x3 := HRK.out.at 3 _ rfl
        have x4 := HRK.out.at 4 _ rfl
        have fx0 := HRK.out.fz 0
        have fx1 := HRK.out.fz 1
        have fx2 := HRK.out.fz 2
        have fx3 := HRK.out.fz 3
        have fx4 := HRK.out.fz 4
        have hsx1 : s < w.heap.size + 1 := by omega
        have hge1 : w.heap.size ≤ w.heap.size + 1 := by omega
        have hlen : Hid (Fits ps.length) := by show _ ≤ _; have h1 := congrArg List.length HPS.out; rw [List.length_map, gMany_len] at h1; omega
        have HX9 := Lib.hid (HOK.out.exs hlen.out)
        rw [HPS.out] at HX9
        have hB : w.heap.size + 1 < w.heap.size + 3 := by omega
        have HRE := Lib.hid (((((HRK.out.set 0 (.int .i64 5)).set 1 (.int .i64 0)).set 2 (.int .i64 0)).set 3 (.string (strOf nm))).set 4 (.slice va ps.length vc))
        have HSE := Lib.hid (((((HSK.out.other hsx1 0 (.int .i64 5)).other hsx1 1 (.int .i64 0)).other hsx1 2 (.int .i64 0)).other hsx1 3 (.string (strOf nm))).other hsx1 4 (.slice va ps.length vc))
        have HFE := Lib.hid (((((HFK.out.setNew hge1 0 (.int .i64 5)).setNew hge1 1 (.int .i64 0)).setNew hge1 2 (.int .i64 0)).setNew hge1 3 (.string (strOf nm))).setNew hge1 4 (.slice va ps.length vc))
        go_wp2_with fail
        have d0 := HRE.out.at 0 _ rfl
        have d1 := HRE.out.at 1 _ rfl
        have d2 := HRE.out.at 2 _ rfl
        have d3 := HRE.out.at 3 _ rfl
        have d4 := HRE.out.at 4 _ rfl
        exact bodyPost_ret (v := .agg #[.int .i64 5, .int .i64 0, .int .i64 0, (.string (strOf nm)), .slice va ps.length vc]) (by simp [results, Tryz.results70, go_sem, d0, d1, d2, d3, d4]) rfl ⟨.slice va ps.length vc, rfl, HSE.out, HFE.out, ((((((HX9.out.keep (set_fresh _ hB 0 _)).keep (set_fresh _ hB 1 _)).keep (set_fresh _ hB 2 _)).keep (set_fresh _ hB 3 _)).keep (set_fresh _ hB 4 _)).mono (fun b h => (Nat.le_trans (by omega) h : w.heap.size ≤ b))), (i64_small ⟨by show _ ≤ (0 : Int); decide, by show (0 : Int) ≤ _; decide⟩)⟩

end Go.Proofs.YtcfpfnoldgnloaaGreatDoor

namespace Go.Proofs.YtcfpfnoldgnloaaGreatDoor
open Go.RowKit
set_option maxHeartbeats 4000000
set_option maxRecDepth 100000

theorem call_take (d : Nat) (hd : 2 ≤ d) (hd1 : d ≤ 1000) (ih : ExprTake (d - 1)) : CallTake d := by
  intro s raw a sc vv av fv w hs hsc
  cases h : (sc.free || sc.funcs.isEmpty)
  · exact call_of d hd hd1 ih s raw a sc vv av fv w hs hsc h
  · exact call_raw d hd hd1 ih s raw a sc vv av fv w hs hsc h
theorem expr_all : ∀ d : Nat, d ≤ 1000 → ExprTake d
  | 0, h => expr_take 0 h (fun h => absurd h (by decide)) (fun h => absurd h (by decide))
  | d + 1, h => expr_take (d + 1) h (fun _ => expr_all d (by omega)) (fun h2 => call_take (d + 1) h2 h (expr_all d (by omega)))
theorem call_all (d : Nat) (hd : 2 ≤ d) (hd1 : d ≤ 1000) : CallTake d := call_take d hd hd1 (expr_all (d - 1) (by omega))
end Go.Proofs.YtcfpfnoldgnloaaGreatDoor

namespace Go.Proofs.YtcfpfnoldgnloaaGreatDoor
open Go.RowKit
set_option maxHeartbeats 8000000
set_option maxRecDepth 100000

/-- What is there when the first number is taken. -/
def PreE (w : World) (raw : List Int) (wx : World) : Prop := SrcAt wx (w.heap.size + 1) raw 0 ∧ Below w.heap.size w wx ∧ OwnAt wx w.heap.size [.int .i64 0, .int .i64 0, .int .i64 0, .string ⟨#[]⟩, .slice none 0 0] 27
theorem preE_of (w : World) (raw : List Int) (v : Value) (h : IntsAt (· < w.heap.size) w raw v) : PreE w raw ((w.alloc (.cells #[.int .i64 0, .int .i64 0, .int .i64 0, .string ⟨#[]⟩, .slice none 0 0] 27)).alloc (.cells #[v, .int .i64 0] 71)) := by
  have hb : Below w.heap.size w ((w.alloc (.cells #[.int .i64 0, .int .i64 0, .int .i64 0, .string ⟨#[]⟩, .slice none 0 0] 27)).alloc (.cells #[v, .int .i64 0] 71)) := ((Below.refl _ _).alloc (Nat.le_refl _) _).alloc (by simp) _
  have hs := OwnAt.new (w.alloc (.cells #[.int .i64 0, .int .i64 0, .int .i64 0, .string ⟨#[]⟩, .slice none 0 0] 27)) [v, .int .i64 0] 71
  rw [show (w.alloc (.cells #[.int .i64 0, .int .i64 0, .int .i64 0, .string ⟨#[]⟩, .slice none 0 0] 27)).heap.size = w.heap.size + 1 by simp] at hs
  refine ⟨⟨v, hs, ?_, Nat.zero_le _⟩, hb, (OwnAt.new w [.int .i64 0, .int .i64 0, .int .i64 0, .string ⟨#[]⟩, .slice none 0 0] 27).alloc _⟩
  have h2 := h.keep (keeps_below hb)
  obtain ⟨a', cap', b, off, hv, h1, h2, h3, h4, h5⟩ := h2
  exact ⟨a', cap', b, off, hv, h1, h2, h3.imp id (fun q => ⟨q.1, by have := q.2; omega⟩), h4, h5⟩
def GivesExT (w : World) (e : Ex) (r : Ending) (w' : World) : Prop := ∃ v, r = .returned (exV e v) ∧ Below w.heap.size w w' ∧ ExsAt (w.heap.size ≤ ·) w' e.args v ∧ I64 e.n
theorem exprT_any (raw0 : List Int) (rv : Value) (w : World) (hr : RawAt (· < w.heap.size) w raw0 rv) : Calls Tryz.prog 15 #[rv] w (GivesExT w (gExprTop raw0)) := by
  obtain ⟨ra, rc, rfl⟩ := hr.shape
  have HR := Lib.hid hr
  obtain ⟨raw, hraw⟩ : ∃ raw, raw = raw0.take 100 := ⟨_, rfl⟩
  have HRAW := Lib.hid hraw
  have HX := Lib.hid (fun wx (h : SrcAt wx (w.heap.size + 1) raw 0) => expr_all 6 (by omega) (w.heap.size + 1) raw 0 ⟨[], [], [], true, false⟩ (.slice none 0 0) (.slice none 0 0) (.slice none 0 0) wx h ⟨StrsAt.zero, ArsAt.zero, FusAt.zero, Nat.zero_le _, Nat.zero_le _, Nat.zero_le _, fun f hf => (by cases hf)⟩)
  have hg : gExprTop raw0 = (gExpr ⟨[], [], [], true, false⟩ raw 6 0).1 := by rw [hraw]; rfl
  rw [hg]
  generalize gExpr ⟨[], [], [], true, false⟩ raw 6 0 = X at *
  obtain ⟨e, ae⟩ := X
  clear hg hraw hr
  go_enter Tryz.func15, Tryz.ntmps15
  go_upto_if 9 with (fail)
  go_cut [] (fun wx => PreE w raw wx)
  case first =>
    by_cases h100 : 100 < raw0.length
    · have hlt : (100 : Int) < (raw0.length : Int) := by omega
      have hle : (100 : Int) ≤ (rc : Int) := by
        obtain ⟨a', cap', b, off, hv, h1, _⟩ := HR.out
        cases hv; omega
      go_wp2_with fail
      go_meet
      have hq := HR.out.take 100 (by omega) (by decide)
      rw [← HRAW.out] at hq
      have h1 : raw.length = 100 := by rw [HRAW.out, List.length_take]; omega
      exact preE_of w raw _ hq
    · have hlt : (raw0.length : Int) ≤ 100 := by omega
      have HQ : Hid (IntsAt (· < w.heap.size) w raw (.slice ra raw0.length rc)) := by
        have e : raw = raw0 := by rw [HRAW.out]; exact List.take_of_length_le (by omega)
        show IntsAt _ _ _ _
        rw [e]; have := HR.out.take raw0.length (Nat.le_refl _) (by omega); rwa [List.take_length] at this
      go_wp2_with fail
      go_meet
      exact preE_of w raw _ HQ.out
  case rest =>
  have HP0 := Lib.hid hcut
  clear hcut HR HRAW
  go_wp2_with fail
  refine (HX.out _ HP0.out.1).mono ?_
  rintro r w2 ⟨v, rfl, hs2, hf2, he2, hn2⟩
  obtain ⟨v1, v2, rfl⟩ := he2.shape
  have HO := Lib.hid (HP0.out.2.2.sfr hf2 (by omega))
  have HB := Lib.hid (HP0.out.2.1.trans ((hf2.below (Nat.le_of_lt HP0.out.1.lt)).mono (by omega)))
  have hsz : w.heap.size + 1 < w2.heap.size := hs2.lt
  have hx0 : w.heap.size + 1 < _ := HP0.out.1.lt
  have HE := Lib.hid (he2.mono (D' := (w.heap.size + 1 ≤ ·)) (fun b hb => by have : _ ≤ b := hb; omega))
  have HN := Lib.hid hn2
  clear hs2 hf2 he2 hn2 HP0 HX hx0
  obtain ⟨k, o, n, nm, us⟩ := e
  have c0 := HO.out.fz 0
  have c1 := HO.out.fz 1
  have hlt := HO.out.lt
  have x0 := HO.out.at 0 _ rfl
  have x1 := HO.out.at 1 _ rfl
  have x2 := HO.out.at 2 _ rfl
  have x3 := HO.out.at 3 _ rfl
  have x4 := HO.out.at 4 _ rfl
  have f2 := HO.out.fz 2
  have f3 := HO.out.fz 3
  have f4 := HO.out.fz 4
  go_wp2_with fail
  have HS := Lib.hid (((((HO.out.set 0 (.int .i64 (Ex.mk k o n nm us).kind)).set 1 (.int .i64 (Ex.mk k o n nm us).op)).set 2 (.int .i64 (Ex.mk k o n nm us).n)).set 3 (.string (strOf (Ex.mk k o n nm us).name))).set 4 (.slice v1 (Ex.mk k o n nm us).args.length v2))
  have d0 := HS.out.at 0 _ rfl
  have d1 := HS.out.at 1 _ rfl
  have d2 := HS.out.at 2 _ rfl
  have d3 := HS.out.at 3 _ rfl
  have d4 := HS.out.at 4 _ rfl
  have st : ∀ (v : World) (i : Nat) (x : Value), Below w.heap.size v (v.setCell ⟨w.heap.size, i, none⟩ x) := fun v i x => (Below.refl _ _).setCell (p := ⟨w.heap.size, i, none⟩) (Nat.le_refl _) x
  have kp : ∀ (v : World) (i : Nat) (x : Value), Keeps (w.heap.size + 1 ≤ ·) v (v.setCell ⟨w.heap.size, i, none⟩ x) := fun v i x => set_fresh v (Nat.lt_succ_self _) i x
  exact bodyPost_ret (v := exV (Ex.mk k o n nm us) (.slice v1 (Ex.mk k o n nm us).args.length v2)) (by simp [results, Tryz.results15, go_sem, d0, d1, d2, d3, d4]) rfl ⟨_, rfl, ((((HB.out.trans (st _ _ _)).trans (st _ _ _)).trans (st _ _ _)).trans (st _ _ _)).trans (st _ _ _), (((((HE.out.keep (kp _ _ _)).keep (kp _ _ _)).keep (kp _ _ _)).keep (kp _ _ _)).keep (kp _ _ _)).mono (fun b hb => by have : w.heap.size + 1 ≤ b := hb; omega), HN.out⟩
end Go.Proofs.YtcfpfnoldgnloaaGreatDoor

namespace Go.Proofs.YtcfpfnoldgnloaaGreatDoor
open Go.RowKit
set_option maxHeartbeats 1000000
set_option maxRecDepth 100000

/-- The block in which the buffer of the printer at b lies. -/
def own (w : World) (b : Nat) : Option Nat :=
  match w.heap[b]? with
  | some (.cells cs _ _) => (cs.getD 1 undef).ownBlock
  | _ => none
/-- A printer at b that holds the text bs. -/
def PrtAt (w : World) (b : Nat) (bs : Bs) (t : Int) : Prop :=
  ∃ p v, w.heap[b]? = some (.cells #[p, v, .int .i64 t] 81 (0, 0)) ∧ (p = .pointer none ∨ p = .pointer (some ⟨b, 0, none⟩)) ∧ w.ownsRow (b + 1) 5 1 v bs.length (Lib.byteCells bs)
/-- What may have changed: the printer and its buffer; new blocks. -/
structure PFr (b : Nat) (w w' : World) : Prop where
  os : w'.os = w.os
  tape : w'.tape = w.tape
  output : w'.output = w.output
  size : w.heap.size ≤ w'.heap.size
  block : ∀ k, k < w.heap.size → k ≠ b → own w b ≠ some k → w'.heap[k]? = w.heap[k]?
  own : own w' b = own w b ∨ ∃ k, w.heap.size ≤ k ∧ own w' b = some k
theorem PFr.refl (b : Nat) (w : World) : PFr b w w := ⟨rfl, rfl, rfl, Nat.le_refl _, fun _ _ _ _ => rfl, .inl rfl⟩
theorem PFr.trans {b : Nat} {u v w : World} (h : PFr b u v) (k : PFr b v w) : PFr b u w where
  os := k.os.trans h.os
  tape := k.tape.trans h.tape
  output := k.output.trans h.output
  size := Nat.le_trans h.size k.size
  block i hi hb ho := by
    refine (k.block i (Nat.lt_of_lt_of_le hi h.size) hb ?_).trans (h.block i hi hb ho)
    rcases h.own with e | ⟨j, hj, e⟩
    · rw [e]; exact ho
    · rw [e]; intro c; cases c; omega
  own := by
    rcases k.own with e | ⟨j, hj, e⟩
    · rcases h.own with e' | ⟨j, hj, e'⟩
      · exact .inl (e.trans e')
      · exact .inr ⟨j, hj, e.trans e'⟩
    · exact .inr ⟨j, Nat.le_trans h.size hj, e⟩
theorem own_of {w w' : World} {b : Nat} (h : w'.heap[b]? = w.heap[b]?) : own w' b = own w b := by simp [own, h]
theorem PFr.of_below {b : Nat} {w w' : World} (h : Below w.heap.size w w') (hb : b < w.heap.size) : PFr b w w' :=
  ⟨h.os, h.tape, h.output, h.size, fun k hk _ _ => h.block k hk, .inl (own_of (h.block b hb))⟩
theorem PrtAt.lt {w : World} {b : Nat} {bs : Bs} {t : Int} (h : PrtAt w b bs t) : b < w.heap.size := by
  obtain ⟨p, v, hb, _⟩ := h
  rcases Nat.lt_or_ge b w.heap.size with h' | h'
  · exact h'
  · simp [Array.getElem?_eq_none h'] at hb
theorem PrtAt.own_gt {w : World} {b : Nat} {bs : Bs} {t : Int} (h : PrtAt w b bs t) {k : Nat} (ho : own w b = some k) : b < k ∧ k < w.heap.size := by
  obtain ⟨p, v, hb, _, hown⟩ := h
  have : v.ownBlock = some k := by simpa [own, hb] using ho
  have := hown.lt k this
  omega
theorem PFr.below {w w' : World} {b : Nat} {bs : Bs} {t : Int} (h : PFr b w w') (hp : PrtAt w b bs t) : Below b w w' :=
  ⟨h.os, h.tape, h.output, h.size, fun k hk => h.block k (by have := hp.lt; omega) (by omega) (fun e => by have := hp.own_gt e; omega)⟩
/-- A printer stays where nothing is written. -/
theorem PrtAt.old {w w' : World} {b : Nat} {bs : Bs} {t : Int} (hp : PrtAt w b bs t) (h : Below w.heap.size w w') : PrtAt w' b bs t := by
  obtain ⟨p, v, hb, hq, hown⟩ := hp
  have hlt : b < w.heap.size := PrtAt.lt ⟨p, v, hb, hq, hown⟩
  refine ⟨p, v, (h.block b hlt).trans hb, hq, hown.1, ?_⟩
  rcases hown.2 with e | ⟨g, cap, cur, hv, hg, hh, r⟩
  · exact .inl e
  · refine .inr ⟨g, cap, cur, hv, hg, ?_, r⟩
    have hl : g < w.heap.size := by
      rcases Nat.lt_or_ge g w.heap.size with h' | h'
      · exact h'
      · simp [Array.getElem?_eq_none h'] at hh
    exact (h.block g hl).trans hh
/-- A row of a caller's own, apart from the printer and its buffer. -/
def Loc (w : World) (b X : Nat) (cs : List Value) : Prop := X ≠ b ∧ own w b ≠ some X ∧ X < w.heap.size ∧ RowAt w X 0 cs
theorem Loc.step {w w' : World} {b X : Nat} {cs : List Value} (h : Loc w b X cs) (hf : PFr b w w') : Loc w' b X cs := by
  obtain ⟨h1, h2, h3, h4⟩ := h
  refine ⟨h1, ?_, Nat.lt_of_lt_of_le h3 hf.size, fun i hi => ?_⟩
  · rcases hf.own with e | ⟨j, hj, e⟩
    · rw [e]; exact h2
    · rw [e]; intro c; cases c; omega
  · rw [World.cell?_of_block (w := w) (hf.block X h3 h1 h2)]; exact h4 i hi
theorem Loc.new {w : World} {b : Nat} {bs : Bs} {t : Int} (hp : PrtAt w b bs t) (cs : List Value) (T : TypeId) : Loc (w.alloc (.cells cs.toArray T)) b w.heap.size cs := by
  refine ⟨by have := hp.lt; omega, ?_, by simp, fun i hi => by simp⟩
  rw [own_of (Below.heap_alloc w _ b hp.lt)]
  intro e; have := (hp.own_gt e).2; omega
theorem Loc.cell {w : World} {b X : Nat} {cs : List Value} (h : Loc w b X cs) (i : Nat) (hi : i < cs.length) : w.cell? ⟨X, i, none⟩ = some cs[i] := by
  have := h.2.2.2 i hi; simpa using this
/-- What lies below the printer stays. -/
theorem PFr.keeps {w w' : World} {b : Nat} {bs : Bs} {t : Int} (h : PFr b w w') (hp : PrtAt w b bs t) : Keeps (· < b) w w' :=
  fun k off x hk hx => by rw [(h.below hp).cell (p := ⟨k, off, none⟩) hk]; exact hx

theorem infoByte : (Tryz.prog.info? 5).map (fun i => (i.zero, i.size, i.bytes)) = some (some (.int .u8 0), 1, 1) := by kernel_rfl
theorem infoBuilder : (Tryz.prog.info? 79).map (fun i => i.size) = some 2 := by kernel_rfl
theorem liesBuilder : liesAt Tryz.prog Tryz.prog.depth 81 (3 / Tryz.prog.cellsOf 81) 0 79 1 = true := by kernel_rfl

/-- copyCheck. -/
theorem copyCheck_used (b : Nat) (w : World) (h0 : w.cell? ⟨b, 0, none⟩ = some (.pointer (some ⟨b, 0, none⟩))) :
    Calls Tryz.prog 186 #[.pointer (some ⟨b, 0, none⟩)] w fun e w' => e = .returned (.tuple #[]) ∧ w = w' := by
  obtain ⟨j, hj, _⟩ := Option.map_eq_some_iff.1 infoBuilder
  go_enter Tryz.func186, Tryz.ntmps186
  go_wp2_with fail
  rw [Lib.run_neq_ptr_same w _ Tryz.underlying76 hj]
  go_wp2_with fail
  go_end0
  exact ⟨rfl, rfl⟩
theorem copyCheck_fresh (b : Nat) (w : World) (h0 : w.cell? ⟨b, 0, none⟩ = some (.pointer none)) (hsh : w.shape? b = some (81, 3)) (hfz : w.frozen? ⟨b, 0, none⟩ = false) :
    Calls Tryz.prog 186 #[.pointer (some ⟨b, 0, none⟩)] w fun e w' => e = .returned (.tuple #[]) ∧ w' = w.setCell ⟨b, 0, none⟩ (.pointer (some ⟨b, 0, none⟩)) := by
  obtain ⟨j, hj, hjs⟩ := Option.map_eq_some_iff.1 infoBuilder
  go_enter Tryz.func186, Tryz.ntmps186
  go_wp2_with fail
  rw [Lib.run_to_unsafe w ⟨b, 0, none⟩ Tryz.underlying76 Tryz.underlying208 hj (by rw [hjs]; decide) hsh (Nat.zero_lt_succ 2)]
  simp only [Result.andThen]
  rw [Oper.upon_value]
  go_wp2_with fail
  rw [run_callFunc_extern Tryz.func205 (by kernel_rfl) (by kernel_rfl) (by kernel_rfl) (e := Extern.AbiNoEscape.same) (by kernel_rfl)]
  rw [Lib.run_noEscape]
  simp only [Result.andThen]
  rw [Oper.upon_value]
  go_wp2_with fail
  rw [Lib.run_from_unsafe w ⟨b, 0, none⟩ Tryz.underlying208 Tryz.underlying76 hj hsh liesBuilder]
  simp only [Result.andThen]
  rw [Oper.upon_value]
  go_wp2_with fail
  go_end0
  exact ⟨rfl, rfl⟩
end Go.Proofs.YtcfpfnoldgnloaaGreatDoor

namespace Go.Proofs.YtcfpfnoldgnloaaGreatDoor
open Go.RowKit
set_option maxHeartbeats 2000000
set_option maxRecDepth 100000

/-- What a function that puts a text leaves. -/
def Puts (w : World) (b : Nat) (bs : Bs) (t : Int) (txt : Bs) (r : Ending) (w' : World) : Prop := r = .returned (.tuple #[]) ∧ PrtAt w' b (bs ++ txt) t ∧ PFr b w w'

theorem copyCheck_any (b : Nat) (bs : Bs) (t : Int) (w : World) (h : PrtAt w b bs t) :
    Calls Tryz.prog 186 #[.pointer (some ⟨b, 0, none⟩)] w fun e w' => e = .returned (.tuple #[]) ∧ PFr b w w' ∧
      ∃ v, w'.heap[b]? = some (.cells #[.pointer (some ⟨b, 0, none⟩), v, .int .i64 t] 81 (0, 0)) ∧ w'.ownsRow (b + 1) 5 1 v bs.length (Lib.byteCells bs) := by
  have hlt := h.lt
  obtain ⟨p, v, hb, hq, hown⟩ := h
  rcases hq with rfl | rfl
  · refine (copyCheck_fresh b w (by rw [Lib.cell_of_heap hb]; rfl) (by simp [World.shape?, hb]) (Lib.frozen_of_heap hb 0)).mono ?_
    rintro e w' ⟨rfl, rfl⟩
    have hb' : (w.setCell ⟨b, 0, none⟩ (.pointer (some ⟨b, 0, none⟩))).heap[b]? = some (.cells #[.pointer (some ⟨b, 0, none⟩), v, .int .i64 t] 81 (0, 0)) := by
      simp [World.setCell, Array.getElem?_modify, hb]
    refine ⟨rfl, ⟨rfl, rfl, rfl, by simp [World.setCell], fun k _ hk _ => Below.heap_setCell _ _ _ _ hk, .inl (by simp [own, hb, hb'])⟩, v, hb', ?_⟩
    refine hown.kept (row := some b) ⟨rfl, rfl, rfl, by simp [World.setCell], fun k _ hk => Below.heap_setCell _ _ _ _ (fun e => hk (by simp [e]))⟩ (Or.inr ?_)
    intro e; have := hown.lt b e; omega
  · refine (copyCheck_used b w (by rw [Lib.cell_of_heap hb]; rfl)).mono ?_
    rintro e w' ⟨rfl, rfl⟩
    exact ⟨rfl, PFr.refl _ _, v, hb, hown⟩

/-- Where a text is appended: the buffer stays in its block, or comes into a new one. -/
theorem append_str (P : Program) (w : World) (base : Nat) (t u ty e : TypeId) (i : TypeInfo) (ht : P.underlying t = some (.slice e)) (hu : P.underlying u = some .string) (hi : P.info? e = some i) (hz : i.zero = some (.int .u8 0))
    (hsize : i.size = 1) (hby : i.bytes = 1) (v : Value) (n : Nat) (xs : List Value) (hown : w.ownsRow base e 1 v n xs) (s : ByteArray)
    (h63 : n + s.size ≤ maxLen) (hbytes : n + s.size ≤ 140737488355328) (hbase : base ≤ w.heap.size) :
    ∃ v' w', (Builtin.append_ #[t, u] ty #[v, .string s]).run P w = .ok v' w' ∧ w'.ownsRow base e 1 v' (n + s.size) (xs ++ Lib.strCells s) ∧ w.grownBy w' v.ownBlock ∧
      (v'.ownBlock = v.ownBlock ∨ ∃ k, w.heap.size ≤ k ∧ v'.ownBlock = some k) := by
  obtain ⟨v', w', hr, h2, h3, h4⟩ := Lib.run_append_own_string (P := P) w base t u ty e i ht hu hi hz hsize hby v n xs hown s h63 hbytes hbase
  refine ⟨v', w', hr, h2, h3, ?_⟩
  have h63' : n + s.size ≤ 9223372036854775807 := by simp only [maxLen] at h63; omega
  rcases hown.2 with ⟨rfl, rfl⟩ | ⟨g, cap, cur, rfl, hbg, hg, hnc, hcm, hcs, htake⟩
  · by_cases hm : s.size = 0
    · rw [h4.2 ⟨rfl, hm⟩]; exact .inl rfl
    · have hq := run_append_nil_string (P := P) w t u ty e i (.int .u8 0) ht hu hi hz s (by omega) (by omega) (by rw [hby]; omega)
      rw [hr] at hq
      cases hq
      exact .inr ⟨w.heap.size, Nat.le_refl _, rfl⟩
  · by_cases hroom : n + s.size ≤ cap
    · have hcs' : cur.size = cap := by simpa using hcs
      have hq := Lib.run_append_room_string (P := P) w t u ty e i ht hu hi hsize g n cap cur hg s hroom (by omega)
      rw [hr] at hq
      cases hq
      exact .inl rfl
    · have hxl : xs.length = n := by simpa using hown.1
      have holds : ∀ j u, xs[j]? = some u → w.cell? ((⟨g, 0, none⟩ : Addr).add j) = some u := hown.cells (g := g) rfl
      have hq := Lib.run_append_grow_string (P := P) w t u ty e i (.int .u8 0) ht hu hi hz ⟨g, 0, none⟩ n cap xs (by rw [hsize]; simpa using hxl) holds s (by omega) (by omega) (by rw [hby]; exact growslice_fits (by omega) (by omega))
      rw [hr] at hq
      cases hq
      exact .inr ⟨w.heap.size, Nat.le_refl _, rfl⟩
theorem wpList_append_str {P : Program} {w : World} {ops : Array Oper} {rest : List Oper} {o : Oper} {a : Act} {Q : Exit → Act → World → Prop} (hgd : o.guard = none) (sl x : Operand) (t u : TypeId)
    (ho : o.op = .call { callee := .builtin .append, args := #[sl, x], argTypes := #[t, u] })
    (base : Nat) (e : TypeId) (i : TypeInfo) (ht : P.underlying t = some (.slice e)) (hu : P.underlying u = some .string) (hi : P.info? e = some i) (hz : i.zero = some (.int .u8 0))
    (hsize : i.size = 1) (hby : i.bytes = 1)
    (v : Value) (n : Nat) (xs : List Value) (hs : a.eval sl = v) (hown : w.ownsRow base e 1 v n xs) (s : ByteArray) (hx : a.eval x = .string s)
    (h63 : n + s.size ≤ maxLen) (hbytes : n + s.size ≤ 140737488355328) (hbase : base ≤ w.heap.size)
    (h : ∀ v' w', w'.ownsRow base e 1 v' (n + s.size) (xs ++ Lib.strCells s) → w.grownBy w' v.ownBlock → (v'.ownBlock = v.ownBlock ∨ ∃ k, w.heap.size ≤ k ∧ v'.ownBlock = some k) → wpList P ops Q rest (a.put o.dst v') w') : wpList P ops Q (o :: rest) a w := by
  refine wpList_plain hgd fun K hK => ?_
  obtain ⟨v', w', hr, h2, h3, h4⟩ := append_str P w base t u o.type e i ht hu hi hz hsize hby v n xs hown s h63 hbytes hbase
  unfold Oper.wp execOp
  simp only [ho, resolve, invoke, builtin, Sem.run_bind, Sem.run_pure, Result.andThen_ok, List.map_toArray, List.map_cons, List.map_nil, hs, hx, hr]
  exact hK _ _ (h v' w' h2 h3 h4)

theorem strCells_strOf (s : Bs) : Lib.strCells (strOf s) = Lib.byteCells s := by simp [Lib.strCells, Lib.byteCells]
theorem byteCells_app (a c : Bs) : Lib.byteCells a ++ Lib.byteCells c = Lib.byteCells (a ++ c) := by simp [Lib.byteCells]

theorem writeString_any (s : Bs) (b : Nat) (bs : Bs) (t : Int) (w : World) (h : PrtAt w b bs t) (hlen : Fits (bs.length + s.length)) :
    Calls Tryz.prog 129 #[.pointer (some ⟨b, 0, none⟩), .string (strOf s)] w fun e w' => e = .returned (.tuple #[.int .i64 s.length, .nilIface]) ∧ PrtAt w' b (bs ++ s) t ∧ PFr b w w' := by
  obtain ⟨i0, hi, hz0, hz1, hz2⟩ := info_parts infoByte
  have hlt := h.lt
  have HL : Hid (bs.length + s.length ≤ 140737488355328) := hlen
  clear hlen
  go_enter Tryz.func129, Tryz.ntmps129
  go_wp2_with fail
  refine (copyCheck_any b bs t _ h).mono ?_
  rintro e w1 ⟨rfl, hf1, v, hbk, hown⟩
  have HF1 := Lib.hid hf1
  have hs1 := hf1.size
  clear hf1 h
  have c0 : w1.cell? ⟨b, 0, none⟩ = some (.pointer (some ⟨b, 0, none⟩)) := by rw [Lib.cell_of_heap hbk]; rfl
  have c1 : w1.cell? ⟨b, 1, none⟩ = some v := by rw [Lib.cell_of_heap hbk]; rfl
  go_wp2_with (at_builtin; refine wpList_append_str (P := Tryz.prog) rfl _ _ 77 9 rfl (b + 1) 5 i0 Tryz.underlying77 Tryz.underlying9 hi hz0 hz1 hz2 _ _ _ rfl hown (strOf s) rfl ?c3 ?c4 ?c5 ?_)
  case c3 => have := HL.out; unfold maxLen; show bs.length + s.length ≤ _; omega
  case c4 => exact HL.out
  case c5 => omega
  intro v' w2 hown' hgrow hwhere
  have hlt1 : b < w1.heap.size := by omega
  have hb2 : w2.heap[b]? = some (.cells #[.pointer (some ⟨b, 0, none⟩), v, .int .i64 t] 81 (0, 0)) := by
    rw [hgrow.block b hlt1 (fun e => by have := hown.lt b e.symm; omega)]
    exact hbk
  have d0 : w2.cell? ⟨b, 0, none⟩ = some (.pointer (some ⟨b, 0, none⟩)) := by rw [Lib.cell_of_heap hb2]; rfl
  have d1 : w2.cell? ⟨b, 1, none⟩ = some v := by rw [Lib.cell_of_heap hb2]; rfl
  have f1 : w2.frozen? ⟨b, 1, none⟩ = false := Lib.frozen_of_heap hb2 1
  obtain ⟨ao, n', cap, rfl⟩ : ∃ ao n' cap, v' = .slice ao n' cap := by
    rcases hown'.2 with ⟨hv, _⟩ | ⟨g, cap, cur, hv, _⟩
    · exact ⟨_, _, _, hv⟩
    · exact ⟨_, _, _, hv⟩
  have HBK := Lib.hid hbk; have HB2 := Lib.hid hb2; have HOWN := Lib.hid hown; have HOWN' := Lib.hid hown'; have HG := Lib.hid hgrow; have HW := Lib.hid hwhere
  clear hbk hb2 hown hown' hgrow hwhere
  go_wp2_with fail
  go_ret2
  have hb3 : (w2.setCell ⟨b, 1, none⟩ (.slice ao n' cap)).heap[b]? = some (.cells #[.pointer (some ⟨b, 0, none⟩), .slice ao n' cap, .int .i64 t] 81 (0, 0)) := by
    simp [World.setCell, Array.getElem?_modify, HB2.out]
  have own1 : own w1 b = v.ownBlock := by simp [own, HBK.out]
  have own3 : own (w2.setCell ⟨b, 1, none⟩ (.slice ao n' cap)) b = (Value.slice ao n' cap).ownBlock := by simp [own, hb3]
  refine ⟨rfl, ⟨_, _, hb3, .inr rfl, ?_⟩, HF1.out.trans ⟨?_, ?_, ?_, ?_, ?_, ?_⟩⟩
  · have q := HOWN'.out
    rw [strCells_strOf, byteCells_app] at q
    rw [show (bs ++ s).length = bs.length + (strOf s).size from by simp; rfl]
    refine q.kept (row := some b) ⟨rfl, rfl, rfl, by simp [World.setCell], fun k _ hk => Below.heap_setCell _ _ _ _ (fun e => hk (by simp [e]))⟩ (Or.inr ?_)
    intro e; have := q.lt b e; omega
  · exact HG.out.os
  · exact HG.out.tape
  · exact HG.out.output
  · have := HG.out.size; simp [World.setCell]; omega
  · intro k hk hkb hko
    rw [Below.heap_setCell _ _ _ _ (by simpa using hkb)]
    exact HG.out.block k hk (fun e => hko (by rw [own1]; exact e.symm))
  · rw [own3, own1]; exact HW.out
end Go.Proofs.YtcfpfnoldgnloaaGreatDoor
