/-
  scope.call of a function that there is. Conditions: as scope.call.
  scope.expr and scope.call, at every depth. Conditions: the source and the scope lie in memory as the types say.
-/
import Derived.Test.YtgmaeflfiooigaaGreatDoorTreeN
import Derived.Test.YtgmaeflfiooigaaGreatDoorTreeM
set_option linter.unusedVariables false
set_option linter.unusedSimpArgs false
namespace Go.Proofs.YtgmaeflfiooigaaGreatDoor
open Go.RowKit
set_option maxHeartbeats 4000000
set_option maxRecDepth 100000

theorem call_of (d : Nat) (hd : 2 ≤ d) (hd1 : d ≤ 1000) (ih : ExprTake (d - 1)) (s : Nat) (raw : List Int) (a : Nat) (sc : Sc) (vv av fv : Value) (w : World) (hs : SrcAt w s raw a) (hsc : ScAt s w sc vv av fv) (h : (sc.free || sc.funcs.isEmpty) = false) :
    Calls Tryz.prog 70 #[scV sc vv av fv, .pointer (some ⟨s, 0, none⟩), .int .i64 d] w (GivesEx w s raw (gCall sc raw (gExpr sc raw (d - 1)) a)) := by
  have hpos : 0 < sc.funcs.length := gpos (by rw [h]; simp)
  have hf : sc.free = false := by revert h; cases sc.free <;> simp
  obtain ⟨v1, v2, rfl⟩ := hsc.vars.shape
  obtain ⟨a1, a2, rfl⟩ := hsc.arrays.shape
  obtain ⟨f1, f2, rfl⟩ := hsc.funcs.shape
  have lf := hsc.f1
  have hsl := hs.lt
  have hb1 : Below w.heap.size w (((w.alloc (.cells #[.slice v1 sc.vars.length v2, .slice a1 sc.arrays.length a2, .slice f1 sc.funcs.length f2, .bool sc.free, .bool sc.loop] 69)).alloc (.cells #[.int .i64 0, .int .i64 0, .int .i64 0, .string ⟨#[]⟩, .slice none 0 0] 31)).alloc (.cells #[.int .i64 5, .int .i64 0, .int .i64 0, .string ⟨#[]⟩, .slice none 0 0] 31)) := (((Below.refl _ _).alloc (Nat.le_refl _) _).alloc (by simp) _).alloc (by simp; omega) _
  have hc1 : OwnAt (((w.alloc (.cells #[.slice v1 sc.vars.length v2, .slice a1 sc.arrays.length a2, .slice f1 sc.funcs.length f2, .bool sc.free, .bool sc.loop] 69)).alloc (.cells #[.int .i64 0, .int .i64 0, .int .i64 0, .string ⟨#[]⟩, .slice none 0 0] 31)).alloc (.cells #[.int .i64 5, .int .i64 0, .int .i64 0, .string ⟨#[]⟩, .slice none 0 0] 31)) w.heap.size [.slice v1 sc.vars.length v2, .slice a1 sc.arrays.length a2, .slice f1 sc.funcs.length f2, .bool sc.free, .bool sc.loop] 69 := ((OwnAt.new w _ _).alloc _).alloc _
  have hr1 := OwnAt.new (w.alloc (.cells #[.slice v1 sc.vars.length v2, .slice a1 sc.arrays.length a2, .slice f1 sc.funcs.length f2, .bool sc.free, .bool sc.loop] 69)) [.int .i64 0, .int .i64 0, .int .i64 0, .string ⟨#[]⟩, .slice none 0 0] 31
  rw [show (w.alloc (.cells #[.slice v1 sc.vars.length v2, .slice a1 sc.arrays.length a2, .slice f1 sc.funcs.length f2, .bool sc.free, .bool sc.loop] 69)).heap.size = w.heap.size + 1 by simp] at hr1
  have hr1 : OwnAt (((w.alloc (.cells #[.slice v1 sc.vars.length v2, .slice a1 sc.arrays.length a2, .slice f1 sc.funcs.length f2, .bool sc.free, .bool sc.loop] 69)).alloc (.cells #[.int .i64 0, .int .i64 0, .int .i64 0, .string ⟨#[]⟩, .slice none 0 0] 31)).alloc (.cells #[.int .i64 5, .int .i64 0, .int .i64 0, .string ⟨#[]⟩, .slice none 0 0] 31)) (w.heap.size + 1) [.int .i64 0, .int .i64 0, .int .i64 0, .string ⟨#[]⟩, .slice none 0 0] 31 := OwnAt.alloc hr1 _
  have he1 := OwnAt.new ((w.alloc (.cells #[.slice v1 sc.vars.length v2, .slice a1 sc.arrays.length a2, .slice f1 sc.funcs.length f2, .bool sc.free, .bool sc.loop] 69)).alloc (.cells #[.int .i64 0, .int .i64 0, .int .i64 0, .string ⟨#[]⟩, .slice none 0 0] 31)) [.int .i64 5, .int .i64 0, .int .i64 0, .string ⟨#[]⟩, .slice none 0 0] 31
  rw [show ((w.alloc (.cells #[.slice v1 sc.vars.length v2, .slice a1 sc.arrays.length a2, .slice f1 sc.funcs.length f2, .bool sc.free, .bool sc.loop] 69)).alloc (.cells #[.int .i64 0, .int .i64 0, .int .i64 0, .string ⟨#[]⟩, .slice none 0 0] 31)).heap.size = w.heap.size + 2 by simp] at he1
  have he1 : OwnAt (((w.alloc (.cells #[.slice v1 sc.vars.length v2, .slice a1 sc.arrays.length a2, .slice f1 sc.funcs.length f2, .bool sc.free, .bool sc.loop] 69)).alloc (.cells #[.int .i64 0, .int .i64 0, .int .i64 0, .string ⟨#[]⟩, .slice none 0 0] 31)).alloc (.cells #[.int .i64 5, .int .i64 0, .int .i64 0, .string ⟨#[]⟩, .slice none 0 0] 31)) (w.heap.size + 2) [.int .i64 5, .int .i64 0, .int .i64 0, .string ⟨#[]⟩, .slice none 0 0] 31 := he1
  have HC1 := Lib.hid hc1; have HR1 := Lib.hid hr1; have HE1 := Lib.hid he1
  have HS1 := Lib.hid (hs.old hb1); have HF1 : Hid (SFr s w (((w.alloc (.cells #[.slice v1 sc.vars.length v2, .slice a1 sc.arrays.length a2, .slice f1 sc.funcs.length f2, .bool sc.free, .bool sc.loop] 69)).alloc (.cells #[.int .i64 0, .int .i64 0, .int .i64 0, .string ⟨#[]⟩, .slice none 0 0] 31)).alloc (.cells #[.int .i64 5, .int .i64 0, .int .i64 0, .string ⟨#[]⟩, .slice none 0 0] 31))) := SFr.of_below hb1
  have HSC := Lib.hid hsc
  have HDM : Hid (((d - 1 : Nat) : Int) = (d : Int) - 1) := by show _ = _; omega
  have HIH : Hid (∀ w1 b, SrcAt w1 s raw b → ScAt s w1 sc (.slice v1 sc.vars.length v2) (.slice a1 sc.arrays.length a2) (.slice f1 sc.funcs.length f2) → Calls Tryz.prog 35 #[scV sc (.slice v1 sc.vars.length v2) (.slice a1 sc.arrays.length a2) (.slice f1 sc.funcs.length f2), .pointer (some ⟨s, 0, none⟩), .int .i64 ((d : Int) - 1)] w1 (GivesEx w1 s raw (gExpr sc raw (d - 1) b))) := fun w1 b h1 h2 => by have q := ih s raw b sc _ _ _ w1 h1 h2; rw [HDM.out] at q; exact q
  have HZ : Hid (w.heap.size + 1 ≠ s) := by show _ ≠ _; omega
  have HY : Hid (w.heap.size ≠ s) := by show _ ≠ _; omega
  have HX : Hid (w.heap.size + 2 ≠ s) := by show _ ≠ _; omega
  have hd0 : (2 : Int) ≤ (d : Int) := by omega
  have hdM : (d : Int) ≤ 1000 := by omega
  clear hb1 hc1 hr1 he1 hs ih
  have E : gCall sc raw (gExpr sc raw (d - 1)) a = (.mk 5 0 0 (fuAt sc.funcs (gNext raw a sc.funcs.length).1.toNat).name (gMany (gExpr sc raw (d - 1)) (fuAt sc.funcs (gNext raw a sc.funcs.length).1.toNat).params.length (gNext raw a sc.funcs.length).2).1, (gMany (gExpr sc raw (d - 1)) (fuAt sc.funcs (gNext raw a sc.funcs.length).1.toNat).params.length (gNext raw a sc.funcs.length).2).2) := by unfold gCall; rw [if_neg (by rw [h]; simp)]
  rw [E]
  clear E
  have HN : Hid (∀ w1, SrcAt w1 s raw a → Calls Tryz.prog 32 #[.pointer (some ⟨s, 0, none⟩), .int .i64 sc.funcs.length] w1 (Takes w1 s raw (.int .i64 (gNext raw a sc.funcs.length).1) (gNext raw a sc.funcs.length).2)) := fun w1 h1 => next_any s raw a sc.funcs.length w1 h1 (by omega) (by omega)
  have hr := gNext_range raw a sc.funcs.length (by omega)
  generalize gNext raw a sc.funcs.length = g at *
  obtain ⟨i, a0⟩ := g
  obtain ⟨i0, i1⟩ := hr
  dsimp only at *
  obtain ⟨i, rfl⟩ := Int.eq_ofNat_of_zero_le i0
  rw [Int.toNat_natCast]
  have hi : i < sc.funcs.length := by omega
  obtain ⟨eb, off, xp, xl, xb, rfl, hD, hbl, z0, z1, z2, z3, hxp, hxl, hxb⟩ := FusAt.cellAt hsc.funcs i hi
  obtain ⟨p1, p2, rfl⟩ := hxp.shape
  obtain ⟨l1, l2, rfl⟩ := hxl.shape
  obtain ⟨y1, y2, rfl⟩ := hxb.shape
  have hc6 : (fuAt sc.funcs i).params.length ≤ 1000000 := hsc.p1 _ (fuAt_mem hi)
  have heb : eb ≠ s := hD
  generalize fuAt sc.funcs i = x at *
  have hb1 : Below w.heap.size w (((w.alloc (.cells #[.slice v1 sc.vars.length v2, .slice a1 sc.arrays.length a2, .slice (some ⟨eb, off, none⟩) sc.funcs.length f2, .bool sc.free, .bool sc.loop] 69)).alloc (.cells #[.int .i64 0, .int .i64 0, .int .i64 0, .string ⟨#[]⟩, .slice none 0 0] 31)).alloc (.cells #[.int .i64 5, .int .i64 0, .int .i64 0, .string ⟨#[]⟩, .slice none 0 0] 31)) := (((Below.refl _ _).alloc (Nat.le_refl _) _).alloc (by simp) _).alloc (by simp; omega) _
  replace z0 := below_keeps hb1 z0
  replace z1 := below_keeps hb1 z1
  replace z2 := below_keeps hb1 z2
  replace z3 := below_keeps hb1 z3
  clear hb1 h hxp hxl hxb hD hsc
  unfold scV at HIH ⊢
  rw [hf] at HC1 HR1 HE1 HS1 HF1 HIH z0 z1 z2 z3 ⊢
  clear hf
  have hne : ((sc.funcs.length : Int) == 0) = false := beq_eq_false_iff_ne.2 (by omega)
  generalize sc.funcs.length = fn at *
  have b0 := HC1.out.at 0 _ rfl
  have b1 := HC1.out.at 1 _ rfl
  have b2 := HC1.out.at 2 _ rfl
  have b3 := HC1.out.at 3 _ rfl
  have b4 := HC1.out.at 4 _ rfl
  go_enter Tryz.func70, Tryz.ntmps70
  go_upto_if 19 with (fail)
  generalize (((w.alloc (.cells #[.slice v1 sc.vars.length v2, .slice a1 sc.arrays.length a2, .slice (some ⟨eb, off, none⟩) fn f2, .bool false, .bool sc.loop] 69)).alloc (.cells #[.int .i64 0, .int .i64 0, .int .i64 0, .string ⟨#[]⟩, .slice none 0 0] 31)).alloc (.cells #[.int .i64 5, .int .i64 0, .int .i64 0, .string ⟨#[]⟩, .slice none 0 0] 31)) = W1 at *
  go_cut [8] (fun q wx => q = .int .i64 x.params.length ∧ SrcAt wx s raw a0 ∧ SFr s w wx ∧ OwnAt wx w.heap.size [.slice v1 sc.vars.length v2, .slice a1 sc.arrays.length a2, .slice (some ⟨eb, off, none⟩) fn f2, .bool false, .bool sc.loop] 69 ∧ OwnAt wx (w.heap.size + 1) [.int .i64 0, .int .i64 0, .int .i64 0, .string ⟨#[]⟩, .slice none 0 0] 31 ∧ OwnAt wx (w.heap.size + 2) [.int .i64 5, .int .i64 0, .int .i64 0, .string (strOf x.name), .slice none 0 0] 31)
  case first =>
    go_upto_region 6 with (fail)
    have hdr : Below W1.heap.size W1 W1.drew := (Below.refl _ _).drew
    have HSd := Lib.hid (HS1.out.old hdr); have HFd := Lib.hid (HF1.out.trans (SFr.of_below hdr)); have HCd := Lib.hid (HC1.out.old hdr); have HRd := Lib.hid (HR1.out.old hdr); have HEd := Lib.hid (HE1.out.old hdr)
    have z0d : W1.drew.cell? ⟨eb, off + i * 4, none⟩ = some (.string (strOf x.name)) := z0
    have z1d : W1.drew.cell? ⟨eb, off + i * 4 + 1, none⟩ = some (.slice p1 x.params.length p2) := z1
    have z2d : W1.drew.cell? ⟨eb, off + i * 4 + 2, none⟩ = some (.slice l1 x.locals.length l2) := z2
    have z3d : W1.drew.cell? ⟨eb, off + i * 4 + 3, none⟩ = some (.slice y1 x.body.length y2) := z3
    have hX1 := HE1.out.lt
    have hsW : s < W1.heap.size := HS1.out.lt
    have hWs : W1.heap.size ≠ s := by omega
    have hsx : s < w.heap.size + 2 := by omega
    have hge : w.heap.size ≤ w.heap.size + 2 := by omega
    have hgW : w.heap.size ≤ W1.heap.size := by omega
    have hebW : eb ≠ W1.heap.size := by omega
    have hwW : w.heap.size ≠ W1.heap.size := by omega
    have hwW1 : w.heap.size + 1 ≠ W1.heap.size := by omega
    have hwW2 : w.heap.size + 2 ≠ W1.heap.size := by omega
    clear hdr
    go_region_held3 (fun w' => w'.cell? ⟨w.heap.size, 2, none⟩ = some (.slice (some ⟨eb, off, none⟩) fn f2) ∧ w'.cell? ⟨eb, off + i * 4, none⟩ = some (.string (strOf x.name)) ∧ w'.cell? ⟨eb, off + i * 4 + 1, none⟩ = some (.slice p1 x.params.length p2) ∧ w'.cell? ⟨eb, off + i * 4 + 2, none⟩ = some (.slice l1 x.locals.length l2) ∧ w'.cell? ⟨eb, off + i * 4 + 3, none⟩ = some (.slice y1 x.body.length y2)) (first | (simp [*, World.cell?_alloc_lt, cell_set_ne]; done) | go_keep) (first
      | (go_at_call 32; refine (HN.out _ (by first | exact HSd.out | exact HSd.out.alloc _)).mono ?_; rintro r w4 ⟨he, hs4, hf4⟩; subst he; have HS4 := Lib.hid hs4; have HF4 : Hid (SFr s w w4) := (by first | exact HFd.out.trans hf4 | exact (HFd.out.trans (SFr.alloc _)).trans hf4); have hC4 : OwnAt w4 w.heap.size _ _ := (by first | exact HCd.out.sfr hf4 HY.out | exact (HCd.out.alloc _).sfr hf4 HY.out); have hR4 : OwnAt w4 (w.heap.size + 1) _ _ := (by first | exact HRd.out.sfr hf4 HZ.out | exact (HRd.out.alloc _).sfr hf4 HZ.out); have hE4 : OwnAt w4 (w.heap.size + 2) _ _ := (by first | exact HEd.out.sfr hf4 HX.out | exact (HEd.out.alloc _).sfr hf4 HX.out); have HC4 := Lib.hid hC4; have HR4 := Lib.hid hR4; have HE4 := Lib.hid hE4; have k2 := hC4.at 2 _ rfl; have m0 : w4.cell? ⟨eb, off + i * 4, none⟩ = some (.string (strOf x.name)) := (by first | exact hf4.cell heb z0d | exact hf4.cell heb (below_keeps ((Below.refl _ _).alloc (Nat.le_refl _) _) z0d)); have m1 : w4.cell? ⟨eb, off + i * 4 + 1, none⟩ = some (.slice p1 x.params.length p2) := (by first | exact hf4.cell heb z1d | exact hf4.cell heb (below_keeps ((Below.refl _ _).alloc (Nat.le_refl _) _) z1d)); have m2 : w4.cell? ⟨eb, off + i * 4 + 2, none⟩ = some (.slice l1 x.locals.length l2) := (by first | exact hf4.cell heb z2d | exact hf4.cell heb (below_keeps ((Below.refl _ _).alloc (Nat.le_refl _) _) z2d)); have m3 : w4.cell? ⟨eb, off + i * 4 + 3, none⟩ = some (.slice y1 x.body.length y2) := (by first | exact hf4.cell heb z3d | exact hf4.cell heb (below_keeps ((Below.refl _ _).alloc (Nat.le_refl _) _) z3d)); have g3 := hE4.fz 3; have g4 := hE4.at 3 _ rfl; have hX4 := hE4.lt; have hb4 : eb < w4.heap.size := World.block_lt_of_cell? _ _ m0; (first | (have hV4 : OwnAt w4 W1.heap.size _ _ := (OwnAt.new W1.drew [.string ⟨#[]⟩, .slice none 0 0, .slice none 0 0, .slice none 0 0] 52).sfr hf4 hWs; have o0 := hV4.at 0 _ rfl; have o1 := hV4.at 1 _ rfl; have o2 := hV4.at 2 _ rfl; have o3 := hV4.at 3 _ rfl; have fo0 := hV4.fz 0; have fo1 := hV4.fz 1; have fo2 := hV4.fz 2; have fo3 := hV4.fz 3; have HV4 := Lib.hid hV4; have hlV := hV4.lt; clear hV4) | skip); clear hs4 hf4 hC4 hR4 hE4))
    · have HSE := Lib.hid ((HS4.out.other hsx 3 (.string (strOf x.name))).alloc (.cells #[.string (strOf x.name), .slice p1 x.params.length p2, .slice l1 x.locals.length l2, .slice y1 x.body.length y2] 52))
      have HFE := Lib.hid ((HF4.out.setNew hge 3 (.string (strOf x.name))).trans (SFr.alloc (.cells #[.string (strOf x.name), .slice p1 x.params.length p2, .slice l1 x.locals.length l2, .slice y1 x.body.length y2] 52)))
      have HCE := Lib.hid ((HC4.out.other (show w.heap.size ≠ w.heap.size + 2 by omega) 3 (.string (strOf x.name))).alloc (.cells #[.string (strOf x.name), .slice p1 x.params.length p2, .slice l1 x.locals.length l2, .slice y1 x.body.length y2] 52))
      have HRE := Lib.hid ((HR4.out.other (show w.heap.size + 1 ≠ w.heap.size + 2 by omega) 3 (.string (strOf x.name))).alloc (.cells #[.string (strOf x.name), .slice p1 x.params.length p2, .slice l1 x.locals.length l2, .slice y1 x.body.length y2] 52))
      have HEE := Lib.hid ((HE4.out.set 3 (.string (strOf x.name))).alloc (.cells #[.string (strOf x.name), .slice p1 x.params.length p2, .slice l1 x.locals.length l2, .slice y1 x.body.length y2] 52))
      go_wp2_with fail
      go_meet
      exact ⟨rfl, HSE.out, HFE.out, HCE.out, HRE.out, HEE.out⟩
    · have HSE := Lib.hid (((((HS4.out.other hsW 0 (.string (strOf x.name))).other hsW 1 (.slice p1 x.params.length p2)).other hsW 2 (.slice l1 x.locals.length l2)).other hsW 3 (.slice y1 x.body.length y2)).other hsx 3 (.string (strOf x.name)))
      have HFE := Lib.hid (((((HF4.out.setNew hgW 0 (.string (strOf x.name))).setNew hgW 1 (.slice p1 x.params.length p2)).setNew hgW 2 (.slice l1 x.locals.length l2)).setNew hgW 3 (.slice y1 x.body.length y2)).setNew hge 3 (.string (strOf x.name)))
      have HCE := Lib.hid (((((HC4.out.other hwW 0 (.string (strOf x.name))).other hwW 1 (.slice p1 x.params.length p2)).other hwW 2 (.slice l1 x.locals.length l2)).other hwW 3 (.slice y1 x.body.length y2)).other (show w.heap.size ≠ w.heap.size + 2 by omega) 3 (.string (strOf x.name)))
      have HRE := Lib.hid (((((HR4.out.other hwW1 0 (.string (strOf x.name))).other hwW1 1 (.slice p1 x.params.length p2)).other hwW1 2 (.slice l1 x.locals.length l2)).other hwW1 3 (.slice y1 x.body.length y2)).other (show w.heap.size + 1 ≠ w.heap.size + 2 by omega) 3 (.string (strOf x.name)))
      have HEE := Lib.hid (((((HE4.out.other hwW2 0 (.string (strOf x.name))).other hwW2 1 (.slice p1 x.params.length p2)).other hwW2 2 (.slice l1 x.locals.length l2)).other hwW2 3 (.slice y1 x.body.length y2)).set 3 (.string (strOf x.name)))
      go_wp2_with fail
      go_meet
      exact ⟨rfl, HSE.out, HFE.out, HCE.out, HRE.out, HEE.out⟩
  case rest =>
    obtain ⟨rfl, hs5, hf5, hC5, hR5, hE5⟩ := hcut
    have HS5 := Lib.hid hs5; have HF5 := Lib.hid hf5; have HC5 := Lib.hid hC5; have HR5 := Lib.hid hR5; have HE5 := Lib.hid hE5
    have hsx : s < w.heap.size + 2 := by omega
    have hge : w.heap.size ≤ w.heap.size + 2 := by omega
    clear hs5 hf5 hC5 hR5 hE5 HN HS1 HF1 HC1 HR1 HE1 z0 z1 z2 z3 b0 b1 b2 b3 b4
    generalize x.params.length = c at *
    generalize x.name = nm at *
    go_wp2_with fail
    go_loopw [10] (fun q wr => ∃ k : Nat, k ≤ c ∧ q = .int .i64 k ∧ CallInv w s raw (gExpr sc raw (d - 1)) a0 [.slice v1 sc.vars.length v2, .slice a1 sc.arrays.length a2, .slice (some ⟨eb, off, none⟩) fn f2, .bool false, .bool sc.loop] (.string (strOf nm)) k wr) (fun q _ => c - (intOf q).toNat)
    case atStart => exact ⟨0, Nat.zero_le _, rfl, [], _, rfl, HS5.out, HF5.out, HC5.out, HR5.out, HE5.out, ExsOwn.zero _ _⟩
    case round =>
      obtain ⟨k, hk, rfl, hinv⟩ := hrel
      obtain ⟨ps, v, hps, hsr, hfr, hC, hR, hE, hO⟩ := hinv
      obtain ⟨va, vc, rfl⟩ := hO.shape
      have HPS := Lib.hid hps; have HSK := Lib.hid hsr; have HFK := Lib.hid hfr; have HCK := Lib.hid hC; have HRK := Lib.hid hR; have HEK := Lib.hid hE; have HOK := Lib.hid hO
      clear hps hsr hfr hC hR hE hO
      have b0 := HCK.out.at 0 _ rfl
      have b1 := HCK.out.at 1 _ rfl
      have b2 := HCK.out.at 2 _ rfl
      have b3 := HCK.out.at 3 _ rfl
      have b4 := HCK.out.at 4 _ rfl
      have e0 := HEK.out.at 0 _ rfl
      have e1 := HEK.out.at 1 _ rfl
      have e2 := HEK.out.at 2 _ rfl
      have e3 := HEK.out.at 3 _ rfl
      have e4 := HEK.out.at 4 _ rfl
      have fe4 := HEK.out.fz 4
      have hE2 := HEK.out.lt
      by_cases hlt : k < c
      · have hlen : Hid (ps.length ≤ 1000000) := by show _ ≤ _; have h1 := congrArg List.length HPS.out; rw [List.length_map, gMany_len] at h1; omega
        have hnx : gMany (gExpr sc raw (d - 1)) (k + 1) a0 = ((gMany (gExpr sc raw (d - 1)) k a0).1 ++ [(gExpr sc raw (d - 1) (gMany (gExpr sc raw (d - 1)) k a0).2).1], (gExpr sc raw (d - 1) (gMany (gExpr sc raw (d - 1)) k a0).2).2) := rfl
        have HNX := Lib.hid hnx
        clear hnx
        have HCL := Lib.hid (fun w1 h1 h2 => HIH.out w1 (gMany (gExpr sc raw (d - 1)) k a0).2 h1 h2)
        generalize gExpr sc raw (d - 1) (gMany (gExpr sc raw (d - 1)) k a0).2 = x at *
        obtain ⟨x, xa⟩ := x
        generalize gMany (gExpr sc raw (d - 1)) k a0 = mk at HPS HSK HNX HCL
        obtain ⟨lk, bk⟩ := mk
        dsimp only at HPS HSK HNX HCL
        have hdr : Below wr.heap.size wr wr.drew := (Below.refl _ _).drew
        have HSd := Lib.hid (HSK.out.old hdr); have HFd := Lib.hid (HFK.out.trans (SFr.of_below hdr))
        have HCd := Lib.hid (HCK.out.old hdr); have HRd := Lib.hid (HRK.out.old hdr); have HEd := Lib.hid (HEK.out.old hdr)
        have HOd := Lib.hid (HOK.out.keep (w' := wr.drew) (fun _ _ _ => rfl))
        clear hdr
        obtain ⟨i0, hi0, hz0, hz1, hz2⟩ := info_parts infoEx
        have hE3 : w.heap.size + 3 ≤ wr.heap.size := by omega
        have hwd : IntKind.i64.wrap ((d : Int) - 1) = (d : Int) - 1 := IntWalk.i64_in _ (by omega)
        go_wp2_with fail
        go_region_law (first
          | ((try go_simp); go_at_call 35; refine (HCL.out _ HSd.out (HSC.out.sfr HFd.out)).mono ?_; rintro r w6 ⟨xv, he, hs6, hf6, hx6, hn6⟩; obtain ⟨xs, xc, hxv⟩ := hx6.shape; subst hxv; subst he; have hc : ∀ b o, b < _ → b ≠ s → w6.cell? ⟨b, o, none⟩ = _ := fun b o h hn => World.cell?_of_block (a := ⟨b, o, none⟩) (hf6.block b h hn); have HS6 := Lib.hid hs6; have HF6 := Lib.hid (HFd.out.trans hf6); have HC6 := Lib.hid (HCd.out.sfr hf6 HY.out); have HR6 := Lib.hid (HRd.out.sfr hf6 HZ.out); have HE6 := Lib.hid (HEd.out.sfr hf6 HX.out); have HO6 := Lib.hid (HOd.out.keep (w' := w6) (fun k h1 h2 => hf6.block k h1 (by omega))); have Hx6 := Lib.hid hx6; have Hn6 := Lib.hid hn6; have hz6 := hf6.size; have u4 := HE6.out.at 4 _ rfl; have hX6 := HE6.out.lt; clear hs6 hf6 hx6 hn6; have hw7 : Below w6.heap.size w6 (w6.alloc (.cells #[.int .i64 x.kind, .int .i64 x.op, .int .i64 x.n, .string (strOf x.name), .slice xs x.args.length xc] 31)) := (Below.refl _ _).alloc (Nat.le_refl _) _; have HS7 := Lib.hid (HS6.out.old hw7); have HF7 := Lib.hid (HF6.out.trans (SFr.of_below hw7)); have HC7 := Lib.hid (HC6.out.old hw7); have HR7 := Lib.hid (HR6.out.old hw7); have HE7 := Lib.hid (HE6.out.old hw7); have HO7 := Lib.hid (HO6.out.keep (w' := (w6.alloc (.cells #[.int .i64 x.kind, .int .i64 x.op, .int .i64 x.n, .string (strOf x.name), .slice xs x.args.length xc] 31))) (fun k h1 h2 => hw7.block k h1)); have HN7 := Lib.hid (RowAt.new w6 (exCells x (.slice xs x.args.length xc)) 31); have Hx7 : Hid (ExsAt (fun b => w.heap.size + 3 ≤ b ∧ (Value.slice va ps.length vc).ownBlock ≠ some b) (w6.alloc (.cells #[.int .i64 x.kind, .int .i64 x.op, .int .i64 x.n, .string (strOf x.name), .slice xs x.args.length xc] 31)) x.args (.slice xs x.args.length xc)) := ((Hx6.out.old hw7).mono (fun b hb => ⟨Nat.le_trans hE3 hb, fun e => by have h1 := (HOK.out.ge e).2; have h2 : wr.heap.size ≤ b := hb; omega⟩)); clear hw7)
          | (refine step_append_lies (P := Tryz.prog) _ rfl _ _ 29 rfl (w.heap.size + 3) 31 i0 _ 5 64 Tryz.underlying29 hi0 hz0 hz1 hz2 rfl (by decide) (.slice va ps.length vc) ps.length (exFlat ps) rfl HO7.out.1 ⟨w6.heap.size, 0, none⟩ 1 1 (exCells x (.slice xs x.args.length xc)) rfl rfl (news_at HN7.out) (ex_one x _ _ _) (by decide) (by have := hlen.out; unfold maxLen; omega) (by have := hlen.out; omega) (by have := HE7.out.lt; omega) _ rfl ?_; intro g cap w8 hown hgrow hat hlt8; have hge8 : ∀ k, (Value.slice va ps.length vc).ownBlock = some k → w.heap.size + 3 ≤ k := fun k e => (HO7.out.ge e).1; have HS8 := Lib.hid (HS7.out.low (w' := w8) (fun k hk => hgrow.block k (Nat.lt_of_le_of_lt hk HS7.out.lt) (fun e => by have := hge8 k e.symm; omega))); have HF8 := Lib.hid (HF7.out.grow hgrow (fun k e => by have := hge8 k e; omega)); have HC8 := Lib.hid (HC7.out.low (hgrow.block _ HC7.out.lt (fun e => by have := hge8 _ e.symm; omega))); have HR8 := Lib.hid (HR7.out.low (hgrow.block _ HR7.out.lt (fun e => by have := hge8 _ e.symm; omega))); have hE8 := HE7.out.low (hgrow.block _ HE7.out.lt (fun e => by have := hge8 _ e.symm; omega)); have HE8 := Lib.hid hE8; have HO8 := Lib.hid (HO7.out.snoc x _ Hx7.out Hn6.out hown hgrow hat); have y4 := hE8.at 4 _ rfl; have fy4 := hE8.fz 4; have hX8 := hE8.lt; clear hown hgrow hat hE8))
        all_goals
          have HE9 := Lib.hid (HE8.out.set 4 (.slice (some ⟨g, 0, none⟩) (ps.length + 1) cap))
          have HS9 := Lib.hid (HS8.out.other hsx 4 (.slice (some ⟨g, 0, none⟩) (ps.length + 1) cap)); have HF9 := Lib.hid (HF8.out.setNew hge 4 (.slice (some ⟨g, 0, none⟩) (ps.length + 1) cap))
          have HR9 := Lib.hid (HR8.out.other (show w.heap.size + 1 ≠ w.heap.size + 2 by omega) 4 (.slice (some ⟨g, 0, none⟩) (ps.length + 1) cap)); have HC9 := Lib.hid (HC8.out.other (show w.heap.size ≠ w.heap.size + 2 by omega) 4 (.slice (some ⟨g, 0, none⟩) (ps.length + 1) cap))
          have HO9 := Lib.hid (HO8.out.keep (w' := w8.setCell ⟨w.heap.size + 2, 4, none⟩ (.slice (some ⟨g, 0, none⟩) (ps.length + 1) cap)) (fun k h1 h2 => Below.heap_setCell _ _ _ _ (by show k ≠ w.heap.size + 2; omega)))
          go_wp2_with fail
          go_roundw
          case rel => exact ⟨k + 1, by omega, by go_num, ⟨ps ++ [(x, .slice xs x.args.length xc)], _, by rw [HNX.out, List.map_append, HPS.out]; rfl, by rw [HNX.out]; exact HS9.out, HF9.out, HC9.out, HR9.out, HE9.out, HO9.out⟩⟩
          case measure => simp [intOf]; omega
      · obtain rfl : k = c := by omega
        have x0 := HRK.out.at 0 _ rfl
        have x1 := HRK.out.at 1 _ rfl
        have x2 := HRK.out.at 2 _ rfl
        have x3 := HRK.out.at 3 _ rfl
        have x4 := HRK.out.at 4 _ rfl
        have fx0 := HRK.out.fz 0
        have fx1 := HRK.out.fz 1
        have fx2 := HRK.out.fz 2
        have fx3 := HRK.out.fz 3
        have fx4 := HRK.out.fz 4
        have hsx1 : s < w.heap.size + 1 := by omega
        have hge1 : w.heap.size ≤ w.heap.size + 1 := by omega
        have hlen : Hid (Fits ps.length) := by show _ ≤ _; have h1 := congrArg List.length HPS.out; rw [List.length_map, gMany_len] at h1; omega
        have HX9 := Lib.hid (HOK.out.exs hlen.out)
        rw [HPS.out] at HX9
        have hB : w.heap.size + 1 < w.heap.size + 3 := by omega
        have HRE := Lib.hid (((((HRK.out.set 0 (.int .i64 5)).set 1 (.int .i64 0)).set 2 (.int .i64 0)).set 3 (.string (strOf nm))).set 4 (.slice va ps.length vc))
        have HSE := Lib.hid (((((HSK.out.other hsx1 0 (.int .i64 5)).other hsx1 1 (.int .i64 0)).other hsx1 2 (.int .i64 0)).other hsx1 3 (.string (strOf nm))).other hsx1 4 (.slice va ps.length vc))
        have HFE := Lib.hid (((((HFK.out.setNew hge1 0 (.int .i64 5)).setNew hge1 1 (.int .i64 0)).setNew hge1 2 (.int .i64 0)).setNew hge1 3 (.string (strOf nm))).setNew hge1 4 (.slice va ps.length vc))
        go_wp2_with fail
        have d0 := HRE.out.at 0 _ rfl
        have d1 := HRE.out.at 1 _ rfl
        have d2 := HRE.out.at 2 _ rfl
        have d3 := HRE.out.at 3 _ rfl
        have d4 := HRE.out.at 4 _ rfl
        exact bodyPost_ret (v := .agg #[.int .i64 5, .int .i64 0, .int .i64 0, (.string (strOf nm)), .slice va ps.length vc]) (by simp [results, Tryz.results70, go_sem, d0, d1, d2, d3, d4]) rfl ⟨.slice va ps.length vc, rfl, HSE.out, HFE.out, ((((((HX9.out.keep (set_fresh _ hB 0 _)).keep (set_fresh _ hB 1 _)).keep (set_fresh _ hB 2 _)).keep (set_fresh _ hB 3 _)).keep (set_fresh _ hB 4 _)).mono (fun b h => (Nat.le_trans (by omega) h : w.heap.size ≤ b))), (i64_small ⟨by show _ ≤ (0 : Int); decide, by show (0 : Int) ≤ _; decide⟩)⟩

end Go.Proofs.YtgmaeflfiooigaaGreatDoor

namespace Go.Proofs.YtgmaeflfiooigaaGreatDoor
open Go.RowKit
set_option maxHeartbeats 4000000
set_option maxRecDepth 100000

theorem call_take (d : Nat) (hd : 2 ≤ d) (hd1 : d ≤ 1000) (ih : ExprTake (d - 1)) : CallTake d := by
  intro s raw a sc vv av fv w hs hsc
  cases h : (sc.free || sc.funcs.isEmpty)
  · exact call_of d hd hd1 ih s raw a sc vv av fv w hs hsc h
  · exact call_raw d hd hd1 ih s raw a sc vv av fv w hs hsc h
theorem expr_all : ∀ d : Nat, d ≤ 1000 → ExprTake d
  | 0, h => expr_take 0 h (fun h => absurd h (by decide)) (fun h => absurd h (by decide))
  | d + 1, h => expr_take (d + 1) h (fun _ => expr_all d (by omega)) (fun h2 => call_take (d + 1) h2 h (expr_all d (by omega)))
theorem call_all (d : Nat) (hd : 2 ≤ d) (hd1 : d ≤ 1000) : CallTake d := call_take d hd hd1 (expr_all (d - 1) (by omega))
end Go.Proofs.YtgmaeflfiooigaaGreatDoor
