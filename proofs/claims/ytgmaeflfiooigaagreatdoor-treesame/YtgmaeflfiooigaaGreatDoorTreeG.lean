/-
  EqualFunc over expressions, sameExpr. Condition: what is compared lies in memory as the types say.
  EqualFunc over statements, sameStmt. Condition: what is compared lies in memory as the types say.
  Equal over texts and arrays, EqualFunc over functions, Same. Condition: what is compared lies in memory as the types say.
  Equal over arrays. Condition: what is compared lies in memory as the types say.
  EqualFunc over functions, Same. Condition: what is compared lies in memory as the types say.
  Size: how many statements and expressions there are. Condition: there are at most 2^60 of them.
  Small trees in memory, put together; awake: the example. Conditions: the library's table of powers is there.
  awake: chapter 3's example. Condition: the library's table of powers is there.
-/
import Derived.Test.YtgmaeflfiooigaaGreatDoorTreeA
import Derived.Test.YtgmaeflfiooigaaGreatDoorTreeC
import Derived.Test.YtgmaeflfiooigaaGreatDoorTreeE
import Derived.Test.YtgmaeflfiooigaaGreatDoorTreeF
import Derived.IntWalk
set_option linter.unusedVariables false
set_option linter.unusedSimpArgs false
namespace Go.Proofs.YtgmaeflfiooigaaGreatDoor
open Go.RowKit
set_option maxHeartbeats 4000000
set_option maxRecDepth 100000

def SameExOf (a : Ex) : Prop := ∀ (b : Ex) (D : Nat → Prop) (sa sb : Value) (w : World), ExsAt D w a.args sa → ExsAt D w b.args sb →
  Calls Tryz.prog 91 #[exV a sa, exV b sb] w fun e w' => e = .returned (.bool (sameEx a b)) ∧ Below w.heap.size w w'

theorem eqFunc_exs (la : List Ex) (ih : ∀ x, x ∈ la → SameExOf x) (lb : List Ex) (D : Nat → Prop) (va vb : Value) (w : World) (ha : ExsAt D w la va) (hb : ExsAt D w lb vb) :
    Calls Tryz.prog 90 #[va, vb, .func (.func 91) #[] #[]] w fun e w' => e = .returned (.bool (zipAll sameEx la lb)) ∧ Below w.heap.size w w' := by
  obtain ⟨a1, a2, rfl⟩ := ha.shape
  obtain ⟨b1, b2, rfl⟩ := hb.shape
  have l63 := ha.fits.lt
  have m63 := hb.fits.lt
  by_cases hl : lb.length = la.length
  · rw [hl] at hb ⊢
    have HA := Lib.hid ha; have HB := Lib.hid hb; have IH := Lib.hid ih; have HL := Lib.hid hl
    clear ha hb ih hl m63
    go_enter Tryz.func90, Tryz.ntmps90
    go_wp2_with fail
    go_loopw [7, 8, 9, 17] (fun _ _ _ s17 wr => ∃ k : Nat, k ≤ la.length ∧ s17 = .int .i64 k ∧ (∀ i, i < k → sameEx (la.getD i Ex.nil) (lb.getD i Ex.nil) = true) ∧ Below w.heap.size w wr) (fun _ _ _ s17 _ => la.length - (intOf s17).toNat)
    case atStart => exact ⟨0, Nat.zero_le _, rfl, fun i hi => by omega, Below.refl _ _⟩
    case round =>
      obtain ⟨k, hk, rfl, hno, hb⟩ := hrel
      have HNO := Lib.hid hno; have HBW := Lib.hid hb
      have hsz := hb.size
      clear hno hb
      by_cases hlt : k < la.length
      · obtain ⟨xab, xao, xas, rfl, xaD, a0, a1, a2, a3, a4, ah, an⟩ := ExsAt.cellAt (ExsAt.old HBW.out HA.out) k hlt
        obtain ⟨xbb, xbo, xbs, rfl, xbD, b0, b1, b2, b3, b4, bh, bn⟩ := ExsAt.cellAt (ExsAt.old HBW.out HB.out) k (by rw [HL.out]; exact hlt)
        obtain ⟨a5, a6, rfl⟩ := ah.shape
        obtain ⟨b5, b6, rfl⟩ := bh.shape
        have al := World.block_lt_of_cell? _ _ a0
        have bl := World.block_lt_of_cell? _ _ b0
        have HAH := Lib.hid ah; have HBH := Lib.hid bh
        clear ah bh an bn xaD xbD
        have IHX := Lib.hid (IH.out _ (exAt_mem hlt))
        have HKL := Lib.hid hlt
        generalize hxe : exAt la k = xa at *
        generalize hye : exAt lb k = xb at *
        have HXE := Lib.hid hxe; have HYE := Lib.hid hye; clear hxe hye
        generalize hxa : sameEx xa xb = q
        have HXA : Hid (sameEx (exAt la k) (exAt lb k) = q) := by show _ = _; rw [HXE.out, HYE.out]; exact hxa
        have HXB := Lib.hid hxa
        clear hxa
        have hww : Below wr.heap.size wr ((wr.alloc (.cells #[.int .i64 xa.kind, .int .i64 xa.op, .int .i64 xa.n, .string (strOf xa.name), .slice a5 xa.args.length a6] 31)).alloc (.cells #[.int .i64 xb.kind, .int .i64 xb.op, .int .i64 xb.n, .string (strOf xb.name), .slice b5 xb.args.length b6] 31)) := ((Below.refl _ _).alloc (Nat.le_refl _) _).alloc (by simp) _
        have HAH2 := Lib.hid (HAH.out.old hww); have HBH2 := Lib.hid (HBH.out.old hww)
        have HWW := Lib.hid (HBW.out.trans (hww.mono hsz))
        clear hww
        go_wp2_with fail
        refine (IHX.out _ D _ _ _ HAH2.out HBH2.out).mono ?_
        rw [HXB.out]
        cases q
        · rintro r w2 ⟨rfl, hb2⟩
          have HB2 := Lib.hid (HWW.out.trans (hb2.mono (by simp; omega)))
          clear hb2 a0 a1 a2 a3 a4 b0 b1 b2 b3 b4
          go_wp2_with fail
          go_ret
          exact ⟨ret_bool (zipAll_false sameEx Ex.nil la lb k HL.out.symm HKL.out HXA.out).symm, HB2.out⟩
        · rintro r w2 ⟨rfl, hb2⟩
          have HB2 := Lib.hid (HWW.out.trans (hb2.mono (by simp; omega)))
          clear hb2 a0 a1 a2 a3 a4 b0 b1 b2 b3 b4
          go_wp2_with fail
          go_roundw
          case rel => exact ⟨k + 1, by omega, by go_num, fun i hi => by rcases Nat.lt_succ_iff_lt_or_eq.1 hi with h | rfl; exact HNO.out i h; exact HXA.out, HB2.out⟩
          case measure => simp [intOf]; omega
      · go_wp2_with fail
        go_ret
        exact ⟨ret_bool (zipAll_true sameEx Ex.nil la lb HL.out.symm (fun i hi => HNO.out i (by omega))).symm, HBW.out⟩
  · have hne : ((la.length : Int) != (lb.length : Int)) = true := by rw [bne_iff_ne]; omega
    have E : Hid (zipAll sameEx la lb = false) := zipAll_len _ _ _ (by omega)
    clear ha hb ih hl
    go_enter Tryz.func90, Tryz.ntmps90
    go_wp2_with fail
    go_ret
    exact ⟨ret_bool E.out.symm, Below.refl _ _⟩

theorem sameExpr_step (a : Ex) (ih : ∀ x, x ∈ a.args → SameExOf x) : SameExOf a := by
  intro b D sa sb w ha hb
  obtain ⟨a1, a2, rfl⟩ := ha.shape
  obtain ⟨b1, b2, rfl⟩ := hb.shape
  have EQ := Lib.hid (eqFunc_exs a.args ih)
  obtain ⟨k, o, n, nm, us⟩ := a
  obtain ⟨k', o', n', nm', bs⟩ := b
  have HA := Lib.hid ha; have HB := Lib.hid hb
  have E : Hid (sameEx (.mk k o n nm us) (.mk k' o' n' nm' bs) = (k == k' && o == o' && n == n' && nm == nm' && zipAll sameEx us bs)) := by show _ = _; rw [sameEx, sameExs_zip]
  clear ha hb ih
  show Calls _ _ #[.agg #[.int .i64 k, .int .i64 o, .int .i64 n, .string (strOf nm), .slice a1 us.length a2], .agg #[.int .i64 k', .int .i64 o', .int .i64 n', .string (strOf nm'), .slice b1 bs.length b2]] _ _
  rw [E.out]
  go_enter Tryz.func91, Tryz.ntmps91
  go_wp2_with fail
  · refine (EQ.out bs D (.slice a1 us.length a2) (.slice b1 bs.length b2) _ ?h1 ?h2).mono ?_
    case h1 => exact ExsAt.old (((Below.refl _ _).alloc (Nat.le_refl _) _).alloc (by simp) _) HA.out
    case h2 => exact ExsAt.old (((Below.refl _ _).alloc (Nat.le_refl _) _).alloc (by simp) _) HB.out
    rintro r w1 ⟨rfl, hb⟩
    go_wp2_with fail
    go_ret
    exact ⟨ret_bool (by simp [*, Ex.args, St.args, St.thn, St.els]), (((Below.refl _ _).alloc (Nat.le_refl _) _).alloc (by simp) _).trans (hb.mono (by simp; omega))⟩
  all_goals
    go_ret
    refine ⟨ret_bool ?_, ((Below.refl _ _).alloc (Nat.le_refl _) _).alloc (by simp) _⟩
    simp [*]
theorem sameExpr_all : ∀ (n : Nat) (e : Ex), SizeOf.sizeOf e ≤ n → SameExOf e
  | 0, e, h => by cases e; simp at h
  | n + 1, e, h => sameExpr_step e fun x hx => sameExpr_all n x (by have := Ex.size_lt hx; omega)
theorem sameExpr_any (e : Ex) : SameExOf e := sameExpr_all _ e (Nat.le_refl _)
theorem eqExs_any (la lb : List Ex) (D : Nat → Prop) (va vb : Value) (w : World) (ha : ExsAt D w la va) (hb : ExsAt D w lb vb) :
    Calls Tryz.prog 90 #[va, vb, .func (.func 91) #[] #[]] w fun e w' => e = .returned (.bool (sameExs la lb)) ∧ Below w.heap.size w w' := by
  rw [sameExs_zip]
  exact eqFunc_exs la (fun x _ => sameExpr_any x) lb D va vb w ha hb
end Go.Proofs.YtgmaeflfiooigaaGreatDoor

namespace Go.Proofs.YtgmaeflfiooigaaGreatDoor
open Go.RowKit
set_option maxHeartbeats 4000000
set_option maxRecDepth 100000

def SameStOf (x : St) : Prop := ∀ (y : St) (D : Nat → Prop) (a t e a' t' e' : Value) (w : World), ExsAt D w x.args a → StsAt D w x.thn t → StsAt D w x.els e → ExsAt D w y.args a' → StsAt D w y.thn t' → StsAt D w y.els e' →
  Calls Tryz.prog 57 #[stV x a t e, stV y a' t' e'] w fun e w' => e = .returned (.bool (sameSt x y)) ∧ Below w.heap.size w w'

theorem eqFunc_sts (la : List St) (ih : ∀ x, x ∈ la → SameStOf x) (lb : List St) (D : Nat → Prop) (va vb : Value) (w : World) (ha : StsAt D w la va) (hb : StsAt D w lb vb) :
    Calls Tryz.prog 56 #[va, vb, .func (.func 57) #[] #[]] w fun e w' => e = .returned (.bool (zipAll sameSt la lb)) ∧ Below w.heap.size w w' := by
  obtain ⟨a1, a2, rfl⟩ := ha.shape
  obtain ⟨b1, b2, rfl⟩ := hb.shape
  have l63 := ha.fits.lt
  have m63 := hb.fits.lt
  by_cases hl : lb.length = la.length
  · rw [hl] at hb ⊢
    have HA := Lib.hid ha; have HB := Lib.hid hb; have IH := Lib.hid ih; have HL := Lib.hid hl
    clear ha hb ih hl m63
    go_enter Tryz.func56, Tryz.ntmps56
    go_wp2_with fail
    go_loopw [7, 8, 9, 17] (fun _ _ _ s17 wr => ∃ k : Nat, k ≤ la.length ∧ s17 = .int .i64 k ∧ (∀ i, i < k → sameSt (la.getD i St.nil) (lb.getD i St.nil) = true) ∧ Below w.heap.size w wr) (fun _ _ _ s17 _ => la.length - (intOf s17).toNat)
    case atStart => exact ⟨0, Nat.zero_le _, rfl, fun i hi => by omega, Below.refl _ _⟩
    case round =>
      obtain ⟨k, hk, rfl, hno, hb⟩ := hrel
      have HNO := Lib.hid hno; have HBW := Lib.hid hb
      have hsz := hb.size
      clear hno hb
      by_cases hlt : k < la.length
      · obtain ⟨xab, xao, a7, a8, a9, rfl, xaD, al, a0, a1, a2, a3, a4, ah, at', ae⟩ := StsAt.cellAt (StsAt.old HBW.out HA.out) k hlt
        obtain ⟨xbb, xbo, b7, b8, b9, rfl, xbD, bl, b0, b1, b2, b3, b4, bh, bt, be⟩ := StsAt.cellAt (StsAt.old HBW.out HB.out) k (by rw [HL.out]; exact hlt)
        obtain ⟨a51, a52, rfl⟩ := ah.shape
        obtain ⟨b51, b52, rfl⟩ := bh.shape
        obtain ⟨a61, a62, rfl⟩ := StsAt.shape at'
        obtain ⟨b61, b62, rfl⟩ := StsAt.shape bt
        obtain ⟨a71, a72, rfl⟩ := StsAt.shape ae
        obtain ⟨b71, b72, rfl⟩ := StsAt.shape be
        have HAH := Lib.hid ah; have HBH := Lib.hid bh; have HAT := Lib.hid at'; have HBT := Lib.hid bt; have HAE := Lib.hid ae; have HBE := Lib.hid be
        clear ah bh at' bt ae be xaD xbD
        have IHX := Lib.hid (IH.out _ (stAt_mem hlt))
        have HKL := Lib.hid hlt
        generalize hxe : stAt la k = xa at *
        generalize hye : stAt lb k = xb at *
        have HXE := Lib.hid hxe; have HYE := Lib.hid hye; clear hxe hye
        generalize hxa : sameSt xa xb = q
        have HXA : Hid (sameSt (stAt la k) (stAt lb k) = q) := by show _ = _; rw [HXE.out, HYE.out]; exact hxa
        have HXB := Lib.hid hxa
        clear hxa
        have hww : Below wr.heap.size wr ((wr.alloc (.cells #[.int .i64 xa.kind, .string (strOf xa.name), .slice a51 xa.args.length a52, .slice a61 xa.thn.length a62, .slice a71 xa.els.length a72] 49)).alloc (.cells #[.int .i64 xb.kind, .string (strOf xb.name), .slice b51 xb.args.length b52, .slice b61 xb.thn.length b62, .slice b71 xb.els.length b72] 49)) := ((Below.refl _ _).alloc (Nat.le_refl _) _).alloc (by simp) _
        have HAH2 := Lib.hid (HAH.out.old hww); have HBH2 := Lib.hid (HBH.out.old hww)
        have HAT2 := Lib.hid (HAT.out.old hww); have HBT2 := Lib.hid (HBT.out.old hww)
        have HAE2 := Lib.hid (HAE.out.old hww); have HBE2 := Lib.hid (HBE.out.old hww)
        have HWW := Lib.hid (HBW.out.trans (hww.mono hsz))
        clear hww
        go_wp2_with fail
        refine (IHX.out _ D _ _ _ _ _ _ _ HAH2.out HAT2.out HAE2.out HBH2.out HBT2.out HBE2.out).mono ?_
        rw [HXB.out]
        cases q
        · rintro r w2 ⟨rfl, hb2⟩
          have HB2 := Lib.hid (HWW.out.trans (hb2.mono (by simp; omega)))
          clear hb2 a0 a1 a2 a3 a4 b0 b1 b2 b3 b4
          go_wp2_with fail
          go_ret
          exact ⟨ret_bool (zipAll_false sameSt St.nil la lb k HL.out.symm HKL.out HXA.out).symm, HB2.out⟩
        · rintro r w2 ⟨rfl, hb2⟩
          have HB2 := Lib.hid (HWW.out.trans (hb2.mono (by simp; omega)))
          clear hb2 a0 a1 a2 a3 a4 b0 b1 b2 b3 b4
          go_wp2_with fail
          go_roundw
          case rel => exact ⟨k + 1, by omega, by go_num, fun i hi => by rcases Nat.lt_succ_iff_lt_or_eq.1 hi with h | rfl; exact HNO.out i h; exact HXA.out, HB2.out⟩
          case measure => simp [intOf]; omega
      · go_wp2_with fail
        go_ret
        exact ⟨ret_bool (zipAll_true sameSt St.nil la lb HL.out.symm (fun i hi => HNO.out i (by omega))).symm, HBW.out⟩
  · have hne : ((la.length : Int) != (lb.length : Int)) = true := by rw [bne_iff_ne]; omega
    have E : Hid (zipAll sameSt la lb = false) := zipAll_len _ _ _ (by omega)
    clear ha hb ih hl
    go_enter Tryz.func56, Tryz.ntmps56
    go_wp2_with fail
    go_ret
    exact ⟨ret_bool E.out.symm, Below.refl _ _⟩

theorem sameStmt_step (x : St) (iht : ∀ y, y ∈ x.thn → SameStOf y) (ihe : ∀ y, y ∈ x.els → SameStOf y) : SameStOf x := by
  intro y D sa st se sb ut ue w ha ht he hb ht' he'
  obtain ⟨a1, a2, rfl⟩ := ha.shape
  obtain ⟨t1, t2, rfl⟩ := ht.shape
  obtain ⟨e1, e2, rfl⟩ := he.shape
  obtain ⟨b1, b2, rfl⟩ := hb.shape
  obtain ⟨u1, u2, rfl⟩ := ht'.shape
  obtain ⟨v1, v2, rfl⟩ := he'.shape
  have EQT := Lib.hid (eqFunc_sts x.thn iht)
  have EQE := Lib.hid (eqFunc_sts x.els ihe)
  obtain ⟨k, nm, us, tt, ee⟩ := x
  obtain ⟨k', nm', vs, tt', ee'⟩ := y
  have HA := Lib.hid ha; have HT := Lib.hid ht; have HE := Lib.hid he; have HA' := Lib.hid hb; have HT' := Lib.hid ht'; have HE' := Lib.hid he'
  have E : Hid (sameSt (.mk k nm us tt ee) (.mk k' nm' vs tt' ee') = (k == k' && nm == nm' && sameExs us vs && zipAll sameSt tt tt' && zipAll sameSt ee ee')) := by show _ = _; rw [sameSt, sameSts_zip, sameSts_zip]
  clear ha ht he hb ht' he' iht ihe
  show Calls _ _ #[.agg #[.int .i64 k, .string (strOf nm), .slice a1 us.length a2, .slice t1 tt.length t2, .slice e1 ee.length e2], .agg #[.int .i64 k', .string (strOf nm'), .slice b1 vs.length b2, .slice u1 tt'.length u2, .slice v1 ee'.length v2]] _ _
  rw [E.out]
  go_enter Tryz.func57, Tryz.ntmps57
  go_wp2_with fail
  · have HBW := Lib.hid (((Below.refl w.heap.size w).alloc (Nat.le_refl _) (.cells #[.int .i64 k', .string (strOf nm'), .slice a1 us.length a2, .slice t1 tt.length t2, .slice e1 ee.length e2] 49)).alloc (by simp) (.cells #[.int .i64 k', .string (strOf nm'), .slice b1 vs.length b2, .slice u1 tt'.length u2, .slice v1 ee'.length v2] 49))
    refine (eqExs_any us vs D (.slice a1 us.length a2) (.slice b1 vs.length b2) _ ?h1 ?h2).mono ?_
    case h1 => exact ExsAt.old (((Below.refl _ _).alloc (Nat.le_refl _) _).alloc (by simp) _) HA.out
    case h2 => exact ExsAt.old (((Below.refl _ _).alloc (Nat.le_refl _) _).alloc (by simp) _) HA'.out
    rintro r w1 ⟨rfl, hb1⟩
    have hz : w.heap.size + 1 < w1.heap.size := by have := hb1.size; simp at this; omega
    have g3 : w1.cell? ⟨w.heap.size, 3, none⟩ = some (.slice t1 tt.length t2) := below_keeps hb1 (by simp [World.cell?_alloc_lt])
    have g4 : w1.cell? ⟨w.heap.size, 4, none⟩ = some (.slice e1 ee.length e2) := below_keeps hb1 (by simp [World.cell?_alloc_lt])
    have k3 : w1.cell? ⟨w.heap.size + 1, 3, none⟩ = some (.slice u1 tt'.length u2) := below_keeps hb1 (by simp [World.cell?_alloc_lt])
    have k4 : w1.cell? ⟨w.heap.size + 1, 4, none⟩ = some (.slice v1 ee'.length v2) := below_keeps hb1 (by simp [World.cell?_alloc_lt])
    have hbw : Below w.heap.size w w1 := (((Below.refl _ _).alloc (Nat.le_refl _) _).alloc (by simp) _).trans (hb1.mono (by simp; omega))
    have HBW1 := Lib.hid hbw
    clear hb1 hbw HBW
    cases qa : sameExs us vs
    · have QA := Lib.hid qa; clear qa
      go_wp2_with fail
      go_ret
      exact ⟨ret_bool (by simp [*, QA.out]), HBW1.out⟩
    have QA := Lib.hid qa; clear qa
    go_wp2_with fail
    refine (EQT.out tt' D (.slice t1 tt.length t2) (.slice u1 tt'.length u2) _ (HT.out.old HBW1.out) (HT'.out.old HBW1.out)).mono ?_
    rintro r w2 ⟨rfl, hb2⟩
    have l4 := below_keeps hb2 g4
    have m4 := below_keeps hb2 k4
    have HBW2 := Lib.hid (HBW1.out.trans (hb2.mono (by omega)))
    have hs2 := hb2.size
    clear hb2 g3 g4 k3 k4
    have ET : zipAll sameSt (St.mk k' nm' us tt ee).thn tt' = zipAll sameSt tt tt' := rfl
    first
      | rw [ET]
      | rw [show zipAll sameSt (St.mk k nm us tt ee).thn tt' = zipAll sameSt tt tt' from rfl]
    clear ET
    cases qt : zipAll sameSt tt tt'
    · have QT := Lib.hid qt; clear qt
      go_wp2_with fail
      go_ret
      exact ⟨ret_bool (by simp [*, QA.out, QT.out]), HBW2.out⟩
    have QT := Lib.hid qt; clear qt
    go_wp2_with fail
    refine (EQE.out ee' D (.slice e1 ee.length e2) (.slice v1 ee'.length v2) _ (HE.out.old HBW2.out) (HE'.out.old HBW2.out)).mono ?_
    rintro r w3 ⟨rfl, hb3⟩
    have HBW3 := Lib.hid (HBW2.out.trans (hb3.mono (by omega)))
    clear hb3 l4 m4
    go_wp2_with fail
    go_ret
    exact ⟨ret_bool (by simp [*, QA.out, QT.out, St.els]), HBW3.out⟩
  all_goals
    go_ret
    refine ⟨ret_bool ?_, ((Below.refl _ _).alloc (Nat.le_refl _) _).alloc (by simp) _⟩
    simp [*]
theorem St.thn_lt {x y : St} (h : y ∈ x.thn) : SizeOf.sizeOf y < SizeOf.sizeOf x := by
  cases x with
  | mk k nm us t e => have := List.sizeOf_lt_of_mem (show y ∈ t from h); simp only [St.mk.sizeOf_spec]; omega
theorem St.els_lt {x y : St} (h : y ∈ x.els) : SizeOf.sizeOf y < SizeOf.sizeOf x := by
  cases x with
  | mk k nm us t e => have := List.sizeOf_lt_of_mem (show y ∈ e from h); simp only [St.mk.sizeOf_spec]; omega
theorem sameStmt_all : ∀ (n : Nat) (x : St), SizeOf.sizeOf x ≤ n → SameStOf x
  | 0, x, h => by cases x; simp at h
  | n + 1, x, h => sameStmt_step x (fun y hy => sameStmt_all n y (by have := St.thn_lt hy; omega)) (fun y hy => sameStmt_all n y (by have := St.els_lt hy; omega))
theorem eqSts_any (la lb : List St) (D : Nat → Prop) (va vb : Value) (w : World) (ha : StsAt D w la va) (hb : StsAt D w lb vb) :
    Calls Tryz.prog 56 #[va, vb, .func (.func 57) #[] #[]] w fun e w' => e = .returned (.bool (sameSts la lb)) ∧ Below w.heap.size w w' := by
  rw [sameSts_zip]
  exact eqFunc_sts la (fun x _ => sameStmt_all _ x (Nat.le_refl _)) lb D va vb w ha hb
end Go.Proofs.YtgmaeflfiooigaaGreatDoor

namespace Go.Proofs.YtgmaeflfiooigaaGreatDoor
open Go.RowKit
set_option maxHeartbeats 4000000
set_option maxRecDepth 100000

theorem Below.drewN' {n k : Nat} {w w1 : World} (h : Below n w w1) : Below n w (w1.drewN k) := ⟨h.os, h.tape, h.output, h.size, h.block⟩
theorem getD_at {l : List Bs} {i : Nat} (h : i < l.length) : (l.map strOf)[i]? = some (strOf (l.getD i [])) := by
  simp [List.getElem?_eq_getElem h]
/-- slices.Equal over texts. -/
theorem eqStrs_any (la lb : List Bs) (D : Nat → Prop) (va vb : Value) (w : World) (ha : StrsAt D w la va) (hb : StrsAt D w lb vb) :
    Calls Tryz.prog 55 #[va, vb] w fun e w' => e = .returned (.bool (sameBs la lb)) ∧ Below w.heap.size w w' := by
  rw [sameBs_zip]
  obtain ⟨a1, a2, rfl⟩ := ha.shape
  obtain ⟨b1, b2, rfl⟩ := hb.shape
  have l63 := ha.fits.lt
  have m63 := hb.fits.lt
  by_cases hl : lb.length = la.length
  · rw [hl] at hb ⊢
    have HA := Lib.hid ha; have HB := Lib.hid hb; have HL := Lib.hid hl
    clear ha hb hl m63
    go_enter Tryz.func55, Tryz.ntmps55
    go_wp2_with fail
    go_loopw [5, 13] (fun _ s13 wr => ∃ k : Nat, k ≤ la.length ∧ s13 = .int .i64 k ∧ (∀ i, i < k → (la.getD i [] == lb.getD i []) = true) ∧ Below w.heap.size w wr) (fun _ s13 _ => la.length - (intOf s13).toNat)
    case atStart => exact ⟨0, Nat.zero_le _, rfl, fun i hi => by omega, Below.refl _ _⟩
    case round =>
      obtain ⟨k, hk, rfl, hno, hb⟩ := hrel
      have HNO := Lib.hid hno; have HBW := Lib.hid hb
      have hsz := hb.size
      clear hno hb
      by_cases hlt : k < la.length
      · obtain ⟨ab, ao, rfl, aD, al, ac⟩ := strsAt_at (StrsAt.old HBW.out HA.out) k hlt
        obtain ⟨bb, bo, rfl, bD, bl, bc⟩ := strsAt_at (StrsAt.old HBW.out HB.out) k (by rw [HL.out]; exact hlt)
        have HKL := Lib.hid hlt
        clear aD bD
        generalize hxe : la.getD k [] = xa at *
        generalize hye : lb.getD k [] = xb at *
        have HXE := Lib.hid hxe; have HYE := Lib.hid hye; clear hxe hye
        cases q : (xa == xb)
        · have HQ := Lib.hid q
          go_wp2_with fail
          go_quiet (fail)
          go_wp2_with fail
          all_goals
            go_ret
            exact ⟨ret_bool (zipAll_false (fun x y => x == y) [] la lb k HL.out.symm HKL.out (by rw [HXE.out, HYE.out]; exact HQ.out)).symm, Below.drewN' HBW.out⟩
        · have hq : xa = xb := by simpa using q
          subst hq
          clear q
          go_wp2_with fail
          go_quiet (fail)
          go_wp2_with fail
          go_roundw
          case rel => exact ⟨k + 1, by omega, by go_num, fun i hi => by rcases Nat.lt_succ_iff_lt_or_eq.1 hi with h | rfl; exact HNO.out i h; rw [HXE.out, HYE.out]; simp, Below.drewN' HBW.out⟩
          case measure => simp [intOf]; omega
      · go_wp2_with fail
        go_ret
        exact ⟨ret_bool (zipAll_true (fun x y => x == y) [] la lb HL.out.symm (fun i hi => HNO.out i (by omega))).symm, HBW.out⟩
  · have hne : ((la.length : Int) != (lb.length : Int)) = true := by rw [bne_iff_ne]; omega
    have E : Hid (zipAll (fun x y => x == y) la lb = false) := zipAll_len _ _ _ (by omega)
    clear ha hb hl
    go_enter Tryz.func55, Tryz.ntmps55
    go_wp2_with fail
    go_ret
    exact ⟨ret_bool E.out.symm, Below.refl _ _⟩
end Go.Proofs.YtgmaeflfiooigaaGreatDoor

namespace Go.Proofs.YtgmaeflfiooigaaGreatDoor
open Go.RowKit
set_option maxHeartbeats 4000000
set_option maxRecDepth 100000

theorem eqArs_any (la lb : List Ar) (D : Nat → Prop) (va vb : Value) (w : World) (ha : ArsAt D w la va) (hb : ArsAt D w lb vb) :
    Calls Tryz.prog 52 #[va, vb] w fun e w' => e = .returned (.bool (sameArs la lb)) ∧ Below w.heap.size w w' := by
  rw [sameArs_zip]
  obtain ⟨a1, a2, rfl⟩ := ha.shape
  obtain ⟨b1, b2, rfl⟩ := hb.shape
  have l63 := ha.fits.lt
  have m63 := hb.fits.lt
  by_cases hl : lb.length = la.length
  · rw [hl] at hb ⊢
    have HA := Lib.hid ha; have HB := Lib.hid hb; have HL := Lib.hid hl
    clear ha hb hl m63
    go_enter Tryz.func52, Tryz.ntmps52
    go_wp2_with fail
    go_loopw [5, 13] (fun _ s13 wr => ∃ k : Nat, k ≤ la.length ∧ s13 = .int .i64 k ∧ (∀ i, i < k → sameAr (la.getD i Ar.nil) (lb.getD i Ar.nil) = true) ∧ Below w.heap.size w wr) (fun _ s13 _ => la.length - (intOf s13).toNat)
    case atStart => exact ⟨0, Nat.zero_le _, rfl, fun i hi => by omega, Below.refl _ _⟩
    case round =>
      obtain ⟨k, hk, rfl, hno, hb⟩ := hrel
      have HNO := Lib.hid hno; have HBW := Lib.hid hb
      have hsz := hb.size
      clear hno hb
      by_cases hlt : k < la.length
      · obtain ⟨ab, ao, rfl, aD, al, a0, a1⟩ := ArsAt.cellAt (ArsAt.old HBW.out HA.out) k hlt
        obtain ⟨bb, bo, rfl, bD, bl, b0, b1⟩ := ArsAt.cellAt (ArsAt.old HBW.out HB.out) k (by rw [HL.out]; exact hlt)
        have HKL := Lib.hid hlt
        clear aD bD
        generalize hxe : arAt la k = xa at *
        generalize hye : arAt lb k = xb at *
        have HXE := Lib.hid hxe; have HYE := Lib.hid hye; clear hxe hye
        obtain ⟨n1, s1⟩ := xa
        obtain ⟨n2, s2⟩ := xb
        dsimp only at a0 a1 b0 b1
        cases q : (n1 == n2) <;> cases q2 : (s1 == s2)
        case true.true =>
          have hq : n1 = n2 := by simpa using q
          have hq2 : s1 = s2 := by simpa using q2
          subst hq hq2
          clear q q2
          go_wp2_with fail
          go_quiet (fail)
          go_wp2_with fail
          go_roundw
          case rel => exact ⟨k + 1, by omega, by go_num, fun i hi => by rcases Nat.lt_succ_iff_lt_or_eq.1 hi with h | rfl; exact HNO.out i h; (show sameAr (arAt la _) (arAt lb _) = true; rw [HXE.out, HYE.out]; simp [sameAr]), Below.drewN' HBW.out⟩
          case measure => simp [intOf]; omega
        all_goals
          have HQ : Hid (sameAr (arAt la k) (arAt lb k) = false) := by show _ = _; rw [HXE.out, HYE.out]; simp [sameAr, q, q2]
          go_wp2_with fail
          go_quiet (fail)
          go_wp2_with fail
          all_goals
            go_ret
            exact ⟨ret_bool (zipAll_false sameAr Ar.nil la lb k HL.out.symm HKL.out HQ.out).symm, Below.drewN' HBW.out⟩
      · go_wp2_with fail
        go_ret
        exact ⟨ret_bool (zipAll_true sameAr Ar.nil la lb HL.out.symm (fun i hi => HNO.out i (by omega))).symm, HBW.out⟩
  · have hne : ((la.length : Int) != (lb.length : Int)) = true := by rw [bne_iff_ne]; omega
    have E : Hid (zipAll sameAr la lb = false) := zipAll_len _ _ _ (by omega)
    clear ha hb hl
    go_enter Tryz.func52, Tryz.ntmps52
    go_wp2_with fail
    go_ret
    exact ⟨ret_bool E.out.symm, Below.refl _ _⟩
end Go.Proofs.YtgmaeflfiooigaaGreatDoor

namespace Go.Proofs.YtgmaeflfiooigaaGreatDoor
open Go.RowKit
set_option maxHeartbeats 4000000
set_option maxRecDepth 100000

def SameFuOf (x : Fu) : Prop := ∀ (y : Fu) (D : Nat → Prop) (a t e a' t' e' : Value) (w : World), StrsAt D w x.params a → StrsAt D w x.locals t → StsAt D w x.body e → StrsAt D w y.params a' → StrsAt D w y.locals t' → StsAt D w y.body e' →
  Calls Tryz.prog 54 #[fuV x a t e, fuV y a' t' e'] w fun e w' => e = .returned (.bool (sameFu x y)) ∧ Below w.heap.size w w'
theorem sameFu_any (x : Fu) : SameFuOf x := by
  intro y D sa st se sb ut ue w ha ht he hb ht' he'
  obtain ⟨a1, a2, rfl⟩ := ha.shape
  obtain ⟨t1, t2, rfl⟩ := ht.shape
  obtain ⟨e1, e2, rfl⟩ := he.shape
  obtain ⟨b1, b2, rfl⟩ := hb.shape
  obtain ⟨u1, u2, rfl⟩ := ht'.shape
  obtain ⟨v1, v2, rfl⟩ := he'.shape
  obtain ⟨nm, us, tt, ee⟩ := x
  obtain ⟨nm', vs, tt', ee'⟩ := y
  have HA := Lib.hid ha; have HT := Lib.hid ht; have HE := Lib.hid he; have HA' := Lib.hid hb; have HT' := Lib.hid ht'; have HE' := Lib.hid he'
  have E : Hid (sameFu ⟨nm, us, tt, ee⟩ ⟨nm', vs, tt', ee'⟩ = (nm == nm' && sameBs us vs && sameBs tt tt' && sameSts ee ee')) := by show _ = _; unfold sameFu; rfl
  clear ha ht he hb ht' he'
  show Calls _ _ #[.agg #[.string (strOf nm), .slice a1 us.length a2, .slice t1 tt.length t2, .slice e1 ee.length e2], .agg #[.string (strOf nm'), .slice b1 vs.length b2, .slice u1 tt'.length u2, .slice v1 ee'.length v2]] _ _
  rw [E.out]
  go_enter Tryz.func54, Tryz.ntmps54
  go_wp2_with fail
  · refine (eqStrs_any us vs D (.slice a1 us.length a2) (.slice b1 vs.length b2) _ ?h1 ?h2).mono ?_
    case h1 => exact StrsAt.old (((Below.refl _ _).alloc (Nat.le_refl _) _).alloc (by simp) _) HA.out
    case h2 => exact StrsAt.old (((Below.refl _ _).alloc (Nat.le_refl _) _).alloc (by simp) _) HA'.out
    rintro r w1 ⟨rfl, hb1⟩
    have hz : w.heap.size + 1 < w1.heap.size := by have := hb1.size; simp at this; omega
    have g3 : w1.cell? ⟨w.heap.size, 2, none⟩ = some (.slice t1 tt.length t2) := below_keeps hb1 (by simp [World.cell?_alloc_lt])
    have g4 : w1.cell? ⟨w.heap.size, 3, none⟩ = some (.slice e1 ee.length e2) := below_keeps hb1 (by simp [World.cell?_alloc_lt])
    have k3 : w1.cell? ⟨w.heap.size + 1, 2, none⟩ = some (.slice u1 tt'.length u2) := below_keeps hb1 (by simp [World.cell?_alloc_lt])
    have k4 : w1.cell? ⟨w.heap.size + 1, 3, none⟩ = some (.slice v1 ee'.length v2) := below_keeps hb1 (by simp [World.cell?_alloc_lt])
    have hbw : Below w.heap.size w w1 := (((Below.refl _ _).alloc (Nat.le_refl _) _).alloc (by simp) _).trans (hb1.mono (by simp; omega))
    have HBW1 := Lib.hid hbw
    clear hb1 hbw
    cases qa : sameBs us vs
    · have QA := Lib.hid qa; clear qa
      go_wp2_with fail
      go_ret
      exact ⟨ret_bool (by simp [*, QA.out]), HBW1.out⟩
    have QA := Lib.hid qa; clear qa
    go_wp2_with fail
    refine (eqStrs_any tt tt' D (.slice t1 tt.length t2) (.slice u1 tt'.length u2) _ (StrsAt.old HBW1.out HT.out) (StrsAt.old HBW1.out HT'.out)).mono ?_
    rintro r w2 ⟨rfl, hb2⟩
    have l4 := below_keeps hb2 g4
    have m4 := below_keeps hb2 k4
    have HBW2 := Lib.hid (HBW1.out.trans (hb2.mono (by omega)))
    have hs2 := hb2.size
    clear hb2 g3 g4 k3 k4
    cases qt : sameBs tt tt'
    · have QT := Lib.hid qt; clear qt
      go_wp2_with fail
      go_ret
      exact ⟨ret_bool (by simp [*, QA.out, QT.out]), HBW2.out⟩
    have QT := Lib.hid qt; clear qt
    go_wp2_with fail
    refine (eqSts_any ee ee' D (.slice e1 ee.length e2) (.slice v1 ee'.length v2) _ (HE.out.old HBW2.out) (HE'.out.old HBW2.out)).mono ?_
    rintro r w3 ⟨rfl, hb3⟩
    have HBW3 := Lib.hid (HBW2.out.trans (hb3.mono (by omega)))
    clear hb3 l4 m4
    go_wp2_with fail
    go_ret
    exact ⟨ret_bool (by simp [*, QA.out, QT.out]), HBW3.out⟩
  all_goals
    go_ret
    refine ⟨ret_bool ?_, ((Below.refl _ _).alloc (Nat.le_refl _) _).alloc (by simp) _⟩
    simp [*]

theorem eqFunc_fus (la : List Fu) (ih : ∀ x, x ∈ la → SameFuOf x) (lb : List Fu) (D : Nat → Prop) (va vb : Value) (w : World) (ha : FusAt D w la va) (hb : FusAt D w lb vb) :
    Calls Tryz.prog 53 #[va, vb, .func (.func 54) #[] #[]] w fun e w' => e = .returned (.bool (zipAll sameFu la lb)) ∧ Below w.heap.size w w' := by
  obtain ⟨a1, a2, rfl⟩ := ha.shape
  obtain ⟨b1, b2, rfl⟩ := hb.shape
  have l63 := ha.fits.lt
  have m63 := hb.fits.lt
  by_cases hl : lb.length = la.length
  · rw [hl] at hb ⊢
    have HA := Lib.hid ha; have HB := Lib.hid hb; have IH := Lib.hid ih; have HL := Lib.hid hl
    clear ha hb ih hl m63
    go_enter Tryz.func53, Tryz.ntmps53
    go_wp2_with fail
    go_loopw [7, 8, 9, 17] (fun _ _ _ s17 wr => ∃ k : Nat, k ≤ la.length ∧ s17 = .int .i64 k ∧ (∀ i, i < k → sameFu (la.getD i Fu.nil) (lb.getD i Fu.nil) = true) ∧ Below w.heap.size w wr) (fun _ _ _ s17 _ => la.length - (intOf s17).toNat)
    case atStart => exact ⟨0, Nat.zero_le _, rfl, fun i hi => by omega, Below.refl _ _⟩
    case round =>
      obtain ⟨k, hk, rfl, hno, hb⟩ := hrel
      have HNO := Lib.hid hno; have HBW := Lib.hid hb
      have hsz := hb.size
      clear hno hb
      by_cases hlt : k < la.length
      · obtain ⟨xab, xao, a7, a8, a9, rfl, xaD, al, a0, a1, a2, a3, ap, av, ah⟩ := FusAt.cellAt (FusAt.old HBW.out HA.out) k hlt
        obtain ⟨xbb, xbo, b7, b8, b9, rfl, xbD, bl, b0, b1, b2, b3, bp, bv, bh⟩ := FusAt.cellAt (FusAt.old HBW.out HB.out) k (by rw [HL.out]; exact hlt)
        obtain ⟨a51, a52, rfl⟩ := ap.shape
        obtain ⟨b51, b52, rfl⟩ := bp.shape
        obtain ⟨a61, a62, rfl⟩ := av.shape
        obtain ⟨b61, b62, rfl⟩ := bv.shape
        obtain ⟨a71, a72, rfl⟩ := ah.shape
        obtain ⟨b71, b72, rfl⟩ := bh.shape
        have HAH := Lib.hid ap; have HBH := Lib.hid bp; have HAT := Lib.hid av; have HBT := Lib.hid bv; have HAE := Lib.hid ah; have HBE := Lib.hid bh
        clear ap bp av bv ah bh xaD xbD
        have IHX := Lib.hid (IH.out _ (fuAt_mem hlt))
        have HKL := Lib.hid hlt
        generalize hxe : fuAt la k = xa at *
        generalize hye : fuAt lb k = xb at *
        have HXE := Lib.hid hxe; have HYE := Lib.hid hye; clear hxe hye
        generalize hxa : sameFu xa xb = q
        have HXA : Hid (sameFu (fuAt la k) (fuAt lb k) = q) := by show _ = _; rw [HXE.out, HYE.out]; exact hxa
        have HXB := Lib.hid hxa
        clear hxa
        have hww : Below wr.heap.size wr ((wr.alloc (.cells #[.string (strOf xa.name), .slice a51 xa.params.length a52, .slice a61 xa.locals.length a62, .slice a71 xa.body.length a72] 52)).alloc (.cells #[.string (strOf xb.name), .slice b51 xb.params.length b52, .slice b61 xb.locals.length b62, .slice b71 xb.body.length b72] 52)) := ((Below.refl _ _).alloc (Nat.le_refl _) _).alloc (by simp) _
        have HAH2 := Lib.hid (StrsAt.old hww HAH.out); have HBH2 := Lib.hid (StrsAt.old hww HBH.out)
        have HAT2 := Lib.hid (StrsAt.old hww HAT.out); have HBT2 := Lib.hid (StrsAt.old hww HBT.out)
        have HAE2 := Lib.hid (HAE.out.old hww); have HBE2 := Lib.hid (HBE.out.old hww)
        have HWW := Lib.hid (HBW.out.trans (hww.mono hsz))
        clear hww
        go_wp2_with fail
        refine (IHX.out _ D _ _ _ _ _ _ _ HAH2.out HAT2.out HAE2.out HBH2.out HBT2.out HBE2.out).mono ?_
        rw [HXB.out]
        cases q
        · rintro r w2 ⟨rfl, hb2⟩
          have HB2 := Lib.hid (HWW.out.trans (hb2.mono (by simp; omega)))
          clear hb2 a0 a1 a2 a3 b0 b1 b2 b3
          go_wp2_with fail
          go_ret
          exact ⟨ret_bool (zipAll_false sameFu Fu.nil la lb k HL.out.symm HKL.out HXA.out).symm, HB2.out⟩
        · rintro r w2 ⟨rfl, hb2⟩
          have HB2 := Lib.hid (HWW.out.trans (hb2.mono (by simp; omega)))
          clear hb2 a0 a1 a2 a3 b0 b1 b2 b3
          go_wp2_with fail
          go_roundw
          case rel => exact ⟨k + 1, by omega, by go_num, fun i hi => by rcases Nat.lt_succ_iff_lt_or_eq.1 hi with h | rfl; exact HNO.out i h; exact HXA.out, HB2.out⟩
          case measure => simp [intOf]; omega
      · go_wp2_with fail
        go_ret
        exact ⟨ret_bool (zipAll_true sameFu Fu.nil la lb HL.out.symm (fun i hi => HNO.out i (by omega))).symm, HBW.out⟩
  · have hne : ((la.length : Int) != (lb.length : Int)) = true := by rw [bne_iff_ne]; omega
    have E : Hid (zipAll sameFu la lb = false) := zipAll_len _ _ _ (by omega)
    clear ha hb ih hl
    go_enter Tryz.func53, Tryz.ntmps53
    go_wp2_with fail
    go_ret
    exact ⟨ret_bool E.out.symm, Below.refl _ _⟩

theorem same_any (p q : Pr) (D : Nat → Prop) (sa sf ta tf : Value) (w : World) (ha : ArsAt D w p.arrays sa) (hf : FusAt D w p.funcs sf) (ha' : ArsAt D w q.arrays ta) (hf' : FusAt D w q.funcs tf) :
    Calls Tryz.prog 20 #[.agg #[sa, sf], .agg #[ta, tf]] w fun r w' => r = .returned (.bool (samePr p q)) ∧ Below w.heap.size w w' := by
  obtain ⟨a1, a2, rfl⟩ := ha.shape
  obtain ⟨f1, f2, rfl⟩ := hf.shape
  obtain ⟨b1, b2, rfl⟩ := ha'.shape
  obtain ⟨g1, g2, rfl⟩ := hf'.shape
  have HA := Lib.hid ha; have HF := Lib.hid hf; have HA' := Lib.hid ha'; have HF' := Lib.hid hf'
  have E : Hid (samePr p q = (sameArs p.arrays q.arrays && zipAll sameFu p.funcs q.funcs)) := by show _ = _; unfold samePr; rw [sameFus_zip]
  clear ha hf ha' hf'
  rw [E.out]
  go_enter Tryz.func20, Tryz.ntmps20
  go_wp2_with fail
  refine (eqArs_any p.arrays q.arrays D (.slice a1 p.arrays.length a2) (.slice b1 q.arrays.length b2) _ ?h1 ?h2).mono ?_
  case h1 => exact ArsAt.old (((Below.refl _ _).alloc (Nat.le_refl _) _).alloc (by simp) _) HA.out
  case h2 => exact ArsAt.old (((Below.refl _ _).alloc (Nat.le_refl _) _).alloc (by simp) _) HA'.out
  rintro r w1 ⟨rfl, hb1⟩
  have hz : w.heap.size + 1 < w1.heap.size := by have := hb1.size; simp at this; omega
  have g3 : w1.cell? ⟨w.heap.size, 1, none⟩ = some (.slice f1 p.funcs.length f2) := below_keeps hb1 (by simp [World.cell?_alloc_lt])
  have k3 : w1.cell? ⟨w.heap.size + 1, 1, none⟩ = some (.slice g1 q.funcs.length g2) := below_keeps hb1 (by simp [World.cell?_alloc_lt])
  have hbw : Below w.heap.size w w1 := (((Below.refl _ _).alloc (Nat.le_refl _) _).alloc (by simp) _).trans (hb1.mono (by simp; omega))
  have HBW1 := Lib.hid hbw
  clear hb1 hbw
  cases qa : sameArs p.arrays q.arrays
  · have QA := Lib.hid qa; clear qa
    go_wp2_with fail
    go_ret
    exact ⟨ret_bool (by simp [QA.out]), HBW1.out⟩
  have QA := Lib.hid qa; clear qa
  go_wp2_with fail
  refine (eqFunc_fus p.funcs (fun x _ => sameFu_any x) q.funcs D (.slice f1 p.funcs.length f2) (.slice g1 q.funcs.length g2) _ (FusAt.old HBW1.out HF.out) (FusAt.old HBW1.out HF'.out)).mono ?_
  rintro r w2 ⟨rfl, hb2⟩
  have HBW2 := Lib.hid (HBW1.out.trans (hb2.mono (by omega)))
  clear hb2 g3 k3
  go_wp2_with fail
  go_ret
  exact ⟨ret_bool (by simp [QA.out]), HBW2.out⟩
end Go.Proofs.YtgmaeflfiooigaaGreatDoor

namespace Go.Proofs.YtgmaeflfiooigaaGreatDoor
open Go.RowKit
set_option maxHeartbeats 4000000
set_option maxRecDepth 100000

def Small (n : Nat) : Prop := n ≤ 1152921504606846976
theorem Small.out {n : Nat} (h : Small n) : n ≤ 1152921504606846976 := h
theorem Small.mono {m n : Nat} (h : Small n) (hm : m ≤ n) : Small m := Nat.le_trans hm h

def ExprsOf (l : List Ex) : Prop := ∀ (D : Nat → Prop) (v : Value) (w : World), ExsAt D w l v → Small (exsCount l) →
  Calls Tryz.prog 88 #[v] w fun e w' => e = .returned (.int .i64 (exsCount l)) ∧ Below w.heap.size w w'
theorem exprs_step (l : List Ex) (ih : ∀ x, x ∈ l → ExprsOf x.args) : ExprsOf l := by
  intro D v w h hs
  obtain ⟨a, c, rfl⟩ := h.shape
  have l63 := h.fits.lt
  have H := Lib.hid h; have IH := Lib.hid ih; have HS := Lib.hid hs
  clear h ih hs
  go_enter Tryz.func88, Tryz.ntmps88
  go_wp2_with fail
  go_loopw [2, 4, 7] (fun s2 _ s7 wr => ∃ k : Nat, k ≤ l.length ∧ s7 = .int .i64 k ∧ s2 = .int .i64 (exsCount (l.take k)) ∧ Below w.heap.size w wr) (fun _ _ s7 _ => l.length - (intOf s7).toNat)
  case atStart => exact ⟨0, Nat.zero_le _, rfl, rfl, Below.refl _ _⟩
  case round =>
    obtain ⟨k, hk, rfl, rfl, hb⟩ := hrel
    have HB := Lib.hid hb
    have hsz := hb.size
    clear hb
    by_cases hlt : k < l.length
    · obtain ⟨eb, off, es, rfl, hD, c0, c1, c2, c3, c4, hes, hn⟩ := (H.out.old HB.out).cellAt k hlt
      obtain ⟨ea, ec, rfl⟩ := hes.shape
      have HES := Lib.hid hes
      have IHX := Lib.hid (IH.out _ (exAt_mem hlt))
      have hnext : exsCount (l.take (k + 1)) = exsCount (l.take k) + exCount (exAt l k) := exsCount_take l Ex.nil k hlt
      rw [exCount_eq] at hnext
      have HN := Lib.hid hnext
      have hle := exsCount_take_le l (k + 1)
      have hsm := HS.out.out
      rw [hnext] at hle
      have hebl : eb < wr.heap.size := World.block_lt_of_cell? _ _ c0
      clear hes hn hD hnext
      generalize exsCount (l.take k) = A at *
      generalize exsCount l = T at *
      generalize exAt l k = e at *
      have HSX : Hid (Small (exsCount e.args)) := by show _ ≤ _; omega
      have hA0 : (0 : Int) ≤ (A : Int) := by omega
      have hA1 : (A : Int) ≤ 1152921504606846976 := by omega
      have hE0 : (0 : Int) ≤ (exsCount e.args : Int) := by omega
      have hE1 : (exsCount e.args : Int) ≤ 1152921504606846976 := by omega
      have hww : Below wr.heap.size wr (wr.alloc (.cells #[.int .i64 e.kind, .int .i64 e.op, .int .i64 e.n, .string (strOf e.name), .slice ea e.args.length ec] 31)) := (Below.refl _ _).alloc (Nat.le_refl _) _
      have HW := Lib.hid (HB.out.trans (hww.mono hsz))
      have HE2 := Lib.hid (HES.out.old hww)
      clear hww hle hsm
      go_wp2_with fail
      refine (IHX.out D _ _ HE2.out HSX.out).mono ?_
      rintro r w2 ⟨rfl, hb2⟩
      have HB2 := Lib.hid (HW.out.trans (hb2.mono (by simp; omega)))
      clear hb2 c0 c1 c2 c3 c4
      go_wp2_with fail
      go_roundw
      case rel => exact ⟨k + 1, by omega, by go_num, by rw [HN.out]; go_num, HB2.out⟩
      case measure => simp [intOf]; omega
    · have e : l.take k = l := List.take_of_length_le (by omega)
      rw [e]
      clear e
      go_wp2_with fail
      go_ret
      exact ⟨rfl, HB.out⟩
theorem exprs_all : ∀ (n : Nat) (l : List Ex), SizeOf.sizeOf l ≤ n → ExprsOf l
  | 0, l, h => by cases l <;> simp at h
  | n + 1, l, h => exprs_step l fun x hx => exprs_all n x.args (by
      have h1 := List.sizeOf_lt_of_mem hx
      have h2 : SizeOf.sizeOf x.args < SizeOf.sizeOf x := by cases x; simp only [Ex.args, Ex.mk.sizeOf_spec]; omega
      omega)
theorem exprs_any (l : List Ex) : ExprsOf l := exprs_all _ l (Nat.le_refl _)

def SizeOfs (l : List St) : Prop := ∀ (D : Nat → Prop) (v : Value) (w : World), StsAt D w l v → Small (stsCount l) →
  Calls Tryz.prog 50 #[v] w fun e w' => e = .returned (.int .i64 (stsCount l)) ∧ Below w.heap.size w w'
theorem size_step (l : List St) (iht : ∀ x, x ∈ l → SizeOfs x.thn) (ihe : ∀ x, x ∈ l → SizeOfs x.els) : SizeOfs l := by
  intro D v w h hs
  obtain ⟨a, c, rfl⟩ := h.shape
  have l63 := h.fits.lt
  have H := Lib.hid h; have IHT := Lib.hid iht; have IHE := Lib.hid ihe; have HS := Lib.hid hs
  clear h iht ihe hs
  go_enter Tryz.func50, Tryz.ntmps50
  go_wp2_with fail
  go_loopw [2, 4, 7] (fun s2 _ s7 wr => ∃ k : Nat, k ≤ l.length ∧ s7 = .int .i64 k ∧ s2 = .int .i64 (stsCount (l.take k)) ∧ Below w.heap.size w wr) (fun _ _ s7 _ => l.length - (intOf s7).toNat)
  case atStart => exact ⟨0, Nat.zero_le _, rfl, rfl, Below.refl _ _⟩
  case round =>
    obtain ⟨k, hk, rfl, rfl, hb⟩ := hrel
    have HB := Lib.hid hb
    have hsz := hb.size
    clear hb
    by_cases hlt : k < l.length
    · obtain ⟨eb, off, es, et, ee, rfl, hD, hebl, c0, c1, c2, c3, c4, hes, het, hee⟩ := (H.out.old HB.out).cellAt k hlt
      obtain ⟨a1, a2, rfl⟩ := hes.shape
      obtain ⟨t1, t2, rfl⟩ := het.shape
      obtain ⟨u1, u2, rfl⟩ := hee.shape
      have IHTX := Lib.hid (IHT.out _ (stAt_mem hlt))
      have IHEX := Lib.hid (IHE.out _ (stAt_mem hlt))
      have hnext : stsCount (l.take (k + 1)) = stsCount (l.take k) + stCount (stAt l k) := stsCount_take l St.nil k hlt
      rw [stCount_eq] at hnext
      have HN := Lib.hid hnext
      have hle := stsCount_take_le l (k + 1)
      have hsm := HS.out.out
      rw [hnext] at hle
      have HES := Lib.hid hes; have HET := Lib.hid het; have HEE := Lib.hid hee
      clear hes het hee hD hnext
      generalize stsCount (l.take k) = A at *
      generalize stsCount l = T at *
      generalize stAt l k = x at *
      have HSX : Hid (Small (exsCount x.args)) := by show _ ≤ _; omega
      have HST : Hid (Small (stsCount x.thn)) := by show _ ≤ _; omega
      have HSE : Hid (Small (stsCount x.els)) := by show _ ≤ _; omega
      have hA0 : (0 : Int) ≤ (A : Int) := by omega
      have hA1 : (A : Int) ≤ 1152921504606846976 := by omega
      have hE0 : (0 : Int) ≤ (exsCount x.args : Int) := by omega
      have hE1 : (exsCount x.args : Int) ≤ 1152921504606846976 := by omega
      have hF0 : (0 : Int) ≤ (stsCount x.thn : Int) := by omega
      have hF1 : (stsCount x.thn : Int) ≤ 1152921504606846976 := by omega
      have hG0 : (0 : Int) ≤ (stsCount x.els : Int) := by omega
      have hG1 : (stsCount x.els : Int) ≤ 1152921504606846976 := by omega
      have hww : Below wr.heap.size wr (wr.alloc (.cells #[.int .i64 x.kind, .string (strOf x.name), .slice a1 x.args.length a2, .slice t1 x.thn.length t2, .slice u1 x.els.length u2] 49)) := (Below.refl _ _).alloc (Nat.le_refl _) _
      have g2 : (wr.alloc (.cells #[.int .i64 x.kind, .string (strOf x.name), .slice a1 x.args.length a2, .slice t1 x.thn.length t2, .slice u1 x.els.length u2] 49)).cell? ⟨wr.heap.size, 2, none⟩ = some (.slice a1 x.args.length a2) := by simp
      have g3 : (wr.alloc (.cells #[.int .i64 x.kind, .string (strOf x.name), .slice a1 x.args.length a2, .slice t1 x.thn.length t2, .slice u1 x.els.length u2] 49)).cell? ⟨wr.heap.size, 3, none⟩ = some (.slice t1 x.thn.length t2) := by simp
      have g4 : (wr.alloc (.cells #[.int .i64 x.kind, .string (strOf x.name), .slice a1 x.args.length a2, .slice t1 x.thn.length t2, .slice u1 x.els.length u2] 49)).cell? ⟨wr.heap.size, 4, none⟩ = some (.slice u1 x.els.length u2) := by simp
      have HW := Lib.hid hww
      have HE2 := Lib.hid (HES.out.old hww)
      have HETF : Hid (∀ w', Below wr.heap.size wr w' → StsAt D w' x.thn (.slice t1 x.thn.length t2)) := fun w' h => HET.out.old h
      have HEEF : Hid (∀ w', Below wr.heap.size wr w' → StsAt D w' x.els (.slice u1 x.els.length u2)) := fun w' h => HEE.out.old h
      have CT : Hid (∀ w', Below wr.heap.size wr w' → Calls Tryz.prog 50 #[.slice t1 x.thn.length t2] w' fun e w'' => e = .returned (.int .i64 (stsCount x.thn)) ∧ Below w'.heap.size w' w'') := fun w' h => IHTX.out D _ _ (HETF.out w' h) HST.out
      have CE : Hid (∀ w', Below wr.heap.size wr w' → Calls Tryz.prog 50 #[.slice u1 x.els.length u2] w' fun e w'' => e = .returned (.int .i64 (stsCount x.els)) ∧ Below w'.heap.size w' w'') := fun w' h => IHEX.out D _ _ (HEEF.out w' h) HSE.out
      clear HET HEE HETF HEEF IHTX IHEX
      have hXl : wr.heap.size < (wr.alloc (.cells #[.int .i64 x.kind, .string (strOf x.name), .slice a1 x.args.length a2, .slice t1 x.thn.length t2, .slice u1 x.els.length u2] 49)).heap.size := by simp
      have S1 : IntKind.i64.wrap (1 + (exsCount x.args : Int)) = 1 + (exsCount x.args : Int) := IntWalk.i64_in _ (by omega)
      have S2 : IntKind.i64.wrap (1 + (exsCount x.args : Int) + (stsCount x.thn : Int)) = 1 + (exsCount x.args : Int) + (stsCount x.thn : Int) := IntWalk.i64_in _ (by omega)
      have S3 : IntKind.i64.wrap (1 + (exsCount x.args : Int) + (stsCount x.thn : Int) + (stsCount x.els : Int)) = 1 + (exsCount x.args : Int) + (stsCount x.thn : Int) + (stsCount x.els : Int) := IntWalk.i64_in _ (by omega)
      have S4 : IntKind.i64.wrap ((A : Int) + (1 + (exsCount x.args : Int) + (stsCount x.thn : Int) + (stsCount x.els : Int))) = (A : Int) + (1 + (exsCount x.args : Int) + (stsCount x.thn : Int) + (stsCount x.els : Int)) := IntWalk.i64_in _ (by omega)
      clear hww hle hsm
      go_wp2_with fail
      generalize wr.alloc (.cells #[.int .i64 x.kind, .string (strOf x.name), .slice a1 x.args.length a2, .slice t1 x.thn.length t2, .slice u1 x.els.length u2] 49) = W' at *
      clear c0 c1 c2 c3 c4 hebl
      generalize wr.heap.size = X at *
      have hdr : Below W'.heap.size W' W'.drew := (Below.refl _ _).drew
      have HE3 := Lib.hid (HE2.out.old hdr)
      have HWd := Lib.hid (HW.out.trans (hdr.mono (Nat.le_of_lt hXl)))
      clear hdr HE2
      go_region_held3 (fun w' => w'.cell? ⟨X, 2, none⟩ = some (.slice a1 x.args.length a2) ∧ w'.cell? ⟨X, 3, none⟩ = some (.slice t1 x.thn.length t2) ∧ w'.cell? ⟨X, 4, none⟩ = some (.slice u1 x.els.length u2)) (first | (simp [*, World.cell?_alloc_lt]; done) | go_keep) (first
        | (go_at_call 88; refine (exprs_any x.args D _ _ HE3.out HSX.out).mono ?_; rintro r w2 ⟨he, hb2⟩; subst he; have h2l : X < w2.heap.size := (Nat.lt_of_lt_of_le hXl hb2.size); have p2 : w2.cell? ⟨X, 2, none⟩ = some (.slice a1 x.args.length a2) := below_keeps hb2 g2; have p3 : w2.cell? ⟨X, 3, none⟩ = some (.slice t1 x.thn.length t2) := below_keeps hb2 g3; have p4 : w2.cell? ⟨X, 4, none⟩ = some (.slice u1 x.els.length u2) := below_keeps hb2 g4; have HB2 := Lib.hid (HWd.out.trans (hb2.mono (Nat.le_of_lt hXl))); clear hb2)
        | (go_at_call 50; (with_reducible refine (CT.out _ HB2.out).mono ?_); rintro r w3 ⟨he, hb3⟩; subst he; have p2' : w3.cell? ⟨X, 2, none⟩ = some (.slice a1 x.args.length a2) := below_keeps hb3 p2; have p3' : w3.cell? ⟨X, 3, none⟩ = some (.slice t1 x.thn.length t2) := below_keeps hb3 p3; have p4' : w3.cell? ⟨X, 4, none⟩ = some (.slice u1 x.els.length u2) := below_keeps hb3 p4; have h3l : X < w3.heap.size := (Nat.lt_of_lt_of_le h2l hb3.size); have HB3 := Lib.hid (HB2.out.trans (hb3.mono (Nat.le_of_lt h2l))); clear hb3)
        | (go_at_call 50; (with_reducible refine (CE.out _ HB3.out).mono ?_); rintro r w4 ⟨he, hb4⟩; subst he; have p2'' : w4.cell? ⟨X, 2, none⟩ = some (.slice a1 x.args.length a2) := below_keeps hb4 p2'; have p3'' : w4.cell? ⟨X, 3, none⟩ = some (.slice t1 x.thn.length t2) := below_keeps hb4 p3'; have p4'' : w4.cell? ⟨X, 4, none⟩ = some (.slice u1 x.els.length u2) := below_keeps hb4 p4'; have HB4 := Lib.hid (HB3.out.trans (hb4.mono (Nat.le_of_lt h3l))); clear hb4))
      go_wp2_with fail
      go_roundw
      case rel => exact ⟨k + 1, by omega, by go_num, by rw [HN.out]; go_num, HB.out.trans (HB4.out.mono hsz)⟩
      case measure => simp [intOf]; omega
    · have e : l.take k = l := List.take_of_length_le (by omega)
      rw [e]
      clear e
      go_wp2_with fail
      go_ret
      exact ⟨rfl, HB.out⟩
theorem size_all : ∀ (n : Nat) (l : List St), SizeOf.sizeOf l ≤ n → SizeOfs l
  | 0, l, h => by cases l <;> simp at h
  | n + 1, l, h => size_step l
    (fun x hx => size_all n x.thn (by
      have h1 := List.sizeOf_lt_of_mem hx
      have h2 : SizeOf.sizeOf x.thn < SizeOf.sizeOf x := by cases x; simp only [St.thn, St.mk.sizeOf_spec]; omega
      omega))
    (fun x hx => size_all n x.els (by
      have h1 := List.sizeOf_lt_of_mem hx
      have h2 : SizeOf.sizeOf x.els < SizeOf.sizeOf x := by cases x; simp only [St.els, St.mk.sizeOf_spec]; omega
      omega))
theorem size_any (l : List St) : SizeOfs l := size_all _ l (Nat.le_refl _)

theorem sizePr_any (p : Pr) (D : Nat → Prop) (sa sf : Value) (w : World) (ha : ArsAt D w p.arrays sa) (hf : FusAt D w p.funcs sf) (hs : Small (prCount p)) :
    Calls Tryz.prog 18 #[.agg #[sa, sf]] w fun r w' => r = .returned (.int .i64 (prCount p)) ∧ Below w.heap.size w w' := by
  obtain ⟨a1, a2, rfl⟩ := ha.shape
  obtain ⟨f1, f2, rfl⟩ := hf.shape
  have lf := hf.fits.lt
  have HF := Lib.hid hf; have HS := Lib.hid hs
  have HB0 : Hid (Below w.heap.size w (w.alloc (.cells #[.slice a1 p.arrays.length a2, .slice f1 p.funcs.length f2] 27))) := (Below.refl _ _).alloc (Nat.le_refl _) _
  clear ha hf hs
  unfold prCount at *
  go_enter Tryz.func18, Tryz.ntmps18
  go_wp2_with fail
  go_loopw [2, 4, 8] (fun s2 _ s8 wr => ∃ k : Nat, k ≤ p.funcs.length ∧ s8 = .int .i64 k ∧ s2 = .int .i64 (fusCount (p.funcs.take k)) ∧ Below w.heap.size w wr) (fun _ _ s8 _ => p.funcs.length - (intOf s8).toNat)
  case atStart => exact ⟨0, Nat.zero_le _, rfl, rfl, HB0.out⟩
  case round =>
    obtain ⟨k, hk, rfl, rfl, hb⟩ := hrel
    have HB := Lib.hid hb
    have hsz := hb.size
    clear hb
    by_cases hlt : k < p.funcs.length
    · obtain ⟨eb, off, es, et, ee, rfl, hD, hebl, c0, c1, c2, c3, hes, het, hee⟩ := FusAt.cellAt (FusAt.old HB.out HF.out) k hlt
      obtain ⟨p1, p2, rfl⟩ := hes.shape
      obtain ⟨v1, v2, rfl⟩ := het.shape
      obtain ⟨s1, s2, rfl⟩ := hee.shape
      have HES := Lib.hid hee
      have hnext : fusCount (p.funcs.take (k + 1)) = fusCount (p.funcs.take k) + stsCount (fuAt p.funcs k).body := fusCount_take p.funcs Fu.nil k hlt
      have HN := Lib.hid hnext
      have hle := fusCount_take_le p.funcs (k + 1)
      have hsm := HS.out.out
      rw [hnext] at hle
      clear hes het hee hD hnext
      generalize fusCount (p.funcs.take k) = A at *
      generalize fusCount p.funcs = T at *
      generalize fuAt p.funcs k = x at *
      have HSX : Hid (Small (stsCount x.body)) := by show _ ≤ _; omega
      have hA0 : (0 : Int) ≤ (A : Int) := by omega
      have hA1 : (A : Int) ≤ 1152921504606846976 := by omega
      have hE0 : (0 : Int) ≤ (stsCount x.body : Int) := by omega
      have hE1 : (stsCount x.body : Int) ≤ 1152921504606846976 := by omega
      have hww : Below wr.heap.size wr (wr.alloc (.cells #[.string (strOf x.name), .slice p1 x.params.length p2, .slice v1 x.locals.length v2, .slice s1 x.body.length s2] 52)) := (Below.refl _ _).alloc (Nat.le_refl _) _
      have HW := Lib.hid (HB.out.trans (hww.mono hsz))
      have HE2 := Lib.hid (HES.out.old hww)
      clear hww hle hsm
      go_wp2_with fail
      refine (size_any x.body D _ _ HE2.out HSX.out).mono ?_
      rintro r w2 ⟨rfl, hb2⟩
      have HB2 := Lib.hid (HW.out.trans (hb2.mono (by simp; omega)))
      clear hb2 c0 c1 c2 c3
      go_wp2_with fail
      go_roundw
      case rel => exact ⟨k + 1, by omega, by go_num, by rw [HN.out]; go_num, HB2.out⟩
      case measure => simp [intOf]; omega
    · have e : p.funcs.take k = p.funcs := List.take_of_length_le (by omega)
      rw [e]
      clear e
      go_wp2_with fail
      go_ret
      exact ⟨rfl, HB.out⟩
end Go.Proofs.YtgmaeflfiooigaaGreatDoor

namespace Go.Proofs.YtgmaeflfiooigaaGreatDoor
open Go.RowKit
set_option maxHeartbeats 4000000
set_option maxRecDepth 100000

theorem ExsAt.zero {D : Nat → Prop} {w : World} : ExsAt D w [] (.slice none 0 0) :=
  .mk [] none 0 0 0 (fun _ => undef) (Nat.le_refl _) (by show _ ≤ _; simp) (.inl rfl) (fun i hi => absurd hi (Nat.not_lt_zero _)) (fun i hi => absurd hi (Nat.not_lt_zero _)) (fun i hi => absurd hi (Nat.not_lt_zero _)) (fun i hi => absurd hi (Nat.not_lt_zero _)) (fun i hi => absurd hi (Nat.not_lt_zero _)) (fun i hi => absurd hi (Nat.not_lt_zero _)) (fun i hi => absurd hi (Nat.not_lt_zero _))
theorem StsAt.zero {D : Nat → Prop} {w : World} : StsAt D w [] (.slice none 0 0) :=
  .mk [] none 0 0 0 (fun _ => undef) (fun _ => undef) (fun _ => undef) (Nat.le_refl _) (by show _ ≤ _; simp) (.inl rfl) (fun i hi => absurd hi (Nat.not_lt_zero _)) (fun i hi => absurd hi (Nat.not_lt_zero _)) (fun i hi => absurd hi (Nat.not_lt_zero _)) (fun i hi => absurd hi (Nat.not_lt_zero _)) (fun i hi => absurd hi (Nat.not_lt_zero _)) (fun i hi => absurd hi (Nat.not_lt_zero _)) (fun i hi => absurd hi (Nat.not_lt_zero _)) (fun i hi => absurd hi (Nat.not_lt_zero _))
theorem StrsAt.zero {D : Nat → Prop} {w : World} : StrsAt D w [] (.slice none 0 0) :=
  ⟨_, 0, 0, 0, rfl, Nat.le_refl _, by show _ ≤ _; simp, .inl rfl, fun i hi => absurd hi (Nat.not_lt_zero _)⟩
theorem ArsAt.zero {D : Nat → Prop} {w : World} : ArsAt D w [] (.slice none 0 0) :=
  ⟨_, 0, 0, 0, rfl, Nat.le_refl _, by show _ ≤ _; simp, .inl rfl, fun i hi => absurd hi (Nat.not_lt_zero _)⟩
theorem FusAt.zero {D : Nat → Prop} {w : World} : FusAt D w [] (.slice none 0 0) :=
  ⟨_, 0, 0, 0, fun _ => undef, fun _ => undef, fun _ => undef, rfl, Nat.le_refl _, by show _ ≤ _; simp, .inl rfl, fun i hi => absurd hi (Nat.not_lt_zero _)⟩

/-- The cells of an expression, a statement, a function. -/
def exCells (e : Ex) (s : Value) : List Value := [.int .i64 e.kind, .int .i64 e.op, .int .i64 e.n, .string (strOf e.name), s]
theorem RowAt.new (w : World) (cs : List Value) (T : TypeId) : RowAt (w.alloc (.cells cs.toArray T)) w.heap.size 0 cs := fun i hi => by simp
theorem RowAt.at {w : World} {b : Nat} {cs : List Value} (h : RowAt w b 0 cs) (i : Nat) (v : Value) (hi : cs[i]? = some v) : w.cell? ⟨b, i, none⟩ = some v := by
  obtain ⟨hl, e⟩ := List.getElem?_eq_some_iff.1 hi
  have := h i hl
  rw [e] at this; simpa using this
theorem ExsAt.one {D : Nat → Prop} {w : World} {b : Nat} (e : Ex) (s : Value) (hD : D b) (h : RowAt w b 0 (exCells e s)) (hs : ExsAt D w e.args s) (hn : I64 e.n) : ExsAt D w [e] (.slice (some ⟨b, 0, none⟩) 1 1) := by
  refine .mk [e] _ 1 b 0 (fun _ => s) (Nat.le_refl _) (by show _ ≤ _; simp) (.inr ⟨rfl, hD⟩) ?_ ?_ ?_ ?_ ?_ ?_ ?_
  all_goals
    intro i hi
    have hi0 : i = 0 := by simp at hi; omega
    subst hi0
  · exact h.at 0 _ rfl
  · exact h.at 1 _ rfl
  · exact h.at 2 _ rfl
  · exact h.at 3 _ rfl
  · exact h.at 4 _ rfl
  · exact hs
  · exact hn
theorem ExsAt.two {D : Nat → Prop} {w : World} {b : Nat} (e f : Ex) (s t : Value) (hD : D b) (h : RowAt w b 0 (exCells e s ++ exCells f t)) (hs : ExsAt D w e.args s) (hn : I64 e.n) (ht : ExsAt D w f.args t) (hm : I64 f.n) : ExsAt D w [e, f] (.slice (some ⟨b, 0, none⟩) 2 2) := by
  refine .mk [e, f] _ 2 b 0 (fun i => if i = 0 then s else t) (Nat.le_refl _) (by show _ ≤ _; simp) (.inr ⟨rfl, hD⟩) ?_ ?_ ?_ ?_ ?_ ?_ ?_
  all_goals
    intro i hi
    have hi0 : i = 0 ∨ i = 1 := by simp at hi; omega
    rcases hi0 with rfl | rfl
  · exact h.at 0 _ rfl
  · exact h.at 5 _ rfl
  · exact h.at 1 _ rfl
  · exact h.at 6 _ rfl
  · exact h.at 2 _ rfl
  · exact h.at 7 _ rfl
  · exact h.at 3 _ rfl
  · exact h.at 8 _ rfl
  · exact h.at 4 _ rfl
  · exact h.at 9 _ rfl
  · exact hs
  · exact ht
  · exact hn
  · exact hm
def stCells (x : St) (a t e : Value) : List Value := [.int .i64 x.kind, .string (strOf x.name), a, t, e]
theorem StsAt.one {D : Nat → Prop} {w : World} {b : Nat} (x : St) (a t e : Value) (hD : D b) (h : RowAt w b 0 (stCells x a t e)) (ha : ExsAt D w x.args a) (ht : StsAt D w x.thn t) (he : StsAt D w x.els e) : StsAt D w [x] (.slice (some ⟨b, 0, none⟩) 1 1) := by
  refine .mk [x] _ 1 b 0 (fun _ => a) (fun _ => t) (fun _ => e) (Nat.le_refl _) (by show _ ≤ _; simp) (.inr ⟨rfl, hD⟩) ?_ ?_ ?_ ?_ ?_ ?_ ?_ ?_
  all_goals
    intro i hi
    have hi0 : i = 0 := by simp at hi; omega
    subst hi0
  · exact h.at 0 _ rfl
  · exact h.at 1 _ rfl
  · exact h.at 2 _ rfl
  · exact h.at 3 _ rfl
  · exact h.at 4 _ rfl
  · exact ha
  · exact ht
  · exact he
def fuCells (f : Fu) (p l s : Value) : List Value := [.string (strOf f.name), p, l, s]
theorem FusAt.one {D : Nat → Prop} {w : World} {b : Nat} (f : Fu) (p l s : Value) (hD : D b) (h : RowAt w b 0 (fuCells f p l s)) (hp : StrsAt D w f.params p) (hl : StrsAt D w f.locals l) (hs : StsAt D w f.body s) : FusAt D w [f] (.slice (some ⟨b, 0, none⟩) 1 1) := by
  refine ⟨_, 1, b, 0, fun _ => p, fun _ => l, fun _ => s, rfl, Nat.le_refl _, by show _ ≤ _; simp, .inr ⟨rfl, hD⟩, ?_⟩
  intro i hi
  have hi0 : i = 0 := by simp at hi; omega
  subst hi0
  exact ⟨⟨h.at 0 _ rfl, h.at 1 _ rfl, h.at 2 _ rfl, h.at 3 _ rfl⟩, hp, hl, hs⟩
theorem RowAt.alloc {w : World} {b : Nat} {cs : List Value} (h : RowAt w b 0 cs) (o : Obj) : RowAt (w.alloc o) b 0 cs := h.below ((Below.refl _ _).alloc (Nat.le_refl _) _)

def exE : Ex := .mk 4 3 0 [] [.mk 4 1 0 [] [.mk 1 0 1 [] [], .mk 2 0 0 [120] []], .mk 3 17 0 [] [.mk 1 0 2 [] []]]
def exP : Pr := ⟨[], [⟨[109, 97, 105, 110], [], [], [.mk 8 [] [exE] [] []]⟩]⟩
theorem exText_E : exText exE = [40, 49, 32, 43, 32, 120, 41, 32, 42, 32, 45, 50] := by
  simp [exE, exText, exTexts, exShape, wrapPart, exAt, Ex.kind, Ex.op, levelOf, signOf, Lib.itoa, Lib.decDigits]
theorem prText_P : prText exP = [105, 110, 116, 32, 109, 97, 105, 110, 40, 41, 32, 123, 10, 9, 112, 114, 105, 110, 116, 40, 40, 49, 32, 43, 32, 120, 41, 32, 42, 32, 45, 50, 41, 59, 10, 125, 10] := by
  simp [prText, exP, arsText, fusText, fuText, sepText, locText, stsText, stText, stShape, ln, tabsOf, exText_E]
theorem right_E : rightEx exE = true := by
  simp [rightEx, exE, deepOk, wellOk, wellAll, wellHere, onlyOk, onlyOp, onlyN, onlyName, onlyArgs, Ex.kind, Ex.op, Ex.n, Ex.name, Ex.args, levelOf, isName, isWord, wordList, isNameAt, isLetter]
theorem right_P : rightPr exP = true := by
  simp [rightPr, exP, rightFu, stOk, stBad1, stBad2, St.kind, St.args, St.thn, St.els, St.name, fOk, fArgs, fNamed, fThen, fMore, right_E, isName, isWord, wordList, isNameAt, isLetter]
theorem count_P : prCount exP = 7 := by
  simp [prCount, exP, fusCount, stsCount, stCount, exsCount, exCount, exE]
theorem same_P0 : samePr exP ⟨[], []⟩ = false := by
  cases h : samePr exP ⟨[], []⟩
  · rfl
  · rw [samePr_iff] at h; simp [exP] at h
theorem same_PP : samePr exP exP = true := (samePr_iff _ _).2 rfl
theorem right_nil : rightEx (.mk 0 0 0 [] []) = false := by
  simp [rightEx, deepOk, wellOk, wellAll, wellHere, onlyOk, Ex.kind]
end Go.Proofs.YtgmaeflfiooigaaGreatDoor

namespace Go.Proofs.YtgmaeflfiooigaaGreatDoor
open Go.RowKit
set_option maxHeartbeats 4000000
set_option maxRecDepth 100000

theorem i64_small {n : Int} (h : -1000000 ≤ n ∧ n ≤ 1000000) : I64 n := ⟨by omega, by omega⟩

theorem awake_E (w : World) (X : Nat) (hX : X = w.heap.size) : ExsAt (· < X + 1 + 1 + 1 + 1 + 1) (((((w.alloc (.cells #[.int .i64 1, .int .i64 0, .int .i64 1, .string ⟨#[]⟩, .slice none 0 0, .int .i64 2, .int .i64 0, .int .i64 0, .string ⟨#[120]⟩, .slice none 0 0] 31)).alloc (.cells #[.int .i64 4, .int .i64 1, .int .i64 0, .string ⟨#[]⟩, .slice (some ⟨X, 0, none⟩) 2 2] 31)).alloc (.cells #[.int .i64 1, .int .i64 0, .int .i64 2, .string ⟨#[]⟩, .slice none 0 0] 31)).alloc (.cells #[.int .i64 4, .int .i64 1, .int .i64 0, .string ⟨#[]⟩, .slice (some ⟨X, 0, none⟩) 2 2, .int .i64 3, .int .i64 17, .int .i64 0, .string ⟨#[]⟩, .slice (some ⟨X + 1 + 1, 0, none⟩) 1 1] 31)).alloc (.cells #[.int .i64 4, .int .i64 3, .int .i64 0, .string ⟨#[]⟩, .slice (some ⟨X + 1 + 1 + 1, 0, none⟩) 2 2] 31)) exE.args (.slice (some ⟨X + 1 + 1 + 1, 0, none⟩) 2 2) ∧
    (((((w.alloc (.cells #[.int .i64 1, .int .i64 0, .int .i64 1, .string ⟨#[]⟩, .slice none 0 0, .int .i64 2, .int .i64 0, .int .i64 0, .string ⟨#[120]⟩, .slice none 0 0] 31)).alloc (.cells #[.int .i64 4, .int .i64 1, .int .i64 0, .string ⟨#[]⟩, .slice (some ⟨X, 0, none⟩) 2 2] 31)).alloc (.cells #[.int .i64 1, .int .i64 0, .int .i64 2, .string ⟨#[]⟩, .slice none 0 0] 31)).alloc (.cells #[.int .i64 4, .int .i64 1, .int .i64 0, .string ⟨#[]⟩, .slice (some ⟨X, 0, none⟩) 2 2, .int .i64 3, .int .i64 17, .int .i64 0, .string ⟨#[]⟩, .slice (some ⟨X + 1 + 1, 0, none⟩) 1 1] 31)).alloc (.cells #[.int .i64 4, .int .i64 3, .int .i64 0, .string ⟨#[]⟩, .slice (some ⟨X + 1 + 1 + 1, 0, none⟩) 2 2] 31)).heap.size = X + 1 + 1 + 1 + 1 + 1 ∧ RowAt (((((w.alloc (.cells #[.int .i64 1, .int .i64 0, .int .i64 1, .string ⟨#[]⟩, .slice none 0 0, .int .i64 2, .int .i64 0, .int .i64 0, .string ⟨#[120]⟩, .slice none 0 0] 31)).alloc (.cells #[.int .i64 4, .int .i64 1, .int .i64 0, .string ⟨#[]⟩, .slice (some ⟨X, 0, none⟩) 2 2] 31)).alloc (.cells #[.int .i64 1, .int .i64 0, .int .i64 2, .string ⟨#[]⟩, .slice none 0 0] 31)).alloc (.cells #[.int .i64 4, .int .i64 1, .int .i64 0, .string ⟨#[]⟩, .slice (some ⟨X, 0, none⟩) 2 2, .int .i64 3, .int .i64 17, .int .i64 0, .string ⟨#[]⟩, .slice (some ⟨X + 1 + 1, 0, none⟩) 1 1] 31)).alloc (.cells #[.int .i64 4, .int .i64 3, .int .i64 0, .string ⟨#[]⟩, .slice (some ⟨X + 1 + 1 + 1, 0, none⟩) 2 2] 31)) (X + 1 + 1 + 1 + 1) 0 (exCells exE (.slice (some ⟨X + 1 + 1 + 1, 0, none⟩) 2 2)) ∧ Below X w (((((w.alloc (.cells #[.int .i64 1, .int .i64 0, .int .i64 1, .string ⟨#[]⟩, .slice none 0 0, .int .i64 2, .int .i64 0, .int .i64 0, .string ⟨#[120]⟩, .slice none 0 0] 31)).alloc (.cells #[.int .i64 4, .int .i64 1, .int .i64 0, .string ⟨#[]⟩, .slice (some ⟨X, 0, none⟩) 2 2] 31)).alloc (.cells #[.int .i64 1, .int .i64 0, .int .i64 2, .string ⟨#[]⟩, .slice none 0 0] 31)).alloc (.cells #[.int .i64 4, .int .i64 1, .int .i64 0, .string ⟨#[]⟩, .slice (some ⟨X, 0, none⟩) 2 2, .int .i64 3, .int .i64 17, .int .i64 0, .string ⟨#[]⟩, .slice (some ⟨X + 1 + 1, 0, none⟩) 1 1] 31)).alloc (.cells #[.int .i64 4, .int .i64 3, .int .i64 0, .string ⟨#[]⟩, .slice (some ⟨X + 1 + 1 + 1, 0, none⟩) 2 2] 31)) := by
  have r0 : RowAt (w.alloc (.cells #[.int .i64 1, .int .i64 0, .int .i64 1, .string ⟨#[]⟩, .slice none 0 0, .int .i64 2, .int .i64 0, .int .i64 0, .string ⟨#[120]⟩, .slice none 0 0] 31)) X 0 (exCells (.mk 1 0 1 [] []) (.slice none 0 0) ++ exCells (.mk 2 0 0 [120] []) (.slice none 0 0)) := by rw [hX]; exact RowAt.new w _ _
  have s1 : (w.alloc (.cells #[.int .i64 1, .int .i64 0, .int .i64 1, .string ⟨#[]⟩, .slice none 0 0, .int .i64 2, .int .i64 0, .int .i64 0, .string ⟨#[120]⟩, .slice none 0 0] 31)).heap.size = X + 1 := by simp [hX]
  have b1 : Below X w (w.alloc (.cells #[.int .i64 1, .int .i64 0, .int .i64 1, .string ⟨#[]⟩, .slice none 0 0, .int .i64 2, .int .i64 0, .int .i64 0, .string ⟨#[120]⟩, .slice none 0 0] 31)) := (Below.refl _ _).alloc (by omega) _
  generalize (w.alloc (.cells #[.int .i64 1, .int .i64 0, .int .i64 1, .string ⟨#[]⟩, .slice none 0 0, .int .i64 2, .int .i64 0, .int .i64 0, .string ⟨#[120]⟩, .slice none 0 0] 31)) = W1 at *
  have r0 := r0.alloc (.cells #[.int .i64 4, .int .i64 1, .int .i64 0, .string ⟨#[]⟩, .slice (some ⟨X, 0, none⟩) 2 2] 31)
  have b1 := b1.alloc (o := (.cells #[.int .i64 4, .int .i64 1, .int .i64 0, .string ⟨#[]⟩, .slice (some ⟨X, 0, none⟩) 2 2] 31)) (by omega)
  have s2 : (W1.alloc (.cells #[.int .i64 4, .int .i64 1, .int .i64 0, .string ⟨#[]⟩, .slice (some ⟨X, 0, none⟩) 2 2] 31)).heap.size = X + 1 + 1 := by simp [s1]
  generalize (W1.alloc (.cells #[.int .i64 4, .int .i64 1, .int .i64 0, .string ⟨#[]⟩, .slice (some ⟨X, 0, none⟩) 2 2] 31)) = W2 at *
  have r0 := r0.alloc (.cells #[.int .i64 1, .int .i64 0, .int .i64 2, .string ⟨#[]⟩, .slice none 0 0] 31)
  have r2 := RowAt.new W2 (exCells (.mk 1 0 2 [] []) (.slice none 0 0)) 31
  rw [s2] at r2
  have r2 : RowAt (W2.alloc (.cells #[.int .i64 1, .int .i64 0, .int .i64 2, .string ⟨#[]⟩, .slice none 0 0] 31)) (X + 1 + 1) 0 (exCells (.mk 1 0 2 [] []) (.slice none 0 0)) := r2
  have b1 := b1.alloc (o := (.cells #[.int .i64 1, .int .i64 0, .int .i64 2, .string ⟨#[]⟩, .slice none 0 0] 31)) (by omega)
  have s3 : (W2.alloc (.cells #[.int .i64 1, .int .i64 0, .int .i64 2, .string ⟨#[]⟩, .slice none 0 0] 31)).heap.size = X + 1 + 1 + 1 := by simp [s2]
  generalize (W2.alloc (.cells #[.int .i64 1, .int .i64 0, .int .i64 2, .string ⟨#[]⟩, .slice none 0 0] 31)) = W3 at *
  have r0 := r0.alloc (.cells #[.int .i64 4, .int .i64 1, .int .i64 0, .string ⟨#[]⟩, .slice (some ⟨X, 0, none⟩) 2 2, .int .i64 3, .int .i64 17, .int .i64 0, .string ⟨#[]⟩, .slice (some ⟨X + 1 + 1, 0, none⟩) 1 1] 31)
  have r2 := r2.alloc (.cells #[.int .i64 4, .int .i64 1, .int .i64 0, .string ⟨#[]⟩, .slice (some ⟨X, 0, none⟩) 2 2, .int .i64 3, .int .i64 17, .int .i64 0, .string ⟨#[]⟩, .slice (some ⟨X + 1 + 1, 0, none⟩) 1 1] 31)
  have r3 := RowAt.new W3 (exCells (.mk 4 1 0 [] [.mk 1 0 1 [] [], .mk 2 0 0 [120] []]) (.slice (some ⟨X, 0, none⟩) 2 2) ++ exCells (.mk 3 17 0 [] [.mk 1 0 2 [] []]) (.slice (some ⟨X + 1 + 1, 0, none⟩) 1 1)) 31
  rw [s3] at r3
  have r3 : RowAt (W3.alloc (.cells #[.int .i64 4, .int .i64 1, .int .i64 0, .string ⟨#[]⟩, .slice (some ⟨X, 0, none⟩) 2 2, .int .i64 3, .int .i64 17, .int .i64 0, .string ⟨#[]⟩, .slice (some ⟨X + 1 + 1, 0, none⟩) 1 1] 31)) (X + 1 + 1 + 1) 0 (exCells (.mk 4 1 0 [] [.mk 1 0 1 [] [], .mk 2 0 0 [120] []]) (.slice (some ⟨X, 0, none⟩) 2 2) ++ exCells (.mk 3 17 0 [] [.mk 1 0 2 [] []]) (.slice (some ⟨X + 1 + 1, 0, none⟩) 1 1)) := r3
  have b1 := b1.alloc (o := (.cells #[.int .i64 4, .int .i64 1, .int .i64 0, .string ⟨#[]⟩, .slice (some ⟨X, 0, none⟩) 2 2, .int .i64 3, .int .i64 17, .int .i64 0, .string ⟨#[]⟩, .slice (some ⟨X + 1 + 1, 0, none⟩) 1 1] 31)) (by omega)
  have s4 : (W3.alloc (.cells #[.int .i64 4, .int .i64 1, .int .i64 0, .string ⟨#[]⟩, .slice (some ⟨X, 0, none⟩) 2 2, .int .i64 3, .int .i64 17, .int .i64 0, .string ⟨#[]⟩, .slice (some ⟨X + 1 + 1, 0, none⟩) 1 1] 31)).heap.size = X + 1 + 1 + 1 + 1 := by simp [s3]
  generalize (W3.alloc (.cells #[.int .i64 4, .int .i64 1, .int .i64 0, .string ⟨#[]⟩, .slice (some ⟨X, 0, none⟩) 2 2, .int .i64 3, .int .i64 17, .int .i64 0, .string ⟨#[]⟩, .slice (some ⟨X + 1 + 1, 0, none⟩) 1 1] 31)) = W4 at *
  have r0 := r0.alloc (.cells #[.int .i64 4, .int .i64 3, .int .i64 0, .string ⟨#[]⟩, .slice (some ⟨X + 1 + 1 + 1, 0, none⟩) 2 2] 31)
  have r2 := r2.alloc (.cells #[.int .i64 4, .int .i64 3, .int .i64 0, .string ⟨#[]⟩, .slice (some ⟨X + 1 + 1 + 1, 0, none⟩) 2 2] 31)
  have r3 := r3.alloc (.cells #[.int .i64 4, .int .i64 3, .int .i64 0, .string ⟨#[]⟩, .slice (some ⟨X + 1 + 1 + 1, 0, none⟩) 2 2] 31)
  have r4 := RowAt.new W4 (exCells exE (.slice (some ⟨X + 1 + 1 + 1, 0, none⟩) 2 2)) 31
  rw [s4] at r4
  have r4 : RowAt (W4.alloc (.cells #[.int .i64 4, .int .i64 3, .int .i64 0, .string ⟨#[]⟩, .slice (some ⟨X + 1 + 1 + 1, 0, none⟩) 2 2] 31)) (X + 1 + 1 + 1 + 1) 0 (exCells exE (.slice (some ⟨X + 1 + 1 + 1, 0, none⟩) 2 2)) := r4
  have b1 := b1.alloc (o := (.cells #[.int .i64 4, .int .i64 3, .int .i64 0, .string ⟨#[]⟩, .slice (some ⟨X + 1 + 1 + 1, 0, none⟩) 2 2] 31)) (by omega)
  have s5 : (W4.alloc (.cells #[.int .i64 4, .int .i64 3, .int .i64 0, .string ⟨#[]⟩, .slice (some ⟨X + 1 + 1 + 1, 0, none⟩) 2 2] 31)).heap.size = X + 1 + 1 + 1 + 1 + 1 := by simp [s4]
  generalize (W4.alloc (.cells #[.int .i64 4, .int .i64 3, .int .i64 0, .string ⟨#[]⟩, .slice (some ⟨X + 1 + 1 + 1, 0, none⟩) 2 2] 31)) = W5 at *
  refine ⟨?_, s5, r4, b1⟩
  have e0 : ExsAt (· < X + 1 + 1 + 1 + 1 + 1) W5 [.mk 1 0 1 [] [], .mk 2 0 0 [120] []] (.slice (some ⟨X, 0, none⟩) 2 2) := .two _ _ _ _ (by omega) r0 .zero (i64_small ⟨by decide, by decide⟩) .zero (i64_small ⟨by decide, by decide⟩)
  have e2 : ExsAt (· < X + 1 + 1 + 1 + 1 + 1) W5 [.mk 1 0 2 [] []] (.slice (some ⟨X + 1 + 1, 0, none⟩) 1 1) := .one _ _ (by omega) r2 .zero (i64_small ⟨by decide, by decide⟩)
  exact .two _ _ _ _ (by omega) r3 e0 (i64_small ⟨by decide, by decide⟩) e2 (i64_small ⟨by decide, by decide⟩)

theorem awake_P (w : World) (Y : Nat) (hY : Y = w.heap.size) (s : Value) (he : ExsAt (· < Y) w exE.args s) : FusAt (· < Y + 1 + 1 + 1 + 1) ((((w.alloc (.cells #[.int .i64 4, .int .i64 3, .int .i64 0, .string ⟨#[]⟩, s] 31)).alloc (.cells #[.int .i64 8, .string ⟨#[]⟩, .slice (some ⟨Y, 0, none⟩) 1 1, .slice none 0 0, .slice none 0 0] 49)).alloc (.cells #[.string ⟨#[109, 97, 105, 110]⟩, .slice none 0 0, .slice none 0 0, .slice (some ⟨Y + 1, 0, none⟩) 1 1] 52)).alloc (.cells #[.slice none 0 0, .slice (some ⟨Y + 1 + 1, 0, none⟩) 1 1] 27)) exP.funcs (.slice (some ⟨Y + 1 + 1, 0, none⟩) 1 1) ∧
    ((((w.alloc (.cells #[.int .i64 4, .int .i64 3, .int .i64 0, .string ⟨#[]⟩, s] 31)).alloc (.cells #[.int .i64 8, .string ⟨#[]⟩, .slice (some ⟨Y, 0, none⟩) 1 1, .slice none 0 0, .slice none 0 0] 49)).alloc (.cells #[.string ⟨#[109, 97, 105, 110]⟩, .slice none 0 0, .slice none 0 0, .slice (some ⟨Y + 1, 0, none⟩) 1 1] 52)).alloc (.cells #[.slice none 0 0, .slice (some ⟨Y + 1 + 1, 0, none⟩) 1 1] 27)).heap.size = Y + 1 + 1 + 1 + 1 ∧ RowAt ((((w.alloc (.cells #[.int .i64 4, .int .i64 3, .int .i64 0, .string ⟨#[]⟩, s] 31)).alloc (.cells #[.int .i64 8, .string ⟨#[]⟩, .slice (some ⟨Y, 0, none⟩) 1 1, .slice none 0 0, .slice none 0 0] 49)).alloc (.cells #[.string ⟨#[109, 97, 105, 110]⟩, .slice none 0 0, .slice none 0 0, .slice (some ⟨Y + 1, 0, none⟩) 1 1] 52)).alloc (.cells #[.slice none 0 0, .slice (some ⟨Y + 1 + 1, 0, none⟩) 1 1] 27)) (Y + 1 + 1 + 1) 0 [.slice none 0 0, .slice (some ⟨Y + 1 + 1, 0, none⟩) 1 1] ∧ Below Y w ((((w.alloc (.cells #[.int .i64 4, .int .i64 3, .int .i64 0, .string ⟨#[]⟩, s] 31)).alloc (.cells #[.int .i64 8, .string ⟨#[]⟩, .slice (some ⟨Y, 0, none⟩) 1 1, .slice none 0 0, .slice none 0 0] 49)).alloc (.cells #[.string ⟨#[109, 97, 105, 110]⟩, .slice none 0 0, .slice none 0 0, .slice (some ⟨Y + 1, 0, none⟩) 1 1] 52)).alloc (.cells #[.slice none 0 0, .slice (some ⟨Y + 1 + 1, 0, none⟩) 1 1] 27)) := by
  have r0 : RowAt (w.alloc (.cells #[.int .i64 4, .int .i64 3, .int .i64 0, .string ⟨#[]⟩, s] 31)) Y 0 (exCells exE s) := by rw [hY]; exact RowAt.new w _ _
  have s1 : (w.alloc (.cells #[.int .i64 4, .int .i64 3, .int .i64 0, .string ⟨#[]⟩, s] 31)).heap.size = Y + 1 := by simp [hY]
  have b1 : Below Y w (w.alloc (.cells #[.int .i64 4, .int .i64 3, .int .i64 0, .string ⟨#[]⟩, s] 31)) := (Below.refl _ _).alloc (by omega) _
  generalize (w.alloc (.cells #[.int .i64 4, .int .i64 3, .int .i64 0, .string ⟨#[]⟩, s] 31)) = W1 at *
  have r0 := r0.alloc (.cells #[.int .i64 8, .string ⟨#[]⟩, .slice (some ⟨Y, 0, none⟩) 1 1, .slice none 0 0, .slice none 0 0] 49)
  have b1 := b1.alloc (o := (.cells #[.int .i64 8, .string ⟨#[]⟩, .slice (some ⟨Y, 0, none⟩) 1 1, .slice none 0 0, .slice none 0 0] 49)) (by omega)
  have r1 := RowAt.new W1 (stCells (.mk 8 [] [exE] [] []) (.slice (some ⟨Y, 0, none⟩) 1 1) (.slice none 0 0) (.slice none 0 0)) 49
  rw [s1] at r1
  have r1 : RowAt (W1.alloc (.cells #[.int .i64 8, .string ⟨#[]⟩, .slice (some ⟨Y, 0, none⟩) 1 1, .slice none 0 0, .slice none 0 0] 49)) (Y + 1) 0 (stCells (.mk 8 [] [exE] [] []) (.slice (some ⟨Y, 0, none⟩) 1 1) (.slice none 0 0) (.slice none 0 0)) := r1
  have s2 : (W1.alloc (.cells #[.int .i64 8, .string ⟨#[]⟩, .slice (some ⟨Y, 0, none⟩) 1 1, .slice none 0 0, .slice none 0 0] 49)).heap.size = Y + 1 + 1 := by simp [s1]
  generalize (W1.alloc (.cells #[.int .i64 8, .string ⟨#[]⟩, .slice (some ⟨Y, 0, none⟩) 1 1, .slice none 0 0, .slice none 0 0] 49)) = W2 at *
  have r0 := r0.alloc (.cells #[.string ⟨#[109, 97, 105, 110]⟩, .slice none 0 0, .slice none 0 0, .slice (some ⟨Y + 1, 0, none⟩) 1 1] 52)
  have r1 := r1.alloc (.cells #[.string ⟨#[109, 97, 105, 110]⟩, .slice none 0 0, .slice none 0 0, .slice (some ⟨Y + 1, 0, none⟩) 1 1] 52)
  have b1 := b1.alloc (o := (.cells #[.string ⟨#[109, 97, 105, 110]⟩, .slice none 0 0, .slice none 0 0, .slice (some ⟨Y + 1, 0, none⟩) 1 1] 52)) (by omega)
  have r2 := RowAt.new W2 (fuCells ⟨[109, 97, 105, 110], [], [], [.mk 8 [] [exE] [] []]⟩ (.slice none 0 0) (.slice none 0 0) (.slice (some ⟨Y + 1, 0, none⟩) 1 1)) 52
  rw [s2] at r2
  have r2 : RowAt (W2.alloc (.cells #[.string ⟨#[109, 97, 105, 110]⟩, .slice none 0 0, .slice none 0 0, .slice (some ⟨Y + 1, 0, none⟩) 1 1] 52)) (Y + 1 + 1) 0 (fuCells ⟨[109, 97, 105, 110], [], [], [.mk 8 [] [exE] [] []]⟩ (.slice none 0 0) (.slice none 0 0) (.slice (some ⟨Y + 1, 0, none⟩) 1 1)) := r2
  have s3 : (W2.alloc (.cells #[.string ⟨#[109, 97, 105, 110]⟩, .slice none 0 0, .slice none 0 0, .slice (some ⟨Y + 1, 0, none⟩) 1 1] 52)).heap.size = Y + 1 + 1 + 1 := by simp [s2]
  generalize (W2.alloc (.cells #[.string ⟨#[109, 97, 105, 110]⟩, .slice none 0 0, .slice none 0 0, .slice (some ⟨Y + 1, 0, none⟩) 1 1] 52)) = W3 at *
  have r0 := r0.alloc (.cells #[.slice none 0 0, .slice (some ⟨Y + 1 + 1, 0, none⟩) 1 1] 27)
  have r1 := r1.alloc (.cells #[.slice none 0 0, .slice (some ⟨Y + 1 + 1, 0, none⟩) 1 1] 27)
  have r2 := r2.alloc (.cells #[.slice none 0 0, .slice (some ⟨Y + 1 + 1, 0, none⟩) 1 1] 27)
  have b1 := b1.alloc (o := (.cells #[.slice none 0 0, .slice (some ⟨Y + 1 + 1, 0, none⟩) 1 1] 27)) (by omega)
  have r3 := RowAt.new W3 [.slice none 0 0, .slice (some ⟨Y + 1 + 1, 0, none⟩) 1 1] 27
  rw [s3] at r3
  have r3 : RowAt (W3.alloc (.cells #[.slice none 0 0, .slice (some ⟨Y + 1 + 1, 0, none⟩) 1 1] 27)) (Y + 1 + 1 + 1) 0 [.slice none 0 0, .slice (some ⟨Y + 1 + 1, 0, none⟩) 1 1] := r3
  have s4 : (W3.alloc (.cells #[.slice none 0 0, .slice (some ⟨Y + 1 + 1, 0, none⟩) 1 1] 27)).heap.size = Y + 1 + 1 + 1 + 1 := by simp [s3]
  generalize (W3.alloc (.cells #[.slice none 0 0, .slice (some ⟨Y + 1 + 1, 0, none⟩) 1 1] 27)) = W4 at *
  refine ⟨?_, s4, r3, b1⟩
  have e0 : ExsAt (· < Y + 1 + 1 + 1 + 1) W4 [exE] (.slice (some ⟨Y, 0, none⟩) 1 1) := .one _ _ (by omega) r0 ((he.old (by rw [← hY]; exact b1)).mono (fun b h => by omega)) (i64_small ⟨by decide, by decide⟩)
  have e1 : StsAt (· < Y + 1 + 1 + 1 + 1) W4 [.mk 8 [] [exE] [] []] (.slice (some ⟨Y + 1, 0, none⟩) 1 1) := .one _ _ _ _ (by omega) r1 e0 .zero .zero
  exact .one _ _ _ _ (by omega) r2 .zero .zero e1

theorem awake_any (w : World) (hg : 3 < w.heap.size) (ht : TabOk w) :
    Calls Tryz.prog 10 #[] w fun e w' => e = .returned (.bool true) ∧ Below w.heap.size w w' := by
  have HG := Lib.hid hg; have HT := Lib.hid ht
  have HE := Lib.hid (awake_E w _ rfl)
  clear hg ht
  go_enter Tryz.func10, Tryz.ntmps10
  go_wp2_with fail
  generalize (((((w.alloc (.cells #[.int .i64 1, .int .i64 0, .int .i64 1, .string ⟨#[]⟩, .slice none 0 0, .int .i64 2, .int .i64 0, .int .i64 0, .string ⟨#[120]⟩, .slice none 0 0] 31)).alloc (.cells #[.int .i64 4, .int .i64 1, .int .i64 0, .string ⟨#[]⟩, .slice (some ⟨w.heap.size, 0, none⟩) 2 2] 31)).alloc (.cells #[.int .i64 1, .int .i64 0, .int .i64 2, .string ⟨#[]⟩, .slice none 0 0] 31)).alloc (.cells #[.int .i64 4, .int .i64 1, .int .i64 0, .string ⟨#[]⟩, .slice (some ⟨w.heap.size, 0, none⟩) 2 2, .int .i64 3, .int .i64 17, .int .i64 0, .string ⟨#[]⟩, .slice (some ⟨w.heap.size + 1 + 1, 0, none⟩) 1 1] 31)).alloc (.cells #[.int .i64 4, .int .i64 3, .int .i64 0, .string ⟨#[]⟩, .slice (some ⟨w.heap.size + 1 + 1 + 1, 0, none⟩) 2 2] 31)) = W at *
  have HX : Hid (w.heap.size + 1 + 1 + 1 + 1 + 1 = W.heap.size) := HE.out.2.1.symm
  have HB := Lib.hid HE.out.2.2.2
  have HEA : Hid (ExsAt (· < W.heap.size) W exE.args (.slice (some ⟨w.heap.size + 1 + 1 + 1, 0, none⟩) 2 2)) := by show ExsAt _ _ _ _; rw [← HX.out]; exact HE.out.1
  have HR := Lib.hid HE.out.2.2.1
  have HT1 : Hid (TabOk W) := HT.out.keep (HB.out.block _ HG.out)
  have HGW : Hid (3 < W.heap.size) := Nat.lt_of_lt_of_le HG.out HB.out.size
  clear HE HT
  refine (printExpr_good exE _ W HGW.out HT1.out HEA.out (i64_small ⟨by decide, by decide⟩) right_E (by rw [exText_E]; show _ ≤ _; decide)).mono ?_
  rw [exText_E]
  rintro r w1 ⟨rfl, hb1⟩
  have HB1 := Lib.hid hb1
  have hsz := hb1.size
  have HR1 := Lib.hid (HR.out.below (hb1.mono (Nat.le_refl _)))
  have c0 := HR1.out.at 0 _ rfl
  have c1 := HR1.out.at 1 _ rfl
  have c2 := HR1.out.at 2 _ rfl
  have c3 := HR1.out.at 3 _ rfl
  have c4 := HR1.out.at 4 _ rfl
  simp only [exE, Ex.kind, Ex.op, Ex.n] at c0 c1 c2
  replace c3 : w1.cell? ⟨w.heap.size + 1 + 1 + 1 + 1, 3, none⟩ = some (.string ⟨#[]⟩) := c3
  have HE1 : Hid (ExsAt (· < w1.heap.size) w1 exE.args (.slice (some ⟨w.heap.size + 1 + 1 + 1, 0, none⟩) 2 2)) := (HEA.out.old hb1).mono (fun b h => Nat.lt_of_lt_of_le h hsz)
  have HP := Lib.hid (awake_P w1 _ rfl _ HE1.out)
  clear hb1 HR
  go_wp2_with fail
  generalize ((((w1.alloc (.cells #[.int .i64 4, .int .i64 3, .int .i64 0, .string ⟨#[]⟩, .slice (some ⟨w.heap.size + 1 + 1 + 1, 0, none⟩) 2 2] 31)).alloc (.cells #[.int .i64 8, .string ⟨#[]⟩, .slice (some ⟨w1.heap.size, 0, none⟩) 1 1, .slice none 0 0, .slice none 0 0] 49)).alloc (.cells #[.string ⟨#[109, 97, 105, 110]⟩, .slice none 0 0, .slice none 0 0, .slice (some ⟨w1.heap.size + 1, 0, none⟩) 1 1] 52)).alloc (.cells #[.slice none 0 0, .slice (some ⟨w1.heap.size + 1 + 1, 0, none⟩) 1 1] 27)) = V at *
  have HX' : Hid (w1.heap.size + 1 + 1 + 1 + 1 = V.heap.size) := HP.out.2.1.symm
  have HBV := Lib.hid (HB1.out.trans (HP.out.2.2.2.mono hsz))
  have HFU : Hid (FusAt (· < V.heap.size) V exP.funcs (.slice (some ⟨w1.heap.size + 1 + 1, 0, none⟩) 1 1)) := by show FusAt _ _ _ _; rw [← HX'.out]; exact HP.out.1
  have HRP := Lib.hid HP.out.2.2.1
  have HT2 : Hid (TabOk V) := HT1.out.keep (HBV.out.block _ HGW.out)
  have HGV : Hid (3 < V.heap.size) := Nat.lt_of_lt_of_le HGW.out HBV.out.size
  have HEV : Hid (ExsAt (· < W.heap.size) V exE.args (.slice (some ⟨w.heap.size + 1 + 1 + 1, 0, none⟩) 2 2)) := HEA.out.old HBV.out
  have HRV := Lib.hid (HR1.out.below (HP.out.2.2.2.mono (Nat.le_refl _)))
  clear HP c0 c1 c2 c3 c4
  refine (print_good exP _ _ V HGV.out HT2.out ArsAt.zero HFU.out right_P (by rw [prText_P]; simp) (by rw [prText_P]; show _ ≤ _; decide)).mono ?_
  rw [prText_P]
  rintro r w2 ⟨rfl, hb2⟩
  have HB2 := Lib.hid hb2
  have HRP2 := Lib.hid (HRP.out.below hb2)
  have HRE2 := Lib.hid (HRV.out.below hb2)
  have HFU2 := Lib.hid (FusAt.old hb2 HFU.out)
  have HEV2 := Lib.hid (HEV.out.old hb2)
  have hs2 := hb2.size
  clear hb2
  go_wp2_with fail
  refine (printExpr_bad (.mk 0 0 0 [] []) (· < V.heap.size) _ _ ExsAt.zero right_nil).mono ?_
  rintro r w3 ⟨rfl, hb3⟩
  have HB3 := Lib.hid hb3
  have HRP3 := Lib.hid (HRP2.out.below hb3)
  have HRE3 := Lib.hid (HRE2.out.below hb3)
  have HFU3 := Lib.hid (FusAt.old hb3 HFU2.out)
  have HEV3 := Lib.hid (HEV2.out.old hb3)
  have hs3 := hb3.size
  clear hb3
  have p0 := HRP3.out.at 0 _ rfl
  have p1 := HRP3.out.at 1 _ rfl
  go_wp2_with fail
  refine (sizePr_any exP (· < V.heap.size) _ _ _ ArsAt.zero HFU3.out (by rw [count_P]; show _ ≤ _; omega)).mono ?_
  rw [count_P]
  rintro r w4 ⟨rfl, hb4⟩
  have HB4 := Lib.hid hb4
  have HRP4 := Lib.hid (HRP3.out.below hb4)
  have HRE4 := Lib.hid (HRE3.out.below hb4)
  have HFU4 := Lib.hid (FusAt.old hb4 HFU3.out)
  have HEV4 := Lib.hid (HEV3.out.old hb4)
  have hs4 := hb4.size
  clear hb4 p0 p1
  have p0 := HRP4.out.at 0 _ rfl
  have p1 := HRP4.out.at 1 _ rfl
  go_wp2_with fail
  refine (right_any exP (· < V.heap.size) _ _ _ ArsAt.zero HFU4.out).mono ?_
  rw [right_P]
  rintro r w5 ⟨rfl, hb5⟩
  have HB5 := Lib.hid hb5
  have HRP5 := Lib.hid (HRP4.out.below hb5)
  have HRE5 := Lib.hid (HRE4.out.below hb5)
  have HFU5 := Lib.hid (FusAt.old hb5 HFU4.out)
  have HEV5 := Lib.hid (HEV4.out.old hb5)
  have hs5 := hb5.size
  clear hb5 p0 p1
  have c0 := HRE5.out.at 0 _ rfl
  have c1 := HRE5.out.at 1 _ rfl
  have c2 := HRE5.out.at 2 _ rfl
  have c3 := HRE5.out.at 3 _ rfl
  have c4 := HRE5.out.at 4 _ rfl
  simp only [exE, Ex.kind, Ex.op, Ex.n] at c0 c1 c2
  replace c3 : w5.cell? ⟨w.heap.size + 1 + 1 + 1 + 1, 3, none⟩ = some (.string ⟨#[]⟩) := c3
  go_wp2_with fail
  refine (rightExpr_any exE (· < W.heap.size) _ _ HEV5.out).mono ?_
  rw [right_E]
  rintro r w6 ⟨rfl, hb6⟩
  have HB6 := Lib.hid hb6
  have HRP6 := Lib.hid (HRP5.out.below hb6)
  have HFU6 := Lib.hid (FusAt.old hb6 HFU5.out)
  have hs6 := hb6.size
  clear hb6 c0 c1 c2 c3 c4
  have p0 := HRP6.out.at 0 _ rfl
  have p1 := HRP6.out.at 1 _ rfl
  go_wp2_with fail
  refine (same_any exP ⟨[], []⟩ (· < V.heap.size) _ _ _ _ _ ArsAt.zero HFU6.out ArsAt.zero FusAt.zero).mono ?_
  rw [same_P0]
  rintro r w7 ⟨rfl, hb7⟩
  have HB7 := Lib.hid hb7
  have HRP7 := Lib.hid (HRP6.out.below hb7)
  have HFU7 := Lib.hid (FusAt.old hb7 HFU6.out)
  have hs7 := hb7.size
  clear hb7 p0 p1
  have p0 := HRP7.out.at 0 _ rfl
  have p1 := HRP7.out.at 1 _ rfl
  go_wp2_with fail
  refine (same_any exP exP (· < V.heap.size) _ _ _ _ _ ArsAt.zero HFU7.out ArsAt.zero HFU7.out).mono ?_
  rw [same_PP]
  rintro r w8 ⟨rfl, hb8⟩
  have HB8 := Lib.hid hb8
  clear hb8 p0 p1
  go_wp2_with fail
  go_ret
  refine ⟨rfl, ?_⟩
  have l0 := HB.out.size
  have l1 := HBV.out.size
  exact HB.out.trans (((((((((HBV.out.trans (HB2.out.mono l1)).trans (HB3.out.mono (by omega))).trans (HB4.out.mono (by omega))).trans (HB5.out.mono (by omega))).trans (HB6.out.mono (by omega))).trans (HB7.out.mono (by omega))).trans (HB8.out.mono (by omega))).mono l0))
end Go.Proofs.YtgmaeflfiooigaaGreatDoor
