/-
  Programs in old memory. No condition.
  Expr: a raw right expression. Condition: the raw numbers lie in memory.
  SameExprs of the reference: are two lists of expressions the same. Condition: what is compared lies in memory as the types say.
  TreeUnlike: the law is true. Conditions: the raw numbers and the library's table lie in memory.
-/
import Derived.Test.YtgmaeflfiooigaaGreatDoorTreeZ
import Derived.Test.YtgmaeflfiooigaaGreatDoorTreeO
import Derived.Test.YtgmaeflfiooigaaGreatDoorTreeA
import Derived.Test.YtgmaeflfiooigaaGreatDoorTreeC
import Derived.Test.YtgmaeflfiooigaaGreatDoorTreeLen
set_option linter.unusedVariables false
set_option linter.unusedSimpArgs false
namespace Go.Proofs.YtgmaeflfiooigaaGreatDoor
open Go.RowKit
set_option maxHeartbeats 4000000
set_option maxRecDepth 100000

theorem fus_of {D : Nat → Prop} {w : World} {base : Nat} {ps : List FuV} {v : Value} (h : w.ownsRow base 52 4 v ps.length (ps.flatMap fvCells)) (hD : ∀ k, v.ownBlock = some k → D k) (hp : ∀ p, p ∈ ps → FuParts D w p) (hf : Fits ps.length) : FusAt D w (ps.map (·.x)) v := by
  have hl : (ps.map (·.x)).length = ps.length := List.length_map _
  rcases h.2 with ⟨rfl, hz⟩ | ⟨g, cap, cur, rfl, hb, hg, hc, hm, hs, ht⟩
  · have : ps = [] := List.length_eq_zero_iff.1 hz
    subst this; exact FusAt.zero
  · let z : FuV := ⟨Fu.nil, undef, undef, undef⟩
    refine ⟨some ⟨g, 0, none⟩, cap, g, 0, (fun i => (ps.getD i z).p), (fun i => (ps.getD i z).l), (fun i => (ps.getD i z).b), by rw [hl], by rw [hl]; exact hc, by rw [hl]; exact hf, .inr ⟨rfl, hD g rfl⟩, fun i hi => ?_⟩
    rw [hl] at hi
    obtain ⟨p, hp1, hx, hm⟩ : ∃ p, ps[i]? = some p ∧ fuAt (ps.map (·.x)) i = p.x ∧ p ∈ ps := ⟨ps[i], List.getElem?_eq_getElem hi, by simp [fuAt, List.getElem?_eq_getElem hi], List.getElem_mem hi⟩
    have sv : ps.getD i z = p := by rw [List.getD_eq_getElem?_getD, hp1]; rfl
    rw [hx]
    dsimp only
    rw [sv]
    have cell : ∀ q u, q < 4 → (fvCells p)[q]? = some u → w.cell? ⟨g, 0 + i * 4 + q, none⟩ = some u := by
      intro q u hq hu
      have h1 := row_cells h (i * 4 + q) u (by rw [flat_at fvCells 4 (fun _ => rfl) ps i q p hp1 hq]; exact hu)
      rwa [show 0 + (i * 4 + q) = 0 + i * 4 + q by omega] at h1
    obtain ⟨h1, h2, ls, h3, h4, h5⟩ := hp p hm
    have h6 := h5.sts (show ls.length ≤ 140737488355328 by omega)
    rw [h3] at h6
    exact ⟨⟨cell 0 _ (by decide) rfl, cell 1 _ (by decide) rfl, cell 2 _ (by decide) rfl, cell 3 _ (by decide) rfl⟩, h1, h2, h6⟩
/-- What is there of a program: below a bound. -/
structure PrOld (w : World) (p : Pr) (n : Nat) (va vf : Value) (ds : List FuV) : Prop where
  ars : ArsAt (· < n) w p.arrays va
  own : w.ownsRow 0 52 4 vf ds.length (ds.flatMap fvCells)
  eq : ds.map (·.x) = p.funcs
  len : ds.length ≤ 3
  lt : ∀ q, q ∈ ds → FuParts (fun b => b < n ∧ vf.ownBlock ≠ some b) w q
  row : ∀ k, vf.ownBlock = some k → k < n
theorem PrOld.fus {w : World} {p : Pr} {n : Nat} {va vf : Value} {ds : List FuV} (h : PrOld w p n va vf ds) : FusAt (· < n) w p.funcs vf := by
  have q := fus_of h.own h.row (fun q hq => (h.lt q hq).mono (fun b hb _ => hb.1)) (show ds.length ≤ 140737488355328 by have := h.len; omega)
  rwa [h.eq] at q
theorem PrOld.fo {w : World} {p : Pr} {n : Nat} {va vf : Value} {ds : List FuV} (h : PrOld w p n va vf ds) : FusOwn w 0 ds vf := ⟨h.own, fun q hq => (h.lt q hq).mono (fun b hb _ => ⟨Nat.zero_le _, hb.2⟩)⟩
theorem PrOld.keep {w w' : World} {p : Pr} {n : Nat} {va vf : Value} {ds : List FuV} (h : PrOld w p n va vf ds) (hk : ∀ k, k < n → k < w.heap.size → w'.heap[k]? = w.heap[k]?) (hz : w.heap.size ≤ w'.heap.size) : PrOld w' p n va vf ds :=
  have hb : BKeeps (· < n) w w' := fun k hk' hl => hk k hk' hl
  ⟨h.ars.keep hb.keeps, row_keep h.own h.row hb, h.eq, h.len, fun q hq => (h.lt q hq).keep (hb.mono (fun b hb => hb.1)) hz, h.row⟩
theorem PrOld.up {w : World} {p : Pr} {n m : Nat} {va vf : Value} {ds : List FuV} (h : PrOld w p n va vf ds) (hn : n ≤ m) : PrOld w p m va vf ds :=
  ⟨h.ars.mono (fun b hb => Nat.lt_of_lt_of_le hb hn), h.own, h.eq, h.len, fun q hq => (h.lt q hq).mono (fun b hb _ => ⟨Nat.lt_of_lt_of_le hb.1 hn, hb.2⟩), fun k e => Nat.lt_of_lt_of_le (h.row k e) hn⟩
theorem PrOld.old {w w' : World} {p : Pr} {n : Nat} {va vf : Value} {ds : List FuV} (h : PrOld w p n va vf ds) (hb : Below w.heap.size w w') : PrOld w' p n va vf ds := h.keep (fun k _ hl => hb.block k hl) hb.size
theorem PrOld.of {w w' : World} {p : Pr} {va vf : Value} {ds : List FuV} (ha : ArsAt (w.heap.size ≤ ·) w' p.arrays va) (hds : ds.map (·.x) = p.funcs) (hl : ds.length ≤ 3) (hf : FusOwn w' w.heap.size ds vf) : PrOld w' p w'.heap.size va vf ds :=
  ⟨ha.strong.mono (fun b hb => hb.2), row_base hf.1 (fun _ _ => Nat.zero_le _), hds, hl, fun q hq => (hf.2 q hq).mono (fun b hb hl => ⟨hl, hb.2⟩), fun k e => (hf.ge e).2⟩
end Go.Proofs.YtgmaeflfiooigaaGreatDoor

namespace Go.Proofs.YtgmaeflfiooigaaGreatDoor
open Go.RowKit
set_option maxHeartbeats 8000000
set_option maxRecDepth 100000

/-- What is there when the first number is taken. -/
def PreE (w : World) (raw : List Int) (wx : World) : Prop := SrcAt wx (w.heap.size + 1) raw 0 ∧ Below w.heap.size w wx ∧ OwnAt wx w.heap.size [.int .i64 0, .int .i64 0, .int .i64 0, .string ⟨#[]⟩, .slice none 0 0] 31
theorem preE_of (w : World) (raw : List Int) (v : Value) (h : IntsAt (· < w.heap.size) w raw v) : PreE w raw ((w.alloc (.cells #[.int .i64 0, .int .i64 0, .int .i64 0, .string ⟨#[]⟩, .slice none 0 0] 31)).alloc (.cells #[v, .int .i64 0] 67)) := by
  have hb : Below w.heap.size w ((w.alloc (.cells #[.int .i64 0, .int .i64 0, .int .i64 0, .string ⟨#[]⟩, .slice none 0 0] 31)).alloc (.cells #[v, .int .i64 0] 67)) := ((Below.refl _ _).alloc (Nat.le_refl _) _).alloc (by simp) _
  have hs := OwnAt.new (w.alloc (.cells #[.int .i64 0, .int .i64 0, .int .i64 0, .string ⟨#[]⟩, .slice none 0 0] 31)) [v, .int .i64 0] 67
  rw [show (w.alloc (.cells #[.int .i64 0, .int .i64 0, .int .i64 0, .string ⟨#[]⟩, .slice none 0 0] 31)).heap.size = w.heap.size + 1 by simp] at hs
  refine ⟨⟨v, hs, ?_, Nat.zero_le _⟩, hb, (OwnAt.new w [.int .i64 0, .int .i64 0, .int .i64 0, .string ⟨#[]⟩, .slice none 0 0] 31).alloc _⟩
  have h2 := h.keep (keeps_below hb)
  obtain ⟨a', cap', b, off, hv, h1, h2, h3, h4, h5⟩ := h2
  exact ⟨a', cap', b, off, hv, h1, h2, h3.imp id (fun q => ⟨q.1, by have := q.2; omega⟩), h4, h5⟩
def GivesExT (w : World) (e : Ex) (r : Ending) (w' : World) : Prop := ∃ v, r = .returned (exV e v) ∧ Below w.heap.size w w' ∧ ExsAt (w.heap.size ≤ ·) w' e.args v ∧ I64 e.n
theorem exprT_any (raw0 : List Int) (rv : Value) (w : World) (hr : RawAt (· < w.heap.size) w raw0 rv) : Calls Tryz.prog 22 #[rv] w (GivesExT w (gExprTop raw0)) := by
  obtain ⟨ra, rc, rfl⟩ := hr.shape
  have HR := Lib.hid hr
  obtain ⟨raw, hraw⟩ : ∃ raw, raw = raw0.take 100 := ⟨_, rfl⟩
  have HRAW := Lib.hid hraw
  have HX := Lib.hid (fun wx (h : SrcAt wx (w.heap.size + 1) raw 0) => expr_all 6 (by omega) (w.heap.size + 1) raw 0 ⟨[], [], [], true, false⟩ (.slice none 0 0) (.slice none 0 0) (.slice none 0 0) wx h ⟨StrsAt.zero, ArsAt.zero, FusAt.zero, Nat.zero_le _, Nat.zero_le _, Nat.zero_le _, fun f hf => (by cases hf)⟩)
  have hg : gExprTop raw0 = (gExpr ⟨[], [], [], true, false⟩ raw 6 0).1 := by rw [hraw]; rfl
  rw [hg]
  generalize gExpr ⟨[], [], [], true, false⟩ raw 6 0 = X at *
  obtain ⟨e, ae⟩ := X
  clear hg hraw hr
  go_enter Tryz.func22, Tryz.ntmps22
  go_upto_if 9 with (fail)
  go_cut [] (fun wx => PreE w raw wx)
  case first =>
    by_cases h100 : 100 < raw0.length
    · have hlt : (100 : Int) < (raw0.length : Int) := by omega
      have hle : (100 : Int) ≤ (rc : Int) := by
        obtain ⟨a', cap', b, off, hv, h1, _⟩ := HR.out
        cases hv; omega
      go_wp2_with fail
      go_meet
      have hq := HR.out.take 100 (by omega) (by decide)
      rw [← HRAW.out] at hq
      have h1 : raw.length = 100 := by rw [HRAW.out, List.length_take]; omega
      exact preE_of w raw _ hq
    · have hlt : (raw0.length : Int) ≤ 100 := by omega
      have HQ : Hid (IntsAt (· < w.heap.size) w raw (.slice ra raw0.length rc)) := by
        have e : raw = raw0 := by rw [HRAW.out]; exact List.take_of_length_le (by omega)
        show IntsAt _ _ _ _
        rw [e]; have := HR.out.take raw0.length (Nat.le_refl _) (by omega); rwa [List.take_length] at this
      go_wp2_with fail
      go_meet
      exact preE_of w raw _ HQ.out
  case rest =>
  have HP0 := Lib.hid hcut
  clear hcut HR HRAW
  go_wp2_with fail
  refine (HX.out _ HP0.out.1).mono ?_
  rintro r w2 ⟨v, rfl, hs2, hf2, he2, hn2⟩
  obtain ⟨v1, v2, rfl⟩ := he2.shape
  have HO := Lib.hid (HP0.out.2.2.sfr hf2 (by omega))
  have HB := Lib.hid (HP0.out.2.1.trans ((hf2.below (Nat.le_of_lt HP0.out.1.lt)).mono (by omega)))
  have hsz : w.heap.size + 1 < w2.heap.size := hs2.lt
  have hx0 : w.heap.size + 1 < _ := HP0.out.1.lt
  have HE := Lib.hid (he2.mono (D' := (w.heap.size + 1 ≤ ·)) (fun b hb => by have : _ ≤ b := hb; omega))
  have HN := Lib.hid hn2
  clear hs2 hf2 he2 hn2 HP0 HX hx0
  obtain ⟨k, o, n, nm, us⟩ := e
  have c0 := HO.out.fz 0
  have c1 := HO.out.fz 1
  have hlt := HO.out.lt
  have x0 := HO.out.at 0 _ rfl
  have x1 := HO.out.at 1 _ rfl
  have x2 := HO.out.at 2 _ rfl
  have x3 := HO.out.at 3 _ rfl
  have x4 := HO.out.at 4 _ rfl
  have f2 := HO.out.fz 2
  have f3 := HO.out.fz 3
  have f4 := HO.out.fz 4
  go_wp2_with fail
  have HS := Lib.hid (((((HO.out.set 0 (.int .i64 (Ex.mk k o n nm us).kind)).set 1 (.int .i64 (Ex.mk k o n nm us).op)).set 2 (.int .i64 (Ex.mk k o n nm us).n)).set 3 (.string (strOf (Ex.mk k o n nm us).name))).set 4 (.slice v1 (Ex.mk k o n nm us).args.length v2))
  have d0 := HS.out.at 0 _ rfl
  have d1 := HS.out.at 1 _ rfl
  have d2 := HS.out.at 2 _ rfl
  have d3 := HS.out.at 3 _ rfl
  have d4 := HS.out.at 4 _ rfl
  have st : ∀ (v : World) (i : Nat) (x : Value), Below w.heap.size v (v.setCell ⟨w.heap.size, i, none⟩ x) := fun v i x => (Below.refl _ _).setCell (p := ⟨w.heap.size, i, none⟩) (Nat.le_refl _) x
  have kp : ∀ (v : World) (i : Nat) (x : Value), Keeps (w.heap.size + 1 ≤ ·) v (v.setCell ⟨w.heap.size, i, none⟩ x) := fun v i x => set_fresh v (Nat.lt_succ_self _) i x
  exact bodyPost_ret (v := exV (Ex.mk k o n nm us) (.slice v1 (Ex.mk k o n nm us).args.length v2)) (by simp [results, Tryz.results22, go_sem, d0, d1, d2, d3, d4]) rfl ⟨_, rfl, ((((HB.out.trans (st _ _ _)).trans (st _ _ _)).trans (st _ _ _)).trans (st _ _ _)).trans (st _ _ _), (((((HE.out.keep (kp _ _ _)).keep (kp _ _ _)).keep (kp _ _ _)).keep (kp _ _ _)).keep (kp _ _ _)).mono (fun b hb => by have : w.heap.size + 1 ≤ b := hb; omega), HN.out⟩
end Go.Proofs.YtgmaeflfiooigaaGreatDoor

namespace Go.Proofs.YtgmaeflfiooigaaGreatDoor
open Go.RowKit
set_option maxHeartbeats 4000000
set_option maxRecDepth 100000

def RefSame (la : List Ex) : Prop := ∀ (lb : List Ex) (D : Nat → Prop) (va vb : Value) (w : World), ExsAt D w la va → ExsAt D w lb vb →
  Calls Tryz.prog 27 #[va, vb] w fun e w' => e = .returned (.bool (sameExs la lb)) ∧ ∃ n, w' = w.drewN n
theorem ExsAt.drewN {D : Nat → Prop} {w : World} {l : List Ex} {v : Value} (h : ExsAt D w l v) (n : Nat) : ExsAt D (w.drewN n) l v := ExsAt.keep (w := w) (w' := w.drewN n) (fun _ _ _ _ hx => hx) h
theorem quiet_plus {P : Program} {f : FuncId} {args : Array Value} {w : World} {a n : Nat} {v : Value}
    (h : Calls P f args (w.drewN (a + n)) fun e w' => e = .returned v ∧ ∃ m, w' = (w.drewN (a + n)).drewN m) :
    Calls P f args (w.drewN (a + n)) fun e w'' => e = .returned v ∧ ∃ m, w'' = w.drewN (a + m) :=
  h.mono fun _ _ ⟨he, m, hm⟩ => ⟨he, n + m, by rw [hm, World.drewN_drewN, Nat.add_assoc]⟩
theorem sameEx_parts (x y : Ex) : sameEx x y = (x.kind == y.kind && x.op == y.op && x.n == y.n && x.name == y.name && sameExs x.args y.args) := by
  cases x; cases y; rw [sameEx]; rfl
/-- How a round may go. -/
theorem ref_cases (x y : Ex) : (sameEx x y = false ∧ (x.kind != y.kind) = true) ∨ (sameEx x y = false ∧ (x.kind != y.kind) = false ∧ (x.op != y.op) = true) ∨ (sameEx x y = false ∧ (x.kind != y.kind) = false ∧ (x.op != y.op) = false ∧ (x.n != y.n) = true)
    ∨ (sameEx x y = false ∧ (x.kind != y.kind) = false ∧ (x.op != y.op) = false ∧ (x.n != y.n) = false ∧ (x.name == y.name) = false)
    ∨ (sameEx x y = false ∧ (x.kind != y.kind) = false ∧ (x.op != y.op) = false ∧ (x.n != y.n) = false ∧ (x.name == y.name) = true ∧ sameExs x.args y.args = false)
    ∨ (sameEx x y = true ∧ (x.kind != y.kind) = false ∧ (x.op != y.op) = false ∧ (x.n != y.n) = false ∧ (x.name == y.name) = true ∧ sameExs x.args y.args = true) := by
  rw [sameEx_parts]
  simp only [bne]
  cases x.kind == y.kind <;> cases x.op == y.op <;> cases x.n == y.n <;> cases x.name == y.name <;> cases sameExs x.args y.args <;> simp
theorem ref_step (la : List Ex) (ih : ∀ x, x ∈ la → RefSame x.args) : RefSame la := by
  intro lb D va vb w ha hb
  obtain ⟨a1, a2, rfl⟩ := ha.shape
  obtain ⟨b1, b2, rfl⟩ := hb.shape
  have l63 := ha.fits.lt
  have m63 := hb.fits.lt
  rw [sameExs_zip]
  by_cases hl : lb.length = la.length
  · rw [hl] at hb ⊢
    have HA := Lib.hid ha; have HB := Lib.hid hb; have IH := Lib.hid ih; have HL := Lib.hid hl
    clear ha hb ih hl m63
    go_enter Tryz.func27, Tryz.ntmps27
    go_wp2_with fail
    go_loopw [5] (fun s5 wr => ∃ k : Nat, k ≤ la.length ∧ s5 = .int .i64 k ∧ (∀ i, i < k → sameEx (la.getD i Ex.nil) (lb.getD i Ex.nil) = true) ∧ ∃ n, wr = w.drewN n) (fun s5 _ => la.length - (intOf s5).toNat)
    case atStart => exact ⟨0, Nat.zero_le _, rfl, fun i hi => by omega, 0, rfl⟩
    case round =>
      obtain ⟨k, hk, rfl, hno, hn⟩ := hrel
      have HNO := Lib.hid hno; have HN := Lib.hid hn
      have HAW : Hid (ExsAt D wr la (.slice a1 la.length a2)) := by obtain ⟨n, rfl⟩ := hn; exact HA.out.drewN n
      have HBW : Hid (ExsAt D wr lb (.slice b1 la.length b2)) := by obtain ⟨n, rfl⟩ := hn; exact HB.out.drewN n
      clear hno hn
      by_cases hlt : k < la.length
      · obtain ⟨xab, xao, xas, rfl, xaD, a0, a1, a2, a3, a4, ah, an⟩ := ExsAt.cellAt HAW.out k hlt
        obtain ⟨xbb, xbo, xbs, rfl, xbD, b0, b1, b2, b3, b4, bh, bn⟩ := ExsAt.cellAt HBW.out k (by rw [HL.out]; exact hlt)
        obtain ⟨a5, a6, rfl⟩ := ah.shape
        obtain ⟨b5, b6, rfl⟩ := bh.shape
        have HAH := Lib.hid ah; have HBH := Lib.hid bh
        clear ah bh an bn xaD xbD HAW HBW
        have IHX := Lib.hid (IH.out _ (exAt_mem hlt))
        have HKL := Lib.hid hlt
        have hc := ref_cases (exAt la k) (exAt lb k)
        generalize hxe : exAt la k = xa at *
        generalize hye : exAt lb k = xb at *
        have HXE := Lib.hid hxe; have HYE := Lib.hid hye; clear hxe hye
        have HC := Lib.hid hc
        clear hc
        have i0 : (0 : Int) ≤ (k : Int) := by omega
        have i1 : (k : Int) < (la.length : Int) := by omega
        have HCALL : Hid (∀ m, Calls Tryz.prog 27 #[.slice a5 xa.args.length a6, .slice b5 xb.args.length b6] (wr.drewN m) fun e w' => e = .returned (.bool (sameExs xa.args xb.args)) ∧ ∃ n, w' = (wr.drewN m).drewN n) := fun m => IHX.out _ D _ _ _ (HAH.out.drewN m) (HBH.out.drewN m)
        generalize sameExs xa.args xb.args = qq at *
        go_wp2_with fail
        go_quiet ((go_at_call 27; exact Calls.quiet_of (HCALL.out _)))
        have HC2 := Lib.hid HC.out
        rcases HC2.out with ⟨e, h1⟩ | ⟨e, h1, h2⟩ | ⟨e, h1, h2, h3⟩ | ⟨e, h1, h2, h3, h4⟩ | ⟨e, h1, h2, h3, h4, rfl⟩ | ⟨e, h1, h2, h3, h4, rfl⟩
        all_goals
          have HE : Hid (sameEx (exAt la k) (exAt lb k) = sameEx xa xb) := by show _ = _; rw [HXE.out, HYE.out]
          have HE2 := Lib.hid e
          clear HC HC2 e
          go_wp2_with fail
          go_quiet (fail)
          go_wp2_with fail
        iterate 5
          · go_ret
            obtain ⟨n0, hn0⟩ := HN.out
            exact ⟨ret_bool (zipAll_false sameEx Ex.nil la lb k HL.out.symm HKL.out (HE.out.trans HE2.out)).symm, _, by rw [hn0, World.drewN_drewN, World.drewN_drewN]⟩
        · go_roundw
          case rel => exact ⟨k + 1, by omega, by go_num, fun i hi => by rcases Nat.lt_succ_iff_lt_or_eq.1 hi with h | rfl; exact HNO.out i h; exact HE.out.trans HE2.out, by obtain ⟨n0, hn0⟩ := HN.out; exact ⟨_, by rw [hn0, World.drewN_drewN]⟩⟩
          case measure => simp [intOf]; omega
      · go_wp2_with fail
        go_ret
        exact ⟨ret_bool (zipAll_true sameEx Ex.nil la lb HL.out.symm (fun i hi => HNO.out i (by omega))).symm, HN.out⟩
  · have hne : ((la.length : Int) != (lb.length : Int)) = true := by rw [bne_iff_ne]; omega
    have E : Hid (zipAll sameEx la lb = false) := zipAll_len _ _ _ (by omega)
    clear ha hb ih hl
    go_enter Tryz.func27, Tryz.ntmps27
    go_wp2_with fail
    go_ret
    exact ⟨ret_bool E.out.symm, 0, rfl⟩
theorem ref_all : ∀ (n : Nat) (l : List Ex), SizeOf.sizeOf l ≤ n → RefSame l
  | 0, l, h => by cases l <;> simp at h
  | n + 1, l, h => ref_step l fun x hx => ref_all n x.args (by
    have h1 := List.sizeOf_lt_of_mem hx
    cases x with
    | mk k o m nm args => show SizeOf.sizeOf args ≤ n; simp at h1; omega)
theorem ref_any (l : List Ex) : RefSame l := ref_all _ l (Nat.le_refl _)
end Go.Proofs.YtgmaeflfiooigaaGreatDoor

namespace Go.Proofs.YtgmaeflfiooigaaGreatDoor
open Go.RowKit
set_option maxHeartbeats 8000000
set_option maxRecDepth 100000

/-- As texts are, programs are. -/
theorem txt_pr {p q : Pr} (hp : rightPr p = true) (hq : rightPr q = true) : (prText p == prText q) = samePr p q := by
  cases h : samePr p q
  · rw [beq_eq_false_iff_ne]; intro e
    rw [(samePr_iff _ _).2 (prText_inj hp hq e)] at h; cases h
  · rw [(samePr_iff _ _).1 h]; exact beq_self_eq_true _
theorem txt_ex {d e : Ex} (hp : rightEx d = true) (hq : rightEx e = true) : (exText d == exText e) = sameExs [d] [e] := by
  cases h : sameExs [d] [e]
  · rw [beq_eq_false_iff_ne]; intro e
    rw [exText_inj (by unfold rightEx at hp; exact ((Bool.and_eq_true _ _).mp hp).2) (by unfold rightEx at hq; exact ((Bool.and_eq_true _ _).mp hq).2) e, (sameExs_iff _ _).2 rfl] at h; cases h
  · have := (sameExs_iff _ _).1 h
    cases this; exact beq_self_eq_true _
theorem below_drewN {B : Nat} {a w : World} (h : Below B a w) (n : Nat) : Below B a (w.drewN n) := ⟨h.os, h.tape, h.output, h.size, h.block⟩
theorem ownAt_drewN {w : World} {b : Nat} {cs : List Value} {T : TypeId} (h : OwnAt w b cs T) (n : Nat) : OwnAt (w.drewN n) b cs T := h
theorem gExprTop_len (raw : List Int) : Fits (exText (gExprTop raw)).length :=
  Nat.le_trans (gExpr_len ⟨fun _ hx => (List.not_mem_nil hx).elim, fun _ hx => (List.not_mem_nil hx).elim, fun _ hx => (List.not_mem_nil hx).elim⟩ _ 6 0) (by decide)
theorem unlike_any (one two : List Int) (free : Bool) (v0 v1 : Value) (w : World) (h0 : RawAt (· < w.heap.size) w one v0) (h1 : RawAt (· < w.heap.size) w two v1) (hg : 3 < w.heap.size) (ht : TabOk w) :
    Calls Tryz.prog 4 #[v0, v1, .bool free] w fun e w' => e = .returned (.bool true) ∧ Below w.heap.size w w' := by
  obtain ⟨s0, s1, rfl⟩ := h0.shape
  obtain ⟨t0, t1, rfl⟩ := h1.shape
  have pr := gProg_right one free
  have qr := gProg_right two free
  have pl := gProg_len one free
  have ql := gProg_len two free
  have pn := prText_ne (p := gProg one free) (gProg_counts one free).2.2
  have qn := prText_ne (p := gProg two free) (gProg_counts two free).2.2
  have dr := gExprTop_right one
  have er := gExprTop_right two
  have dl := gExprTop_len one
  have el := gExprTop_len two
  have tp := txt_pr pr qr
  have te := txt_ex dr er
  have hfit := prB_fits
  generalize prB = B at *
  have HG := Lib.hid hg; have HT := Lib.hid ht; have H0 := Lib.hid h0; have H1 := Lib.hid h1
  have HP := Lib.hid (fun w1 h => prog_any one free (.slice s0 one.length s1) w1 h); have HQ := Lib.hid (fun w1 h => prog_any two free (.slice t0 two.length t1) w1 h)
  have HD := Lib.hid (fun w1 h => exprT_any one (.slice s0 one.length s1) w1 h); have HE := Lib.hid (fun w1 h => exprT_any two (.slice t0 two.length t1) w1 h)
  generalize gProg one free = p at *
  generalize gProg two free = q at *
  generalize gExprTop one = d at *
  generalize gExprTop two = e at *
  have PR := Lib.hid pr; have QR := Lib.hid qr; have PN := Lib.hid pn; have QN := Lib.hid qn; have DR := Lib.hid dr; have ER := Lib.hid er; have DL := Lib.hid dl; have EL := Lib.hid el
  have PL : Hid (Fits (prText p).length) := by show _ ≤ _; omega
  have QL : Hid (Fits (prText q).length) := by show _ ≤ _; omega
  have TP := Lib.hid tp; have TE := Lib.hid te
  clear pr qr pl ql pn qn dr er dl el hfit hg ht h0 h1 tp te
  go_enter Tryz.func4, Tryz.ntmps4
  go_wp2_with fail
  refine (awake_any w HG.out HT.out).mono ?_
  rintro r w1 ⟨rfl, hb1⟩
  have HB1 := Lib.hid hb1
  have HT1 : Hid (TabOk w1) := HT.out.keep (hb1.block _ HG.out)
  have HG1 : Hid (3 < w1.heap.size) := Nat.lt_of_lt_of_le HG.out hb1.size
  clear hb1
  go_wp2_with fail
  refine (HP.out w1 (H0.out.old HB1.out)).mono ?_
  rintro r w2 ⟨va, vf, ds, rfl, hb2, ha2, hds, hd3, hf2⟩
  obtain ⟨a1, a2, rfl⟩ := ha2.shape
  obtain ⟨f1, f2, rfl⟩ := hf2.shape
  have hO2 := PrOld.of ha2 hds hd3 hf2
  have hbA : Below w2.heap.size w2 (w2.alloc (.cells #[.slice a1 p.arrays.length a2, .slice f1 ds.length f2] 27)) := (Below.refl _ _).alloc (Nat.le_refl _) _
  have HB2 := Lib.hid (HB1.out.trans (hb2.mono HB1.out.size))
  have HPA := Lib.hid (hO2.ars.old hbA); have HPF := Lib.hid (hO2.fus.old hbA)
  have HO6 := Lib.hid (OwnAt.new w2 [.slice a1 p.arrays.length a2, .slice f1 ds.length f2] 27)
  have HB2' := Lib.hid (HB2.out.trans (hbA.mono HB2.out.size))
  have HT2 : Hid (TabOk (w2.alloc (.cells #[.slice a1 p.arrays.length a2, .slice f1 ds.length f2] 27))) := (HT1.out.keep (hb2.block _ HG1.out)).keep (hbA.block _ (Nat.lt_of_lt_of_le HG1.out hb2.size))
  have HG2 : Hid (3 < w2.heap.size) := Nat.lt_of_lt_of_le HG1.out hb2.size
  clear hb2 ha2 hds hd3 hf2 hbA HT1 HG1 HB1 HP hO2 HB2
  go_wp2_with fail
  refine (HQ.out _ (H1.out.old HB2'.out)).mono ?_
  rintro r w3 ⟨ua, uf, es, rfl, hb3, ha3, hes, he3, hf3⟩
  obtain ⟨d1, d2, rfl⟩ := ha3.shape
  obtain ⟨g1, g2, rfl⟩ := hf3.shape
  have hz2 : w2.heap.size + 1 ≤ w3.heap.size := by have := hb3.size; simpa using this
  have hO3 := PrOld.of ha3 hes he3 hf3
  have hbC : Below w3.heap.size w3 (w3.alloc (.cells #[.slice d1 q.arrays.length d2, .slice g1 es.length g2] 27)) := (Below.refl _ _).alloc (Nat.le_refl _) _
  have HPA3 := Lib.hid ((HPA.out.old hb3).old hbC); have HPF3 := Lib.hid ((HPF.out.old hb3).old hbC)
  have HQA3 := Lib.hid (hO3.ars.old hbC); have HQF3 := Lib.hid (hO3.fus.old hbC)
  have HO63 := Lib.hid ((HO6.out.old hb3).old hbC)
  have HO7 := Lib.hid (OwnAt.new w3 [.slice d1 q.arrays.length d2, .slice g1 es.length g2] 27)
  have HB3 := Lib.hid (HB2'.out.trans (hb3.mono HB2'.out.size))
  have HB3' := Lib.hid (HB3.out.trans (hbC.mono HB3.out.size))
  have HG3 : Hid (3 < w3.heap.size) := by show _ < _; have := HG2.out; omega
  have HT3 : Hid (TabOk (w3.alloc (.cells #[.slice d1 q.arrays.length d2, .slice g1 es.length g2] 27))) := (HT2.out.keep (hb3.block _ (by have := HG2.out; simp; omega))).keep (hbC.block _ HG3.out)
  clear hb3 ha3 hes he3 hf3 hbC hO3 HPA HPF HO6 HT2 HB3 HB2' HQ
  -- the texts
  have y0 := HO63.out.at 0 _ rfl
  have y1 := HO63.out.at 1 _ rfl
  have yl := HO63.out.lt
  go_upto_region 4 with (fail)
  generalize hWC : w3.alloc (.cells #[.slice d1 q.arrays.length d2, .slice g1 es.length g2] 27) = W at *
  have hWz : W.heap.size = w3.heap.size + 1 := by rw [← hWC]; simp
  clear hWC
  have HWZ := Lib.hid hWz
  have HGW : Hid (3 < W.heap.size) := by show _ < _; have := HG3.out; omega
  have H0W := Lib.hid (H0.out.old HB3'.out); have H1W := Lib.hid (H1.out.old HB3'.out)
  have hwz : w2.heap.size < W.heap.size ∧ w3.heap.size < W.heap.size := by omega
  have HWW := Lib.hid hwz
  clear hWz hwz HG3 HG2 HG HT H0 H1
  go_wp2_with fail
  refine (print_good p _ _ W HGW.out HT3.out (HPA3.out.mono (fun b hb => by have := HWW.out.1; have : b < w2.heap.size := hb; omega)) (HPF3.out.mono (fun b hb => by have := HWW.out.1; have : b < w2.heap.size := hb; omega)) PR.out PN.out PL.out).mono ?_
  rintro r w5 ⟨rfl, hb5⟩
  have HB5 := Lib.hid hb5
  have HT5 : Hid (TabOk w5) := HT3.out.keep (hb5.block _ HGW.out)
  have z5 := hb5.size
  have HO8 := Lib.hid (HO63.out.old hb5); have HO9 := Lib.hid (HO7.out.old hb5)
  clear hb5 y0 y1 yl HO63 HO7 HT3
  have y0 := HO9.out.at 0 _ rfl
  have y1 := HO9.out.at 1 _ rfl
  have yl := HO9.out.lt
  go_wp2_with fail
  refine (print_good q _ _ w5 (Nat.lt_of_lt_of_le HGW.out z5) HT5.out ((HQA3.out.old HB5.out).mono (fun b hb => by have := HWW.out.2; have : b < w3.heap.size := hb; omega)) ((HQF3.out.old HB5.out).mono (fun b hb => by have := HWW.out.2; have : b < w3.heap.size := hb; omega)) QR.out QN.out QL.out).mono ?_
  rintro r w6 ⟨rfl, hb6⟩
  have HB6 := Lib.hid (HB5.out.trans (hb6.mono z5))
  have HT6 : Hid (TabOk w6) := HT5.out.keep (hb6.block _ (Nat.lt_of_lt_of_le HGW.out z5))
  have HO86 := Lib.hid (HO8.out.old hb6); have HO96 := Lib.hid (HO9.out.old hb6)
  clear hb6 y0 y1 yl HO8 HO9 HT5 HB5 z5
  -- the expressions
  go_wp2_with fail
  refine (HD.out _ (H0W.out.old HB6.out)).mono ?_
  rintro r w7 ⟨dv, rfl, hb7, hd7, dn⟩
  obtain ⟨k1, k2, rfl⟩ := hd7.shape
  have z6 := HB6.out.size
  have hbD : Below w7.heap.size w7 (w7.alloc (.cells #[.int .i64 d.kind, .int .i64 d.op, .int .i64 d.n, .string (strOf d.name), .slice k1 d.args.length k2] 31)) := (Below.refl _ _).alloc (Nat.le_refl _) _
  have HB7 := Lib.hid (HB6.out.trans (hb7.mono z6))
  have z7 := HB7.out.size
  have HB7' := Lib.hid (HB7.out.trans (hbD.mono z7))
  have HDA := Lib.hid ((ExsAt.strong hd7).old hbD)
  have HOD := Lib.hid (OwnAt.new w7 [.int .i64 d.kind, .int .i64 d.op, .int .i64 d.n, .string (strOf d.name), .slice k1 d.args.length k2] 31)
  have HO87 := Lib.hid ((HO86.out.old hb7).old hbD); have HO97 := Lib.hid ((HO96.out.old hb7).old hbD)
  have HT7 : Hid (TabOk w7) := HT6.out.keep (hb7.block _ (Nat.lt_of_lt_of_le HGW.out z6))
  have HT7' : Hid (TabOk (w7.alloc (.cells #[.int .i64 d.kind, .int .i64 d.op, .int .i64 d.n, .string (strOf d.name), .slice k1 d.args.length k2] 31))) := HT7.out.keep (hbD.block _ (Nat.lt_of_lt_of_le HGW.out z7))
  have DN := Lib.hid dn
  clear hb7 hd7 hbD HO86 HO96 HT6 HB6 z6 HT7 dn HD
  go_wp2_with fail
  refine (HE.out _ (H1W.out.old HB7'.out)).mono ?_
  rintro r w8 ⟨ev, rfl, hb8, hd8, en⟩
  obtain ⟨l1, l2, rfl⟩ := hd8.shape
  have hbE : Below w8.heap.size w8 (w8.alloc (.cells #[.int .i64 e.kind, .int .i64 e.op, .int .i64 e.n, .string (strOf e.name), .slice l1 e.args.length l2] 31)) := (Below.refl _ _).alloc (Nat.le_refl _) _
  have z78 : w7.heap.size + 1 ≤ w8.heap.size := by have := hb8.size; simpa using this
  have HB8 := Lib.hid (HB7'.out.trans (hb8.mono HB7'.out.size))
  have z8 := HB8.out.size
  have HB8' := Lib.hid (HB8.out.trans (hbE.mono z8))
  have HDA8 := Lib.hid ((HDA.out.old hb8).old hbE)
  have HEA8 := Lib.hid ((ExsAt.strong hd8).old hbE)
  have HOD8 := Lib.hid ((HOD.out.old hb8).old hbE)
  have HOE := Lib.hid (OwnAt.new w8 [.int .i64 e.kind, .int .i64 e.op, .int .i64 e.n, .string (strOf e.name), .slice l1 e.args.length l2] 31)
  have HO88 := Lib.hid ((HO87.out.old hb8).old hbE); have HO98 := Lib.hid ((HO97.out.old hb8).old hbE)
  have HT8 : Hid (TabOk (w8.alloc (.cells #[.int .i64 e.kind, .int .i64 e.op, .int .i64 e.n, .string (strOf e.name), .slice l1 e.args.length l2] 31))) := (HT7'.out.keep (hb8.block _ (by have := HGW.out; simp; omega))).keep (hbE.block _ (Nat.lt_of_lt_of_le HGW.out z8))
  have EN := Lib.hid en
  clear hb8 hd8 hbE HO87 HO97 HT7' HB7 HB7' en HE HDA HOD
  have x0 := HOD8.out.at 0 _ rfl
  have x1 := HOD8.out.at 1 _ rfl
  have x2 := HOD8.out.at 2 _ rfl
  have x3 := HOD8.out.at 3 _ rfl
  have x4 := HOD8.out.at 4 _ rfl
  go_upto_region 8 with (fail)
  generalize hV : w8.alloc (.cells #[.int .i64 e.kind, .int .i64 e.op, .int .i64 e.n, .string (strOf e.name), .slice l1 e.args.length l2] 31) = V at *
  have hVz : V.heap.size = w8.heap.size + 1 := by rw [← hV]; simp
  clear hV
  have HVZ := Lib.hid hVz
  have HGV : Hid (3 < V.heap.size) := by show _ < _; have := HGW.out; omega
  clear hVz
  go_wp2_with fail
  refine (printExpr_good d _ V HGV.out HT8.out (HDA8.out.mono (fun b hb => by have := HVZ.out; have := hb.2; omega)) DN.out DR.out DL.out).mono ?_
  rintro r w9 ⟨rfl, hb9⟩
  have HB9 := Lib.hid hb9
  have HT9 : Hid (TabOk w9) := HT8.out.keep (hb9.block _ HGV.out)
  have z9 := hb9.size
  have HOD9 := Lib.hid (HOD8.out.old hb9); have HOE9 := Lib.hid (HOE.out.old hb9)
  have HEA9 := Lib.hid (HEA8.out.old hb9); have HDA9 := Lib.hid (HDA8.out.old hb9)
  have HO89 := Lib.hid (HO88.out.old hb9); have HO99 := Lib.hid (HO98.out.old hb9)
  clear hb9 x0 x1 x2 x3 x4 HT8 HOD8 HOE HEA8 HDA8 HO88 HO98
  have x0 := HOE9.out.at 0 _ rfl
  have x1 := HOE9.out.at 1 _ rfl
  have x2 := HOE9.out.at 2 _ rfl
  have x3 := HOE9.out.at 3 _ rfl
  have x4 := HOE9.out.at 4 _ rfl
  go_wp2_with fail
  refine (printExpr_good e _ w9 (Nat.lt_of_lt_of_le HGV.out z9) HT9.out (HEA9.out.mono (fun b hb => by have := HVZ.out; have := hb.2; omega)) EN.out ER.out EL.out).mono ?_
  rintro r w10 ⟨rfl, hb10⟩
  have HB10 := Lib.hid (HB9.out.trans (hb10.mono z9))
  have HODa := Lib.hid (HOD9.out.old hb10); have HOEa := Lib.hid (HOE9.out.old hb10)
  have HEAa := Lib.hid (HEA9.out.old hb10); have HDAa := Lib.hid (HDA9.out.old hb10)
  have HO8a := Lib.hid (HO89.out.old hb10); have HO9a := Lib.hid (HO99.out.old hb10)
  clear hb10 x0 x1 x2 x3 x4 HT9 HOD9 HOE9 HEA9 HDA9 HO89 HO99 HB9
  have x0 := HOEa.out.at 0 _ rfl
  have x1 := HOEa.out.at 1 _ rfl
  have x2 := HOEa.out.at 2 _ rfl
  have x3 := HOEa.out.at 3 _ rfl
  have x4 := HOEa.out.at 4 _ rfl
  have u0 := HODa.out.at 0 _ rfl
  have u1 := HODa.out.at 1 _ rfl
  have u2 := HODa.out.at 2 _ rfl
  have u3 := HODa.out.at 3 _ rfl
  have u4 := HODa.out.at 4 _ rfl
  have ul := HODa.out.lt
  have xl := HOEa.out.lt
  -- both lists of one
  have hm1 := RowAt.new w10 (exCells d (.slice k1 d.args.length k2)) 31
  have hbm : Below w10.heap.size w10 (w10.alloc (.cells (exCells d (.slice k1 d.args.length k2)).toArray 31)) := (Below.refl _ _).alloc (Nat.le_refl _) _
  have hm2 := RowAt.new (w10.alloc (.cells (exCells d (.slice k1 d.args.length k2)).toArray 31)) (exCells e (.slice l1 e.args.length l2)) 31
  have hbn : Below w10.heap.size w10 ((w10.alloc (.cells (exCells d (.slice k1 d.args.length k2)).toArray 31)).alloc (.cells (exCells e (.slice l1 e.args.length l2)).toArray 31)) := ((Below.refl _ _).alloc (Nat.le_refl _) _).alloc (by simp) _
  have hbo := (Below.refl (w10.alloc (.cells (exCells d (.slice k1 d.args.length k2)).toArray 31)).heap.size (w10.alloc (.cells (exCells d (.slice k1 d.args.length k2)).toArray 31))).alloc (Nat.le_refl _) (.cells (exCells e (.slice l1 e.args.length l2)).toArray 31)
  rw [show (w10.alloc (.cells (exCells d (.slice k1 d.args.length k2)).toArray 31)).heap.size = w10.heap.size + 1 by simp] at hm2
  have HD1 := Lib.hid (ExsAt.one (D := fun _ => True) d _ trivial (hm1.below hbo) ((HDAa.out.old hbn).mono (fun _ _ => trivial)) DN.out)
  have HE1 := Lib.hid (ExsAt.one (D := fun _ => True) e _ trivial hm2 ((HEAa.out.old hbn).mono (fun _ _ => trivial)) EN.out)
  have HBN := Lib.hid (HB10.out.trans (hbn.mono HB10.out.size))
  have HO8n := Lib.hid (HO8a.out.old hbn); have HO9n := Lib.hid (HO9a.out.old hbn)
  clear hm1 hm2 hbm hbn hbo HODa HOEa HEAa HDAa HO8a HO9a HB10
  go_wp2_with fail
  refine (ref_any [d] [e] (fun _ => True) _ _ _ HD1.out HE1.out).mono ?_
  obtain ⟨bp, hbp⟩ : ∃ b, samePr p q = b := ⟨_, rfl⟩
  obtain ⟨be, hbe⟩ : ∃ b, sameExs [d] [e] = b := ⟨_, rfl⟩
  have tp := TP.out
  have te := TE.out
  rw [hbp] at tp
  rw [hbe] at te
  rw [hbe]
  have HTP := Lib.hid tp; have HTE := Lib.hid te; have HBP := Lib.hid hbp
  clear tp te hbp hbe HD1 HE1 TP TE x0 x1 x2 x3 x4 u0 u1 u2 u3 u4 ul xl
  rintro r w11 ⟨rfl, n, rfl⟩
  have HBX := Lib.hid (below_drewN HBN.out n)
  have HBWX := Lib.hid (HB8'.out.trans (HBX.out.mono HB8'.out.size))
  have HO8x := Lib.hid (ownAt_drewN HO8n.out n); have HO9x := Lib.hid (ownAt_drewN HO9n.out n)
  have HPAx := Lib.hid ((HPA3.out.old HBWX.out).mono (D' := fun _ => True) (fun _ _ => trivial)); have HPFx := Lib.hid ((FusAt.old HBWX.out HPF3.out).mono (D' := fun _ => True) (fun _ _ => trivial))
  have HQAx := Lib.hid ((HQA3.out.old HBWX.out).mono (D' := fun _ => True) (fun _ _ => trivial)); have HQFx := Lib.hid ((FusAt.old HBWX.out HQF3.out).mono (D' := fun _ => True) (fun _ _ => trivial))
  clear HO8n HO9n HBN PN QN PL QL PR QR DR ER DL EL DN EN
  generalize World.drewN _ n = X at *
  generalize prText p = tp at *
  generalize prText q = tq at *
  generalize exText d = td at *
  generalize exText e = te at *
  have y0 := HO8x.out.at 0 _ rfl
  have y1 := HO8x.out.at 1 _ rfl
  have y2 := HO9x.out.at 0 _ rfl
  have y3 := HO9x.out.at 1 _ rfl
  have HS := Lib.hid (same_any p q (fun _ => True) (.slice a1 p.arrays.length a2) (.slice f1 ds.length f2) (.slice d1 q.arrays.length d2) (.slice g1 es.length g2) X HPAx.out HPFx.out HQAx.out HQFx.out)
  have l8 := HO8x.out.lt
  have l9 := HO9x.out.lt
  clear HPAx HPFx HQAx HQFx HPA3 HPF3 HQA3 HQF3 HO8x HO9x
  cases bp <;> cases be
  all_goals
    have tp1 := HTP.out
    have te1 := HTE.out
    go_wp2_with fail
    refine HS.out.mono ?_
    rw [HBP.out]
    rintro r w12 ⟨rfl, hb12⟩
    have HB12 := Lib.hid hb12
    clear hb12
    go_wp2_with fail
    go_ret
    exact ⟨rfl, HB3'.out.trans ((HBWX.out.trans (HB12.out.mono HBWX.out.size)).mono HB3'.out.size)⟩
end Go.Proofs.YtgmaeflfiooigaaGreatDoor
