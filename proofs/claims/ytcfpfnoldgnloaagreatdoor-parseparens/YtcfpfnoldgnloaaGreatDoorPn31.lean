/-
  String and PrintExpr: the text that the printer holds; an expression's text. Conditions: the text takes at most 2^47 bytes; the library's table of powers is there.
  SameExprs of the reference: are two lists of expressions the same. Condition: what is compared lies in memory as the types say.
  ParseParens: for every input the law returns true. Conditions: the raw numbers lie in memory; the library's tables, too.
  ParseParens: for every input the law returns true, and its arguments read afterwards as before: the row, the card. Condition: the tables that the row lists are laid as the program's text lays them.
-/
import Derived.Test.YtcfpfnoldgnloaaGreatDoorPn30
import Derived.Shelf.RegionOpenPlain
import Derived.Laws.IdiomCopy
import Derived.Laws.BitsLemmas
import Derived.Test.YtcfpfnoldgnloaaGreatDoorPn00
import Derived.Test.YtcfpfnoldgnloaaGreatDoorPn17
import Derived.Test.YtcfpfnoldgnloaaGreatDoorPn23
import Derived.Test.YtcfpfnoldgnloaaGreatDoorPn24
import Derived.Test.YtcfpfnoldgnloaaGreatDoorPn29
import Derived.Test.YtcfpfnoldgnloaaGreatDoorCards
import Derived.Test.YtcfpfnoldgnloaaGreatDoorTie
import Derived.Test.YtcfpfnoldgnloaaGreatDoorPn02
import Derived.Test.YtcfpfnoldgnloaaGreatDoorPn03
set_option linter.unusedVariables false
set_option linter.unusedSimpArgs false
namespace Go.Proofs.YtcfpfnoldgnloaaGreatDoor
open Go.RowKit
set_option maxHeartbeats 4000000
set_option maxRecDepth 100000

theorem cellsByte : Tryz.prog.cellsOf 5 = 1 := by kernel_rfl
/-- String. -/
theorem string_any (b : Nat) (bs : Bs) (t : Int) (w : World) (hp : PrtAt w b bs t) (h0 : bs ≠ []) :
    Calls Tryz.prog 33 #[.pointer (some ⟨b, 0, none⟩)] w fun e w' => e = .returned (.string (strOf bs)) ∧ Below b w w' := by
  obtain ⟨p, v, hbk, hq, hown⟩ := hp
  have hl0 : bs.length ≠ 0 := by simpa using h0
  obtain ⟨g, cap, cur, rfl, hbg, hg, hnc, hcm, hcs, htake⟩ : ∃ g cap cur, v = .slice (some ⟨g, 0, none⟩) bs.length cap ∧ b + 1 ≤ g ∧ w.heap[g]? = some (.cells cur 5 (0, 0)) ∧ bs.length ≤ cap ∧ cap ≤ maxLen ∧ cur.size = cap * 1 ∧ cur.toList.take (bs.length * 1) = Lib.byteCells bs := by
    rcases hown.2 with ⟨_, hz⟩ | ⟨g, cap, cur, hv, r⟩
    · exact absurd hz hl0
    · exact ⟨g, cap, cur, hv, r⟩
  have c1 : w.drew.cell? ⟨b, 1, none⟩ = some (.slice (some ⟨g, 0, none⟩) bs.length cap) := by
    have : w.drew.heap[b]? = some (.cells #[p, .slice (some ⟨g, 0, none⟩) bs.length cap, .int .i64 t] 81 (0, 0)) := hbk
    rw [Lib.cell_of_heap this]; rfl
  have hSD : (Builtin.unsafeSliceData_ #[77] 125 #[.slice (some ⟨g, 0, none⟩) bs.length cap]).run Tryz.prog w.drew = .ok (.pointer (some ⟨g, 0, none⟩)) w.drew :=
    Lib.run_unsafeSliceData_row _ _ _ _ _ _ (by omega)
  have hUS : (Builtin.unsafeString_ #[125, 3] 9 #[.pointer (some ⟨g, 0, none⟩), .int .i64 bs.length]).run Tryz.prog w.drew = .ok (.string (strOf bs)) (w.drew.freeze ⟨g, 0, none⟩ bs.length) := by
    refine Lib.run_unsafeString_row w.drew 125 3 9 5 Tryz.underlying125 cellsByte g cur.size (by have hg' : w.drew.heap[g]? = some (.cells cur 5 (0, 0)) := hg; simp [World.shape?, hg']) bs h0 (by omega) (by unfold maxLen at hcm; omega) ?_
    intro j x hx
    have := hown.cells (g := g) rfl j (.int .u8 x.toNat) (by simp [Lib.byteCells, hx])
    exact this
  have HG : Hid (b ≤ g) := by show _ ≤ _; omega
  clear hbk hown hg hcs htake hcm hnc h0 hl0 hbg hq
  have mixed : Tryz.prog.follows .mixedOrders = true := by kernel_rfl
  go_enter Tryz.func33, Tryz.ntmps33
  go_wp2
  go_region_o
  all_goals (go_wp2; go_ret; exact ⟨rfl, Lib.below_freeze (Below.drew (Below.refl b w)) (p := ⟨g, 0, none⟩) HG.out _⟩)

/-- A new printer. -/
theorem PrtAt.new (w : World) : PrtAt (w.alloc (.cells #[.pointer none, .slice none 0 0, .int .i64 0] 81)) w.heap.size [] 0 := by
  refine ⟨.pointer none, .slice none 0 0, Array.getElem?_push_size, .inl rfl, rfl, .inl ⟨rfl, rfl⟩⟩
theorem itoa_ne (n : Int) : Lib.itoa n ≠ [] := by
  unfold Lib.itoa
  split
  · simp
  · intro h
    have h1 := Lib.decDigits_length n.toNat
    rw [h] at h1
    have := Lib.nDigits_pos n.toNat
    simp at h1; omega
theorem exText_ne {e : Ex} (h : wellOk e = true) : exText e ≠ [] := by
  have hk := kind_of_well (wellOk_parts h).1
  have hw := (wellOk_parts h).1
  obtain ⟨k, o, n, nm, args⟩ := e
  simp only [Ex.kind] at hk
  rcases hk with rfl | rfl | rfl | rfl | rfl | rfl | rfl
  · rw [exText_1]; exact itoa_ne n
  · rw [exText_2]; intro h; subst h; simp [wellHere, onlyOk, Ex.kind, Ex.name, isName] at hw
  · have hl : 0 < args.length := by simp [wellHere, onlyArgs, Ex.kind, Ex.args] at hw; omega
    rw [exText_3 o n nm args hl]
    have h0 : onlyOk (.mk 3 o n nm args) = true := by unfold wellHere at hw; simp only [Bool.and_eq_true] at hw; exact hw.1.1.1.1
    have h1 : decide (o = 17 ∨ o = 18 ∨ o = 19) = true := h0
    have h2 : o = 17 ∨ o = 18 ∨ o = 19 := of_decide_eq_true h1
    rcases h2 with rfl | rfl | rfl <;> simp [signOf]
  · have hl : 1 < args.length := by simp [wellHere, onlyArgs, Ex.kind, Ex.args] at hw; omega
    rw [exText_4 o n nm args hl]; simp
  · rw [exText_5]; simp
  · have hl : 0 < args.length := by simp [wellHere, onlyArgs, Ex.kind, Ex.args] at hw; omega
    rw [exText_6 o n nm args hl]; simp
  · rw [exText_7]; simp

theorem printExpr_good (e : Ex) (s : Value) (w : World) (hb : 3 < w.heap.size) (ht : TabOk w) (hs : ExsAt (· < w.heap.size) w e.args s) (hn : I64 e.n) (hr : rightEx e = true) (hf : Fits (exText e).length) :
    Calls Tryz.prog 16 #[exV e s] w fun r w' => r = .returned (.tuple #[.string (strOf (exText e)), .int .i64 0]) ∧ Below w.heap.size w w' := by
  obtain ⟨sa, sc, rfl⟩ := hs.shape
  have hw : wellOk e = true := by unfold rightEx at hr; exact ((Bool.and_eq_true _ _).mp hr).2
  have hb1 : Below w.heap.size w (w.alloc (.cells #[.int .i64 e.kind, .int .i64 e.op, .int .i64 e.n, .string (strOf e.name), .slice sa e.args.length sc] 27)) := (Below.refl _ _).alloc (Nat.le_refl _) _
  have HB1 := Lib.hid hb1; have HT := Lib.hid ht; have HS := Lib.hid hs; have HN := Lib.hid hn; have HR := Lib.hid hr; have HF := Lib.hid hf; have HW := Lib.hid hw; have HG := Lib.hid hb
  clear hb1 ht hs hn hr hf hw hb
  go_enter Tryz.func16, Tryz.ntmps16
  go_wp2_with fail
  refine (rightExpr_any e (· < w.heap.size) _ _ (HS.out.old HB1.out)).mono ?_
  rintro r w1 ⟨rfl, hb1⟩
  rw [HR.out]
  have hz : w.heap.size < w1.heap.size := by have := hb1.size; simp at this; omega
  have HB2 := Lib.hid (HB1.out.trans (hb1.mono (by simp)))
  have c0 : w1.cell? ⟨w.heap.size, 0, none⟩ = some (.int .i64 e.kind) := below_keeps hb1 (by simp)
  have c1 : w1.cell? ⟨w.heap.size, 1, none⟩ = some (.int .i64 e.op) := below_keeps hb1 (by simp)
  have c2 : w1.cell? ⟨w.heap.size, 2, none⟩ = some (.int .i64 e.n) := below_keeps hb1 (by simp)
  have c3 : w1.cell? ⟨w.heap.size, 3, none⟩ = some (.string (strOf e.name)) := below_keeps hb1 (by simp)
  have c4 : w1.cell? ⟨w.heap.size, 4, none⟩ = some (.slice sa e.args.length sc) := below_keeps hb1 (by simp)
  clear hb1
  go_wp2_with fail
  have HB3 : Hid (Below w.heap.size w (w1.alloc (.cells #[.pointer none, .slice none 0 0, .int .i64 0] 81))) := HB2.out.alloc (by omega) _
  have HK : Hid (ExsAt (· < w1.heap.size) (w1.alloc (.cells #[.pointer none, .slice none 0 0, .int .i64 0] 81)) e.args (.slice sa e.args.length sc)) := (HS.out.old HB3.out).mono (fun b h => Nat.lt_trans h hz)
  refine (expr_any _ e (Nat.le_refl _) w1.heap.size [] 0 _ _ (Nat.lt_trans HG.out hz) (HT.out.keep (HB3.out.block _ HG.out)) (PrtAt.new w1) HK.out HN.out HW.out (by simpa using HF.out)).mono ?_
  rintro r w2 ⟨rfl, hp2, hf2⟩
  have HP2 := Lib.hid hp2
  have HB4 := Lib.hid (HB3.out.trans ((hf2.below (PrtAt.new w1)).mono (Nat.le_of_lt hz)))
  clear hp2 hf2 c0 c1 c2 c3 c4
  go_wp2_with fail
  refine (string_any _ _ _ _ HP2.out (by simpa using exText_ne HW.out)).mono ?_
  rintro r w3 ⟨rfl, hb3⟩
  have HB5 := Lib.hid (HB4.out.trans (hb3.mono (Nat.le_of_lt hz)))
  clear hb3
  go_wp2_with fail
  go_ret2
  exact ⟨by simp, HB5.out⟩
theorem printExpr_bad (e : Ex) (D : Nat → Prop) (s : Value) (w : World) (hs : ExsAt D w e.args s) (hr : rightEx e = false) :
    Calls Tryz.prog 16 #[exV e s] w fun r w' => r = .returned (.tuple #[.string (strOf []), .int .i64 1]) ∧ Below w.heap.size w w' := by
  obtain ⟨sa, sc, rfl⟩ := hs.shape
  have hb1 : Below w.heap.size w (w.alloc (.cells #[.int .i64 e.kind, .int .i64 e.op, .int .i64 e.n, .string (strOf e.name), .slice sa e.args.length sc] 27)) := (Below.refl _ _).alloc (Nat.le_refl _) _
  have HB1 := Lib.hid hb1; have HS := Lib.hid hs; have HR := Lib.hid hr
  clear hb1 hs hr
  go_enter Tryz.func16, Tryz.ntmps16
  go_wp2_with fail
  refine (rightExpr_any e D _ _ (HS.out.old HB1.out)).mono ?_
  rintro r w1 ⟨rfl, hb1⟩
  rw [HR.out]
  have HB2 := Lib.hid (HB1.out.trans (hb1.mono (by simp)))
  clear hb1
  go_wp2_with fail
  go_ret2
  exact ⟨rfl, HB2.out⟩
end Go.Proofs.YtcfpfnoldgnloaaGreatDoor

namespace Go.Proofs.YtcfpfnoldgnloaaGreatDoor
open Go.RowKit
set_option maxHeartbeats 4000000
set_option maxRecDepth 100000

def RefSame (la : List Ex) : Prop := ∀ (lb : List Ex) (D : Nat → Prop) (va vb : Value) (w : World), ExsAt D w la va → ExsAt D w lb vb →
  Calls Tryz.prog 17 #[va, vb] w fun e w' => e = .returned (.bool (sameExs la lb)) ∧ ∃ n, w' = w.drewN n
theorem ExsAt.drewN {D : Nat → Prop} {w : World} {l : List Ex} {v : Value} (h : ExsAt D w l v) (n : Nat) : ExsAt D (w.drewN n) l v := ExsAt.keep (w := w) (w' := w.drewN n) (fun _ _ _ _ hx => hx) h
theorem quiet_plus {P : Program} {f : FuncId} {args : Array Value} {w : World} {a n : Nat} {v : Value}
    (h : Calls P f args (w.drewN (a + n)) fun e w' => e = .returned v ∧ ∃ m, w' = (w.drewN (a + n)).drewN m) :
    Calls P f args (w.drewN (a + n)) fun e w'' => e = .returned v ∧ ∃ m, w'' = w.drewN (a + m) :=
  h.mono fun _ _ ⟨he, m, hm⟩ => ⟨he, n + m, by rw [hm, World.drewN_drewN, Nat.add_assoc]⟩
theorem sameEx_parts (x y : Ex) : sameEx x y = (x.kind == y.kind && x.op == y.op && x.n == y.n && x.name == y.name && sameExs x.args y.args) := by
  cases x; cases y; rw [sameEx]; rfl
/-- How a round may go. -/
theorem ref_cases (x y : Ex) : (sameEx x y = false ∧ (x.kind != y.kind) = true) ∨ (sameEx x y = false ∧ (x.kind != y.kind) = false ∧ (x.op != y.op) = true) ∨ (sameEx x y = false ∧ (x.kind != y.kind) = false ∧ (x.op != y.op) = false ∧ (x.n != y.n) = true)
    ∨ (sameEx x y = false ∧ (x.kind != y.kind) = false ∧ (x.op != y.op) = false ∧ (x.n != y.n) = false ∧ (x.name == y.name) = false)
    ∨ (sameEx x y = false ∧ (x.kind != y.kind) = false ∧ (x.op != y.op) = false ∧ (x.n != y.n) = false ∧ (x.name == y.name) = true ∧ sameExs x.args y.args = false)
    ∨ (sameEx x y = true ∧ (x.kind != y.kind) = false ∧ (x.op != y.op) = false ∧ (x.n != y.n) = false ∧ (x.name == y.name) = true ∧ sameExs x.args y.args = true) := by
  rw [sameEx_parts]
  simp only [bne]
  cases x.kind == y.kind <;> cases x.op == y.op <;> cases x.n == y.n <;> cases x.name == y.name <;> cases sameExs x.args y.args <;> simp
theorem ref_step (la : List Ex) (ih : ∀ x, x ∈ la → RefSame x.args) : RefSame la := by
  intro lb D va vb w ha hb
  obtain ⟨a1, a2, rfl⟩ := ha.shape
  obtain ⟨b1, b2, rfl⟩ := hb.shape
  have l63 := ha.fits.lt
  have m63 := hb.fits.lt
  rw [sameExs_zip]
  by_cases hl : lb.length = la.length
  · rw [hl] at hb ⊢
    have HA := Lib.hid ha; have HB := Lib.hid hb; have IH := Lib.hid ih; have HL := Lib.hid hl
    clear ha hb ih hl m63
    go_enter Tryz.func17, Tryz.ntmps17
    go_wp2_with fail
    go_loopw [5] (fun s5 wr => ∃ k : Nat, k ≤ la.length ∧ s5 = .int .i64 k ∧ (∀ i, i < k → sameEx (la.getD i Ex.nil) (lb.getD i Ex.nil) = true) ∧ ∃ n, wr = w.drewN n) (fun s5 _ => la.length - (intOf s5).toNat)
    case atStart => exact ⟨0, Nat.zero_le _, rfl, fun i hi => by omega, 0, rfl⟩
    case round =>
      obtain ⟨k, hk, rfl, hno, hn⟩ := hrel
      have HNO := Lib.hid hno; have HN := Lib.hid hn
      have HAW : Hid (ExsAt D wr la (.slice a1 la.length a2)) := by obtain ⟨n, rfl⟩ := hn; exact HA.out.drewN n
      have HBW : Hid (ExsAt D wr lb (.slice b1 la.length b2)) := by obtain ⟨n, rfl⟩ := hn; exact HB.out.drewN n
      clear hno hn
      by_cases hlt : k < la.length
      · obtain ⟨xab, xao, xas, rfl, xaD, a0, a1, a2, a3, a4, ah, an⟩ := ExsAt.cellAt HAW.out k hlt
        obtain ⟨xbb, xbo, xbs, rfl, xbD, b0, b1, b2, b3, b4, bh, bn⟩ := ExsAt.cellAt HBW.out k (by rw [HL.out]; exact hlt)
        obtain ⟨a5, a6, rfl⟩ := ah.shape
        obtain ⟨b5, b6, rfl⟩ := bh.shape
        have HAH := Lib.hid ah; have HBH := Lib.hid bh
        clear ah bh an bn xaD xbD HAW HBW
        have IHX := Lib.hid (IH.out _ (exAt_mem hlt))
        have HKL := Lib.hid hlt
        have hc := ref_cases (exAt la k) (exAt lb k)
        generalize hxe : exAt la k = xa at *
        generalize hye : exAt lb k = xb at *
        have HXE := Lib.hid hxe; have HYE := Lib.hid hye; clear hxe hye
        have HC := Lib.hid hc
        clear hc
        have i0 : (0 : Int) ≤ (k : Int) := by omega
        have i1 : (k : Int) < (la.length : Int) := by omega
        have HCALL : Hid (∀ m, Calls Tryz.prog 17 #[.slice a5 xa.args.length a6, .slice b5 xb.args.length b6] (wr.drewN m) fun e w' => e = .returned (.bool (sameExs xa.args xb.args)) ∧ ∃ n, w' = (wr.drewN m).drewN n) := fun m => IHX.out _ D _ _ _ (HAH.out.drewN m) (HBH.out.drewN m)
        generalize sameExs xa.args xb.args = qq at *
        go_wp2_with fail
        go_quiet ((go_at_call 17; exact Calls.quiet_of (HCALL.out _)))
        have HC2 := Lib.hid HC.out
        rcases HC2.out with ⟨e, h1⟩ | ⟨e, h1, h2⟩ | ⟨e, h1, h2, h3⟩ | ⟨e, h1, h2, h3, h4⟩ | ⟨e, h1, h2, h3, h4, rfl⟩ | ⟨e, h1, h2, h3, h4, rfl⟩
        all_goals
          have HE : Hid (sameEx (exAt la k) (exAt lb k) = sameEx xa xb) := by show _ = _; rw [HXE.out, HYE.out]
          have HE2 := Lib.hid e
          clear HC HC2 e
          go_wp2_with fail
          go_quiet (fail)
          go_wp2_with fail
        iterate 5
          · go_ret
            obtain ⟨n0, hn0⟩ := HN.out
            exact ⟨ret_bool (zipAll_false sameEx Ex.nil la lb k HL.out.symm HKL.out (HE.out.trans HE2.out)).symm, _, by rw [hn0, World.drewN_drewN, World.drewN_drewN]⟩
        · go_roundw
          case rel => exact ⟨k + 1, by omega, by go_num, fun i hi => by rcases Nat.lt_succ_iff_lt_or_eq.1 hi with h | rfl; exact HNO.out i h; exact HE.out.trans HE2.out, by obtain ⟨n0, hn0⟩ := HN.out; exact ⟨_, by rw [hn0, World.drewN_drewN]⟩⟩
          case measure => simp [intOf]; omega
      · go_wp2_with fail
        go_ret
        exact ⟨ret_bool (zipAll_true sameEx Ex.nil la lb HL.out.symm (fun i hi => HNO.out i (by omega))).symm, HN.out⟩
  · have hne : ((la.length : Int) != (lb.length : Int)) = true := by rw [bne_iff_ne]; omega
    have E : Hid (zipAll sameEx la lb = false) := zipAll_len _ _ _ (by omega)
    clear ha hb ih hl
    go_enter Tryz.func17, Tryz.ntmps17
    go_wp2_with fail
    go_ret
    exact ⟨ret_bool E.out.symm, 0, rfl⟩
theorem ref_all : ∀ (n : Nat) (l : List Ex), SizeOf.sizeOf l ≤ n → RefSame l
  | 0, l, h => by cases l <;> simp at h
  | n + 1, l, h => ref_step l fun x hx => ref_all n x.args (by
    have h1 := List.sizeOf_lt_of_mem hx
    cases x with
    | mk k o m nm args => show SizeOf.sizeOf args ≤ n; simp at h1; omega)
theorem ref_any (l : List Ex) : RefSame l := ref_all _ l (Nat.le_refl _)
end Go.Proofs.YtcfpfnoldgnloaaGreatDoor

namespace Go.Proofs.YtcfpfnoldgnloaaGreatDoor
open Go.RowKit
set_option maxHeartbeats 4000000
set_option maxRecDepth 100000

theorem zstrOf_app (a b : Bs) : strOf a ++ strOf b = strOf (a ++ b) := by
  apply ByteArray.ext; simp [strOf]
theorem zstrOf_sz (a : Bs) : (strOf a).size = a.length := by show a.toArray.size = _; simp
theorem pn_drewN {B : Nat} {a w : World} (h : Below B a w) (n : Nat) : Below B a (w.drewN n) := ⟨h.os, h.tape, h.output, h.size, h.block⟩
theorem pn_good {X : Ex} (hr : rightEx X = true) (h : WEx X) (hn : N64 X) (k : Nat) (hlen : (parT (exText X) k).length ≤ 20000) (w : World) (hl : ZLib w) :
    Calls Tryz.prog 13 #[.string (strOf (parT (exText X) k))] w fun e w' => Below w.heap.size w w' ∧ ∃ sa sc, e = .returned (.tuple #[.agg #[.int .i64 X.kind, .int .i64 X.op, .int .i64 X.n, .string (strOf X.name), .slice sa X.args.length sc], .int .i64 0, .int .i64 0]) ∧ ExsAt (w.heap.size ≤ ·) w' X.args (.slice sa X.args.length sc) := by
  refine (par_good hr h hn k hlen w hl).mono ?_
  rintro e w' ⟨hb, v, rfl, s, rfl, hx, _⟩
  obtain ⟨sa, sc, rfl⟩ := hx.shape
  exact ⟨hb, sa, sc, rfl, hx⟩
def BadE (w : World) (e : Ending) (w' : World) : Prop := Below w.heap.size w w' ∧ ∃ n kk o m s sa sl sc, e = .returned (.tuple #[.agg #[.int .i64 kk, .int .i64 o, .int .i64 m, .string s, .slice sa sl sc], .int .i64 40, .int .i64 n])
theorem pn_bad {w : World} {e : Ending} {w' : World} (h : ∃ n, WhE w (exZ, 40, n) e w') : BadE w e w' := by
  obtain ⟨n, hb, v, rfl, s, rfl, hx, _⟩ := h
  obtain ⟨sa, sc, rfl⟩ := hx.shape
  exact ⟨hb, n, _, _, _, _, sa, _, sc, rfl⟩
theorem yparens_any (raw0 : List Int) (rv : Value) (n : Int) (hn : I64 n) (w : World) (hr : RawAt (· < w.heap.size) w raw0 rv) (hl : ZLib w) :
    Calls Tryz.prog 4 #[rv, .int .i64 n] w fun e w' => e = .returned (.bool true) ∧ Below w.heap.size w w' := by
  have HL := Lib.hid hl; have HN := Lib.hid hn; have HRA := Lib.hid hr
  clear hl hn hr
  go_enter Tryz.func4, Tryz.ntmps4
  go_wp2_with fail
  refine (yawake_any w HL.out).mono ?_
  rintro e w1 ⟨rfl, hb1⟩
  have HB1 := Lib.hid hb1
  have HR1 := Lib.hid (RawAt.old hb1 HRA.out)
  have HL1 := Lib.hid (HL.out.old hb1)
  clear hb1 HRA
  go_wp2_with fail
  refine (exprT_any raw0 rv w1 HR1.out).mono ?_
  rintro e w2 ⟨v, rfl, hb2, hx, hn2⟩
  have hr := gExprTop_right raw0
  have hlen := exprTop_short raw0
  clear HR1
  generalize gExprTop raw0 = X at *
  obtain ⟨sa, sc, rfl⟩ := hx.shape
  have hwx := wex_of X (by unfold rightEx at hr; exact ((Bool.and_eq_true _ _).mp hr).2)
  have h64 : N64 X := by
    have ha := hx.n64
    obtain ⟨k, o, n, nm, args⟩ := X
    exact .mk k o n nm args hn2 ha
  have hal : Below w2.heap.size w2 (w2.alloc (.cells #[.int .i64 X.kind, .int .i64 X.op, .int .i64 X.n, .string (strOf X.name), .slice sa X.args.length sc] 27)) := (Below.refl _ _).alloc (Nat.le_refl _) _
  have HO := Lib.hid (OwnAt.new w2 [.int .i64 X.kind, .int .i64 X.op, .int .i64 X.n, .string (strOf X.name), .slice sa X.args.length sc] 27)
  have HB3 := Lib.hid (HB1.out.trans ((hb2.trans (hal.mono hb2.size)).mono HB1.out.size))
  have HL3 := Lib.hid ((HL1.out.old hb2).old hal)
  have HX3 := Lib.hid ((hx.strong.keep (keeps_below hal)).mono (D' := (· < w2.heap.size)) (fun b hb => hb.2))
  have HR := Lib.hid hr; have HWX := Lib.hid hwx; have H64 := Lib.hid h64; have HN2 := Lib.hid hn2; have HLN := Lib.hid hlen
  clear hb2 hal hx hn2 hr hwx h64 hlen
  go_upto_region 3 with (fail)
  generalize hV : w2.alloc (.cells #[.int .i64 X.kind, .int .i64 X.op, .int .i64 X.n, .string (strOf X.name), .slice sa X.args.length sc] 27) = V at *
  have hVz : V.heap.size = w2.heap.size + 1 := by rw [← hV]; simp
  clear hV HB1 HL1
  have HXV : Hid (ExsAt (· < V.heap.size) V X.args (.slice sa X.args.length sc)) := HX3.out.mono (fun b hb => by omega)
  generalize w2.heap.size = xb at *
  clear hVz HX3
  have x0 := HO.out.at 0 _ rfl
  have x1 := HO.out.at 1 _ rfl
  have x2 := HO.out.at 2 _ rfl
  have x3 := HO.out.at 3 _ rfl
  have x4 := HO.out.at 4 _ rfl
  have hfit : Fits (exText X).length := by have := HLN.out; show _ ≤ _; omega
  have HF := Lib.hid hfit
  clear hfit
  go_wp2_with fail
  refine (printExpr_good X _ V HL3.out.lt HL3.out.pow HXV.out HN2.out HR.out HF.out).mono ?_
  rintro e w4 ⟨rfl, hb4⟩
  have HB4 := Lib.hid (HB3.out.trans (hb4.mono HB3.out.size))
  have HL4 := Lib.hid (HL3.out.old hb4)
  have HO4 := Lib.hid (HO.out.old hb4)
  have HX4 := Lib.hid ((HXV.out.old hb4).mono (D' := fun _ => True) (fun _ _ => trivial))
  clear hb4 HB3 HL3 HO HXV HF x0 x1 x2 x3 x4
  go_wp2_with fail
  refine (ypick_any n 51 HN.out (by decide) (by decide) w4).mono ?_
  rintro e w5 ⟨he, rfl⟩
  obtain ⟨k, hk, hk51⟩ := ypick_range n 51 (by decide)
  rw [hk] at he
  subst he
  clear hk HN
  go_wp2_with fail
  go_loopw [10, 11] (fun s10 s11 wr => ∃ i : Nat, i ≤ k ∧ s11 = .int .i64 i ∧ s10 = .string (strOf (parT (exText X) i)) ∧ w5 = wr) (fun _ s11 _ => k - (intOf s11).toNat)
  case atStart => exact ⟨0, Nat.zero_le _, rfl, rfl, rfl⟩
  case round =>
    obtain ⟨i, hi, rfl, rfl, rfl⟩ := hrel
    have hl1 := parT_len (exText X) i
    have hz := zstrOf_sz (parT (exText X) i)
    have hln := HLN.out
    by_cases hlt : i < k
    · have hS : Hid (strOf [40] ++ strOf (parT (exText X) i) ++ strOf [41] = strOf (parT (exText X) (i + 1))) := by show _ = _; rw [zstrOf_app, zstrOf_app]; rfl
      generalize strOf (parT (exText X) i) = S at *
      have n1 : ¬ (1 + S.size > 9223372036854775807) := by omega
      have n2 : ¬ (9223372036854775807 < 1 + S.size) := by omega
      have z1 : (strOf [40] ++ S).size = 1 + S.size := by rw [ByteArray.size_append]; rfl
      have n3 : ¬ (1 + S.size + 1 > 9223372036854775807) := by omega
      have n4 : ¬ (9223372036854775807 < 1 + S.size + 1) := by omega
      have hltI : (i : Int) < (k : Int) := by omega
      clear hl1 hz hln
      go_wp2_with fail
      exact ⟨⟨i + 1, hlt, rfl, congrArg Value.string hS.out, by first | rfl | trivial⟩, by simp [intOf]; omega⟩
    · have he : i = k := by omega
      subst he
      have HPG := Lib.hid (pn_good HR.out HWX.out H64.out i (by omega) w5 HL4.out)
      have HPB : Hid (∀ w', ZLib w' → Calls Tryz.prog 13 #[.string (strOf (parT (exText X) i ++ [41]))] w' (BadE w')) := Lib.hid fun w' hl => (par_behind HWX.out H64.out i (by rw [List.length_append, hl1]; simp; omega) w' hl).mono fun _ _ h => pn_bad h
      have HPA : Hid (∀ w', ZLib w' → Calls Tryz.prog 13 #[.string (strOf ([40] ++ parT (exText X) i))] w' (BadE w')) := Lib.hid fun w' hl => (par_ahead HWX.out H64.out i (by rw [List.length_append, hl1]; simp; omega) w' hl).mono fun _ _ h => pn_bad h
      have hS1 : Hid (strOf (parT (exText X) i) ++ strOf [41] = strOf (parT (exText X) i ++ [41])) := zstrOf_app _ _
      have hS2 : Hid (strOf [40] ++ strOf (parT (exText X) i) = strOf ([40] ++ parT (exText X) i)) := zstrOf_app _ _
      generalize strOf (parT (exText X) i ++ [41]) = S1 at *
      generalize strOf ([40] ++ parT (exText X) i) = S2 at *
      generalize strOf (parT (exText X) i) = S at *
      have n1 : ¬ (1 + S.size > 9223372036854775807) := by omega
      have n2 : ¬ (9223372036854775807 < 1 + S.size) := by omega
      have n3 : ¬ (S.size + 1 > 9223372036854775807) := by omega
      have n4 : ¬ (9223372036854775807 < S.size + 1) := by omega
      clear hl1 hz hln hlt hi HLN
      go_wp2_with fail
      refine HPG.out.mono ?_
      rintro e w6 ⟨hb6, ya, yc, rfl, hy6⟩
      have hal : Below w6.heap.size w6 (w6.alloc (.cells #[.int .i64 X.kind, .int .i64 X.op, .int .i64 X.n, .string (strOf X.name), .slice ya X.args.length yc] 27)) := (Below.refl _ _).alloc (Nat.le_refl _) _
      have hbb := hb6.trans (hal.mono hb6.size)
      have HB6 := Lib.hid (HB4.out.trans (hbb.mono HB4.out.size))
      have HL6 := Lib.hid (HL4.out.old hbb)
      have HO6 := Lib.hid (HO4.out.old hbb)
      have HX6 := Lib.hid (HX4.out.old hbb)
      have HOY := Lib.hid (OwnAt.new w6 [.int .i64 X.kind, .int .i64 X.op, .int .i64 X.n, .string (strOf X.name), .slice ya X.args.length yc] 27)
      have HY6 := Lib.hid ((hy6.old hal).mono (D' := fun _ => True) (fun _ _ => trivial))
      clear hb6 hal hbb hy6 HPG
      go_upto_region 11 with (fail)
      generalize w6.alloc (.cells #[.int .i64 X.kind, .int .i64 X.op, .int .i64 X.n, .string (strOf X.name), .slice ya X.args.length yc] 27) = w7 at *
      generalize w6.heap.size = yb at *
      clear HB4 HL4 HO4 HX4
      go_wp2_with fail
      have hS1' : Hid ((S ++ { data := #[41] }) = S1) := hS1
      rw [hS1'.out]
      clear hS1 hS1'
      refine (HPB.out w7 HL6.out).mono ?_
      rintro e w8 ⟨hb8, m8, q1, q2, q3, q4, q5, q6, q7, rfl⟩
      have hal : Below w8.heap.size w8 (w8.alloc (.cells #[.int .i64 q1, .int .i64 q2, .int .i64 q3, .string q4, .slice q5 q6 q7] 27)) := (Below.refl _ _).alloc (Nat.le_refl _) _
      have hbb := hb8.trans (hal.mono hb8.size)
      have HB8 := Lib.hid (HB6.out.trans (hbb.mono HB6.out.size))
      have HL8 := Lib.hid (HL6.out.old hbb)
      have HO8 := Lib.hid (HO6.out.old hbb)
      have HX8 := Lib.hid (HX6.out.old hbb)
      have HOY8 := Lib.hid (HOY.out.old hbb)
      have HY8 := Lib.hid (HY6.out.old hbb)
      clear hb8 hal hbb
      go_upto_region 12 with (fail)
      generalize w8.alloc (.cells #[.int .i64 q1, .int .i64 q2, .int .i64 q3, .string q4, .slice q5 q6 q7] 27) = w9 at *
      clear HB6 HL6 HO6 HX6 HOY HY6 HPB
      generalize w8.heap.size = zb at *
      go_wp2_with fail
      have hS2' : Hid (({ data := #[40] } ++ S) = S2) := hS2
      rw [hS2'.out]
      clear hS2 hS2'
      refine (HPA.out w9 HL8.out).mono ?_
      rintro e w10 ⟨hb10, m10, u1, u2, u3, u4, u5, u6, u7, rfl⟩
      have hal : Below w10.heap.size w10 (w10.alloc (.cells #[.int .i64 u1, .int .i64 u2, .int .i64 u3, .string u4, .slice u5 u6 u7] 27)) := (Below.refl _ _).alloc (Nat.le_refl _) _
      have hbb := hb10.trans (hal.mono hb10.size)
      have HB10 := Lib.hid (HB8.out.trans (hbb.mono HB8.out.size))
      have HOX := Lib.hid (HO8.out.old hbb)
      have HX := Lib.hid (HX8.out.old hbb)
      have HOY := Lib.hid (HOY8.out.old hbb)
      have HY := Lib.hid (HY8.out.old hbb)
      clear hb10 hal hbb
      go_upto_region 13 with (fail)
      generalize w10.alloc (.cells #[.int .i64 u1, .int .i64 u2, .int .i64 u3, .string u4, .slice u5 u6 u7] 27) = Y at *
      clear HB8 HL8 HO8 HX8 HOY8 HY8 HPA n1 n2 n3 n4
      generalize w10.heap.size = tb at *
      have x0 := HOX.out.at 0 _ rfl
      have x1 := HOX.out.at 1 _ rfl
      have x2 := HOX.out.at 2 _ rfl
      have x3 := HOX.out.at 3 _ rfl
      have x4 := HOX.out.at 4 _ rfl
      have y0 := HOY.out.at 0 _ rfl
      have y1 := HOY.out.at 1 _ rfl
      have y2 := HOY.out.at 2 _ rfl
      have y3 := HOY.out.at 3 _ rfl
      have y4 := HOY.out.at 4 _ rfl
      have ul := HOX.out.lt
      have xl := HOY.out.lt
      have hm1 := RowAt.new Y (exCells X (.slice sa X.args.length sc)) 27
      have hbm : Below Y.heap.size Y (Y.alloc (.cells (exCells X (.slice sa X.args.length sc)).toArray 27)) := (Below.refl _ _).alloc (Nat.le_refl _) _
      have hm2 := RowAt.new (Y.alloc (.cells (exCells X (.slice sa X.args.length sc)).toArray 27)) (exCells X (.slice ya X.args.length yc)) 27
      have hbn : Below Y.heap.size Y ((Y.alloc (.cells (exCells X (.slice sa X.args.length sc)).toArray 27)).alloc (.cells (exCells X (.slice ya X.args.length yc)).toArray 27)) := ((Below.refl _ _).alloc (Nat.le_refl _) _).alloc (by simp) _
      have hbo := (Below.refl (Y.alloc (.cells (exCells X (.slice sa X.args.length sc)).toArray 27)).heap.size (Y.alloc (.cells (exCells X (.slice sa X.args.length sc)).toArray 27))).alloc (Nat.le_refl _) (.cells (exCells X (.slice ya X.args.length yc)).toArray 27)
      rw [show (Y.alloc (.cells (exCells X (.slice sa X.args.length sc)).toArray 27)).heap.size = Y.heap.size + 1 by simp] at hm2
      have HD1 := Lib.hid (ExsAt.one (D := fun _ => True) X _ trivial (hm1.below hbo) ((HX.out.old hbn).mono (fun _ _ => trivial)) HN2.out)
      have HE1 := Lib.hid (ExsAt.one (D := fun _ => True) X _ trivial hm2 ((HY.out.old hbn).mono (fun _ _ => trivial)) HN2.out)
      have HBN := Lib.hid (HB10.out.trans (hbn.mono HB10.out.size))
      clear hm1 hm2 hbm hbn hbo HX HY HB10 HOX HOY
      go_wp2_with fail
      refine (ref_any [X] [X] (fun _ => True) _ _ _ HD1.out HE1.out).mono ?_
      rw [(sameExs_iff [X] [X]).2 rfl]
      rintro e w11 ⟨rfl, m, rfl⟩
      have HBX := Lib.hid (pn_drewN HBN.out m)
      generalize World.drewN _ m = Z at *
      clear HD1 HE1 x0 x1 x2 x3 x4 y0 y1 y2 y3 y4 ul xl
      go_wp2_with fail
      go_ret
      exact ⟨rfl, HBX.out⟩
end Go.Proofs.YtcfpfnoldgnloaaGreatDoor

namespace Go.Proofs.YtcfpfnoldgnloaaGreatDoor.wParseParens
open Go.ChangeShapes Go.WideShapes Go.ChangeAt Go.RowKit
set_option maxRecDepth 100000

theorem own : ownKnob Tryz.prog.godebug = none := by kernel_rfl
theorem contract (H : Type) (enc : TypeId × Value → H) (W : World) (base : Nat) (args : Array Value) (ds gs : List (DataW H)) (before : List MemPlace)
    (hval : ∀ (j : Nat) t v, Tryz.f4.params[j]? = some t → args[j]? = some v → Value.okWide Tryz.prog W .any base t v)
    (hW : DataW.Whole enc Tryz.prog Tryz.f4.params.toList Rows.parseParensSpec.vars false W args.toList ds gs before) (hsz : (DataW.weightsEach Tryz.prog (Tryz.f4.params.toList ++ (OpenSpec.ofChange Rows.parseParensSpec).bare.plain.varTypes Tryz.prog) (ds ++ gs)).all (· ≤ reachBytes) = true) (hL : laidMetH Tryz.prog Rows.parseParensRow.laid W) (hsh : W.ShapedOpen Tryz.prog) :
    Calls Tryz.prog 4 args W fun e W' => ∃ v, e = .returned v ∧ Rows.parseParensSpec.post enc Tryz.prog Tryz.f4 false true false false W args v W' := by
  have hT := zlib_of hL hsh
  have hW' := hW
  obtain ⟨p, q, hA0, hV, rfl, hfz, hnd⟩ := hW
  have hA : DataW.TrodAll enc Tryz.prog W 0 (fun _ => true) true Tryz.f4.params.toList args.toList ds p := hA0
  rw [Tryz.params4] at hA hval hsz
  obtain ⟨x0, vs0, d0, ds0, p0, q0, hargs, rfl, rfl, h0, r0⟩ := trodAll_cons hA
  obtain ⟨x1, vs1, d1, ds1, p1, q1, e1, rfl, rfl, h1, r1⟩ := trodAll_cons r0
  obtain ⟨rfl, rfl, rfl⟩ := trodAll_nil r1
  subst e1
  obtain rfl : args = #[x0, x1] := by cases args; simp_all
  obtain ⟨rfl, rfl⟩ := trodVars_none hV
  obtain ⟨raw0, hraw0, again0⟩ := open_raw (hval 0 38 x0 rfl rfl) h0
  obtain ⟨raw1, hx1, hraw1⟩ := yopen_rawint (hval 1 3 x1 rfl rfl) h1
  subst hx1
  clear hA0
  refine (yparens_any raw0 x0 raw1 hraw1 W hraw0 hT).mono fun e W' ⟨he, hb⟩ => ?_
  subst he
  exact ⟨_, rfl, post_below (pa := (p0 ++ (p1 ++ []))) (pv := []) hW' (fun _ _ _ => trodAll_cons_mk (shut_bool Tryz.underlying4 _) trodAll_mk0) (fun sp hsp => trodAll_cons_mk (again0 W' sp true hb (fun q hq => hsp q (by simp [hq]))) (trodAll_cons_mk (zagain (by kernel_rfl) (of_decide_eq_true (by kernel_rfl)) h1 hb sp (fun q hq => hsp q (by simp [hq]))) (trodAll_mk0))) (fun _ _ => rfl) rfl
    hb (ok_one (by kernel_rfl) rfl (okWide_bool_mk Tryz.underlying4 _))⟩

/-- The cells of a table. -/
def tab1 : DataW Unit → List Value
  | .lit (.int k n) => [.int k n]
  | .agg l => l.map fun | .lit (.int k n) => Value.int k n | _ => undef
  | _ => [undef]
def tabCells : DataW Unit → Array Value
  | .agg l => (l.flatMap tab1).toArray
  | _ => #[]
def errText : DataW Unit → Value
  | .iface _ (.ptr (.agg [.lit (.string b)])) => .string ⟨b.toArray⟩
  | _ => undef
noncomputable def lowB : Nat := (World.holding Tryz.prog default ⟨#[], #[], []⟩).heap.size
/-- A world for the witness: the settled one, the tables holding what their initialisers lay. -/
noncomputable def laidWorld (os : Os) : World :=
  let h0 := (World.holding Tryz.prog os ⟨#[.cells #[errText Rows.laid_strconv_ErrRange] 234, .cells #[errText Rows.laid_strconv_ErrSyntax] 234], #[], []⟩).heap
  let lay (g : Nat) (d : DataW Unit) (h : Array Obj) : Array Obj := h.modify g fun
    | .cells _ t frozen => .cells (tabCells d) t frozen
    | o => o
  let err (g : Nat) (b : Nat) (h : Array Obj) : Array Obj := h.modify g fun
    | .cells _ t frozen => .cells #[.iface 232 (.pointer (some ⟨b, 0, none⟩))] t frozen
    | o => o
  { World.holding Tryz.prog os ⟨#[.cells #[errText Rows.laid_strconv_ErrRange] 234, .cells #[errText Rows.laid_strconv_ErrSyntax] 234], #[], []⟩ with heap := lay 6 Rows.laid_math_bits_deBruijn32tab (lay 7 Rows.laid_math_bits_deBruijn64tab (lay 3 Rows.laid_internal_strconv_uint64pow10 (lay 2 Rows.laid_unicode_utf8_acceptRanges (lay 1 Rows.laid_unicode_utf8_first (err 5 lowB (err 4 (lowB + 1) h0)))))) }
theorem laid_met (os : Os) : laidMet Tryz.prog Rows.parseParensRow.laid ((laidWorld os).forCall (fun _ _ => 0) ⟨#[], #[.slice none 0 0, .int .i64 0], []⟩).memory :=
  laidMet_of_run' 8 (by kernel_rfl) (by kernel_rfl)
theorem reads (os : Os) {H : Type} (enc : TypeId × Value → H) : ∃ places, DataW.whole enc Tryz.prog ((laidWorld os).forCall (fun _ _ => 0) ⟨#[], #[.slice none 0 0, .int .i64 0], []⟩).memory Tryz.f4.params.toList Rows.parseParensSpec.vars false ((#[.slice none 0 0, .int .i64 0] : Array Value).toList) 8 = some ([.nil, .lit (.int .i64 0)], [], places) :=
  ⟨[], by kernel_rfl⟩

theorem lifted (os : Os) (started : os.Started) (H : Type) (enc : TypeId × Value → H) (F : Stop.Interp) :
    ReturnsInHanded {} Tryz.checked os 4 .any ((OpenSpec.ofChange Rows.parseParensSpec).preRow enc Tryz.prog Tryz.f4 Rows.parseParensRow.domain false Rows.parseParensRow.laid) (((OpenSpec.ofChange Rows.parseParensSpec).at F).post enc Tryz.prog Tryz.f4 false true false false) := by
  obtain ⟨places, hx⟩ := reads os enc
  refine returnsInHanded_of_row (C := Tryz.checked) (s := OpenSpec.ofChange Rows.parseParensSpec) own started (by kernel_rfl) Tryz.func4
    (witness_row_at (enc := enc) (C := Tryz.checked) false (laidWorld os) #[.slice none 0 0, .int .i64 0] rfl (by kernel_rfl) (by kernel_rfl) (by kernel_rfl)
      (OpenSpec.preRow_of_cond 8 hx (by kernel_rfl) (fun k hk => by cases hk) (by kernel_rfl) (laid_met os))) ?_
  intro W base args ds gs before hval hW _ _ hsz hL hsh _
  exact contract H enc W base args ds gs before hval hW hsz hL hsh

theorem said : Rows.ParseParensSaid :=
  OpenClaim.holds_of_cond 4 Tryz.f4 rfl rfl rfl rfl rfl rfl rfl ⟨rfl, rfl, rfl, rfl, rfl⟩ rfl rfl rfl rfl rfl (by kernel_rfl) Tryz.func4 (by kernel_rfl)
    (of_decide_eq_true (by kernel_rfl)) (by unfold Func.isWrapper; first | (rw [if_pos (by decide +kernel)]; kernel_rfl) | (rw [if_neg (by decide +kernel)]; exact ⟨rfl, rfl⟩))
    (fun os started H enc _ F => by rw [OpenClaim.pre_eq_preRow]; exact lifted os started H enc F)

theorem plain (f : FuncId) (fn : Func) (hf : Tryz.pinned.checked.prog.funcNamed "counterproof/counterprooflaw04.ParseParens" = some f) (hfn : Tryz.pinned.checked.prog.funcs[f]? = some fn) :
    true = Tryz.pinned.checked.prog.looks [] ∧ ∀ (j : Nat) t, fn.params[j]? = some t → Tryz.pinned.checked.prog.wantsStandIn t = false := by
  obtain rfl : f = 4 := Option.some.inj ((show Tryz.prog.funcNamed "counterproof/counterprooflaw04.ParseParens" = some 4 by kernel_rfl).symm.trans hf) |>.symm
  obtain rfl : fn = Tryz.f4 := (Option.some.inj (Tryz.func4.symm.trans hfn)).symm
  refine ⟨by kernel_rfl, fun j t ht => ?_⟩
  rw [Tryz.params4] at ht
  have hm := Array.mem_of_getElem? ht
  simp only [List.mem_toArray, List.mem_cons, List.not_mem_nil, or_false] at hm
  rcases hm with rfl | rfl
  · exact (show Tryz.prog.wantsStandIn 38 = false by kernel_rfl)
  · exact (show Tryz.prog.wantsStandIn 3 = false by kernel_rfl)
end Go.Proofs.YtcfpfnoldgnloaaGreatDoor.wParseParens
namespace Go.Proofs.YtcfpfnoldgnloaaGreatDoor
/-- The card. -/
theorem parseParens_card : Rows.ParseParensCardSaid :=
  Claim7.holds_tied_plain_at .later [] _ _ _ _ wParseParens.said (fun _ h => by cases h) (by kernel_rfl) (fun _ h => by cases h) parseParens_row_tie rfl ⟨rfl, rfl⟩ (by kernel_rfl) rfl wParseParens.plain (by kernel_rfl)
#print axioms parseParens_card
end Go.Proofs.YtcfpfnoldgnloaaGreatDoor
