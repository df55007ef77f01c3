/-
  expr, climb: an expression whose operators bind at least so strongly. Conditions: the parser lies in memory; the contracts of tight and, for shorter lists, of climb.
-/
import Derived.Test.YtcfpfnoldgnloaaGreatDoorYTight
set_option linter.unusedVariables false
set_option linter.unusedSimpArgs false
namespace Go.Proofs.YtcfpfnoldgnloaaGreatDoor
open Go.RowKit
set_option maxRecDepth 100000
set_option maxHeartbeats 4000000

theorem expr_of (f : Nat) (hC : ClimbC f) : ExprC f := by
  intro l w p tb hl h
  have HPW := Lib.hid h.lt
  have HNE : Hid (w.heap.size ≠ p) := by show _ ≠ _; have := h.lt; omega
  have hb0 : Below w.heap.size w (w.alloc (.cells #[.int .i64 0, .int .i64 0, .int .i64 0, .string ⟨#[]⟩, .slice none 0 0] 27)) := (Below.refl _ _).alloc (Nat.le_refl _) _
  have HF0 : Hid (SFr p w (w.alloc (.cells #[.int .i64 0, .int .i64 0, .int .i64 0, .string ⟨#[]⟩, .slice none 0 0] 27))) := SFr.of_below hb0
  have HR0 := Lib.hid (OwnAt.new w [.int .i64 0, .int .i64 0, .int .i64 0, .string ⟨#[]⟩, .slice none 0 0] 27)
  have HP0 := Lib.hid (h.old hb0)
  clear hb0
  obtain ⟨R, hR⟩ : ∃ R, climbP f 1 l = R := ⟨_, rfl⟩
  rw [hR]
  have HRR := Lib.hid hR
  clear hR
  have HC : Hid (∀ w1, Ps w1 p tb l → _) := fun w1 h1 => hC 1 l w1 p tb hl h1
  clear hl hC
  clear h
  go_enter Tryz.func27, Tryz.ntmps27
  go_wp2_with fail
  refine (HC.out _ HP0.out).mono ?_
  intro e w1 he
  cases hA : climbP f 1 l with
  | error n =>
    rw [hA] at he
    obtain ⟨hf, rfl⟩ := he
    have HF := Lib.hid (HF0.out.trans hf)
    have e1 : climbP f 1 l = .error n := hA
    have e2 := HRR.out.symm.trans e1
    subst e2
    clear e1 hf
    unfold lineV
    go_wp2_with fail
    exact ⟨rfl, HF.out, rfl⟩
  | ok q =>
    obtain ⟨x, r2⟩ := q
    rw [hA] at he
    obtain ⟨hf, v, rfl, hp, hv⟩ := he
    obtain ⟨s3, rfl, hx, hn⟩ := hv
    obtain ⟨a1, a2, rfl⟩ := hx.shape
    have HX1 := Lib.hid (hx.up (show w.heap.size + 1 ≤ _ from HR0.out.lt))
    have HN := Lib.hid hn
    clear hx hn
    have HF1 := Lib.hid (HF0.out.trans hf)
    have HP1 := Lib.hid hp
    have HR1 := Lib.hid (HR0.out.sfr hf HNE.out)
    clear hf hp
    have HA1 := Lib.hid hA
    clear hA
    obtain ⟨⟨x0, x1, x2, x3, x4⟩, xf0, xf1, xf2, xf3, xf4⟩ := cells5 HR1.out
    have xlt := HR1.out.lt
    go_wp2_with fail
    have e1 : climbP f 1 l = .ok (x, r2) := HA1.out
    have e2 := HRR.out.symm.trans e1
    subst e2
    obtain ⟨⟨d0, d1, d2, d3, d4⟩, _⟩ := cells5 (own5 HR1.out (.int .i64 x.kind) (.int .i64 x.op) (.int .i64 x.n) (.string (strOf x.name)) (.slice a1 x.args.length a2))
    exact bodyPost_ret (v := .agg #[.int .i64 x.kind, .int .i64 x.op, .int .i64 x.n, .string (strOf x.name), .slice a1 x.args.length a2]) (by simp [results, Tryz.results27, go_sem, d0, d1, d2, d3, d4]) rfl (ex_end (x := x) HPW.out HF1.out HP1.out HX1.out HN.out _ _ _ _ _)
/-- How many tokens are left. -/
def leftLen (p : Nat) (w : World) : Nat := match w.cell? ⟨p, 0, none⟩ with
  | some (.slice _ n _) => n
  | _ => 0
theorem Ps.len {w : World} {p tb : Nat} {l : List Tk} (h : Ps w p tb l) : leftLen p w = l.length := by
  obtain ⟨o, cap, h⟩ := h
  have := h.own.at 0 _ rfl
  unfold leftLen; rw [this]
theorem bin_not5 {lv : Int} {t : Tk} {r : List Tk} (h : binaryP lv (t :: r) ≠ 0) : t.kind ≠ 5 := by
  intro h5
  apply h
  rw [bin_next]
  refine yfind_none _ (fun j hj => ?_)
  have : isP (signOf ((j : Int) + 1)) t = false := by unfold isP; rw [h5]; rfl
  show (isP (signOf ((j : Int) + 1)) t && _) = false
  rw [this]; rfl
theorem ylevel_range (op : Int) : 0 ≤ levelOf op ∧ levelOf op ≤ 8 := by
  unfold levelOf
  repeat' split
  all_goals omega
/-- What climb holds at the beginning of a round. -/
structure ClimbI (w : World) (p tb be : Nat) (lv : Int) (f : Nat) (R : PR Ex) (g : Nat) (x : Ex) (s : Value) (l : List Tk) (wr : World) : Prop where
  sfr : SFr p w wr
  ps : Ps wr p tb l
  own : OwnAt wr w.heap.size [.int .i64 0, .int .i64 0, .int .i64 0, .string ⟨#[]⟩, .slice none 0 0] 27
  e : OwnAt wr be [.int .i64 x.kind, .int .i64 x.op, .int .i64 x.n, .string (strOf x.name), s] 27
  tree : ExsAt (fun b => w.heap.size + 1 ≤ b ∧ b ≠ be) wr x.args s
  n : I64 x.n
  fuel : 4 * l.length + 5 ≤ g
  le : g ≤ f
  res : loopP g lv x l = R
theorem ClimbI.old {w : World} {p tb be : Nat} {lv : Int} {f : Nat} {R : PR Ex} {g : Nat} {x : Ex} {s : Value} {l : List Tk} {wr w' : World} (h : ClimbI w p tb be lv f R g x s l wr) (hb : Below wr.heap.size wr w') : ClimbI w p tb be lv f R g x s l w' :=
  ⟨h.sfr.trans (SFr.of_below hb), h.ps.old hb, h.own.old hb, h.e.old hb, h.tree.old hb, h.n, h.fuel, h.le, h.res⟩
theorem set5_ne (w : World) (b : Nat) (c0 c1 c2 c3 c4 : Value) {k : Nat} (h : k ≠ b) : (((((w.setCell ⟨b, 0, none⟩ c0).setCell ⟨b, 1, none⟩ c1).setCell ⟨b, 2, none⟩ c2).setCell ⟨b, 3, none⟩ c3).setCell ⟨b, 4, none⟩ c4).heap[k]? = w.heap[k]? := by
  rw [Below.heap_setCell _ _ _ _ (show k ≠ b from h), Below.heap_setCell _ _ _ _ (show k ≠ b from h), Below.heap_setCell _ _ _ _ (show k ≠ b from h), Below.heap_setCell _ _ _ _ (show k ≠ b from h), Below.heap_setCell _ _ _ _ (show k ≠ b from h)]
/-- Behind a round. -/
theorem climb_next {w : World} {p tb be : Nat} {lv : Int} {f : Nat} {R : PR Ex} {g : Nat} {x y : Ex} {s u : Value} {op : Int} {l : List Tk} {W : World} (hpw : p < w.heap.size) (hbe : w.heap.size < be) (hF : SFr p w W) (hP : Ps W p tb l)
    (hO : OwnAt W w.heap.size [.int .i64 0, .int .i64 0, .int .i64 0, .string ⟨#[]⟩, .slice none 0 0] 27) (hE : OwnAt W be [.int .i64 x.kind, .int .i64 x.op, .int .i64 x.n, .string (strOf x.name), s] 27)
    (hX : ExsAt (fun b => w.heap.size + 1 ≤ b ∧ b ≠ be) W x.args s) (hn : I64 x.n) (hY : ExsAt (fun b => w.heap.size + 1 ≤ b ∧ b ≠ be) W y.args u) (hm : I64 y.n) (hfu : 4 * l.length + 5 ≤ g) (hle : g ≤ f) (hres : loopP g lv (.mk 4 op 0 [] [x, y]) l = R) :
    ClimbI w p tb be lv f R g (.mk 4 op 0 [] [x, y]) (.slice (some ⟨W.heap.size, 0, none⟩) 2 2) l ((((((W.setCell ⟨be, 0, none⟩ (.int .i64 4)).setCell ⟨be, 1, none⟩ (.int .i64 op)).setCell ⟨be, 2, none⟩ (.int .i64 0)).setCell ⟨be, 3, none⟩ (.string ⟨#[]⟩)).setCell ⟨be, 4, none⟩ (.slice (some ⟨W.heap.size, 0, none⟩) 2 2)).alloc
      (.cells #[.int .i64 x.kind, .int .i64 x.op, .int .i64 x.n, .string (strOf x.name), s, .int .i64 y.kind, .int .i64 y.op, .int .i64 y.n, .string (strOf y.name), u] 27)) := by
  have hbw := hE.lt
  have k1 := hX.keep (keeps5 W (show ¬ (w.heap.size + 1 ≤ be ∧ be ≠ be) from fun h => h.2 rfl) (.int .i64 4) (.int .i64 op) (.int .i64 0) (.string ⟨#[]⟩) (.slice (some ⟨W.heap.size, 0, none⟩) 2 2))
  have k2 := hY.keep (keeps5 W (show ¬ (w.heap.size + 1 ≤ be ∧ be ≠ be) from fun h => h.2 rfl) (.int .i64 4) (.int .i64 op) (.int .i64 0) (.string ⟨#[]⟩) (.slice (some ⟨W.heap.size, 0, none⟩) 2 2))
  have hs := set5_size W be (.int .i64 4) (.int .i64 op) (.int .i64 0) (.string ⟨#[]⟩) (.slice (some ⟨W.heap.size, 0, none⟩) 2 2)
  refine ⟨(sfr5 hF (by omega) _ _ _ _ _).trans (SFr.of_below ((Below.refl _ _).alloc (Nat.le_refl _) _)), (ps5 hP (by omega) _ _ _ _ _).alloc _, ?_, (own5 hE _ _ _ _ _).alloc _, ?_, yi64_0, hfu, hle, hres⟩
  · refine OwnAt.alloc ?_ _
    exact (set5_ne W be _ _ _ _ _ (by omega)).trans hO
  · have := ExsAt.two (D := fun b => w.heap.size + 1 ≤ b ∧ b ≠ be) x y s u (b := W.heap.size) ⟨by omega, by omega⟩ (by
      have := RowAt.new (((((W.setCell ⟨be, 0, none⟩ (.int .i64 4)).setCell ⟨be, 1, none⟩ (.int .i64 op)).setCell ⟨be, 2, none⟩ (.int .i64 0)).setCell ⟨be, 3, none⟩ (.string ⟨#[]⟩)).setCell ⟨be, 4, none⟩ (.slice (some ⟨W.heap.size, 0, none⟩) 2 2)) (exCells x s ++ exCells y u) 27
      rw [hs] at this; exact this) (k1.old ((Below.refl _ _).alloc (Nat.le_refl _) _)) hn (k2.old ((Below.refl _ _).alloc (Nat.le_refl _) _)) hm
    exact this
theorem climb_step (f : Nat) (hT : TightC f) (ih : ∀ g, g ≤ f → ClimbC g) : ClimbC (f + 1) := by
  intro lv l w p tb hl h
  have HPW := Lib.hid h.lt
  have HNE : Hid (w.heap.size ≠ p) := by show _ ≠ _; have := h.lt; omega
  have hb0 : Below w.heap.size w (w.alloc (.cells #[.int .i64 0, .int .i64 0, .int .i64 0, .string ⟨#[]⟩, .slice none 0 0] 27)) := (Below.refl _ _).alloc (Nat.le_refl _) _
  have HF0 : Hid (SFr p w (w.alloc (.cells #[.int .i64 0, .int .i64 0, .int .i64 0, .string ⟨#[]⟩, .slice none 0 0] 27))) := SFr.of_below hb0
  have HR0 := Lib.hid (OwnAt.new w [.int .i64 0, .int .i64 0, .int .i64 0, .string ⟨#[]⟩, .slice none 0 0] 27)
  have HP0 := Lib.hid (h.old hb0)
  clear hb0
  obtain ⟨R, hR⟩ : ∃ R, climbP (f + 1) lv l = R := ⟨_, rfl⟩
  rw [hR]
  have HRR := Lib.hid hR
  clear hR
  have HC : Hid (∀ w1, Ps w1 p tb l → _) := fun w1 h1 => hT l w1 p tb (by omega) h1
  have IH := Lib.hid ih
  have HL := Lib.hid hl
  clear hl hT ih
  clear h
  go_enter Tryz.func60, Tryz.ntmps60
  go_wp2_with fail
  refine (HC.out _ HP0.out).mono ?_
  intro e w1 he
  cases hA : tightP f l with
  | error n =>
    rw [hA] at he
    obtain ⟨hf, rfl⟩ := he
    have HF := Lib.hid (HF0.out.trans hf)
    have e1 : climbP (f + 1) lv l = .error n := by rw [climbP, hA]
    have e2 := HRR.out.symm.trans e1
    subst e2
    clear e1 hf
    unfold lineV
    go_wp2_with fail
    exact ⟨rfl, HF.out, rfl⟩
  | ok q =>
    obtain ⟨x, r2⟩ := q
    rw [hA] at he
    obtain ⟨hf, v, rfl, hp, hv⟩ := he
    obtain ⟨s3, rfl, hx, hn⟩ := hv
    obtain ⟨a1, a2, rfl⟩ := hx.shape
    have HX1 := Lib.hid (hx.up (show w.heap.size + 1 ≤ _ from HR0.out.lt))
    have HN := Lib.hid hn
    clear hx hn
    have HF1 := Lib.hid (HF0.out.trans hf)
    have HP1 := Lib.hid hp
    have HR1 := Lib.hid (HR0.out.sfr hf HNE.out)
    clear hf hp
    have HA1 := Lib.hid hA
    clear hA
    have HXS1 := Lib.hid HX1.out.strong
    go_upto_region 2 with (fail)
    obtain ⟨W, hW⟩ : ∃ W, w1.alloc (.cells #[.int .i64 x.kind, .int .i64 x.op, .int .i64 x.n, .string (strOf x.name), .slice a1 x.args.length a2] 27) = W := ⟨_, rfl⟩
    rw [hW]
    have hba : Below w1.heap.size w1 W := hW ▸ (Below.refl _ _).alloc (Nat.le_refl _) _
    have HF2 := Lib.hid (HF1.out.trans (SFr.of_below hba))
    have HP2 := Lib.hid (HP1.out.old hba)
    have HR2 := Lib.hid (HR1.out.old hba)
    have HX2 := Lib.hid (HX1.out.old hba)
    have HXS2 := Lib.hid (HXS1.out.old hba)
    have HE2 := Lib.hid (hW ▸ OwnAt.new w1 [.int .i64 x.kind, .int .i64 x.op, .int .i64 x.n, .string (strOf x.name), .slice a1 x.args.length a2] 27)
    have HEP : Hid (w1.heap.size ≠ p) := by show _ ≠ _; have := HP1.out.lt; omega
    clear hba hW
    obtain ⟨w2, hWW⟩ : ∃ w2, w2 = W := ⟨_, rfl⟩
    subst hWW
    have HB : Hid (∀ l1 w1, Ps w1 p tb l1 → _) := fun l1 w1 h1 => psBinary_any p tb l1 lv w1 h1
    go_wp2_with fail
    refine (HB.out _ _ HP2.out).mono ?_
    rintro e w3 ⟨rfl, hb⟩
    have HF3 := Lib.hid (HF2.out.trans (SFr.of_below hb))
    have HP3 := Lib.hid (HP2.out.old hb)
    have HR3 := Lib.hid (HR2.out.old hb)
    have HE3 := Lib.hid (HE2.out.old hb)
    have HX3 := Lib.hid (HX2.out.old hb)
    have HXS3 := Lib.hid (HXS2.out.old hb)
    clear hb
    have hfu : 4 * r2.length + 5 ≤ f := by
      have h1 := (parse_less f).2.2.1 _ _ _ HA1.out
      have h2 := HL.out
      omega
    have hres : loopP f lv x r2 = R := by
      have := HRR.out
      rw [climbP, HA1.out] at this
      exact this
    have hbe : w.heap.size < w1.heap.size := HR1.out.lt
    have hx0 : ExsAt (fun b => w.heap.size + 1 ≤ b ∧ b ≠ w1.heap.size) w3 x.args (.slice a1 x.args.length a2) := HXS3.out.mono (fun b hb => ⟨hb.1, by have := hb.2; omega⟩)
    have HI0 : Hid (ClimbI w p tb w1.heap.size lv f R f x (.slice a1 x.args.length a2) r2 w3) := ⟨HF3.out, HP3.out, HR3.out, HE3.out, hx0, HN.out, hfu, Nat.le_refl _, hres⟩
    have HBE := Lib.hid hbe
    have hp3 := HP3.out
    clear hfu hres hx0 hbe HX1 HX2 HX3 HXS1 HXS2 HXS3 HF1 HF2 HF3 HF0 HP0 HP1 HP2 HP3 HR0 HR1 HR2 HR3 HE2 HE3 HA1 HL HRR HC HN
    obtain ⟨be, hbe⟩ : ∃ be, w1.heap.size = be := ⟨_, rfl⟩
    rw [hbe] at HI0 HBE HEP ⊢
    clear hbe
    go_wp2_with fail
    go_loopw [6] (fun s6 wr => ∃ (g : Nat) (x : Ex) (s : Value) (l : List Tk), s6 = .int .i64 (binaryP lv l) ∧ Hid (ClimbI w p tb be lv f R g x s l wr)) (fun _ wr => leftLen p wr)
    case atStart => exact ⟨f, x, _, r2, rfl, HI0⟩
    case round =>
      obtain ⟨g, y, s, l2, rfl, HI⟩ := hrel
      clear HI0 hp3
      obtain ⟨op, hop⟩ : ∃ op, binaryP lv l2 = op := ⟨_, rfl⟩
      rw [hop]
      obtain ⟨sa, sc, rfl⟩ := HI.out.tree.shape
      obtain ⟨⟨e0, e1, e2, e3, e4⟩, ef0, ef1, ef2, ef3, ef4⟩ := cells5 HI.out.e
      have elt := HI.out.e.lt
      by_cases h0 : op = 0
      · subst h0
        have hR : Except.ok (y, l2) = R := by
          have h1 := HI.out.res
          have hg := HI.out.fuel
          obtain ⟨g', rfl⟩ : ∃ g', g = g' + 1 := ⟨g - 1, by omega⟩
          rw [loopP, if_pos hop] at h1
          exact h1
        subst hR
        obtain ⟨⟨x0, x1, x2, x3, x4⟩, xf0, xf1, xf2, xf3, xf4⟩ := cells5 HI.out.own
        have xlt := HI.out.own.lt
        clear hop
        go_wp2_with fail
        obtain ⟨⟨d0, d1, d2, d3, d4⟩, _⟩ := cells5 (own5 HI.out.own (.int .i64 y.kind) (.int .i64 y.op) (.int .i64 y.n) (.string (strOf y.name)) (.slice sa y.args.length sc))
        exact bodyPost_ret (v := .agg #[.int .i64 y.kind, .int .i64 y.op, .int .i64 y.n, .string (strOf y.name), .slice sa y.args.length sc]) (by simp [results, Tryz.results60, go_sem, d0, d1, d2, d3, d4]) rfl (ex_end (x := y) HPW.out HI.out.sfr HI.out.ps (HI.out.tree.mono (fun b hb => hb.1)) HI.out.n _ _ _ _ _)
      · obtain ⟨t, r, rfl⟩ := HI.out.ps.ends.ne
        have hk5 : t.kind ≠ 5 := bin_not5 (by rw [hop]; exact h0)
        have n0 : (op != 0) = true := by simp [h0]
        have n1 : (op == 0) = false := by simp [h0]
        have hlr := ylevel_range op
        have hw1 : IntKind.i64.wrap (levelOf op + 1) = levelOf op + 1 := IntWalk.i64_in _ (by omega)
        obtain ⟨g', hg'⟩ : ∃ g', g = g' + 1 := ⟨g - 1, by have := HI.out.fuel; omega⟩
        subst hg'
        have HRES : Hid ((match climbP g' (levelOf op + 1) r with | .error e => .error e | .ok (z, q) => loopP g' lv (.mk 4 op 0 [] [y, z]) q) = R) := by
          have h1 := HI.out.res
          rw [loopP, if_neg (by rw [hop]; exact h0), hop, List.drop_one, List.tail_cons] at h1
          exact h1
        have HCL : Hid (∀ w1, Ps w1 p tb r → _) := fun w1 h1 => IH.out g' (by have := HI.out.le; omega) (levelOf op + 1) r w1 p tb (by have := HI.out.fuel; rw [List.length_cons] at this; omega) h1
        have HLV : Hid (∀ w1, _) := fun w1 => level_any op w1
        obtain ⟨o, cap, h1⟩ := HI.out.ps
        have HT := Lib.hid (h1.take hk5)
        have c0 := h1.own.at 0 _ rfl
        have z0 := h1.own.fz 0
        have hpl := h1.own.lt
        have hcap := h1.hcap
        have hfit := h1.fit
        obtain ⟨n, hn⟩ : ∃ n, r.length = n := ⟨_, rfl⟩
        rw [List.length_cons, hn] at c0 hcap
        rw [hn] at HT
        have hr0 : 0 < n := by
          obtain ⟨u, q, rfl⟩ := (h1.ends.tail hk5).ne
          rw [← hn]; simp
        have i1 : (1 : Int) ≤ (n : Int) + 1 := by omega
        have i2 : ((n : Int) + 1) ≤ (cap : Int) := by omega
        have i3 : ¬ (cap : Int) - 1 = 0 := by omega
        have i4 : ¬ cap - 1 = 0 := by omega
        have HOP := Lib.hid hop
        clear h1 hop hk5
        clear e0 e1 e2 e3 e4 ef0 ef1 ef2 ef3 ef4
        go_upto_region 6 with (fail)
        obtain ⟨V, hV⟩ : ∃ V, wr.setCell ⟨p, 0, none⟩ (.slice (some ⟨tb, o + 4, none⟩) n (cap - 1)) = V := ⟨_, rfl⟩
        rw [hV] at HT ⊢
        have HEV := Lib.hid (HI.out.e.sfr HT.out.2 HEP.out)
        have HOV := Lib.hid (HI.out.own.sfr HT.out.2 HNE.out)
        have HXV := Lib.hid (HI.out.tree.keep (HT.out.2.keepsD (fun b hb => by have := HPW.out; have := hb.1; omega)))
        have HFV := Lib.hid (HI.out.sfr.trans HT.out.2)
        have HPV := Lib.hid HT.out.1
        clear c0 z0 hpl hcap hfit hr0 i1 i2 i3 i4 hV HT
        go_wp2_with fail
        refine (HLV.out _).mono ?_
        rintro e w4 ⟨rfl, hb⟩
        have HE4 := Lib.hid (HEV.out.old hb)
        have HO4 := Lib.hid (HOV.out.old hb)
        have HX4 := Lib.hid (HXV.out.old hb)
        have HF4 := Lib.hid (HFV.out.trans (SFr.of_below hb))
        have HP4 := Lib.hid (HPV.out.old hb)
        clear hb HEV HOV HXV HFV HPV
        go_wp2_with fail
        refine (HCL.out _ HP4.out).mono ?_
        intro e w5 he
        cases hA : climbP g' (levelOf op + 1) r with
        | error n =>
          rw [hA] at he
          obtain ⟨hf, rfl⟩ := he
          have HF := Lib.hid (HF4.out.trans hf)
          have e2 := HRES.out
          rw [hA] at e2
          dsimp only at e2
          subst e2
          clear hf
          unfold lineV
          go_wp2_with fail
          exact ⟨rfl, HF.out, rfl⟩
        | ok q =>
          obtain ⟨z, r3⟩ := q
          rw [hA] at he
          obtain ⟨hf, v, rfl, hp, hv⟩ := he
          obtain ⟨s5, rfl, hx, hn5⟩ := hv
          obtain ⟨b1, b2, rfl⟩ := hx.shape
          have HF5 := Lib.hid (HF4.out.trans hf)
          have HP5 := Lib.hid hp
          have HE5 := Lib.hid (HE4.out.sfr hf HEP.out)
          have HO5 := Lib.hid (HO4.out.sfr hf HNE.out)
          have HX5 := Lib.hid (HX4.out.keep (hf.keepsD (fun b hb => by have := HPW.out; have := hb.1; omega)))
          have HY5 := Lib.hid (hx.mono (D' := fun b => w.heap.size + 1 ≤ b ∧ b ≠ be) (fun b hb => by have h1 : w4.heap.size ≤ b := hb; have h2 := HE4.out.lt; have h3 := HBE.out; exact ⟨by omega, by omega⟩))
          have HN5 := Lib.hid hn5
          have e2 := HRES.out
          rw [hA] at e2
          dsimp only at e2
          have HR5 := Lib.hid e2
          have hfu : 4 * r3.length + 5 ≤ g' := by
            have h1 := (parse_less g').1 _ _ _ _ hA
            have h2 := HI.out.fuel
            rw [List.length_cons] at h2
            omega
          have hle : g' ≤ f := by have := HI.out.le; omega
          have HFU := Lib.hid hfu
          have HLE := Lib.hid hle
          have hlen : r3.length < r.length := (parse_less g').1 _ _ _ _ hA
          have HLEN := Lib.hid hlen
          clear hf hp hx hn5 e2 hfu hle hlen
          go_upto_region 7 with (fail)
          have hba : Below w5.heap.size w5 (w5.alloc (.cells #[.int .i64 z.kind, .int .i64 z.op, .int .i64 z.n, .string (strOf z.name), .slice b1 z.args.length b2] 27)) := (Below.refl _ _).alloc (Nat.le_refl _) _
          have HE6 := Lib.hid (HE5.out.old hba)
          have HO6 := Lib.hid (HO5.out.old hba)
          have HX6 := Lib.hid (HX5.out.old hba)
          have HY6 := Lib.hid (HY5.out.old hba)
          have HF6 := Lib.hid (HF5.out.trans (SFr.of_below hba))
          have HP6 := Lib.hid (HP5.out.old hba)
          have HG6 := Lib.hid (OwnAt.new w5 [.int .i64 z.kind, .int .i64 z.op, .int .i64 z.n, .string (strOf z.name), .slice b1 z.args.length b2] 27)
          clear hba
          generalize w5.alloc (.cells #[.int .i64 z.kind, .int .i64 z.op, .int .i64 z.n, .string (strOf z.name), .slice b1 z.args.length b2] 27) = W at *
          obtain ⟨⟨e0, e1, e2, e3, e4⟩, ef0, ef1, ef2, ef3, ef4⟩ := cells5 HE6.out
          obtain ⟨⟨g0, g1, g2, g3, g4⟩, _⟩ := cells5 HG6.out
          have elt := HE6.out.lt
          have HI7 := Lib.hid (climb_next (u := .slice b1 z.args.length b2) HPW.out HBE.out HF6.out HP6.out HO6.out HE6.out HX6.out HI.out.n HY6.out HN5.out HFU.out HLE.out HR5.out)
          go_upto_region 4 with (fail)
          generalize (((((W.setCell ⟨be, 0, none⟩ (.int .i64 4)).setCell ⟨be, 1, none⟩ (.int .i64 op)).setCell ⟨be, 2, none⟩ (.int .i64 0)).setCell ⟨be, 3, none⟩ (.string ⟨#[]⟩)).setCell ⟨be, 4, none⟩ (.slice (some ⟨W.heap.size, 0, none⟩) 2 2)).alloc (.cells #[.int .i64 y.kind, .int .i64 y.op, .int .i64 y.n, .string (strOf y.name), .slice sa y.args.length sc, .int .i64 z.kind, .int .i64 z.op, .int .i64 z.n, .string (strOf z.name), .slice b1 z.args.length b2] 27) = W7 at *
          go_wp2_with fail
          refine (HB.out _ _ HI7.out.ps).mono ?_
          rintro e w8 ⟨rfl, hb⟩
          have HI8 := Lib.hid (HI7.out.old hb)
          clear hb
          go_wp2_with fail
          go_roundw
          case rel => exact ⟨g', .mk 4 op 0 [] [y, z], _, r3, rfl, HI8⟩
          case measure =>
            rw [HI8.out.ps.len, HI.out.ps.len, List.length_cons]
            have := HLEN.out
            omega
end Go.Proofs.YtcfpfnoldgnloaaGreatDoor
