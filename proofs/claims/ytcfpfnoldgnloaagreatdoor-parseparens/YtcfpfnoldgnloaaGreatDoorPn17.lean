/-
  whole: something of a text, up to its end. Conditions: Scan's tokens are known.
  The library's searches by a function, at this program's types: what they answer. Conditions: the elements' cells are known; the function answers a bool and changes nothing that is there.
  Which expressions and programs may be: what tree's functions answer of trees in memory. No condition beside the trees' cells.
-/
import Derived.Test.YtcfpfnoldgnloaaGreatDoorPn16
import Derived.Test.YtcfpfnoldgnloaaGreatDoorPn00
import Derived.Test.YtcfpfnoldgnloaaGreatDoorPn02
import Derived.Test.YtcfpfnoldgnloaaGreatDoorPn04
set_option linter.unusedVariables false
set_option linter.unusedSimpArgs false
namespace Go.Proofs.YtcfpfnoldgnloaaGreatDoor
open Go.RowKit
set_option maxRecDepth 100000
set_option maxHeartbeats 4000000

theorem tokRow_of {w : World} {base g cap : Nat} {T : List Tk} (h : TksOwn w base T (.slice (some ⟨g, 0, none⟩) T.length cap)) : ∀ (l pre : List Tk), T = pre ++ l → TokRow w g (pre.length * 4) l
  | [], pre, e => trivial
  | t :: l, pre, e => by
    have ht : T[pre.length]? = some t := by rw [e]; simp
    have hlt : pre.length < T.length := by rw [e]; simp
    have cell : ∀ q u, q < 4 → (tkCells t)[q]? = some u → w.cell? ⟨g, pre.length * 4 + q, none⟩ = some u := by
      intro q u hq hu
      have h1 := h.cellAt (pre.length * 4 + q) (by omega)
      rw [flatY_at tkCells 4 (fun _ => rfl) T pre.length q t ht hq, hu] at h1
      exact h1
    have ih := tokRow_of h l (pre ++ [t]) (by rw [e]; simp)
    rw [List.length_append, List.length_singleton, Nat.succ_mul] at ih
    exact ⟨cell 0 _ (by decide) rfl, cell 1 _ (by decide) rfl, cell 2 _ (by decide) rfl, cell 3 _ (by decide) rfl, ih⟩
theorem toks_row {w : World} {base : Nat} {T : List Tk} {v : Value} (h : TksOwn w base T v) (h0 : 0 < T.length) : ∃ g cap, v = .slice (some ⟨g, 0, none⟩) T.length cap ∧ TokRow w g 0 T ∧ T.length ≤ cap ∧ g < w.heap.size ∧ base ≤ g := by
  have hlt := World.ownsRow.lt h
  rcases h.2 with ⟨_, hz⟩ | ⟨g, cap, cur, rfl, hb, hg, hc, r⟩
  · omega
  · have := tokRow_of h T [] rfl
    exact ⟨g, cap, rfl, by simpa using this, hc, (hlt g rfl).2, hb⟩
theorem Ps.under {w : World} {p tb : Nat} {l : List Tk} (h : Ps w p tb l) {k : Nat} (hk : k < tb) (i : Nat) (v : Value) : Ps (w.setCell ⟨k, i, none⟩ v) p tb l := by
  obtain ⟨o, cap, h⟩ := h
  exact ⟨o, cap, ⟨h.own.other (by have := h.lt; omega) i v, h.row.keep (keeps_set w (by show ¬ k = tb; omega) i v), h.hcap, h.fit, h.lt, h.ends, h.nums⟩⟩
theorem ArsAt.ymono {D D' : Nat → Prop} {w : World} (hD : ∀ b, D b → D' b) {l : List Ar} {v : Value} (h : ArsAt D w l v) : ArsAt D' w l v := by
  obtain ⟨a, cap, b, off, hv, h1, h2, h3, h4⟩ := h
  exact ⟨a, cap, b, off, hv, h1, h2, h3.imp id fun h => ⟨h.1, hD _ h.2⟩, h4⟩
theorem FusAt.ymono {D D' : Nat → Prop} {w : World} (hD : ∀ b, D b → D' b) {l : List Fu} {v : Value} (h : FusAt D w l v) : FusAt D' w l v := by
  obtain ⟨a, cap, b, off, pv, lv, bv, hv, h1, h2, h3, h4⟩ := h
  exact ⟨a, cap, b, off, pv, lv, bv, hv, h1, h2, h3.imp id fun h => ⟨h.1, hD _ h.2⟩, fun i hi => ⟨(h4 i hi).1, (h4 i hi).2.1.mono hD, (h4 i hi).2.2.1.mono hD, (h4 i hi).2.2.2.mono hD⟩⟩
theorem ArsAt.yshape {D : Nat → Prop} {w : World} {l : List Ar} {v : Value} (h : ArsAt D w l v) : ∃ a cap, v = .slice a l.length cap := by
  obtain ⟨a, cap, b, off, hv, _⟩ := h; exact ⟨a, cap, hv⟩
theorem FusAt.yshape {D : Nat → Prop} {w : World} {l : List Fu} {v : Value} (h : FusAt D w l v) : ∃ a cap, v = .slice a l.length cap := by
  obtain ⟨a, cap, b, off, pv, lv, bv, hv, _⟩ := h; exact ⟨a, cap, hv⟩
theorem keeps2 {D : Nat → Prop} (w : World) {b : Nat} (hb : ¬ D b) (c0 c1 : Value) : Keeps D w ((w.setCell ⟨b, 0, none⟩ c0).setCell ⟨b, 1, none⟩ c1) :=
  (keeps_set w hb 0 c0).trans (keeps_set _ hb 1 c1)
def outE : PR Ex → Ex × Int × Int
  | .error n => (exZ, 40, n)
  | .ok (_, []) => (exZ, 40, 0)
  | .ok (x, t :: _) => if t.kind = 5 then (x, 0, 0) else (exZ, 40, t.line)
def WhE (w : World) (r : Ex × Int × Int) (e : Ending) (w' : World) : Prop := Below w.heap.size w w' ∧ ∃ v, e = .returned (.tuple #[v, .int .i64 r.2.1, .int .i64 r.2.2]) ∧ ExH w.heap.size r.1 v w'
theorem wholeE_ok (z : Bs) (T : List Tk) (hE : EndsTk T) (hN : ∀ t, t ∈ T → I64 t.num) (hL : T.length ≤ 1000000) (f : Nat) (hf : 4 * T.length + 4 ≤ f) (w : World) (HSC : Hid (∀ w1, Below w.heap.size w w1 → Calls Tryz.prog 20 #[.string (strOf z)] w1 fun e w' => Below w1.heap.size w1 w' ∧ ∃ v, e = .returned (.tuple #[v, .int .i64 0, .int .i64 0]) ∧ TksOwn w' w1.heap.size T v)) :
    Calls Tryz.prog 26 #[.string (strOf z), .func (.func 27) #[] #[]] w (WhE w (outE (climbP f 1 T))) := by
  have hmf : ∀ (fn : Fn) (first cap : Array Value) (w : World), (Instr.makeFunc fn first cap).run Tryz.prog w = .ok (.func fn first cap) w := fun _ _ _ _ => rfl
  obtain ⟨W, hW⟩ : ∃ W, (((w.alloc (.cells #[.int .i64 0, .int .i64 0, .int .i64 0, .string ⟨#[]⟩, .slice none 0 0] 27)).alloc (.cells #[.int .i64 0] 28)).alloc (.cells #[.int .i64 0] 3)) = W := ⟨_, rfl⟩
  have hb0 : Below w.heap.size w W := hW ▸ (((Below.refl _ _).alloc (Nat.le_refl _) _).alloc (by simp) _).alloc (by simp; omega) _
  have hws : W.heap.size = w.heap.size + 3 := by rw [← hW]; simp
  have h0 : OwnAt W w.heap.size [.int .i64 0, .int .i64 0, .int .i64 0, .string ⟨#[]⟩, .slice none 0 0] 27 := hW ▸ ((OwnAt.new w [.int .i64 0, .int .i64 0, .int .i64 0, .string ⟨#[]⟩, .slice none 0 0] 27).alloc _).alloc _
  have h1 : OwnAt W (w.heap.size + 1) [.int .i64 0] 28 := by
    have := (OwnAt.new (w.alloc (.cells #[.int .i64 0, .int .i64 0, .int .i64 0, .string ⟨#[]⟩, .slice none 0 0] 27)) [.int .i64 0] 28).alloc (.cells #[.int .i64 0] 3)
    rw [show (w.alloc (.cells #[.int .i64 0, .int .i64 0, .int .i64 0, .string ⟨#[]⟩, .slice none 0 0] 27)).heap.size = w.heap.size + 1 by simp] at this
    exact hW ▸ this
  have h2 : OwnAt W (w.heap.size + 2) [.int .i64 0] 3 := by
    have := OwnAt.new ((w.alloc (.cells #[.int .i64 0, .int .i64 0, .int .i64 0, .string ⟨#[]⟩, .slice none 0 0] 27)).alloc (.cells #[.int .i64 0] 28)) [.int .i64 0] 3
    rw [show ((w.alloc (.cells #[.int .i64 0, .int .i64 0, .int .i64 0, .string ⟨#[]⟩, .slice none 0 0] 27)).alloc (.cells #[.int .i64 0] 28)).heap.size = w.heap.size + 2 by simp] at this
    exact hW ▸ this
  have HS := Lib.hid (HSC.out W hb0)
  have HB0 := Lib.hid hb0
  have H0 := Lib.hid h0; have H1 := Lib.hid h1; have H2 := Lib.hid h2
  have HWS := Lib.hid hws
  have HW := Lib.hid hW
  obtain ⟨R, hR⟩ : ∃ R, climbP f 1 T = R := ⟨_, rfl⟩
  rw [hR]
  have HR := Lib.hid hR
  clear hb0 hws h0 h1 h2 hW hR
  go_enter_defers Tryz.func26, Tryz.ntmps26
  go_upto_region 1 with (fail)
  rw [HW.out]
  rw [show w.heap.size + 1 + 1 = w.heap.size + 2 from rfl]
  clear HW
  go_wp2_with fail
  refine HS.out.mono ?_
  rintro e w1 ⟨hb, v, rfl, ht⟩
  have hbw := HB0.out.trans (hb.mono HB0.out.size)
  have HB1 := Lib.hid hbw
  have k1 := H1.out.old hb
  have k2 := H2.out.old hb
  have HA0 := Lib.hid (H0.out.old hb)
  have HA1 := Lib.hid k1
  have HA2 := Lib.hid k2
  have HTK := Lib.hid ht
  have x10 := k1.at 0 _ rfl
  have x1f := k1.fz 0
  have x20 := k2.at 0 _ rfl
  have x2f := k2.fz 0
  have xl1 := k1.lt
  have xl2 := k2.lt
  clear hb hbw ht k1 k2
  go_upto_region 2 with (fail)
  rw [setCell_self x10, setCell_self x20]
  clear x1f x2f xl1 xl2 x20
  obtain ⟨g, cap, hv, hrow⟩ := toks_row HTK.out (by obtain ⟨t, r, rfl⟩ := hE.ne; simp)
  have HG : Hid (w.heap.size + 3 ≤ g) := (HWS.out ▸ hrow.2.2.2 : w.heap.size + 3 ≤ g)
  subst hv
  have HROW := Lib.hid hrow
  clear hrow
  go_upto_region 6 with (fail)
  have hba : Below w1.heap.size w1 (w1.alloc (.cells #[.slice (some ⟨g, 0, none⟩) T.length cap] 113)) := (Below.refl _ _).alloc (Nat.le_refl _) _
  have hps : Ps (w1.alloc (.cells #[.slice (some ⟨g, 0, none⟩) T.length cap] 113)) w1.heap.size g T := ⟨0, cap, OwnAt.new w1 [.slice (some ⟨g, 0, none⟩) T.length cap] 113, HROW.out.1.keep (keeps_below hba), HROW.out.2.1, hL, HROW.out.2.2.1, hE, hN⟩
  have HPS := Lib.hid hps
  have HBB := Lib.hid (HB1.out.alloc HB1.out.size (.cells #[.slice (some ⟨g, 0, none⟩) T.length cap] 113))
  have HC0 := Lib.hid (HA0.out.old hba)
  have HC1 := Lib.hid (HA1.out.old hba)
  have HC2 := Lib.hid (HA2.out.old hba)
  have hlt2 := HA2.out.lt
  have HLT : Hid (w.heap.size + 2 < w1.heap.size) := hlt2
  have HP1 : Hid (w1.heap.size < (w1.alloc (.cells #[.slice (some ⟨g, 0, none⟩) T.length cap] 113)).heap.size) := hps.lt
  clear hba hps hlt2 x10 HROW
  obtain ⟨pb, hpb⟩ : ∃ pb, w1.heap.size = pb := ⟨_, rfl⟩
  rw [hpb] at HPS HLT HP1 ⊢
  generalize w1.alloc (.cells #[.slice (some ⟨g, 0, none⟩) T.length cap] 113) = w4 at *
  clear hpb
  have HCALL := Lib.hid ((yex_all f).2.1 T w4 pb g (by omega) HPS.out)
  rw [HR.out] at HCALL
  go_wp2_with fail
  refine HCALL.out.mono ?_
  intro e w5 he
  cases R with
  | error n =>
    obtain ⟨hf, rfl⟩ := he
    have h0 := HC0.out.sfr hf (by have := HLT.out; omega)
    have h1 := HC1.out.sfr hf (by have := HLT.out; omega)
    have h2 := HC2.out.sfr hf (by have := HLT.out; omega)
    have hbf : Below w.heap.size w w5 := HBB.out.trans ((hf.below (Nat.le_of_lt HP1.out)).mono (by have := HLT.out; omega))
    have HX0 := Lib.hid h0; have HX1 := Lib.hid h1; have HX2 := Lib.hid h2; have HBF := Lib.hid hbf
    clear h0 h1 h2 hbf hf
    unfold lineV
    go_wp2_with fail
    refine leaves_cons (f := 57) (args := #[.pointer (some ⟨w.heap.size, 0, none⟩), .pointer (some ⟨w.heap.size + 1, 0, none⟩), .pointer (some ⟨w.heap.size + 2, 0, none⟩)]) (by simp) (by simp [go_sem]) ?_
    refine (catchE_panic w.heap.size (w.heap.size + 1) (w.heap.size + 2) n 0 0 (.int .i64 0) (.int .i64 0) (.int .i64 0) (.string ⟨#[]⟩) (.slice none 0 0) [] w.heap.size w5 HX0.out HX1.out HX2.out (by omega) (by omega) (Nat.le_refl _)).mono ?_
    rintro e u' w'' ⟨rfl, rfl, hb, g0, g1, g2⟩
    have hwb := HBF.out.trans (hb.mono (Nat.le_refl _))
    have d0 := g0.at 0 _ rfl; have f0 := g0.fz 0
    have d1 := g0.at 1 _ rfl; have f1 := g0.fz 1
    have d2 := g0.at 2 _ rfl; have f2 := g0.fz 2
    have d3 := g0.at 3 _ rfl; have f3 := g0.fz 3
    have d4 := g0.at 4 _ rfl; have f4 := g0.fz 4
    have e0 := g1.at 0 _ rfl; have e1 := g1.fz 0; have i0 := g2.at 0 _ rfl; have i1 := g2.fz 0
    show ∃ v, (results Tryz.f26 _).run Tryz.prog w'' = .ok v w'' ∧ _
    refine ⟨.tuple #[.agg #[.int .i64 0, .int .i64 0, .int .i64 0, .string ⟨#[]⟩, .slice none 0 0], .int .i64 40, .int .i64 n], by simp [results, Tryz.results26, go_sem, d0, d1, d2, d3, d4, e0, i0], hwb, _, rfl, ⟨_, rfl, ExsAt.zero, yi64_0⟩⟩
  | ok q =>
    obtain ⟨x, r⟩ := q
    obtain ⟨hf, v, rfl, hps, hv⟩ := he
    obtain ⟨s5, rfl, hx, hn5⟩ := hv
    obtain ⟨a1, a2, rfl⟩ := hx.shape
    have h0 := HC0.out.sfr hf (by have := HLT.out; omega)
    have h1 := HC1.out.sfr hf (by have := HLT.out; omega)
    have h2 := HC2.out.sfr hf (by have := HLT.out; omega)
    have hbf : Below w.heap.size w w5 := HBB.out.trans ((hf.below (Nat.le_of_lt HP1.out)).mono (by have := HLT.out; omega))
    have HX0 := Lib.hid h0; have HX1 := Lib.hid h1; have HX2 := Lib.hid h2; have HBF := Lib.hid hbf
    have hg := HG.out
    have hw5 : w.heap.size + 3 ≤ w5.heap.size := by have := h2.lt; omega
    have y0 := h0.at 0 _ rfl; have f0 := h0.fz 0
    have y1 := h0.at 1 _ rfl; have f1 := h0.fz 1
    have y2 := h0.at 2 _ rfl; have f2 := h0.fz 2
    have y3 := h0.at 3 _ rfl; have f3 := h0.fz 3
    have y4 := h0.at 4 _ rfl; have f4 := h0.fz 4
    obtain ⟨t, r', rfl⟩ := hps.ends.ne
    obtain ⟨W6, hW6⟩ : ∃ W6, (((((w5.setCell ⟨w.heap.size, 0, none⟩ (.int .i64 x.kind)).setCell ⟨w.heap.size, 1, none⟩ (.int .i64 x.op)).setCell ⟨w.heap.size, 2, none⟩ (.int .i64 x.n)).setCell ⟨w.heap.size, 3, none⟩ (.string (strOf x.name))).setCell ⟨w.heap.size, 4, none⟩ (.slice a1 x.args.length a2)) = W6 := ⟨_, rfl⟩
    have kk : Keeps (w.heap.size < ·) w5 W6 := hW6 ▸ (keeps5 w5 (by show ¬ w.heap.size < w.heap.size; omega) _ _ _ _ _)
    have HPS6 := Lib.hid (show Ps W6 pb g (t :: r') from hW6 ▸ (((((hps.under (by omega) _ _).under (by omega) _ _).under (by omega) _ _).under (by omega) _ _).under (by omega) _ _))
    have HO0 := Lib.hid (show OwnAt W6 w.heap.size [.int .i64 x.kind, .int .i64 x.op, .int .i64 x.n, .string (strOf x.name), .slice a1 x.args.length a2] 27 from hW6 ▸ (((((h0.set 0 (.int .i64 x.kind)).set 1 (.int .i64 x.op)).set 2 (.int .i64 x.n)).set 3 (.string (strOf x.name))).set 4 (.slice a1 x.args.length a2)))
    have HO1 := Lib.hid (show OwnAt W6 (w.heap.size + 1) [.int .i64 0] 28 from hW6 ▸ (((((h1.other (by omega) _ _).other (by omega) _ _).other (by omega) _ _).other (by omega) _ _).other (by omega) _ _))
    have HO2 := Lib.hid (show OwnAt W6 (w.heap.size + 2) [.int .i64 0] 3 from hW6 ▸ (((((h2.other (by omega) _ _).other (by omega) _ _).other (by omega) _ _).other (by omega) _ _).other (by omega) _ _))
    have HB6 := Lib.hid (show Below w.heap.size w W6 from hW6 ▸ (((((hbf.setCell (p := ⟨w.heap.size, 0, none⟩) (Nat.le_refl _) (.int .i64 x.kind)).setCell (p := ⟨w.heap.size, 1, none⟩) (Nat.le_refl _) (.int .i64 x.op)).setCell (p := ⟨w.heap.size, 2, none⟩) (Nat.le_refl _) (.int .i64 x.n)).setCell (p := ⟨w.heap.size, 3, none⟩) (Nat.le_refl _) (.string (strOf x.name))).setCell (p := ⟨w.heap.size, 4, none⟩) (Nat.le_refl _) (.slice a1 x.args.length a2)))
    have HKK := Lib.hid kk
    have HW6 := Lib.hid hW6
    have HV := Lib.hid (show ExsAt (w4.heap.size ≤ ·) w5 x.args _ ∧ I64 x.n from ⟨hx, hn5⟩)
    clear h0 h1 h2 hps hbf kk hW6 hg hx hn5
    go_upto_region 7 with (fail)
    rw [HW6.out]
    have HN := Lib.hid (psNext_any pb g t r' W6 HPS6.out)
    clear y0 f0 y1 f1 y2 f2 y3 f3 y4 f4 HW6
    go_wp2_with fail
    refine HN.out.mono ?_
    rintro e w7 ⟨rfl, hb7⟩
    unfold tkV
    have HQ0 := Lib.hid (HO0.out.old hb7)
    have HQ1 := Lib.hid (HO1.out.old hb7)
    have HQ2 := Lib.hid (HO2.out.old hb7)
    have HPS7 := Lib.hid (HPS6.out.old hb7)
    have HB7 := Lib.hid (HB6.out.trans (hb7.mono HB6.out.size))
    have HK7 := Lib.hid (HKK.out.trans (keeps_below hb7))
    clear hb7
    by_cases hk : t.kind = 5
    · rw [hk]
      have z0 := HQ0.out.at 0 _ rfl; have g0 := HQ0.out.fz 0
      have z1 := HQ0.out.at 1 _ rfl; have g1 := HQ0.out.fz 1
      have z2 := HQ0.out.at 2 _ rfl; have g2 := HQ0.out.fz 2
      have z3 := HQ0.out.at 3 _ rfl; have g3 := HQ0.out.fz 3
      have z4 := HQ0.out.at 4 _ rfl; have g4 := HQ0.out.fz 4
      have u1 := HQ1.out.at 0 _ rfl; have v1 := HQ1.out.fz 0; have u2 := HQ2.out.at 0 _ rfl; have v2 := HQ2.out.fz 0
      clear hmf
      go_wp2_with fail
      rw [setCell_self z0, setCell_self z1, setCell_self z2, setCell_self z3, setCell_self z4, setCell_self u1, setCell_self u2]
      refine leaves_cons (f := 57) (args := #[.pointer (some ⟨w.heap.size, 0, none⟩), .pointer (some ⟨w.heap.size + 1, 0, none⟩), .pointer (some ⟨w.heap.size + 2, 0, none⟩)]) (by simp) (by simp [go_sem]) ?_
      refine (catchE_idle w.heap.size (w.heap.size + 1) (w.heap.size + 2) w7).mono ?_
      rintro e u' w'' ⟨rfl, rfl, hb⟩
      clear z0 g0 z1 g1 z2 g2 z3 g3 z4 g4 u1 v1 u2 v2
      have hwb := HB7.out.trans (hb.mono HB7.out.size)
      have g0 := HQ0.out.old hb; have g1 := HQ1.out.old hb; have g2 := HQ2.out.old hb
      have d0 := g0.at 0 _ rfl; have f0 := g0.fz 0
      have d1 := g0.at 1 _ rfl; have f1 := g0.fz 1
      have d2 := g0.at 2 _ rfl; have f2 := g0.fz 2
      have d3 := g0.at 3 _ rfl; have f3 := g0.fz 3
      have d4 := g0.at 4 _ rfl; have f4 := g0.fz 4
      have e0 := g1.at 0 _ rfl; have e1 := g1.fz 0; have i0 := g2.at 0 _ rfl; have i1 := g2.fz 0
      show ∃ v, (results Tryz.f26 _).run Tryz.prog w'' = .ok v w'' ∧ _
      refine ⟨.tuple #[.agg #[.int .i64 x.kind, .int .i64 x.op, .int .i64 x.n, .string (strOf x.name), .slice a1 x.args.length a2], .int .i64 0, .int .i64 0], by simp [results, Tryz.results26, go_sem, d0, d1, d2, d3, d4, e0, i0], ?_⟩
      rw [outE, if_pos hk]
      exact ⟨hwb, _, rfl, ⟨_, rfl, (HV.out.1.keep (keeps_mono HK7.out (fun b hb => by have := HC2.out.lt; show w.heap.size < b; have : w4.heap.size ≤ b := hb; omega)) |>.keep (keeps_below hb)).mono (fun b hb => by have := HC2.out.lt; have : w4.heap.size ≤ b := hb; show w.heap.size ≤ b; omega), HV.out.2⟩⟩
    · have HFL := Lib.hid (psFail_any pb g t r' w7 HPS7.out)
      go_wp2_with fail
      refine HFL.out.mono ?_
      rintro e w8 ⟨rfl, hb8⟩
      have h0 := HQ0.out.old hb8; have h1 := HQ1.out.old hb8; have h2 := HQ2.out.old hb8
      have HX0 := Lib.hid h0; have HX1 := Lib.hid h1; have HX2 := Lib.hid h2; have HBF := Lib.hid (HB7.out.trans (hb8.mono HB7.out.size))
      clear h0 h1 h2 hb8
      unfold lineV
      go_wp2_with fail
      refine leaves_cons (f := 57) (args := #[.pointer (some ⟨w.heap.size, 0, none⟩), .pointer (some ⟨w.heap.size + 1, 0, none⟩), .pointer (some ⟨w.heap.size + 2, 0, none⟩)]) (by simp) (by simp [go_sem]) ?_
      refine (catchE_panic w.heap.size (w.heap.size + 1) (w.heap.size + 2) t.line 0 0 (.int .i64 x.kind) (.int .i64 x.op) (.int .i64 x.n) (.string (strOf x.name)) (.slice a1 x.args.length a2) [] w.heap.size w8 HX0.out HX1.out HX2.out (by omega) (by omega) (Nat.le_refl _)).mono ?_
      rintro e u' w'' ⟨rfl, rfl, hb, g0, g1, g2⟩
      have hwb := HBF.out.trans (hb.mono (Nat.le_refl _))
      have d0 := g0.at 0 _ rfl; have f0 := g0.fz 0
      have d1 := g0.at 1 _ rfl; have f1 := g0.fz 1
      have d2 := g0.at 2 _ rfl; have f2 := g0.fz 2
      have d3 := g0.at 3 _ rfl; have f3 := g0.fz 3
      have d4 := g0.at 4 _ rfl; have f4 := g0.fz 4
      have e0 := g1.at 0 _ rfl; have e1 := g1.fz 0; have i0 := g2.at 0 _ rfl; have i1 := g2.fz 0
      show ∃ v, (results Tryz.f26 _).run Tryz.prog w'' = .ok v w'' ∧ _
      refine ⟨.tuple #[.agg #[.int .i64 0, .int .i64 0, .int .i64 0, .string ⟨#[]⟩, .slice none 0 0], .int .i64 40, .int .i64 t.line], by simp [results, Tryz.results26, go_sem, d0, d1, d2, d3, d4, e0, i0], ?_⟩
      rw [outE, if_neg hk]
      exact ⟨hwb, _, rfl, ⟨_, rfl, ExsAt.zero, yi64_0⟩⟩
def outP : PR Pr → Pr × Int × Int
  | .error n => ((⟨[], []⟩ : Pr), 40, n)
  | .ok (_, []) => ((⟨[], []⟩ : Pr), 40, 0)
  | .ok (x, t :: _) => if t.kind = 5 then (x, 0, 0) else ((⟨[], []⟩ : Pr), 40, t.line)
def WhP (w : World) (r : Pr × Int × Int) (e : Ending) (w' : World) : Prop := Below w.heap.size w w' ∧ ∃ v, e = .returned (.tuple #[v, .int .i64 r.2.1, .int .i64 r.2.2]) ∧ PrH w.heap.size r.1 v w'
theorem wholeP_ok (z : Bs) (T : List Tk) (hE : EndsTk T) (hN : ∀ t, t ∈ T → I64 t.num) (hL : T.length ≤ 1000000) (f : Nat) (hf : 4 * T.length + 4 ≤ f) (w : World) (HSC : Hid (∀ w1, Below w.heap.size w w1 → Calls Tryz.prog 20 #[.string (strOf z)] w1 fun e w' => Below w1.heap.size w1 w' ∧ ∃ v, e = .returned (.tuple #[v, .int .i64 0, .int .i64 0]) ∧ TksOwn w' w1.heap.size T v)) :
    Calls Tryz.prog 29 #[.string (strOf z), .func (.func 30) #[] #[]] w (WhP w (outP (progP f ⟨[], []⟩ T))) := by
  have hmf : ∀ (fn : Fn) (first cap : Array Value) (w : World), (Instr.makeFunc fn first cap).run Tryz.prog w = .ok (.func fn first cap) w := fun _ _ _ _ => rfl
  obtain ⟨W, hW⟩ : ∃ W, (((w.alloc (.cells #[.slice none 0 0, .slice none 0 0] 34)).alloc (.cells #[.int .i64 0] 28)).alloc (.cells #[.int .i64 0] 3)) = W := ⟨_, rfl⟩
  have hb0 : Below w.heap.size w W := hW ▸ (((Below.refl _ _).alloc (Nat.le_refl _) _).alloc (by simp) _).alloc (by simp; omega) _
  have hws : W.heap.size = w.heap.size + 3 := by rw [← hW]; simp
  have h0 : OwnAt W w.heap.size [.slice none 0 0, .slice none 0 0] 34 := hW ▸ ((OwnAt.new w [.slice none 0 0, .slice none 0 0] 34).alloc _).alloc _
  have h1 : OwnAt W (w.heap.size + 1) [.int .i64 0] 28 := by
    have := (OwnAt.new (w.alloc (.cells #[.slice none 0 0, .slice none 0 0] 34)) [.int .i64 0] 28).alloc (.cells #[.int .i64 0] 3)
    rw [show (w.alloc (.cells #[.slice none 0 0, .slice none 0 0] 34)).heap.size = w.heap.size + 1 by simp] at this
    exact hW ▸ this
  have h2 : OwnAt W (w.heap.size + 2) [.int .i64 0] 3 := by
    have := OwnAt.new ((w.alloc (.cells #[.slice none 0 0, .slice none 0 0] 34)).alloc (.cells #[.int .i64 0] 28)) [.int .i64 0] 3
    rw [show ((w.alloc (.cells #[.slice none 0 0, .slice none 0 0] 34)).alloc (.cells #[.int .i64 0] 28)).heap.size = w.heap.size + 2 by simp] at this
    exact hW ▸ this
  have HS := Lib.hid (HSC.out W hb0)
  have HB0 := Lib.hid hb0
  have H0 := Lib.hid h0; have H1 := Lib.hid h1; have H2 := Lib.hid h2
  have HWS := Lib.hid hws
  have HW := Lib.hid hW
  obtain ⟨R, hR⟩ : ∃ R, progP f ⟨[], []⟩ T = R := ⟨_, rfl⟩
  rw [hR]
  have HR := Lib.hid hR
  clear hb0 hws h0 h1 h2 hW hR
  go_enter_defers Tryz.func29, Tryz.ntmps29
  go_upto_region 1 with (fail)
  rw [HW.out]
  rw [show w.heap.size + 1 + 1 = w.heap.size + 2 from rfl]
  clear HW
  go_wp2_with fail
  refine HS.out.mono ?_
  rintro e w1 ⟨hb, v, rfl, ht⟩
  have hbw := HB0.out.trans (hb.mono HB0.out.size)
  have HB1 := Lib.hid hbw
  have k1 := H1.out.old hb
  have k2 := H2.out.old hb
  have HA0 := Lib.hid (H0.out.old hb)
  have HA1 := Lib.hid k1
  have HA2 := Lib.hid k2
  have HTK := Lib.hid ht
  have x10 := k1.at 0 _ rfl
  have x1f := k1.fz 0
  have x20 := k2.at 0 _ rfl
  have x2f := k2.fz 0
  have xl1 := k1.lt
  have xl2 := k2.lt
  clear hb hbw ht k1 k2
  go_upto_region 2 with (fail)
  rw [setCell_self x10, setCell_self x20]
  clear x1f x2f xl1 xl2 x20
  obtain ⟨g, cap, hv, hrow⟩ := toks_row HTK.out (by obtain ⟨t, r, rfl⟩ := hE.ne; simp)
  have HG : Hid (w.heap.size + 3 ≤ g) := (HWS.out ▸ hrow.2.2.2 : w.heap.size + 3 ≤ g)
  subst hv
  have HROW := Lib.hid hrow
  clear hrow
  go_upto_region 6 with (fail)
  have hba : Below w1.heap.size w1 (w1.alloc (.cells #[.slice (some ⟨g, 0, none⟩) T.length cap] 113)) := (Below.refl _ _).alloc (Nat.le_refl _) _
  have hps : Ps (w1.alloc (.cells #[.slice (some ⟨g, 0, none⟩) T.length cap] 113)) w1.heap.size g T := ⟨0, cap, OwnAt.new w1 [.slice (some ⟨g, 0, none⟩) T.length cap] 113, HROW.out.1.keep (keeps_below hba), HROW.out.2.1, hL, HROW.out.2.2.1, hE, hN⟩
  have HPS := Lib.hid hps
  have HBB := Lib.hid (HB1.out.alloc HB1.out.size (.cells #[.slice (some ⟨g, 0, none⟩) T.length cap] 113))
  have HC0 := Lib.hid (HA0.out.old hba)
  have HC1 := Lib.hid (HA1.out.old hba)
  have HC2 := Lib.hid (HA2.out.old hba)
  have hlt2 := HA2.out.lt
  have HLT : Hid (w.heap.size + 2 < w1.heap.size) := hlt2
  have HP1 : Hid (w1.heap.size < (w1.alloc (.cells #[.slice (some ⟨g, 0, none⟩) T.length cap] 113)).heap.size) := hps.lt
  clear hba hps hlt2 x10 HROW
  obtain ⟨pb, hpb⟩ : ∃ pb, w1.heap.size = pb := ⟨_, rfl⟩
  rw [hpb] at HPS HLT HP1 ⊢
  generalize w1.alloc (.cells #[.slice (some ⟨g, 0, none⟩) T.length cap] 113) = w4 at *
  clear hpb
  have HCALL := Lib.hid (yprog_any f T w4 pb g (by omega) HPS.out)
  rw [HR.out] at HCALL
  go_wp2_with fail
  refine HCALL.out.mono ?_
  intro e w5 he
  cases R with
  | error n =>
    obtain ⟨hf, rfl⟩ := he
    have h0 := HC0.out.sfr hf (by have := HLT.out; omega)
    have h1 := HC1.out.sfr hf (by have := HLT.out; omega)
    have h2 := HC2.out.sfr hf (by have := HLT.out; omega)
    have hbf : Below w.heap.size w w5 := HBB.out.trans ((hf.below (Nat.le_of_lt HP1.out)).mono (by have := HLT.out; omega))
    have HX0 := Lib.hid h0; have HX1 := Lib.hid h1; have HX2 := Lib.hid h2; have HBF := Lib.hid hbf
    clear h0 h1 h2 hbf hf
    unfold lineV
    go_wp2_with fail
    refine leaves_cons (f := 63) (args := #[.pointer (some ⟨w.heap.size, 0, none⟩), .pointer (some ⟨w.heap.size + 1, 0, none⟩), .pointer (some ⟨w.heap.size + 2, 0, none⟩)]) (by simp) (by simp [go_sem]) ?_
    refine (catchP_panic w.heap.size (w.heap.size + 1) (w.heap.size + 2) n 0 0 (.slice none 0 0) (.slice none 0 0) [] w.heap.size w5 HX0.out HX1.out HX2.out (by omega) (by omega) (Nat.le_refl _)).mono ?_
    rintro e u' w'' ⟨rfl, rfl, hb, g0, g1, g2⟩
    have hwb := HBF.out.trans (hb.mono (Nat.le_refl _))
    have d0 := g0.at 0 _ rfl; have f0 := g0.fz 0
    have d1 := g0.at 1 _ rfl; have f1 := g0.fz 1
    have e0 := g1.at 0 _ rfl; have e1 := g1.fz 0; have i0 := g2.at 0 _ rfl; have i1 := g2.fz 0
    show ∃ v, (results Tryz.f29 _).run Tryz.prog w'' = .ok v w'' ∧ _
    refine ⟨.tuple #[.agg #[.slice none 0 0, .slice none 0 0], .int .i64 40, .int .i64 n], by simp [results, Tryz.results29, go_sem, d0, d1, e0, i0], hwb, _, rfl, ⟨_, _, rfl, ArsAt.zero, FusAt.zero⟩⟩
  | ok q =>
    obtain ⟨x, r⟩ := q
    obtain ⟨hf, v, rfl, hps, hv⟩ := he
    obtain ⟨av, fv, rfl, hxa, hxf⟩ := hv
    obtain ⟨a1, a2, rfl⟩ := hxa.yshape
    obtain ⟨c1, c2, rfl⟩ := hxf.yshape
    have h0 := HC0.out.sfr hf (by have := HLT.out; omega)
    have h1 := HC1.out.sfr hf (by have := HLT.out; omega)
    have h2 := HC2.out.sfr hf (by have := HLT.out; omega)
    have hbf : Below w.heap.size w w5 := HBB.out.trans ((hf.below (Nat.le_of_lt HP1.out)).mono (by have := HLT.out; omega))
    have HX0 := Lib.hid h0; have HX1 := Lib.hid h1; have HX2 := Lib.hid h2; have HBF := Lib.hid hbf
    have hg := HG.out
    have hw5 : w.heap.size + 3 ≤ w5.heap.size := by have := h2.lt; omega
    have y0 := h0.at 0 _ rfl; have f0 := h0.fz 0
    have y1 := h0.at 1 _ rfl; have f1 := h0.fz 1
    obtain ⟨t, r', rfl⟩ := hps.ends.ne
    obtain ⟨W6, hW6⟩ : ∃ W6, ((w5.setCell ⟨w.heap.size, 0, none⟩ (.slice a1 x.arrays.length a2)).setCell ⟨w.heap.size, 1, none⟩ (.slice c1 x.funcs.length c2)) = W6 := ⟨_, rfl⟩
    have kk : Keeps (w.heap.size < ·) w5 W6 := hW6 ▸ (keeps2 w5 (by show ¬ w.heap.size < w.heap.size; omega) _ _)
    have HPS6 := Lib.hid (show Ps W6 pb g (t :: r') from hW6 ▸ ((hps.under (by omega) _ _).under (by omega) _ _))
    have HO0 := Lib.hid (show OwnAt W6 w.heap.size [.slice a1 x.arrays.length a2, .slice c1 x.funcs.length c2] 34 from hW6 ▸ ((h0.set 0 (.slice a1 x.arrays.length a2)).set 1 (.slice c1 x.funcs.length c2)))
    have HO1 := Lib.hid (show OwnAt W6 (w.heap.size + 1) [.int .i64 0] 28 from hW6 ▸ ((h1.other (by omega) _ _).other (by omega) _ _))
    have HO2 := Lib.hid (show OwnAt W6 (w.heap.size + 2) [.int .i64 0] 3 from hW6 ▸ ((h2.other (by omega) _ _).other (by omega) _ _))
    have HB6 := Lib.hid (show Below w.heap.size w W6 from hW6 ▸ ((hbf.setCell (p := ⟨w.heap.size, 0, none⟩) (Nat.le_refl _) (.slice a1 x.arrays.length a2)).setCell (p := ⟨w.heap.size, 1, none⟩) (Nat.le_refl _) (.slice c1 x.funcs.length c2)))
    have HKK := Lib.hid kk
    have HW6 := Lib.hid hW6
    have HV := Lib.hid (show ArsAt (w4.heap.size ≤ ·) w5 x.arrays _ ∧ FusAt (w4.heap.size ≤ ·) w5 x.funcs _ from ⟨hxa, hxf⟩)
    clear h0 h1 h2 hps hbf kk hW6 hg hxa hxf
    go_upto_region 7 with (fail)
    rw [HW6.out]
    have HN := Lib.hid (psNext_any pb g t r' W6 HPS6.out)
    clear y0 f0 y1 f1 HW6
    go_wp2_with fail
    refine HN.out.mono ?_
    rintro e w7 ⟨rfl, hb7⟩
    unfold tkV
    have HQ0 := Lib.hid (HO0.out.old hb7)
    have HQ1 := Lib.hid (HO1.out.old hb7)
    have HQ2 := Lib.hid (HO2.out.old hb7)
    have HPS7 := Lib.hid (HPS6.out.old hb7)
    have HB7 := Lib.hid (HB6.out.trans (hb7.mono HB6.out.size))
    have HK7 := Lib.hid (HKK.out.trans (keeps_below hb7))
    clear hb7
    by_cases hk : t.kind = 5
    · rw [hk]
      have z0 := HQ0.out.at 0 _ rfl; have g0 := HQ0.out.fz 0
      have z1 := HQ0.out.at 1 _ rfl; have g1 := HQ0.out.fz 1
      have u1 := HQ1.out.at 0 _ rfl; have v1 := HQ1.out.fz 0; have u2 := HQ2.out.at 0 _ rfl; have v2 := HQ2.out.fz 0
      clear hmf
      go_wp2_with fail
      rw [setCell_self z0, setCell_self z1, setCell_self u1, setCell_self u2]
      refine leaves_cons (f := 63) (args := #[.pointer (some ⟨w.heap.size, 0, none⟩), .pointer (some ⟨w.heap.size + 1, 0, none⟩), .pointer (some ⟨w.heap.size + 2, 0, none⟩)]) (by simp) (by simp [go_sem]) ?_
      refine (catchP_idle w.heap.size (w.heap.size + 1) (w.heap.size + 2) w7).mono ?_
      rintro e u' w'' ⟨rfl, rfl, hb⟩
      clear z0 g0 z1 g1 u1 v1 u2 v2
      have hwb := HB7.out.trans (hb.mono HB7.out.size)
      have g0 := HQ0.out.old hb; have g1 := HQ1.out.old hb; have g2 := HQ2.out.old hb
      have d0 := g0.at 0 _ rfl; have f0 := g0.fz 0
      have d1 := g0.at 1 _ rfl; have f1 := g0.fz 1
      have e0 := g1.at 0 _ rfl; have e1 := g1.fz 0; have i0 := g2.at 0 _ rfl; have i1 := g2.fz 0
      show ∃ v, (results Tryz.f29 _).run Tryz.prog w'' = .ok v w'' ∧ _
      refine ⟨.tuple #[.agg #[.slice a1 x.arrays.length a2, .slice c1 x.funcs.length c2], .int .i64 0, .int .i64 0], by simp [results, Tryz.results29, go_sem, d0, d1, e0, i0], ?_⟩
      rw [outP, if_pos hk]
      exact ⟨hwb, _, rfl, ⟨_, _, rfl, (HV.out.1.keep (keeps_mono HK7.out (fun b hb => by have := HC2.out.lt; show w.heap.size < b; have : w4.heap.size ≤ b := hb; omega)) |>.keep (keeps_below hb)).ymono (fun b hb => by have := HC2.out.lt; have : w4.heap.size ≤ b := hb; show w.heap.size ≤ b; omega), (HV.out.2.keep (keeps_mono HK7.out (fun b hb => by have := HC2.out.lt; show w.heap.size < b; have : w4.heap.size ≤ b := hb; omega)) |>.keep (keeps_below hb)).ymono (fun b hb => by have := HC2.out.lt; have : w4.heap.size ≤ b := hb; show w.heap.size ≤ b; omega)⟩⟩
    · have HFL := Lib.hid (psFail_any pb g t r' w7 HPS7.out)
      go_wp2_with fail
      refine HFL.out.mono ?_
      rintro e w8 ⟨rfl, hb8⟩
      have h0 := HQ0.out.old hb8; have h1 := HQ1.out.old hb8; have h2 := HQ2.out.old hb8
      have HX0 := Lib.hid h0; have HX1 := Lib.hid h1; have HX2 := Lib.hid h2; have HBF := Lib.hid (HB7.out.trans (hb8.mono HB7.out.size))
      clear h0 h1 h2 hb8
      unfold lineV
      go_wp2_with fail
      refine leaves_cons (f := 63) (args := #[.pointer (some ⟨w.heap.size, 0, none⟩), .pointer (some ⟨w.heap.size + 1, 0, none⟩), .pointer (some ⟨w.heap.size + 2, 0, none⟩)]) (by simp) (by simp [go_sem]) ?_
      refine (catchP_panic w.heap.size (w.heap.size + 1) (w.heap.size + 2) t.line 0 0 (.slice a1 x.arrays.length a2) (.slice c1 x.funcs.length c2) [] w.heap.size w8 HX0.out HX1.out HX2.out (by omega) (by omega) (Nat.le_refl _)).mono ?_
      rintro e u' w'' ⟨rfl, rfl, hb, g0, g1, g2⟩
      have hwb := HBF.out.trans (hb.mono (Nat.le_refl _))
      have d0 := g0.at 0 _ rfl; have f0 := g0.fz 0
      have d1 := g0.at 1 _ rfl; have f1 := g0.fz 1
      have e0 := g1.at 0 _ rfl; have e1 := g1.fz 0; have i0 := g2.at 0 _ rfl; have i1 := g2.fz 0
      show ∃ v, (results Tryz.f29 _).run Tryz.prog w'' = .ok v w'' ∧ _
      refine ⟨.tuple #[.agg #[.slice none 0 0, .slice none 0 0], .int .i64 40, .int .i64 t.line], by simp [results, Tryz.results29, go_sem, d0, d1, e0, i0], ?_⟩
      rw [outP, if_neg hk]
      exact ⟨hwb, _, rfl, ⟨_, _, rfl, ArsAt.zero, FusAt.zero⟩⟩
end Go.Proofs.YtcfpfnoldgnloaaGreatDoor

namespace Go.Proofs.YtcfpfnoldgnloaaGreatDoor
open Go.RowKit
set_option maxHeartbeats 400000
set_option maxRecDepth 20000

/-- slices.IndexFunc over a slice that is not nil. -/
theorem indexFuncE (b off n cap : Nat) (k : FuncId) (caps : Array Value) (hk : ∀ args w, (callFunc k args).run Tryz.prog w = .ok (.enter k args) w) (w : World) (c0 c1 c2 c3 c4 : Nat → Value) (p : Nat → Bool) (hn : n ≤ 140737488355328)
    (hc : ∀ i, i < n → w.cell? ⟨b, off + i * 5, none⟩ = some (c0 i) ∧ w.cell? ⟨b, off + i * 5 + 1, none⟩ = some (c1 i) ∧ w.cell? ⟨b, off + i * 5 + 2, none⟩ = some (c2 i) ∧ w.cell? ⟨b, off + i * 5 + 3, none⟩ = some (c3 i) ∧ w.cell? ⟨b, off + i * 5 + 4, none⟩ = some (c4 i))
    (hf : ∀ i, i < n → ∀ w1, Below w.heap.size w w1 → Calls Tryz.prog k (#[.agg #[c0 i, c1 i, c2 i, c3 i, c4 i]] ++ caps) w1 fun e w2 => e = .returned (.bool (p i)) ∧ Below w1.heap.size w1 w2) :
    Calls Tryz.prog 164 #[.slice (some ⟨b, off, none⟩) n cap, .func (.func k) #[] caps] w fun e w' => e = .returned (.int .i64 (firstN p n)) ∧ Below w.heap.size w w' := by
  have HF := Lib.hid hf; clear hf
  have HC := Lib.hid hc; clear hc
  have hn1 : n < 9223372036854775807 := by omega
  clear hn
  go_enter Tryz.func164, Tryz.ntmps164
  go_wp2_with fail
  go_loopw [5, 8] (fun _ i8 wr => ∃ j : Nat, j ≤ n ∧ i8 = .int .i64 j ∧ (∀ i, i < j → p i = false) ∧ Below w.heap.size w wr) (fun _ i8 _ => n - (intOf i8).toNat)
  case atStart => exact ⟨0, Nat.zero_le _, rfl, fun i hi => by omega, Below.refl _ _⟩
  case round =>
    obtain ⟨j, hj, rfl, hno, hb⟩ := hrel
    have HNO := Lib.hid hno; clear hno
    by_cases hlt : j < n
    · obtain ⟨g0, g1, g2, g3, g4⟩ := HC.out j hlt
      have k0 := below_keeps hb g0
      have k1 := below_keeps hb g1
      have k2 := below_keeps hb g2
      have k3 := below_keeps hb g3
      have k4 := below_keeps hb g4
      clear g0 g1 g2 g3 g4
      have call := HF.out j hlt wr hb
      have HB := Lib.hid hb; clear hb
      have HCALL := Lib.hid call; clear call
      go_wp2_with fail
      refine HCALL.out.mono ?_
      cases hp : p j
      · rintro e w2 ⟨rfl, hb2⟩
        have HP := Lib.hid hp; clear hp
        go_wp2_with fail
        go_roundw
        case rel => exact ⟨j + 1, by omega, by go_num, fun i hi => by rcases Nat.lt_succ_iff_lt_or_eq.1 hi with h | rfl; exact HNO.out i h; exact HP.out, HB.out.trans (hb2.mono HB.out.size)⟩
        case measure => simp [intOf]; omega
      · rintro e w2 ⟨rfl, hb2⟩
        have HP := Lib.hid hp; clear hp
        go_wp2_with fail
        go_ret
        exact ⟨ret_int (firstN_at p j HP.out HNO.out n hlt).symm, HB.out.trans (hb2.mono HB.out.size)⟩
    · have hje : n ≤ j := by omega
      have HB := Lib.hid hb; clear hb
      go_wp2_with fail
      go_ret
      exact ⟨ret_int (firstN_none p n (fun i hi => HNO.out i (by omega))).symm, HB.out⟩

/-- The same over an empty one. -/
theorem indexFuncE0 (a : Option Addr) (cap : Nat) (f : Value) (w : World) :
    Calls Tryz.prog 164 #[.slice a 0 cap, f] w fun e w' => e = .returned (.int .i64 (-1)) ∧ Below w.heap.size w w' := by
  go_enter Tryz.func164, Tryz.ntmps164
  go_wp2_with fail
  refine wp_loop_rounds 1 ?_
  rw [rounds_succ]
  go_wp2_with fail
  go_ret
  exact ⟨rfl, Below.refl _ _⟩

/-- slices.ContainsFunc: whether the function says yes to some element. -/
theorem containsFuncE (a : Option Addr) (n cap : Nat) (k : FuncId) (caps : Array Value) (hk : ∀ args w, (callFunc k args).run Tryz.prog w = .ok (.enter k args) w) (w : World) (c0 c1 c2 c3 c4 : Nat → Value) (p : Nat → Bool) (hn : n ≤ 140737488355328)
    (hc : n = 0 ∨ ∃ b off, a = some ⟨b, off, none⟩ ∧ ∀ i, i < n → w.cell? ⟨b, off + i * 5, none⟩ = some (c0 i) ∧ w.cell? ⟨b, off + i * 5 + 1, none⟩ = some (c1 i) ∧ w.cell? ⟨b, off + i * 5 + 2, none⟩ = some (c2 i) ∧ w.cell? ⟨b, off + i * 5 + 3, none⟩ = some (c3 i) ∧ w.cell? ⟨b, off + i * 5 + 4, none⟩ = some (c4 i))
    (hf : ∀ i, i < n → ∀ w1, Below w.heap.size w w1 → Calls Tryz.prog k (#[.agg #[c0 i, c1 i, c2 i, c3 i, c4 i]] ++ caps) w1 fun e w2 => e = .returned (.bool (p i)) ∧ Below w1.heap.size w1 w2) :
    Calls Tryz.prog 120 #[.slice a n cap, .func (.func k) #[] caps] w fun e w' => e = .returned (.bool (anyN p n)) ∧ Below w.heap.size w w' := by
  have H : Hid (Calls Tryz.prog 164 #[.slice a n cap, .func (.func k) #[] caps] w fun e w' => e = .returned (.int .i64 (firstN p n)) ∧ Below w.heap.size w w') := by
    rcases hc with rfl | ⟨b, off, rfl, hc⟩
    · exact indexFuncE0 _ _ _ _
    · exact indexFuncE b off n cap k caps hk w c0 c1 c2 c3 c4 p hn hc hf
  clear hc hf hk hn
  have E : Hid (decide (0 ≤ firstN p n) = anyN p n) := decide_firstN p n
  generalize firstN p n = r at H E
  generalize anyN p n = q at E
  go_enter Tryz.func120, Tryz.ntmps120
  go_wp2_with fail
  refine H.out.mono ?_
  rintro e w1 ⟨rfl, hb⟩
  go_wp2_with fail
  go_ret
  exact ⟨ret_bool E.out, hb⟩

/-- slices.IndexFunc over a slice that is not nil. -/
theorem indexFuncT (b off n cap : Nat) (k : FuncId) (caps : Array Value) (hk : ∀ args w, (callFunc k args).run Tryz.prog w = .ok (.enter k args) w) (w : World) (c0 c1 c2 c3 c4 : Nat → Value) (p : Nat → Bool) (hn : n ≤ 140737488355328)
    (hc : ∀ i, i < n → w.cell? ⟨b, off + i * 5, none⟩ = some (c0 i) ∧ w.cell? ⟨b, off + i * 5 + 1, none⟩ = some (c1 i) ∧ w.cell? ⟨b, off + i * 5 + 2, none⟩ = some (c2 i) ∧ w.cell? ⟨b, off + i * 5 + 3, none⟩ = some (c3 i) ∧ w.cell? ⟨b, off + i * 5 + 4, none⟩ = some (c4 i))
    (hf : ∀ i, i < n → ∀ w1, Below w.heap.size w w1 → Calls Tryz.prog k (#[.agg #[c0 i, c1 i, c2 i, c3 i, c4 i]] ++ caps) w1 fun e w2 => e = .returned (.bool (p i)) ∧ Below w1.heap.size w1 w2) :
    Calls Tryz.prog 159 #[.slice (some ⟨b, off, none⟩) n cap, .func (.func k) #[] caps] w fun e w' => e = .returned (.int .i64 (firstN p n)) ∧ Below w.heap.size w w' := by
  have HF := Lib.hid hf; clear hf
  have HC := Lib.hid hc; clear hc
  have hn1 : n < 9223372036854775807 := by omega
  clear hn
  go_enter Tryz.func159, Tryz.ntmps159
  go_wp2_with fail
  go_loopw [5, 8] (fun _ i8 wr => ∃ j : Nat, j ≤ n ∧ i8 = .int .i64 j ∧ (∀ i, i < j → p i = false) ∧ Below w.heap.size w wr) (fun _ i8 _ => n - (intOf i8).toNat)
  case atStart => exact ⟨0, Nat.zero_le _, rfl, fun i hi => by omega, Below.refl _ _⟩
  case round =>
    obtain ⟨j, hj, rfl, hno, hb⟩ := hrel
    have HNO := Lib.hid hno; clear hno
    by_cases hlt : j < n
    · obtain ⟨g0, g1, g2, g3, g4⟩ := HC.out j hlt
      have k0 := below_keeps hb g0
      have k1 := below_keeps hb g1
      have k2 := below_keeps hb g2
      have k3 := below_keeps hb g3
      have k4 := below_keeps hb g4
      clear g0 g1 g2 g3 g4
      have call := HF.out j hlt wr hb
      have HB := Lib.hid hb; clear hb
      have HCALL := Lib.hid call; clear call
      go_wp2_with fail
      refine HCALL.out.mono ?_
      cases hp : p j
      · rintro e w2 ⟨rfl, hb2⟩
        have HP := Lib.hid hp; clear hp
        go_wp2_with fail
        go_roundw
        case rel => exact ⟨j + 1, by omega, by go_num, fun i hi => by rcases Nat.lt_succ_iff_lt_or_eq.1 hi with h | rfl; exact HNO.out i h; exact HP.out, HB.out.trans (hb2.mono HB.out.size)⟩
        case measure => simp [intOf]; omega
      · rintro e w2 ⟨rfl, hb2⟩
        have HP := Lib.hid hp; clear hp
        go_wp2_with fail
        go_ret
        exact ⟨ret_int (firstN_at p j HP.out HNO.out n hlt).symm, HB.out.trans (hb2.mono HB.out.size)⟩
    · have hje : n ≤ j := by omega
      have HB := Lib.hid hb; clear hb
      go_wp2_with fail
      go_ret
      exact ⟨ret_int (firstN_none p n (fun i hi => HNO.out i (by omega))).symm, HB.out⟩

/-- The same over an empty one. -/
theorem indexFuncT0 (a : Option Addr) (cap : Nat) (f : Value) (w : World) :
    Calls Tryz.prog 159 #[.slice a 0 cap, f] w fun e w' => e = .returned (.int .i64 (-1)) ∧ Below w.heap.size w w' := by
  go_enter Tryz.func159, Tryz.ntmps159
  go_wp2_with fail
  refine wp_loop_rounds 1 ?_
  rw [rounds_succ]
  go_wp2_with fail
  go_ret
  exact ⟨rfl, Below.refl _ _⟩

/-- slices.ContainsFunc: whether the function says yes to some element. -/
theorem containsFuncT (a : Option Addr) (n cap : Nat) (k : FuncId) (caps : Array Value) (hk : ∀ args w, (callFunc k args).run Tryz.prog w = .ok (.enter k args) w) (w : World) (c0 c1 c2 c3 c4 : Nat → Value) (p : Nat → Bool) (hn : n ≤ 140737488355328)
    (hc : n = 0 ∨ ∃ b off, a = some ⟨b, off, none⟩ ∧ ∀ i, i < n → w.cell? ⟨b, off + i * 5, none⟩ = some (c0 i) ∧ w.cell? ⟨b, off + i * 5 + 1, none⟩ = some (c1 i) ∧ w.cell? ⟨b, off + i * 5 + 2, none⟩ = some (c2 i) ∧ w.cell? ⟨b, off + i * 5 + 3, none⟩ = some (c3 i) ∧ w.cell? ⟨b, off + i * 5 + 4, none⟩ = some (c4 i))
    (hf : ∀ i, i < n → ∀ w1, Below w.heap.size w w1 → Calls Tryz.prog k (#[.agg #[c0 i, c1 i, c2 i, c3 i, c4 i]] ++ caps) w1 fun e w2 => e = .returned (.bool (p i)) ∧ Below w1.heap.size w1 w2) :
    Calls Tryz.prog 113 #[.slice a n cap, .func (.func k) #[] caps] w fun e w' => e = .returned (.bool (anyN p n)) ∧ Below w.heap.size w w' := by
  have H : Hid (Calls Tryz.prog 159 #[.slice a n cap, .func (.func k) #[] caps] w fun e w' => e = .returned (.int .i64 (firstN p n)) ∧ Below w.heap.size w w') := by
    rcases hc with rfl | ⟨b, off, rfl, hc⟩
    · exact indexFuncT0 _ _ _ _
    · exact indexFuncT b off n cap k caps hk w c0 c1 c2 c3 c4 p hn hc hf
  clear hc hf hk hn
  have E : Hid (decide (0 ≤ firstN p n) = anyN p n) := decide_firstN p n
  generalize firstN p n = r at H E
  generalize anyN p n = q at E
  go_enter Tryz.func113, Tryz.ntmps113
  go_wp2_with fail
  refine H.out.mono ?_
  rintro e w1 ⟨rfl, hb⟩
  go_wp2_with fail
  go_ret
  exact ⟨ret_bool E.out, hb⟩

/-- slices.IndexFunc over a slice that is not nil. -/
theorem indexFuncS (b off n cap : Nat) (k : FuncId) (caps : Array Value) (hk : ∀ args w, (callFunc k args).run Tryz.prog w = .ok (.enter k args) w) (w : World) (c0 : Nat → Value) (p : Nat → Bool) (hn : n ≤ 140737488355328)
    (hc : ∀ i, i < n → w.cell? ⟨b, off + i, none⟩ = some (c0 i))
    (hf : ∀ i, i < n → ∀ w1, Below w.heap.size w w1 → Calls Tryz.prog k (#[c0 i] ++ caps) w1 fun e w2 => e = .returned (.bool (p i)) ∧ Below w1.heap.size w1 w2) :
    Calls Tryz.prog 158 #[.slice (some ⟨b, off, none⟩) n cap, .func (.func k) #[] caps] w fun e w' => e = .returned (.int .i64 (firstN p n)) ∧ Below w.heap.size w w' := by
  have HF := Lib.hid hf; clear hf
  have HC := Lib.hid hc; clear hc
  have hn1 : n < 9223372036854775807 := by omega
  clear hn
  go_enter Tryz.func158, Tryz.ntmps158
  go_wp2_with fail
  go_loopw [5, 8] (fun _ i8 wr => ∃ j : Nat, j ≤ n ∧ i8 = .int .i64 j ∧ (∀ i, i < j → p i = false) ∧ Below w.heap.size w wr) (fun _ i8 _ => n - (intOf i8).toNat)
  case atStart => exact ⟨0, Nat.zero_le _, rfl, fun i hi => by omega, Below.refl _ _⟩
  case round =>
    obtain ⟨j, hj, rfl, hno, hb⟩ := hrel
    have HNO := Lib.hid hno; clear hno
    by_cases hlt : j < n
    · have g0 := HC.out j hlt
      have k0 := below_keeps hb g0
      clear g0
      have call := HF.out j hlt wr hb
      have HB := Lib.hid hb; clear hb
      have HCALL := Lib.hid call; clear call
      go_wp2_with fail
      refine HCALL.out.mono ?_
      cases hp : p j
      · rintro e w2 ⟨rfl, hb2⟩
        have HP := Lib.hid hp; clear hp
        go_wp2_with fail
        go_roundw
        case rel => exact ⟨j + 1, by omega, by go_num, fun i hi => by rcases Nat.lt_succ_iff_lt_or_eq.1 hi with h | rfl; exact HNO.out i h; exact HP.out, HB.out.trans (hb2.mono HB.out.size)⟩
        case measure => simp [intOf]; omega
      · rintro e w2 ⟨rfl, hb2⟩
        have HP := Lib.hid hp; clear hp
        go_wp2_with fail
        go_ret
        exact ⟨ret_int (firstN_at p j HP.out HNO.out n hlt).symm, HB.out.trans (hb2.mono HB.out.size)⟩
    · have hje : n ≤ j := by omega
      have HB := Lib.hid hb; clear hb
      go_wp2_with fail
      go_ret
      exact ⟨ret_int (firstN_none p n (fun i hi => HNO.out i (by omega))).symm, HB.out⟩

/-- The same over an empty one. -/
theorem indexFuncS0 (a : Option Addr) (cap : Nat) (f : Value) (w : World) :
    Calls Tryz.prog 158 #[.slice a 0 cap, f] w fun e w' => e = .returned (.int .i64 (-1)) ∧ Below w.heap.size w w' := by
  go_enter Tryz.func158, Tryz.ntmps158
  go_wp2_with fail
  refine wp_loop_rounds 1 ?_
  rw [rounds_succ]
  go_wp2_with fail
  go_ret
  exact ⟨rfl, Below.refl _ _⟩

/-- slices.ContainsFunc: whether the function says yes to some element. -/
theorem containsFuncS (a : Option Addr) (n cap : Nat) (k : FuncId) (caps : Array Value) (hk : ∀ args w, (callFunc k args).run Tryz.prog w = .ok (.enter k args) w) (w : World) (c0 : Nat → Value) (p : Nat → Bool) (hn : n ≤ 140737488355328)
    (hc : n = 0 ∨ ∃ b off, a = some ⟨b, off, none⟩ ∧ ∀ i, i < n → w.cell? ⟨b, off + i, none⟩ = some (c0 i))
    (hf : ∀ i, i < n → ∀ w1, Below w.heap.size w w1 → Calls Tryz.prog k (#[c0 i] ++ caps) w1 fun e w2 => e = .returned (.bool (p i)) ∧ Below w1.heap.size w1 w2) :
    Calls Tryz.prog 110 #[.slice a n cap, .func (.func k) #[] caps] w fun e w' => e = .returned (.bool (anyN p n)) ∧ Below w.heap.size w w' := by
  have H : Hid (Calls Tryz.prog 158 #[.slice a n cap, .func (.func k) #[] caps] w fun e w' => e = .returned (.int .i64 (firstN p n)) ∧ Below w.heap.size w w') := by
    rcases hc with rfl | ⟨b, off, rfl, hc⟩
    · exact indexFuncS0 _ _ _ _
    · exact indexFuncS b off n cap k caps hk w c0 p hn hc hf
  clear hc hf hk hn
  have E : Hid (decide (0 ≤ firstN p n) = anyN p n) := decide_firstN p n
  generalize firstN p n = r at H E
  generalize anyN p n = q at E
  go_enter Tryz.func110, Tryz.ntmps110
  go_wp2_with fail
  refine H.out.mono ?_
  rintro e w1 ⟨rfl, hb⟩
  go_wp2_with fail
  go_ret
  exact ⟨ret_bool E.out, hb⟩
end Go.Proofs.YtcfpfnoldgnloaaGreatDoor

namespace Go.Proofs.YtcfpfnoldgnloaaGreatDoor
open Go.RowKit
set_option maxHeartbeats 400000
set_option maxRecDepth 20000

theorem exAt_mem {l : List Ex} {i : Nat} (h : i < l.length) : exAt l i ∈ l := by
  simp only [exAt, List.getD_eq_getElem?_getD, List.getElem?_eq_getElem h, Option.getD_some]; exact List.getElem_mem h
theorem exAt_get {l : List Ex} {i : Nat} (h : i < l.length) : exAt l i = l[i] := by
  simp [exAt, List.getElem?_eq_getElem h]
theorem stAt_mem {l : List St} {i : Nat} (h : i < l.length) : stAt l i ∈ l := by
  simp only [stAt, List.getD_eq_getElem?_getD, List.getElem?_eq_getElem h, Option.getD_some]; exact List.getElem_mem h
theorem stAt_get {l : List St} {i : Nat} (h : i < l.length) : stAt l i = l[i] := by
  simp [stAt, List.getElem?_eq_getElem h]

/-- slices.ContainsFunc over expressions in memory. -/
theorem contains_exs (k : FuncId) (caps : Array Value) (hk : ∀ args w, (callFunc k args).run Tryz.prog w = .ok (.enter k args) w) (l : List Ex) (s : Value) (D : Nat → Prop) (w : World) (h : ExsAt D w l s) (f : Ex → Bool)
    (hf : ∀ e s' w1, e ∈ l → Below w.heap.size w w1 → ExsAt D w1 e.args s' → Calls Tryz.prog k (#[exV e s'] ++ caps) w1 fun r w2 => r = .returned (.bool (f e)) ∧ Below w1.heap.size w1 w2) :
    Calls Tryz.prog 120 #[s, .func (.func k) #[] caps] w fun r w' => r = .returned (.bool (l.any f)) ∧ Below w.heap.size w w' := by
  cases h with
  | mk _ a cap b off sv hcap hfit ha h0 h1 h2 h3 h4 hs =>
    rw [← anyN_list f (fun i => f (exAt l i)) l (fun i hi => by rw [exAt_get hi])]
    refine containsFuncE a l.length cap k caps hk w (fun i => .int .i64 (exAt l i).kind) (fun i => .int .i64 (exAt l i).op) (fun i => .int .i64 (exAt l i).n) (fun i => .string (strOf (exAt l i).name)) sv (fun i => f (exAt l i)) (hfit).out ?_ ?_
    · rcases ha with ha | ⟨ha, _⟩
      · exact .inl ha
      · exact .inr ⟨b, off, ha, fun i hi => ⟨h0 i hi, h1 i hi, h2 i hi, h3 i hi, h4 i hi⟩⟩
    · intro i hi w1 hb
      exact hf (exAt l i) (sv i) w1 (exAt_mem hi) hb ((hs i hi).old hb)

abbrev stV (x : St) (a t e : Value) : Value := .agg #[.int .i64 x.kind, .string (strOf x.name), a, t, e]
/-- slices.ContainsFunc over statements in memory. -/
theorem contains_sts (k : FuncId) (caps : Array Value) (hk : ∀ args w, (callFunc k args).run Tryz.prog w = .ok (.enter k args) w) (l : List St) (s : Value) (D : Nat → Prop) (w : World) (h : StsAt D w l s) (f : St → Bool)
    (hf : ∀ x a t e w1, x ∈ l → Below w.heap.size w w1 → ExsAt D w1 x.args a → StsAt D w1 x.thn t → StsAt D w1 x.els e → Calls Tryz.prog k (#[stV x a t e] ++ caps) w1 fun r w2 => r = .returned (.bool (f x)) ∧ Below w1.heap.size w1 w2) :
    Calls Tryz.prog 113 #[s, .func (.func k) #[] caps] w fun r w' => r = .returned (.bool (l.any f)) ∧ Below w.heap.size w w' := by
  cases h with
  | mk _ a cap b off sa st se hcap hfit ha h0 h1 h2 h3 h4 ea et ee =>
    rw [← anyN_list f (fun i => f (stAt l i)) l (fun i hi => by rw [stAt_get hi])]
    refine containsFuncT a l.length cap k caps hk w (fun i => .int .i64 (stAt l i).kind) (fun i => .string (strOf (stAt l i).name)) sa st se (fun i => f (stAt l i)) (hfit).out ?_ ?_
    · rcases ha with ha | ⟨ha, _⟩
      · exact .inl ha
      · exact .inr ⟨b, off, ha, fun i hi => ⟨h0 i hi, h1 i hi, h2 i hi, h3 i hi, h4 i hi⟩⟩
    · intro i hi w1 hb
      exact hf (stAt l i) (sa i) (st i) (se i) w1 (stAt_mem hi) hb ((ea i hi).old hb) ((et i hi).old hb) ((ee i hi).old hb)

/-- The deep contract at a depth. -/
def DeepAt (m : Nat) : Prop := ∀ (D : Nat → Prop) (e : Ex) (s : Value) (w : World), ExsAt D w e.args s →
  Calls Tryz.prog 61 #[exV e s, .int .i64 m] w fun r w' => r = .returned (.bool (deepOk m e)) ∧ Below w.heap.size w w'

theorem deep_fn (m : Nat) (ih : DeepAt m) (D : Nat → Prop) (e : Ex) (s : Value) (w : World) (h : ExsAt D w e.args s) (B : Nat) (hB : w.cell? ⟨B, 0, none⟩ = some (.int .i64 (m + 1))) (hm : m ≤ 1000) :
    Calls Tryz.prog 121 #[exV e s, .pointer (some ⟨B, 0, none⟩)] w fun r w' => r = .returned (.bool (!deepOk m e)) ∧ Below w.heap.size w w' := by
  have H := Lib.hid h; clear h
  have hBl : B < w.heap.size := World.block_lt_of_cell? _ _ hB
  go_enter Tryz.func121, Tryz.ntmps121
  go_wp2_with fail
  refine (ih D e s _ (H.out.old ((Below.refl _ _).alloc (Nat.le_refl _) _))).mono ?_
  rintro r w1 ⟨rfl, hb⟩
  go_wp2_with fail
  go_ret
  exact ⟨rfl, ((Below.refl _ _).alloc (Nat.le_refl _) _).trans (hb.mono (by simp))⟩

theorem deep_any : ∀ m, m ≤ 1000 → DeepAt m
  | 0, _ => by
    intro D e s w _
    go_enter Tryz.func61, Tryz.ntmps61
    go_wp2_with fail
    go_ret
    exact ⟨rfl, ((Below.refl _ _).alloc (Nat.le_refl _) _).alloc (by simp) _⟩
  | m + 1, hm => by
    intro D e s w h
    have ih := Lib.hid (deep_any m (by omega))
    have H := Lib.hid h; clear h
    have hm' : (0 : Int) < (m : Int) + 1 := by omega
    go_enter Tryz.func61, Tryz.ntmps61
    go_wp2_with fail
    refine (contains_exs 121 _ Tryz.call121 e.args s D _ (H.out.old (((Below.refl _ _).alloc (Nat.le_refl _) _).alloc (by simp) _)) (fun x => !deepOk m x) ?_).mono ?_
    · intro x s' w1 _ hb hx
      exact deep_fn m ih.out D x s' w1 hx _ (below_keeps hb (by simp)) (by omega)
    · rintro r w1 ⟨rfl, hb⟩
      go_wp2_with fail
      go_ret
      exact ⟨ret_bool (by simp [deepOk, List.any_eq_not_all_not]), (((Below.refl _ _).alloc (Nat.le_refl _) _).alloc (by simp) _).trans (hb.mono (by simp; omega))⟩
end Go.Proofs.YtcfpfnoldgnloaaGreatDoor
