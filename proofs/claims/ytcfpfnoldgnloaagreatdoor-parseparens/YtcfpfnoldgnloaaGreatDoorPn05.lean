/-
  A list of expressions that is being appended to: its own block. No condition.
  What the parser's methods for expressions leave: contracts and endings. No condition.
  named: what stands behind a name in an expression. Conditions: the parser lies in memory; the contracts of expr and args.
-/
import Derived.Test.YtcfpfnoldgnloaaGreatDoorPn00
import Derived.Test.YtcfpfnoldgnloaaGreatDoorPn02
import Derived.Deep.AppendLies
import Derived.Test.YtcfpfnoldgnloaaGreatDoorPn04
set_option linter.unusedVariables false
set_option linter.unusedSimpArgs false
namespace Go.Proofs.YtcfpfnoldgnloaaGreatDoor
open Go.RowKit
set_option maxHeartbeats 4000000
set_option maxRecDepth 100000

/-- The blocks that hold it are there. -/
theorem ExsAt.strong {D : Nat → Prop} {w : World} {l : List Ex} {v : Value} (h : ExsAt D w l v) : ExsAt (fun b => D b ∧ b < w.heap.size) w l v := by
  induction h with
  | mk l a cap b off sv hcap hfit ha h0 h1 h2 h3 h4 _ hn ih =>
    refine .mk l a cap b off sv hcap hfit ?_ h0 h1 h2 h3 h4 ih hn
    rcases ha with ha | ⟨ha, hD⟩
    · exact .inl ha
    · rcases Nat.eq_zero_or_pos l.length with hz | hz
      · exact .inl hz
      · exact .inr ⟨ha, hD, World.block_lt_of_cell? _ _ (h0 0 hz)⟩
def exFlat (ps : List (Ex × Value)) : List Value := ps.flatMap fun p => exCells p.1 p.2
theorem exFlat_len : ∀ ps, (exFlat ps).length = ps.length * 5
  | [] => rfl
  | p :: ps => by
    have := exFlat_len ps
    unfold exFlat at *
    simp only [List.flatMap_cons, List.length_append, List.length_cons]
    rw [this]; simp [exCells]; omega
theorem exFlat_at : ∀ (ps : List (Ex × Value)) (i q : Nat) (p : Ex × Value), ps[i]? = some p → q < 5 → (exFlat ps)[i * 5 + q]? = (exCells p.1 p.2)[q]?
  | [], i, q, p, h, _ => by simp at h
  | x :: ps, 0, q, p, h, hq => by
    simp at h; subst h
    unfold exFlat
    rw [List.flatMap_cons, List.getElem?_append_left (by simp [exCells]; omega)]
    simp
  | x :: ps, i + 1, q, p, h, hq => by
    simp at h
    have := exFlat_at ps i q p h hq
    unfold exFlat at *
    rw [List.flatMap_cons, List.getElem?_append_right (by simp [exCells]; omega)]
    rw [← this]; congr 1; simp [exCells]; omega
theorem exFlat_app (a c : List (Ex × Value)) : exFlat (a ++ c) = exFlat a ++ exFlat c := by unfold exFlat; rw [List.flatMap_append]
/-- v holds the expressions of ps, in a block of its own; their parts lie elsewhere. -/
def ExsOwn (w : World) (base : Nat) (ps : List (Ex × Value)) (v : Value) : Prop :=
  w.ownsRow base 27 5 v ps.length (exFlat ps) ∧ ∀ p, p ∈ ps → ExsAt (fun b => base ≤ b ∧ v.ownBlock ≠ some b) w p.1.args p.2 ∧ I64 p.1.n
theorem ExsOwn.zero (w : World) (base : Nat) : ExsOwn w base [] (.slice none 0 0) := ⟨⟨rfl, .inl ⟨rfl, rfl⟩⟩, fun p hp => by cases hp⟩
/-- Where only other blocks change. -/
theorem ExsOwn.keep {w w' : World} {base : Nat} {ps : List (Ex × Value)} {v : Value} (h : ExsOwn w base ps v) (hk : ∀ k, k < w.heap.size → base ≤ k → w'.heap[k]? = w.heap[k]?) : ExsOwn w' base ps v := by
  refine ⟨⟨h.1.1, ?_⟩, fun p hp => ⟨(h.2 p hp).1.keep (fun b off x hb hx => by rw [World.cell?_of_block (w := w) (hk b (World.block_lt_of_cell? _ _ hx) hb.1)]; exact hx), (h.2 p hp).2⟩⟩
  rcases h.1.2 with hn | ⟨g, cap, cur, rfl, hb, hg, r⟩
  · exact .inl hn
  · refine .inr ⟨g, cap, cur, rfl, hb, ?_, r⟩
    rw [hk g (by
      rcases Nat.lt_or_ge g w.heap.size with h' | h'
      · exact h'
      · simp [Array.getElem?_eq_none h'] at hg) hb]
    exact hg
theorem ExsOwn.exs {w : World} {base : Nat} {ps : List (Ex × Value)} {v : Value} (h : ExsOwn w base ps v) (hf : Fits ps.length) : ExsAt (base ≤ ·) w (ps.map (·.1)) v := by
  have hl : (ps.map (·.1)).length = ps.length := List.length_map _
  rcases h.1.2 with ⟨rfl, h0⟩ | ⟨g, cap, cur, rfl, hb, hg, hc, hm, hs, ht⟩
  · have : ps = [] := List.length_eq_zero_iff.1 h0
    subst this; exact ExsAt.zero
  · have cell : ∀ i q p u, ps[i]? = some p → q < 5 → (exCells p.1 p.2)[q]? = some u → w.cell? ⟨g, 0 + i * 5 + q, none⟩ = some u := by
      intro i q p u hp hq hu
      have h1 := h.1.cells (g := g) rfl (i * 5 + q) u (by rw [exFlat_at ps i q p hp hq]; exact hu)
      have h2 : (⟨g, 0, none⟩ : Addr).add (i * 5 + q) = ⟨g, 0 + i * 5 + q, none⟩ := by unfold Addr.add; split <;> simp_all <;> omega
      rwa [h2] at h1
    have get : ∀ i, i < (ps.map (·.1)).length → ∃ p, ps[i]? = some p ∧ exAt (ps.map (·.1)) i = p.1 ∧ p ∈ ps := by
      intro i hi
      rw [hl] at hi
      refine ⟨ps[i], List.getElem?_eq_getElem hi, ?_, List.getElem_mem hi⟩
      simp [exAt, List.getElem?_eq_getElem hi]
    have e := ExsAt.mk (D := (base ≤ ·)) (w := w) (ps.map (·.1)) (some ⟨g, 0, none⟩) cap g 0 (fun i => (ps.getD i (Ex.nil, undef)).2) (by rw [hl]; exact hc) (by rw [hl]; exact hf) (.inr ⟨rfl, hb⟩)
    rw [hl] at e
    have sv : ∀ i p, ps[i]? = some p → (ps.getD i (Ex.nil, undef)).2 = p.2 := fun i p hp => by rw [List.getD_eq_getElem?_getD, hp]; rfl
    have gp : ∀ i, i < ps.length → ∃ p, ps[i]? = some p ∧ exAt (ps.map (·.1)) i = p.1 ∧ p ∈ ps := fun i hi => get i (by rw [hl]; exact hi)
    refine e (fun i hi => ?_) (fun i hi => ?_) (fun i hi => ?_) (fun i hi => ?_) (fun i hi => ?_) (fun i hi => ?_) (fun i hi => ?_)
    all_goals
      obtain ⟨p, hp, hx, hm⟩ := gp i hi
      try rw [hx]
      try rw [sv i p hp]
    · exact cell i 0 p _ hp (by omega) rfl
    · exact cell i 1 p _ hp (by omega) rfl
    · exact cell i 2 p _ hp (by omega) rfl
    · exact cell i 3 p _ hp (by omega) rfl
    · exact cell i 4 p _ hp (by omega) rfl
    · exact (h.2 p hm).1.mono (fun b hb => hb.1)
    · exact (h.2 p hm).2
/-- An expression behind the others. -/
theorem ExsOwn.snoc {w w' : World} {base : Nat} {ps : List (Ex × Value)} {v : Value} (h : ExsOwn w base ps v) (x : Ex) (xv : Value) (hx : ExsAt (fun b => base ≤ b ∧ v.ownBlock ≠ some b) w x.args xv) (hn : I64 x.n) {g cap : Nat}
    (hown : w'.ownsRow base 27 5 (.slice (some ⟨g, 0, none⟩) (ps.length + 1) cap) (ps.length + 1) (exFlat ps ++ exCells x xv)) (hgrow : w.grownBy w' v.ownBlock) (hg : v.ownBlock = some g ∨ g = w.heap.size) :
    ExsOwn w' base (ps ++ [(x, xv)]) (.slice (some ⟨g, 0, none⟩) (ps.length + 1) cap) := by
  have hl : (ps ++ [(x, xv)]).length = ps.length + 1 := by simp
  have hfl : exFlat (ps ++ [(x, xv)]) = exFlat ps ++ exCells x xv := by rw [exFlat_app]; simp [exFlat]
  have keep : ∀ (l : List Ex) (u : Value), ExsAt (fun b => base ≤ b ∧ v.ownBlock ≠ some b) w l u → ExsAt (fun b => base ≤ b ∧ (Value.slice (some ⟨g, 0, none⟩) (ps.length + 1) cap).ownBlock ≠ some b) w' l u := by
    intro l u hu
    have h1 : ExsAt (fun b => (base ≤ b ∧ v.ownBlock ≠ some b) ∧ b < w.heap.size) w l u := hu.strong
    have h2 : ExsAt (fun b => (base ≤ b ∧ v.ownBlock ≠ some b) ∧ b < w.heap.size) w' l u := h1.keep (fun b off y hb hy => hgrow.cell hy (fun e => hb.1.2 e.symm))
    refine h2.mono (fun b hb => ⟨hb.1.1, ?_⟩)
    show some g ≠ some b
    intro e
    cases e
    rcases hg with hg | hg
    · exact hb.1.2 hg
    · omega
  refine ⟨by rw [hl, hfl]; exact hown, fun p hp => ?_⟩
  rcases List.mem_append.1 hp with hp | hp
  · exact ⟨keep _ _ (h.2 p hp).1, (h.2 p hp).2⟩
  · rw [List.mem_singleton.1 hp]; exact ⟨keep _ _ hx, hn⟩
end Go.Proofs.YtcfpfnoldgnloaaGreatDoor

namespace Go.Proofs.YtcfpfnoldgnloaaGreatDoor
open Go.RowKit
set_option maxRecDepth 100000
set_option maxHeartbeats 4000000

/-- A new expression, new expressions. -/
def ExH (B : Nat) (x : Ex) (v : Value) (w : World) : Prop := ∃ s, v = exV x s ∧ ExsAt (B ≤ ·) w x.args s ∧ I64 x.n
def ExsH (B : Nat) (l : List Ex) (v : Value) (w : World) : Prop := ExsAt (B ≤ ·) w l v
def ClimbC (f : Nat) : Prop := ∀ lv l w p tb, 4 * l.length + 2 ≤ f → Ps w p tb l → Calls Tryz.prog 60 #[.pointer (some ⟨p, 0, none⟩), .int .i64 lv] w (PEnd (ExH w.heap.size) w p tb (climbP f lv l))
def ExprC (f : Nat) : Prop := ∀ l w p tb, 4 * l.length + 2 ≤ f → Ps w p tb l → Calls Tryz.prog 27 #[.pointer (some ⟨p, 0, none⟩)] w (PEnd (ExH w.heap.size) w p tb (climbP f 1 l))
def TightC (f : Nat) : Prop := ∀ l w p tb, 4 * l.length + 1 ≤ f → Ps w p tb l → Calls Tryz.prog 118 #[.pointer (some ⟨p, 0, none⟩)] w (PEnd (ExH w.heap.size) w p tb (tightP f l))
def NamedC (f : Nat) : Prop := ∀ s l w p tb, 4 * l.length + 1 ≤ f → Ps w p tb l → Calls Tryz.prog 163 #[.pointer (some ⟨p, 0, none⟩), .string (strOf s)] w (PEnd (ExH w.heap.size) w p tb (namedP f s l))
def ArgsC (f : Nat) : Prop := ∀ l w p tb, 4 * l.length + 4 ≤ f → Ps w p tb l → Calls Tryz.prog 201 #[.pointer (some ⟨p, 0, none⟩)] w (PEnd (ExsH w.heap.size) w p tb (argsP f l))
theorem own5 {w : World} {b : Nat} {T : TypeId} {a0 a1 a2 a3 a4 : Value} (h : OwnAt w b [a0, a1, a2, a3, a4] T) (c0 c1 c2 c3 c4 : Value) : OwnAt (((((w.setCell ⟨b, 0, none⟩ c0).setCell ⟨b, 1, none⟩ c1).setCell ⟨b, 2, none⟩ c2).setCell ⟨b, 3, none⟩ c3).setCell ⟨b, 4, none⟩ c4) b [c0, c1, c2, c3, c4] T :=
  ((((h.set 0 c0).set 1 c1).set 2 c2).set 3 c3).set 4 c4
theorem sfr5 {p : Nat} {w w1 : World} (h : SFr p w w1) {b : Nat} (hb : w.heap.size ≤ b) (c0 c1 c2 c3 c4 : Value) : SFr p w (((((w1.setCell ⟨b, 0, none⟩ c0).setCell ⟨b, 1, none⟩ c1).setCell ⟨b, 2, none⟩ c2).setCell ⟨b, 3, none⟩ c3).setCell ⟨b, 4, none⟩ c4) :=
  ((((h.setNew hb 0 c0).setNew hb 1 c1).setNew hb 2 c2).setNew hb 3 c3).setNew hb 4 c4
theorem ps5 {w : World} {p tb : Nat} {l : List Tk} (h : Ps w p tb l) {b : Nat} (hb : p < b) (c0 c1 c2 c3 c4 : Value) : Ps (((((w.setCell ⟨b, 0, none⟩ c0).setCell ⟨b, 1, none⟩ c1).setCell ⟨b, 2, none⟩ c2).setCell ⟨b, 3, none⟩ c3).setCell ⟨b, 4, none⟩ c4) p tb l :=
  ((((h.other hb 0 c0).other hb 1 c1).other hb 2 c2).other hb 3 c3).other hb 4 c4
theorem keeps5 {D : Nat → Prop} (w : World) {b : Nat} (hb : ¬ D b) (c0 c1 c2 c3 c4 : Value) : Keeps D w (((((w.setCell ⟨b, 0, none⟩ c0).setCell ⟨b, 1, none⟩ c1).setCell ⟨b, 2, none⟩ c2).setCell ⟨b, 3, none⟩ c3).setCell ⟨b, 4, none⟩ c4) :=
  ((((keeps_set w hb 0 c0).trans (keeps_set _ hb 1 c1)).trans (keeps_set _ hb 2 c2)).trans (keeps_set _ hb 3 c3)).trans (keeps_set _ hb 4 c4)
theorem cells5 {w : World} {b : Nat} {T : TypeId} {a0 a1 a2 a3 a4 : Value} (h : OwnAt w b [a0, a1, a2, a3, a4] T) : (w.cell? ⟨b, 0, none⟩ = some a0 ∧ w.cell? ⟨b, 1, none⟩ = some a1 ∧ w.cell? ⟨b, 2, none⟩ = some a2 ∧ w.cell? ⟨b, 3, none⟩ = some a3 ∧ w.cell? ⟨b, 4, none⟩ = some a4) ∧
    w.frozen? ⟨b, 0, none⟩ = false ∧ w.frozen? ⟨b, 1, none⟩ = false ∧ w.frozen? ⟨b, 2, none⟩ = false ∧ w.frozen? ⟨b, 3, none⟩ = false ∧ w.frozen? ⟨b, 4, none⟩ = false :=
  ⟨⟨h.at 0 _ rfl, h.at 1 _ rfl, h.at 2 _ rfl, h.at 3 _ rfl, h.at 4 _ rfl⟩, h.fz 0, h.fz 1, h.fz 2, h.fz 3, h.fz 4⟩
/-- A method's ending: its expression stands in its own first block. -/
theorem ex_end {w W : World} {p tb : Nat} {l : List Tk} {x : Ex} {s : Value} (hp : p < w.heap.size) (HF : SFr p w W) (HP : Ps W p tb l) (HX : ExsAt (w.heap.size + 1 ≤ ·) W x.args s) (hn : I64 x.n) (c0 c1 c2 c3 c4 : Value) :
    PEnd (ExH w.heap.size) w p tb (.ok (x, l)) (.returned (exV x s)) (((((W.setCell ⟨w.heap.size, 0, none⟩ c0).setCell ⟨w.heap.size, 1, none⟩ c1).setCell ⟨w.heap.size, 2, none⟩ c2).setCell ⟨w.heap.size, 3, none⟩ c3).setCell ⟨w.heap.size, 4, none⟩ c4) :=
  ⟨sfr5 HF (Nat.le_refl _) _ _ _ _ _, _, rfl, ps5 HP hp _ _ _ _ _, _, rfl, (HX.keep (keeps5 W (by show ¬ w.heap.size + 1 ≤ w.heap.size; omega) _ _ _ _ _)).mono (fun b hb => by have : w.heap.size + 1 ≤ b := hb; omega), hn⟩
theorem ExsAt.up {B B' : Nat} {w : World} {l : List Ex} {v : Value} (h : ExsAt (B ≤ ·) w l v) (hb : B' ≤ B) : ExsAt (B' ≤ ·) w l v := h.mono (fun b hx => Nat.le_trans hb hx)
/-- One expression, in a block of its own. -/
theorem ex_box {w : World} {B : Nat} {x : Ex} {s : Value} (h : ExsAt (B ≤ ·) w x.args s) (hn : I64 x.n) (hB : B ≤ w.heap.size) :
    ExsAt (B ≤ ·) (w.alloc (.cells #[.int .i64 x.kind, .int .i64 x.op, .int .i64 x.n, .string (strOf x.name), s] 27)) [x] (.slice (some ⟨w.heap.size, 0, none⟩) 1 1) :=
  .one x s hB (RowAt.new w (exCells x s) 27) (h.old ((Below.refl _ _).alloc (Nat.le_refl _) _)) hn
theorem ex_box2 {w : World} {B : Nat} {x y : Ex} {s u : Value} (h : ExsAt (B ≤ ·) w x.args s) (hn : I64 x.n) (k : ExsAt (B ≤ ·) w y.args u) (hm : I64 y.n) (hB : B ≤ w.heap.size) :
    ExsAt (B ≤ ·) (w.alloc (.cells #[.int .i64 x.kind, .int .i64 x.op, .int .i64 x.n, .string (strOf x.name), s, .int .i64 y.kind, .int .i64 y.op, .int .i64 y.n, .string (strOf y.name), u] 27)) [x, y] (.slice (some ⟨w.heap.size, 0, none⟩) 2 2) :=
  .two x y s u hB (RowAt.new w (exCells x s ++ exCells y u) 27) (h.old ((Below.refl _ _).alloc (Nat.le_refl _) _)) hn (k.old ((Below.refl _ _).alloc (Nat.le_refl _) _)) hm
theorem set5_size (W : World) (b : Nat) (c0 c1 c2 c3 c4 : Value) : (((((W.setCell ⟨b, 0, none⟩ c0).setCell ⟨b, 1, none⟩ c1).setCell ⟨b, 2, none⟩ c2).setCell ⟨b, 3, none⟩ c3).setCell ⟨b, 4, none⟩ c4).heap.size = W.heap.size := by simp [World.setCell]
/-- A method's ending: []api.Expr{x} is built, and the expression stands in the method's own first block. -/
theorem ex_end1 {w W : World} {p tb : Nat} {l : List Tk} {x y : Ex} {s : Value} (hp : p < w.heap.size) (HF : SFr p w W) (HP : Ps W p tb l) (HX : ExsAt (w.heap.size + 1 ≤ ·) W x.args s) (hn : I64 x.n) (hlt : w.heap.size < W.heap.size) (hy : y.args = [x]) (hyn : I64 y.n) (c0 c1 c2 c3 c4 : Value) :
    PEnd (ExH w.heap.size) w p tb (.ok (y, l)) (.returned (exV y (.slice (some ⟨W.heap.size, 0, none⟩) 1 1))) ((((((W.setCell ⟨w.heap.size, 0, none⟩ c0).setCell ⟨w.heap.size, 1, none⟩ c1).setCell ⟨w.heap.size, 2, none⟩ c2).setCell ⟨w.heap.size, 3, none⟩ c3).setCell ⟨w.heap.size, 4, none⟩ c4).alloc (.cells #[.int .i64 x.kind, .int .i64 x.op, .int .i64 x.n, .string (strOf x.name), s] 27)) := by
  have h1 := HX.keep (keeps5 W (show ¬ w.heap.size + 1 ≤ w.heap.size by omega) c0 c1 c2 c3 c4)
  have h2 := ex_box h1 hn (by rw [set5_size]; omega)
  rw [set5_size] at h2
  refine ⟨(sfr5 HF (Nat.le_refl _) c0 c1 c2 c3 c4).trans (SFr.of_below ((Below.refl _ _).alloc (Nat.le_refl _) _)), _, rfl, (ps5 HP hp c0 c1 c2 c3 c4).alloc _, _, rfl, ?_, hyn⟩
  rw [hy]
  exact h2.mono (fun b hb => by have : w.heap.size + 1 ≤ b := hb; omega)
theorem ex_end2 {w W : World} {p tb : Nat} {l : List Tk} {x z y : Ex} {s u : Value} (hp : p < w.heap.size) (HF : SFr p w W) (HP : Ps W p tb l) (HX : ExsAt (w.heap.size + 1 ≤ ·) W x.args s) (hn : I64 x.n) (HZ : ExsAt (w.heap.size + 1 ≤ ·) W z.args u) (hm : I64 z.n) (hlt : w.heap.size < W.heap.size) (hy : y.args = [x, z]) (hyn : I64 y.n) (c0 c1 c2 c3 c4 : Value) :
    PEnd (ExH w.heap.size) w p tb (.ok (y, l)) (.returned (exV y (.slice (some ⟨W.heap.size, 0, none⟩) 2 2))) ((((((W.setCell ⟨w.heap.size, 0, none⟩ c0).setCell ⟨w.heap.size, 1, none⟩ c1).setCell ⟨w.heap.size, 2, none⟩ c2).setCell ⟨w.heap.size, 3, none⟩ c3).setCell ⟨w.heap.size, 4, none⟩ c4).alloc (.cells #[.int .i64 x.kind, .int .i64 x.op, .int .i64 x.n, .string (strOf x.name), s, .int .i64 z.kind, .int .i64 z.op, .int .i64 z.n, .string (strOf z.name), u] 27)) := by
  have h1 := HX.keep (keeps5 W (show ¬ w.heap.size + 1 ≤ w.heap.size by omega) c0 c1 c2 c3 c4)
  have h3 := HZ.keep (keeps5 W (show ¬ w.heap.size + 1 ≤ w.heap.size by omega) c0 c1 c2 c3 c4)
  have h2 := ex_box2 h1 hn h3 hm (by rw [set5_size]; omega)
  rw [set5_size] at h2
  refine ⟨(sfr5 HF (Nat.le_refl _) c0 c1 c2 c3 c4).trans (SFr.of_below ((Below.refl _ _).alloc (Nat.le_refl _) _)), _, rfl, (ps5 HP hp c0 c1 c2 c3 c4).alloc _, _, rfl, ?_, hyn⟩
  rw [hy]
  exact h2.mono (fun b hb => by have : w.heap.size + 1 ≤ b := hb; omega)
theorem yi64_0 : I64 0 := ⟨by decide, by decide⟩
end Go.Proofs.YtcfpfnoldgnloaaGreatDoor

namespace Go.Proofs.YtcfpfnoldgnloaaGreatDoor
open Go.RowKit
set_option maxRecDepth 100000
set_option maxHeartbeats 4000000

theorem named_call_w (f : Nat) (ih : ArgsC f) (s : Bs) (t : Tk) (r : List Tk) (w : World) (p tb : Nat) (hl : 4 * (t :: r).length + 1 ≤ f + 1) (h : Ps w p tb (t :: r)) (y : isP [40] t = true) :
    Calls Tryz.prog 163 #[.pointer (some ⟨p, 0, none⟩), .string (strOf s)] w (PEnd (ExH w.heap.size) w p tb (namedP (f + 1) s (t :: r))) := by
  have HPW := Lib.hid h.lt
  have HNE : Hid (w.heap.size ≠ p) := by show _ ≠ _; have := h.lt; omega
  have hb0 : Below w.heap.size w (w.alloc (.cells #[.int .i64 0, .int .i64 0, .int .i64 0, .string ⟨#[]⟩, .slice none 0 0] 27)) := (Below.refl _ _).alloc (Nat.le_refl _) _
  have HF0 : Hid (SFr p w (w.alloc (.cells #[.int .i64 0, .int .i64 0, .int .i64 0, .string ⟨#[]⟩, .slice none 0 0] 27))) := SFr.of_below hb0
  have HR0 := Lib.hid (OwnAt.new w [.int .i64 0, .int .i64 0, .int .i64 0, .string ⟨#[]⟩, .slice none 0 0] 27)
  have HP0 := Lib.hid (h.old hb0)
  clear hb0
  obtain ⟨R, hR⟩ : ∃ R, namedP (f + 1) s (t :: r) = R := ⟨_, rfl⟩
  rw [hR]
  have HRR := Lib.hid hR
  clear hR
  have HY := Lib.hid y
  have HT : Hid (∀ w1, Ps w1 p tb (t :: r) → _) := fun w1 h1 => psTake_yes p tb t r [40] w1 h1 y
  rw [List.length_cons] at hl
  have HC : Hid (∀ w1, Ps w1 p tb r → _) := fun w1 h1 => ih r w1 p tb (by omega) h1
  clear y hl ih
  clear h
  go_enter Tryz.func163, Tryz.ntmps163
  go_wp2_with fail
  refine (HT.out _ HP0.out).mono ?_
  rintro e w1 ⟨rfl, hf, hp⟩
  have HF1 := Lib.hid (HF0.out.trans hf)
  have HP1 := Lib.hid hp
  have HR1 := Lib.hid (HR0.out.sfr hf HNE.out)
  clear hf hp
  go_wp2_with fail
  refine (HC.out _ HP1.out).mono ?_
  intro e w2 he
  cases hA : argsP f r with
  | error n =>
    rw [hA] at he
    obtain ⟨hf, rfl⟩ := he
    have HF := Lib.hid (HF1.out.trans hf)
    have e1 : namedP (f + 1) s (t :: r) = .error n := by rw [namedP, take_yes HY.out]; dsimp only; rw [hA]
    have e2 := HRR.out.symm.trans e1
    subst e2
    clear e1 hf
    unfold lineV
    go_wp2_with fail
    exact ⟨rfl, HF.out, rfl⟩
  | ok q =>
    obtain ⟨x, r2⟩ := q
    rw [hA] at he
    obtain ⟨hf, v, rfl, hp, hv⟩ := he
    have hv : ExsAt (w1.heap.size ≤ ·) w2 x v := hv
    obtain ⟨a1, a2, rfl⟩ := hv.shape
    have HX2 := Lib.hid (hv.up (show w.heap.size + 1 ≤ w1.heap.size from HR1.out.lt))
    clear hv
    have HF2 := Lib.hid (HF1.out.trans hf)
    have HP2 := Lib.hid hp
    have HR2 := Lib.hid (HR1.out.sfr hf HNE.out)
    clear hf hp
    have HA2 := Lib.hid hA
    clear hA
    obtain ⟨⟨x0, x1, x2, x3, x4⟩, xf0, xf1, xf2, xf3, xf4⟩ := cells5 HR2.out
    have xlt := HR2.out.lt
    go_wp2_with fail
    have e1 : namedP (f + 1) s (t :: r) = .ok (.mk 5 0 0 s x, r2) := by rw [namedP, take_yes HY.out]; dsimp only; rw [HA2.out]
    have e2 := HRR.out.symm.trans e1
    subst e2
    obtain ⟨⟨d0, d1, d2, d3, d4⟩, _⟩ := cells5 (own5 HR2.out (.int .i64 5) (.int .i64 0) (.int .i64 0) (.string (strOf s)) (.slice a1 x.length a2))
    exact bodyPost_ret (v := .agg #[.int .i64 5, .int .i64 0, .int .i64 0, .string (strOf s), .slice a1 x.length a2]) (by simp [results, Tryz.results163, go_sem, d0, d1, d2, d3, d4]) rfl (ex_end (x := .mk 5 0 0 s x) HPW.out HF2.out HP2.out HX2.out yi64_0 _ _ _ _ _)
theorem named_var_w (f : Nat) (s : Bs) (t : Tk) (r : List Tk) (w : World) (p tb : Nat) (h : Ps w p tb (t :: r)) (n1 : isP [40] t = false) (n2 : isP [91] t = false) :
    Calls Tryz.prog 163 #[.pointer (some ⟨p, 0, none⟩), .string (strOf s)] w (PEnd (ExH w.heap.size) w p tb (namedP (f + 1) s (t :: r))) := by
  have HPW := Lib.hid h.lt
  have HNE : Hid (w.heap.size ≠ p) := by show _ ≠ _; have := h.lt; omega
  have hb0 : Below w.heap.size w (w.alloc (.cells #[.int .i64 0, .int .i64 0, .int .i64 0, .string ⟨#[]⟩, .slice none 0 0] 27)) := (Below.refl _ _).alloc (Nat.le_refl _) _
  have HF0 : Hid (SFr p w (w.alloc (.cells #[.int .i64 0, .int .i64 0, .int .i64 0, .string ⟨#[]⟩, .slice none 0 0] 27))) := SFr.of_below hb0
  have HR0 := Lib.hid (OwnAt.new w [.int .i64 0, .int .i64 0, .int .i64 0, .string ⟨#[]⟩, .slice none 0 0] 27)
  have HP0 := Lib.hid (h.old hb0)
  clear hb0
  obtain ⟨R, hR⟩ : ∃ R, namedP (f + 1) s (t :: r) = R := ⟨_, rfl⟩
  rw [hR]
  have HRR := Lib.hid hR
  clear hR
  have HN1 := Lib.hid n1
  have HN2 := Lib.hid n2
  have HT : Hid (∀ w1, Ps w1 p tb (t :: r) → _) := fun w1 h1 => psTake_no p tb t r [40] w1 h1 n1
  have HU : Hid (∀ w1, Ps w1 p tb (t :: r) → _) := fun w1 h1 => psTake_no p tb t r [91] w1 h1 n2
  clear n1 n2
  clear h
  go_enter Tryz.func163, Tryz.ntmps163
  go_wp2_with fail
  refine (HT.out _ HP0.out).mono ?_
  rintro e w1 ⟨rfl, hb⟩
  have HF1 := Lib.hid (HF0.out.trans (SFr.of_below hb))
  have HP1 := Lib.hid (HP0.out.old hb)
  have HR1 := Lib.hid (HR0.out.old hb)
  clear hb
  go_wp2_with fail
  refine (HU.out _ HP1.out).mono ?_
  rintro e w2 ⟨rfl, hb⟩
  have HF2 := Lib.hid (HF1.out.trans (SFr.of_below hb))
  have HP2 := Lib.hid (HP1.out.old hb)
  have HR2 := Lib.hid (HR1.out.old hb)
  clear hb
  obtain ⟨⟨x0, x1, x2, x3, x4⟩, xf0, xf1, xf2, xf3, xf4⟩ := cells5 HR2.out
  have xlt := HR2.out.lt
  go_wp2_with fail
  have e1 : namedP (f + 1) s (t :: r) = .ok (.mk 2 0 0 s [], t :: r) := by rw [namedP, take_no HN1.out]; dsimp only; rw [take_no HN2.out]
  have e2 := HRR.out.symm.trans e1
  subst e2
  obtain ⟨⟨d0, d1, d2, d3, d4⟩, _⟩ := cells5 (own5 HR2.out (.int .i64 2) (.int .i64 0) (.int .i64 0) (.string (strOf s)) (.slice none 0 0))
  exact bodyPost_ret (v := .agg #[.int .i64 2, .int .i64 0, .int .i64 0, .string (strOf s), .slice none 0 0]) (by simp [results, Tryz.results163, go_sem, d0, d1, d2, d3, d4]) rfl (ex_end (x := .mk 2 0 0 s []) HPW.out HF2.out HP2.out ExsAt.zero yi64_0 _ _ _ _ _)
theorem named_idx_w (f : Nat) (ih : ExprC f) (s : Bs) (t : Tk) (r : List Tk) (w : World) (p tb : Nat) (hl : 4 * (t :: r).length + 1 ≤ f + 1) (h : Ps w p tb (t :: r)) (n1 : isP [40] t = false) (y : isP [91] t = true) :
    Calls Tryz.prog 163 #[.pointer (some ⟨p, 0, none⟩), .string (strOf s)] w (PEnd (ExH w.heap.size) w p tb (namedP (f + 1) s (t :: r))) := by
  have HPW := Lib.hid h.lt
  have HNE : Hid (w.heap.size ≠ p) := by show _ ≠ _; have := h.lt; omega
  have hb0 : Below w.heap.size w (w.alloc (.cells #[.int .i64 0, .int .i64 0, .int .i64 0, .string ⟨#[]⟩, .slice none 0 0] 27)) := (Below.refl _ _).alloc (Nat.le_refl _) _
  have HF0 : Hid (SFr p w (w.alloc (.cells #[.int .i64 0, .int .i64 0, .int .i64 0, .string ⟨#[]⟩, .slice none 0 0] 27))) := SFr.of_below hb0
  have HR0 := Lib.hid (OwnAt.new w [.int .i64 0, .int .i64 0, .int .i64 0, .string ⟨#[]⟩, .slice none 0 0] 27)
  have HP0 := Lib.hid (h.old hb0)
  clear hb0
  obtain ⟨R, hR⟩ : ∃ R, namedP (f + 1) s (t :: r) = R := ⟨_, rfl⟩
  rw [hR]
  have HRR := Lib.hid hR
  clear hR
  have HY := Lib.hid y
  have HN1 := Lib.hid n1
  have HT : Hid (∀ w1, Ps w1 p tb (t :: r) → _) := fun w1 h1 => psTake_no p tb t r [40] w1 h1 n1
  have HU : Hid (∀ w1, Ps w1 p tb (t :: r) → _) := fun w1 h1 => psTake_yes p tb t r [91] w1 h1 y
  rw [List.length_cons] at hl
  have HC : Hid (∀ w1, Ps w1 p tb r → _) := fun w1 h1 => ih r w1 p tb (by omega) h1
  clear y n1 hl ih
  clear h
  go_enter Tryz.func163, Tryz.ntmps163
  go_wp2_with fail
  refine (HT.out _ HP0.out).mono ?_
  rintro e w1 ⟨rfl, hb⟩
  have HF1 := Lib.hid (HF0.out.trans (SFr.of_below hb))
  have HP1 := Lib.hid (HP0.out.old hb)
  have HR1 := Lib.hid (HR0.out.old hb)
  clear hb
  go_wp2_with fail
  refine (HU.out _ HP1.out).mono ?_
  rintro e w2 ⟨rfl, hf, hp⟩
  have HF2 := Lib.hid (HF1.out.trans hf)
  have HP2 := Lib.hid hp
  have HR2 := Lib.hid (HR1.out.sfr hf HNE.out)
  clear hf hp
  go_wp2_with fail
  refine (HC.out _ HP2.out).mono ?_
  intro e w3 he
  cases hA : climbP f 1 r with
  | error n =>
    rw [hA] at he
    obtain ⟨hf, rfl⟩ := he
    have HF := Lib.hid (HF2.out.trans hf)
    have e1 : namedP (f + 1) s (t :: r) = .error n := by rw [namedP, take_no HN1.out]; dsimp only; rw [take_yes HY.out]; dsimp only; rw [hA]
    have e2 := HRR.out.symm.trans e1
    subst e2
    clear e1 hf
    unfold lineV
    go_wp2_with fail
    exact ⟨rfl, HF.out, rfl⟩
  | ok q =>
    obtain ⟨x, r2⟩ := q
    rw [hA] at he
    obtain ⟨hf, v, rfl, hp, hv⟩ := he
    obtain ⟨s3, rfl, hx, hn⟩ := hv
    obtain ⟨a1, a2, rfl⟩ := hx.shape
    have HX3 := Lib.hid (hx.up (show w.heap.size + 1 ≤ w2.heap.size from HR2.out.lt))
    have HN := Lib.hid hn
    clear hx hn
    have HF3 := Lib.hid (HF2.out.trans hf)
    have HP3 := Lib.hid hp
    have HR3 := Lib.hid (HR2.out.sfr hf HNE.out)
    clear hf hp
    have HA3 := Lib.hid hA
    clear hA
    go_upto_region 5 with (fail)
    obtain ⟨W, hW⟩ : ∃ W, w3.alloc (.cells #[.int .i64 x.kind, .int .i64 x.op, .int .i64 x.n, .string (strOf x.name), .slice a1 x.args.length a2] 27) = W := ⟨_, rfl⟩
    rw [hW]
    have hba : Below w3.heap.size w3 W := hW ▸ (Below.refl _ _).alloc (Nat.le_refl _) _
    have HF4 := Lib.hid (HF3.out.trans (SFr.of_below hba))
    have HP4 := Lib.hid (HP3.out.old hba)
    have HR4 := Lib.hid (HR3.out.old hba)
    have HX4 := Lib.hid (HX3.out.old hba)
    have HE4 := Lib.hid (hW ▸ OwnAt.new w3 [.int .i64 x.kind, .int .i64 x.op, .int .i64 x.n, .string (strOf x.name), .slice a1 x.args.length a2] 27)
    have HEP : Hid (w3.heap.size ≠ p) := by show _ ≠ _; have := HP3.out.lt; omega
    clear hba hW
    obtain ⟨w4, hWW⟩ : ∃ w4, w4 = W := ⟨_, rfl⟩
    subst hWW
    have hba : Below w4.heap.size w4 (w4.alloc (.cells #[.string ⟨#[93]⟩] 9)) := (Below.refl _ _).alloc (Nat.le_refl _) _
    have HF5 := Lib.hid (HF4.out.trans (SFr.of_below hba))
    have HP5 := Lib.hid (HP4.out.old hba)
    have HR5 := Lib.hid (HR4.out.old hba)
    have HE5 := Lib.hid (HE4.out.old hba)
    have HX5 := Lib.hid (HX4.out.old hba)
    have HWN := Lib.hid (psWant_one p tb r2 [93] _ HP5.out w4.heap.size 1 ((OwnAt.new w4 [.string ⟨#[93]⟩] 9).at 0 _ rfl))
    clear hba
    go_wp2_with fail
    refine (HWN.out).mono ?_
    intro e w6 he
    cases hA : ywantP [93] r2 with
    | error n =>
      rw [hA] at he
      obtain ⟨hf, rfl⟩ := he
      have HF := Lib.hid (HF5.out.trans hf)
      have e1 : namedP (f + 1) s (t :: r) = .error n := by rw [namedP, take_no HN1.out]; dsimp only; rw [take_yes HY.out]; dsimp only; rw [HA3.out]; dsimp only; rw [hA]
      have e2 := HRR.out.symm.trans e1
      subst e2
      clear e1 hf
      unfold lineV
      go_wp2_with fail
      exact ⟨rfl, HF.out, rfl⟩
    | ok r3 =>
      rw [hA] at he
      obtain ⟨hf, rfl, hp⟩ := he
      have HF6 := Lib.hid (HF5.out.trans hf)
      have HP6 := Lib.hid hp
      have HR6 := Lib.hid (HR5.out.sfr hf HNE.out)
      have HE6 := Lib.hid (HE5.out.sfr hf HEP.out)
      have HX6 := Lib.hid (HX5.out.keep (hf.fresh (by have := HPW.out; omega)))
      clear hf hp
      have HA6 := Lib.hid hA
      clear hA
      clear HWN
      obtain ⟨⟨e0, e1, e2, e3, e4⟩, ef0, ef1, ef2, ef3, ef4⟩ := cells5 HE6.out
      have elt := HE6.out.lt
      obtain ⟨⟨x0, x1, x2, x3, x4⟩, xf0, xf1, xf2, xf3, xf4⟩ := cells5 HR6.out
      have xlt := HR6.out.lt
      go_wp2_with fail
      have e1 : namedP (f + 1) s (t :: r) = .ok (.mk 6 0 0 s [x], r3) := by rw [namedP, take_no HN1.out]; dsimp only; rw [take_yes HY.out]; dsimp only; rw [HA3.out]; dsimp only; rw [HA6.out]
      have e2 := HRR.out.symm.trans e1
      subst e2
      obtain ⟨⟨d0, d1, d2, d3, d4⟩, _⟩ := cells5 ((own5 HR6.out (.int .i64 6) (.int .i64 0) (.int .i64 0) (.string (strOf s)) (.slice (some ⟨w6.heap.size, 0, none⟩) 1 1)).alloc (.cells #[.int .i64 x.kind, .int .i64 x.op, .int .i64 x.n, .string (strOf x.name), (.slice a1 x.args.length a2)] 27))
      exact bodyPost_ret (v := .agg #[.int .i64 6, .int .i64 0, .int .i64 0, .string (strOf s), .slice (some ⟨w6.heap.size, 0, none⟩) 1 1]) (by simp [results, Tryz.results163, go_sem, d0, d1, d2, d3, d4]) rfl (ex_end1 (x := x) (y := .mk 6 0 0 s [x]) HPW.out HF6.out HP6.out HX6.out HN.out HR6.out.lt rfl yi64_0 _ _ _ _ _)
end Go.Proofs.YtcfpfnoldgnloaaGreatDoor
