/-
  What the parser's methods for expressions leave: contracts and endings. No condition.
-/
import Derived.Test.YtcfpfnoldgnloaaGreatDoorYOps
import Derived.Test.YtcfpfnoldgnloaaGreatDoorTreeN
set_option linter.unusedVariables false
set_option linter.unusedSimpArgs false
namespace Go.Proofs.YtcfpfnoldgnloaaGreatDoor
open Go.RowKit
set_option maxRecDepth 100000
set_option maxHeartbeats 4000000

/-- A new expression, new expressions. -/
def ExH (B : Nat) (x : Ex) (v : Value) (w : World) : Prop := ∃ s, v = exV x s ∧ ExsAt (B ≤ ·) w x.args s ∧ I64 x.n
def ExsH (B : Nat) (l : List Ex) (v : Value) (w : World) : Prop := ExsAt (B ≤ ·) w l v
def ClimbC (f : Nat) : Prop := ∀ lv l w p tb, 4 * l.length + 2 ≤ f → Ps w p tb l → Calls Tryz.prog 60 #[.pointer (some ⟨p, 0, none⟩), .int .i64 lv] w (PEnd (ExH w.heap.size) w p tb (climbP f lv l))
def ExprC (f : Nat) : Prop := ∀ l w p tb, 4 * l.length + 2 ≤ f → Ps w p tb l → Calls Tryz.prog 27 #[.pointer (some ⟨p, 0, none⟩)] w (PEnd (ExH w.heap.size) w p tb (climbP f 1 l))
def TightC (f : Nat) : Prop := ∀ l w p tb, 4 * l.length + 1 ≤ f → Ps w p tb l → Calls Tryz.prog 118 #[.pointer (some ⟨p, 0, none⟩)] w (PEnd (ExH w.heap.size) w p tb (tightP f l))
def NamedC (f : Nat) : Prop := ∀ s l w p tb, 4 * l.length + 1 ≤ f → Ps w p tb l → Calls Tryz.prog 163 #[.pointer (some ⟨p, 0, none⟩), .string (strOf s)] w (PEnd (ExH w.heap.size) w p tb (namedP f s l))
def ArgsC (f : Nat) : Prop := ∀ l w p tb, 4 * l.length + 4 ≤ f → Ps w p tb l → Calls Tryz.prog 201 #[.pointer (some ⟨p, 0, none⟩)] w (PEnd (ExsH w.heap.size) w p tb (argsP f l))
theorem own5 {w : World} {b : Nat} {T : TypeId} {a0 a1 a2 a3 a4 : Value} (h : OwnAt w b [a0, a1, a2, a3, a4] T) (c0 c1 c2 c3 c4 : Value) : OwnAt (((((w.setCell ⟨b, 0, none⟩ c0).setCell ⟨b, 1, none⟩ c1).setCell ⟨b, 2, none⟩ c2).setCell ⟨b, 3, none⟩ c3).setCell ⟨b, 4, none⟩ c4) b [c0, c1, c2, c3, c4] T :=
  ((((h.set 0 c0).set 1 c1).set 2 c2).set 3 c3).set 4 c4
theorem sfr5 {p : Nat} {w w1 : World} (h : SFr p w w1) {b : Nat} (hb : w.heap.size ≤ b) (c0 c1 c2 c3 c4 : Value) : SFr p w (((((w1.setCell ⟨b, 0, none⟩ c0).setCell ⟨b, 1, none⟩ c1).setCell ⟨b, 2, none⟩ c2).setCell ⟨b, 3, none⟩ c3).setCell ⟨b, 4, none⟩ c4) :=
  ((((h.setNew hb 0 c0).setNew hb 1 c1).setNew hb 2 c2).setNew hb 3 c3).setNew hb 4 c4
theorem ps5 {w : World} {p tb : Nat} {l : List Tk} (h : Ps w p tb l) {b : Nat} (hb : p < b) (c0 c1 c2 c3 c4 : Value) : Ps (((((w.setCell ⟨b, 0, none⟩ c0).setCell ⟨b, 1, none⟩ c1).setCell ⟨b, 2, none⟩ c2).setCell ⟨b, 3, none⟩ c3).setCell ⟨b, 4, none⟩ c4) p tb l :=
  ((((h.other hb 0 c0).other hb 1 c1).other hb 2 c2).other hb 3 c3).other hb 4 c4
theorem keeps5 {D : Nat → Prop} (w : World) {b : Nat} (hb : ¬ D b) (c0 c1 c2 c3 c4 : Value) : Keeps D w (((((w.setCell ⟨b, 0, none⟩ c0).setCell ⟨b, 1, none⟩ c1).setCell ⟨b, 2, none⟩ c2).setCell ⟨b, 3, none⟩ c3).setCell ⟨b, 4, none⟩ c4) :=
  ((((keeps_set w hb 0 c0).trans (keeps_set _ hb 1 c1)).trans (keeps_set _ hb 2 c2)).trans (keeps_set _ hb 3 c3)).trans (keeps_set _ hb 4 c4)
theorem cells5 {w : World} {b : Nat} {T : TypeId} {a0 a1 a2 a3 a4 : Value} (h : OwnAt w b [a0, a1, a2, a3, a4] T) : (w.cell? ⟨b, 0, none⟩ = some a0 ∧ w.cell? ⟨b, 1, none⟩ = some a1 ∧ w.cell? ⟨b, 2, none⟩ = some a2 ∧ w.cell? ⟨b, 3, none⟩ = some a3 ∧ w.cell? ⟨b, 4, none⟩ = some a4) ∧
    w.frozen? ⟨b, 0, none⟩ = false ∧ w.frozen? ⟨b, 1, none⟩ = false ∧ w.frozen? ⟨b, 2, none⟩ = false ∧ w.frozen? ⟨b, 3, none⟩ = false ∧ w.frozen? ⟨b, 4, none⟩ = false :=
  ⟨⟨h.at 0 _ rfl, h.at 1 _ rfl, h.at 2 _ rfl, h.at 3 _ rfl, h.at 4 _ rfl⟩, h.fz 0, h.fz 1, h.fz 2, h.fz 3, h.fz 4⟩
/-- A method's ending: its expression stands in its own first block. -/
theorem ex_end {w W : World} {p tb : Nat} {l : List Tk} {x : Ex} {s : Value} (hp : p < w.heap.size) (HF : SFr p w W) (HP : Ps W p tb l) (HX : ExsAt (w.heap.size + 1 ≤ ·) W x.args s) (hn : I64 x.n) (c0 c1 c2 c3 c4 : Value) :
    PEnd (ExH w.heap.size) w p tb (.ok (x, l)) (.returned (exV x s)) (((((W.setCell ⟨w.heap.size, 0, none⟩ c0).setCell ⟨w.heap.size, 1, none⟩ c1).setCell ⟨w.heap.size, 2, none⟩ c2).setCell ⟨w.heap.size, 3, none⟩ c3).setCell ⟨w.heap.size, 4, none⟩ c4) :=
  ⟨sfr5 HF (Nat.le_refl _) _ _ _ _ _, _, rfl, ps5 HP hp _ _ _ _ _, _, rfl, (HX.keep (keeps5 W (by show ¬ w.heap.size + 1 ≤ w.heap.size; omega) _ _ _ _ _)).mono (fun b hb => by have : w.heap.size + 1 ≤ b := hb; omega), hn⟩
theorem ExsAt.up {B B' : Nat} {w : World} {l : List Ex} {v : Value} (h : ExsAt (B ≤ ·) w l v) (hb : B' ≤ B) : ExsAt (B' ≤ ·) w l v := h.mono (fun b hx => Nat.le_trans hb hx)
/-- One expression, in a block of its own. -/
theorem ex_box {w : World} {B : Nat} {x : Ex} {s : Value} (h : ExsAt (B ≤ ·) w x.args s) (hn : I64 x.n) (hB : B ≤ w.heap.size) :
    ExsAt (B ≤ ·) (w.alloc (.cells #[.int .i64 x.kind, .int .i64 x.op, .int .i64 x.n, .string (strOf x.name), s] 27)) [x] (.slice (some ⟨w.heap.size, 0, none⟩) 1 1) :=
  .one x s hB (RowAt.new w (exCells x s) 27) (h.old ((Below.refl _ _).alloc (Nat.le_refl _) _)) hn
theorem ex_box2 {w : World} {B : Nat} {x y : Ex} {s u : Value} (h : ExsAt (B ≤ ·) w x.args s) (hn : I64 x.n) (k : ExsAt (B ≤ ·) w y.args u) (hm : I64 y.n) (hB : B ≤ w.heap.size) :
    ExsAt (B ≤ ·) (w.alloc (.cells #[.int .i64 x.kind, .int .i64 x.op, .int .i64 x.n, .string (strOf x.name), s, .int .i64 y.kind, .int .i64 y.op, .int .i64 y.n, .string (strOf y.name), u] 27)) [x, y] (.slice (some ⟨w.heap.size, 0, none⟩) 2 2) :=
  .two x y s u hB (RowAt.new w (exCells x s ++ exCells y u) 27) (h.old ((Below.refl _ _).alloc (Nat.le_refl _) _)) hn (k.old ((Below.refl _ _).alloc (Nat.le_refl _) _)) hm
theorem set5_size (W : World) (b : Nat) (c0 c1 c2 c3 c4 : Value) : (((((W.setCell ⟨b, 0, none⟩ c0).setCell ⟨b, 1, none⟩ c1).setCell ⟨b, 2, none⟩ c2).setCell ⟨b, 3, none⟩ c3).setCell ⟨b, 4, none⟩ c4).heap.size = W.heap.size := by simp [World.setCell]
/-- A method's ending: []api.Expr{x} is built, and the expression stands in the method's own first block. -/
theorem ex_end1 {w W : World} {p tb : Nat} {l : List Tk} {x y : Ex} {s : Value} (hp : p < w.heap.size) (HF : SFr p w W) (HP : Ps W p tb l) (HX : ExsAt (w.heap.size + 1 ≤ ·) W x.args s) (hn : I64 x.n) (hlt : w.heap.size < W.heap.size) (hy : y.args = [x]) (hyn : I64 y.n) (c0 c1 c2 c3 c4 : Value) :
    PEnd (ExH w.heap.size) w p tb (.ok (y, l)) (.returned (exV y (.slice (some ⟨W.heap.size, 0, none⟩) 1 1))) ((((((W.setCell ⟨w.heap.size, 0, none⟩ c0).setCell ⟨w.heap.size, 1, none⟩ c1).setCell ⟨w.heap.size, 2, none⟩ c2).setCell ⟨w.heap.size, 3, none⟩ c3).setCell ⟨w.heap.size, 4, none⟩ c4).alloc (.cells #[.int .i64 x.kind, .int .i64 x.op, .int .i64 x.n, .string (strOf x.name), s] 27)) := by
  have h1 := HX.keep (keeps5 W (show ¬ w.heap.size + 1 ≤ w.heap.size by omega) c0 c1 c2 c3 c4)
  have h2 := ex_box h1 hn (by rw [set5_size]; omega)
  rw [set5_size] at h2
  refine ⟨(sfr5 HF (Nat.le_refl _) c0 c1 c2 c3 c4).trans (SFr.of_below ((Below.refl _ _).alloc (Nat.le_refl _) _)), _, rfl, (ps5 HP hp c0 c1 c2 c3 c4).alloc _, _, rfl, ?_, hyn⟩
  rw [hy]
  exact h2.mono (fun b hb => by have : w.heap.size + 1 ≤ b := hb; omega)
theorem ex_end2 {w W : World} {p tb : Nat} {l : List Tk} {x z y : Ex} {s u : Value} (hp : p < w.heap.size) (HF : SFr p w W) (HP : Ps W p tb l) (HX : ExsAt (w.heap.size + 1 ≤ ·) W x.args s) (hn : I64 x.n) (HZ : ExsAt (w.heap.size + 1 ≤ ·) W z.args u) (hm : I64 z.n) (hlt : w.heap.size < W.heap.size) (hy : y.args = [x, z]) (hyn : I64 y.n) (c0 c1 c2 c3 c4 : Value) :
    PEnd (ExH w.heap.size) w p tb (.ok (y, l)) (.returned (exV y (.slice (some ⟨W.heap.size, 0, none⟩) 2 2))) ((((((W.setCell ⟨w.heap.size, 0, none⟩ c0).setCell ⟨w.heap.size, 1, none⟩ c1).setCell ⟨w.heap.size, 2, none⟩ c2).setCell ⟨w.heap.size, 3, none⟩ c3).setCell ⟨w.heap.size, 4, none⟩ c4).alloc (.cells #[.int .i64 x.kind, .int .i64 x.op, .int .i64 x.n, .string (strOf x.name), s, .int .i64 z.kind, .int .i64 z.op, .int .i64 z.n, .string (strOf z.name), u] 27)) := by
  have h1 := HX.keep (keeps5 W (show ¬ w.heap.size + 1 ≤ w.heap.size by omega) c0 c1 c2 c3 c4)
  have h3 := HZ.keep (keeps5 W (show ¬ w.heap.size + 1 ≤ w.heap.size by omega) c0 c1 c2 c3 c4)
  have h2 := ex_box2 h1 hn h3 hm (by rw [set5_size]; omega)
  rw [set5_size] at h2
  refine ⟨(sfr5 HF (Nat.le_refl _) c0 c1 c2 c3 c4).trans (SFr.of_below ((Below.refl _ _).alloc (Nat.le_refl _) _)), _, rfl, (ps5 HP hp c0 c1 c2 c3 c4).alloc _, _, rfl, ?_, hyn⟩
  rw [hy]
  exact h2.mono (fun b hb => by have : w.heap.size + 1 ≤ b := hb; omega)
theorem yi64_0 : I64 0 := ⟨by decide, by decide⟩
end Go.Proofs.YtcfpfnoldgnloaaGreatDoor
