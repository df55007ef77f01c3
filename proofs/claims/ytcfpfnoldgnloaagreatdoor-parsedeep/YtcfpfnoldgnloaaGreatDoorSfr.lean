/-
  What may change but for one block; a variable's own block in memory. No condition.
-/
import Derived.Test.YtcfpfnoldgnloaaGreatDoorTreeA
set_option linter.unusedVariables false
set_option linter.unusedSimpArgs false
namespace Go.Proofs.YtcfpfnoldgnloaaGreatDoor
open Go.RowKit
set_option maxHeartbeats 4000000
set_option maxRecDepth 100000

/-- What may have changed: the source; new blocks. -/
structure SFr (s : Nat) (w w' : World) : Prop where
  os : w'.os = w.os
  tape : w'.tape = w.tape
  output : w'.output = w.output
  size : w.heap.size ≤ w'.heap.size
  block : ∀ k, k < w.heap.size → k ≠ s → w'.heap[k]? = w.heap[k]?
theorem SFr.refl (s : Nat) (w : World) : SFr s w w := ⟨rfl, rfl, rfl, Nat.le_refl _, fun _ _ _ => rfl⟩
theorem SFr.trans {s : Nat} {u v w : World} (h : SFr s u v) (k : SFr s v w) : SFr s u w :=
  ⟨k.os.trans h.os, k.tape.trans h.tape, k.output.trans h.output, Nat.le_trans h.size k.size, fun i hi hb => (k.block i (Nat.lt_of_lt_of_le hi h.size) hb).trans (h.block i hi hb)⟩
theorem SFr.of_below {s : Nat} {w w' : World} (h : Below w.heap.size w w') : SFr s w w' := ⟨h.os, h.tape, h.output, h.size, fun k hk _ => h.block k hk⟩
theorem SFr.below {s : Nat} {w w' : World} (h : SFr s w w') (hs : s ≤ w.heap.size) : Below s w w' :=
  ⟨h.os, h.tape, h.output, h.size, fun k hk => h.block k (by omega) (by omega)⟩
theorem SFr.cell {s : Nat} {w w' : World} (h : SFr s w w') {b off : Nat} {x : Value} (hb : b ≠ s) (hx : w.cell? ⟨b, off, none⟩ = some x) : w'.cell? ⟨b, off, none⟩ = some x := by
  rw [World.cell?_of_block (w := w) (h.block b (World.block_lt_of_cell? _ _ hx) hb)]; exact hx
theorem SFr.keeps {s : Nat} {w w' : World} (h : SFr s w w') : Keeps (· ≠ s) w w' := fun _ _ _ hD hx => h.cell hD hx
theorem SFr.keepsD {s : Nat} {w w' : World} (h : SFr s w w') {D : Nat → Prop} (hD : ∀ b, D b → b ≠ s) : Keeps D w w' := fun _ _ _ hd hx => h.cell (hD _ hd) hx
theorem SFr.drewN {s n : Nat} {w w1 : World} (h : SFr s w w1) : SFr s w (w1.drewN n) := ⟨h.os, h.tape, h.output, h.size, h.block⟩
def OwnAt (w : World) (b : Nat) (cs : List Value) (T : TypeId) : Prop := w.heap[b]? = some (.cells cs.toArray T (0, 0))
theorem OwnAt.new (w : World) (cs : List Value) (T : TypeId) : OwnAt (w.alloc (.cells cs.toArray T)) w.heap.size cs T := Array.getElem?_push_size
theorem OwnAt.lt {w : World} {b : Nat} {cs : List Value} {T : TypeId} (h : OwnAt w b cs T) : b < w.heap.size := by
  rcases Nat.lt_or_ge b w.heap.size with h' | h'
  · exact h'
  · unfold OwnAt at h; simp [Array.getElem?_eq_none h'] at h
theorem OwnAt.at {w : World} {b : Nat} {cs : List Value} {T : TypeId} (h : OwnAt w b cs T) (i : Nat) (v : Value) (hi : cs[i]? = some v) : w.cell? ⟨b, i, none⟩ = some v := by
  rw [Lib.cell_of_heap h]; simpa using hi
theorem OwnAt.fz {w : World} {b : Nat} {cs : List Value} {T : TypeId} (h : OwnAt w b cs T) (i : Nat) : w.frozen? ⟨b, i, none⟩ = false := Lib.frozen_of_heap h i
theorem OwnAt.old {w w' : World} {b : Nat} {cs : List Value} {T : TypeId} (h : OwnAt w b cs T) (hb : Below w.heap.size w w') : OwnAt w' b cs T := (hb.block b h.lt).trans h
theorem OwnAt.alloc {w : World} {b : Nat} {cs : List Value} {T : TypeId} (h : OwnAt w b cs T) (o : Obj) : OwnAt (w.alloc o) b cs T := h.old ((Below.refl _ _).alloc (Nat.le_refl _) _)
theorem OwnAt.sfr {s : Nat} {w w' : World} {b : Nat} {cs : List Value} {T : TypeId} (h : OwnAt w b cs T) (hf : SFr s w w') (hb : b ≠ s) : OwnAt w' b cs T := (hf.block b h.lt hb).trans h
theorem OwnAt.set {w : World} {b : Nat} {cs : List Value} {T : TypeId} (h : OwnAt w b cs T) (i : Nat) (v : Value) : OwnAt (w.setCell ⟨b, i, none⟩ v) b (cs.set i v) T := by
  unfold OwnAt at *
  simp [World.setCell, Array.getElem?_modify, h]
theorem OwnAt.other {w : World} {b : Nat} {cs : List Value} {T : TypeId} (h : OwnAt w b cs T) {k : Nat} (hk : b ≠ k) (i : Nat) (v : Value) : OwnAt (w.setCell ⟨k, i, none⟩ v) b cs T := by
  unfold OwnAt at *
  rw [Below.heap_setCell _ _ _ _ hk]; exact h
theorem keeps_set {D : Nat → Prop} (w : World) {k : Nat} (hD : ¬ D k) (i : Nat) (v : Value) : Keeps D w (w.setCell ⟨k, i, none⟩ v) := fun b off x hb hx => by
  rw [World.cell?_of_block (w := w) (Below.heap_setCell _ _ _ _ (by rintro rfl; exact hD hb))]; exact hx
theorem cell_set_ne (w : World) {b c i j : Nat} {v : Value} (h : c ≠ b) : (w.setCell ⟨b, i, none⟩ v).cell? ⟨c, j, none⟩ = w.cell? ⟨c, j, none⟩ :=
  World.cell?_of_block (w := w) (Below.heap_setCell _ _ _ _ h)
theorem SFr.setNew {s : Nat} {w w1 : World} (h : SFr s w w1) {b : Nat} (hb : w.heap.size ≤ b) (i : Nat) (v : Value) : SFr s w (w1.setCell ⟨b, i, none⟩ v) :=
  ⟨h.os, h.tape, h.output, by simpa [World.setCell] using h.size, fun k hk hs => (Below.heap_setCell _ _ _ _ (by show k ≠ b; omega)).trans (h.block k hk hs)⟩
theorem keeps_mono {D D' : Nat → Prop} {w w' : World} (h : Keeps D' w w') (hD : ∀ b, D b → D' b) : Keeps D w w' := fun b off x hb hx => h b off x (hD b hb) hx
theorem SFr.fresh {s : Nat} {w w' : World} (h : SFr s w w') {B : Nat} (hB : s < B) : Keeps (B ≤ ·) w w' := h.keepsD (fun b hb => by show b ≠ s; have : B ≤ b := hb; omega)
theorem set_fresh (w : World) {B k : Nat} (hk : k < B) (i : Nat) (v : Value) : Keeps (B ≤ ·) w (w.setCell ⟨k, i, none⟩ v) := keeps_set w (by omega) i v
end Go.Proofs.YtcfpfnoldgnloaaGreatDoor
