/-
  Rows in blocks of their own, as appends make them; what stays. No condition.
-/
import Derived.Test.YtcfpfnoldgnloaaGreatDoorScanA
import Derived.Test.YtcfpfnoldgnloaaGreatDoorTreeA
set_option linter.unusedVariables false
set_option linter.unusedSimpArgs false
namespace Go.Proofs.YtcfpfnoldgnloaaGreatDoor
open Go.RowKit
set_option maxHeartbeats 4000000
set_option maxRecDepth 100000

theorem ZInfoInt : (Tryz.prog.info? 3).map (fun i => (i.zero, i.size, i.bytes)) = some (some (.int .i64 0), 1, 8) := by kernel_rfl
theorem ZInfoStr : (Tryz.prog.info? 9).map (fun i => (i.zero, i.size, i.bytes)) = some (some (.string ⟨#[]⟩), 1, 16) := by kernel_rfl
theorem zrow_old {w w' : World} {base size n : Nat} {e : TypeId} {v : Value} {xs : List Value} (h : w.ownsRow base e size v n xs) (hb : Below w.heap.size w w') : w'.ownsRow base e size v n xs := by
  refine ⟨h.1, ?_⟩
  rcases h.2 with hn | ⟨g, cap, cur, rfl, hg, hh, r⟩
  · exact .inl hn
  · refine .inr ⟨g, cap, cur, rfl, hg, ?_, r⟩
    rw [hb.block g (by
      rcases Nat.lt_or_ge g w.heap.size with h' | h'
      · exact h'
      · simp [Array.getElem?_eq_none h'] at hh)]
    exact hh
theorem zrow_set {w : World} {base size n : Nat} {e : TypeId} {v : Value} {xs : List Value} (h : w.ownsRow base e size v n xs) {k : Nat} (hk : v.ownBlock ≠ some k) (i : Nat) (x : Value) : (w.setCell ⟨k, i, none⟩ x).ownsRow base e size v n xs := by
  refine ⟨h.1, ?_⟩
  rcases h.2 with hn | ⟨g, cap, cur, rfl, hg, hh, r⟩
  · exact .inl hn
  · refine .inr ⟨g, cap, cur, rfl, hg, ?_, r⟩
    rw [Below.heap_setCell _ _ _ _ (by rintro rfl; exact hk rfl)]
    exact hh
theorem zrow_base {w : World} {base size n : Nat} {e : TypeId} {v : Value} {xs : List Value} (h : w.ownsRow base e size v n xs) {b' : Nat} (hb : b' ≤ base) : w.ownsRow b' e size v n xs := by
  refine ⟨h.1, ?_⟩
  rcases h.2 with hn | ⟨g, cap, cur, rfl, hg, r⟩
  · exact .inl hn
  · exact .inr ⟨g, cap, cur, rfl, Nat.le_trans hb hg, r⟩
theorem zrow_at {w : World} {base size n g : Nat} {e : TypeId} {cap : Nat} {xs : List Value} (h : w.ownsRow base e size (.slice (some ⟨g, 0, none⟩) n cap) n xs) (j : Nat) (u : Value) (hu : xs[j]? = some u) : w.cell? ⟨g, j, none⟩ = some u := by
  have h1 := h.cells (g := g) rfl j u hu
  have h2 : (⟨g, 0, none⟩ : Addr).add j = ⟨g, j, none⟩ := by unfold Addr.add; split <;> simp_all
  rwa [h2] at h1
theorem zrow_shape {w : World} {base size n : Nat} {e : TypeId} {v : Value} {xs : List Value} (h : w.ownsRow base e size v n xs) : (v = .slice none 0 0 ∧ n = 0) ∨ ∃ g cap, v = .slice (some ⟨g, 0, none⟩) n cap := by
  rcases h.2 with h' | ⟨g, cap, cur, rfl, _⟩
  · exact .inl h'
  · exact .inr ⟨g, cap, rfl⟩
theorem zrow_slice {w : World} {base size n : Nat} {e : TypeId} {v : Value} {xs : List Value} (h : w.ownsRow base e size v n xs) : ∃ a cap, v = .slice a n cap := by
  rcases zrow_shape h with ⟨rfl, rfl⟩ | ⟨g, cap, rfl⟩
  · exact ⟨none, 0, rfl⟩
  · exact ⟨_, _, rfl⟩
theorem zbelow_grow {B : Nat} {a w w' : World} (h : Below B a w) {row : Option Nat} (hg : w.grownBy w' row) (hr : ∀ k, row = some k → B ≤ k) (hB : B ≤ w.heap.size) : Below B a w' :=
  ⟨hg.os.trans h.os, hg.tape.trans h.tape, hg.output.trans h.output, Nat.le_trans h.size hg.size, fun k hk => (hg.block k (Nat.lt_of_lt_of_le hk hB) (fun e => by have := hr k e.symm; omega)).trans (h.block k hk)⟩
theorem zbelow_set {B : Nat} {a w : World} (h : Below B a w) {k : Nat} (hk : B ≤ k) (i : Nat) (v : Value) : Below B a (w.setCell ⟨k, i, none⟩ v) := h.setCell (p := ⟨k, i, none⟩) hk v
theorem OwnAt.grow {w w' : World} {b : Nat} {cs : List Value} {T : TypeId} (h : OwnAt w b cs T) {row : Option Nat} (hg : w.grownBy w' row) (hr : row ≠ some b) : OwnAt w' b cs T := (hg.block b h.lt (fun e => hr e.symm)).trans h
theorem OwnAt.news {w : World} {b : Nat} {cs : List Value} {T : TypeId} (h : OwnAt w b cs T) : ∀ j u, cs[j]? = some u → w.cell? ((⟨b, 0, none⟩ : Addr).add j) = some u := by
  intro j u hu
  have h2 : (⟨b, 0, none⟩ : Addr).add j = ⟨b, j, none⟩ := by unfold Addr.add; split <;> simp_all
  rw [h2]; exact h.at j u hu
theorem zflat_len {α : Type} (f : α → List Value) (k : Nat) (hf : ∀ x, (f x).length = k) : ∀ l : List α, (l.flatMap f).length = l.length * k
  | [] => by simp
  | x :: l => by
    have := zflat_len f k hf l
    simp only [List.flatMap_cons, List.length_append, List.length_cons]
    rw [this, hf, Nat.add_mul]; omega
theorem zflat_at {α : Type} (f : α → List Value) (k : Nat) (hf : ∀ x, (f x).length = k) : ∀ (l : List α) (i q : Nat) (p : α), l[i]? = some p → q < k → (l.flatMap f)[i * k + q]? = (f p)[q]?
  | [], i, q, p, h, _ => by simp at h
  | x :: l, 0, q, p, h, hq => by
    simp at h; subst h
    rw [List.flatMap_cons, List.getElem?_append_left (by rw [hf]; omega)]
    simp
  | x :: l, i + 1, q, p, h, hq => by
    simp at h
    have := zflat_at f k hf l i q p h hq
    rw [List.flatMap_cons, List.getElem?_append_right (by rw [hf, Nat.add_mul]; omega), ← this]
    congr 1; rw [hf, Nat.add_mul]; omega

/-- Raw numbers that came in. -/
def ZRaw (w : World) (l : List Int) (v : Value) : Prop :=
  ∃ a cap b off, v = .slice a l.length cap ∧ (l.length = 0 ∨ a = some ⟨b, off, none⟩) ∧ l.length ≤ 9223372036854775807 ∧
    ∀ i, i < l.length → w.cell? ⟨b, off + i, none⟩ = some (.int .i64 (l.getD i 0)) ∧ I64 (l.getD i 0)
theorem ZRaw.old {w w' : World} {l : List Int} {v : Value} (h : ZRaw w l v) (hb : Below w.heap.size w w') : ZRaw w' l v := by
  obtain ⟨a, cap, b, off, h1, h2, h3, h4⟩ := h
  exact ⟨a, cap, b, off, h1, h2, h3, fun i hi => ⟨below_keeps hb (h4 i hi).1, (h4 i hi).2⟩⟩
theorem ZRaw.slice {w : World} {l : List Int} {v : Value} (h : ZRaw w l v) : ∃ a cap, v = .slice a l.length cap := by
  obtain ⟨a, cap, b, off, h1, _⟩ := h; exact ⟨a, cap, h1⟩
theorem ZRaw.at {w : World} {l : List Int} {a : Option Addr} {n cap : Nat} (h : ZRaw w l (.slice a n cap)) (i : Nat) (hi : i < l.length) : ∃ b off, a = some ⟨b, off, none⟩ ∧ b < w.heap.size ∧ w.cell? ⟨b, off + i, none⟩ = some (.int .i64 (l.getD i 0)) ∧ I64 (l.getD i 0) := by
  obtain ⟨a', cap', b, off, h1, h2, h3, h4⟩ := h
  cases h1
  rcases h2 with h2 | h2
  · omega
  · exact ⟨b, off, h2, World.block_lt_of_cell? _ _ (h4 i hi).1, (h4 i hi).1, (h4 i hi).2⟩
/-- Pairs of raw numbers that came in. -/
def ZRaw2 (w : World) (l : List (Int × Int)) (v : Value) : Prop :=
  ∃ a cap b off, v = .slice a l.length cap ∧ (l.length = 0 ∨ a = some ⟨b, off, none⟩) ∧ l.length ≤ 9223372036854775807 ∧
    ∀ i, i < l.length → w.cell? ⟨b, off + i * 2, none⟩ = some (.int .i64 (l.getD i (0, 0)).1) ∧ w.cell? ⟨b, off + i * 2 + 1, none⟩ = some (.int .i64 (l.getD i (0, 0)).2) ∧ I64 (l.getD i (0, 0)).1 ∧ I64 (l.getD i (0, 0)).2
theorem ZRaw2.old {w w' : World} {l : List (Int × Int)} {v : Value} (h : ZRaw2 w l v) (hb : Below w.heap.size w w') : ZRaw2 w' l v := by
  obtain ⟨a, cap, b, off, h1, h2, h3, h4⟩ := h
  exact ⟨a, cap, b, off, h1, h2, h3, fun i hi => ⟨below_keeps hb (h4 i hi).1, below_keeps hb (h4 i hi).2.1, (h4 i hi).2.2⟩⟩
theorem ZRaw2.slice {w : World} {l : List (Int × Int)} {v : Value} (h : ZRaw2 w l v) : ∃ a cap, v = .slice a l.length cap := by
  obtain ⟨a, cap, b, off, h1, _⟩ := h; exact ⟨a, cap, h1⟩
theorem ZRaw2.at {w : World} {l : List (Int × Int)} {a : Option Addr} {n cap : Nat} (h : ZRaw2 w l (.slice a n cap)) (i : Nat) (hi : i < l.length) : ∃ b off, a = some ⟨b, off, none⟩ ∧ b < w.heap.size ∧ w.cell? ⟨b, off + i * 2, none⟩ = some (.int .i64 (l.getD i (0, 0)).1) ∧ w.cell? ⟨b, off + i * 2 + 1, none⟩ = some (.int .i64 (l.getD i (0, 0)).2) ∧ I64 (l.getD i (0, 0)).1 ∧ I64 (l.getD i (0, 0)).2 := by
  obtain ⟨a', cap', b, off, h1, h2, h3, h4⟩ := h
  cases h1
  rcases h2 with h2 | h2
  · omega
  · exact ⟨b, off, h2, World.block_lt_of_cell? _ _ (h4 i hi).1, h4 i hi⟩
end Go.Proofs.YtcfpfnoldgnloaaGreatDoor
