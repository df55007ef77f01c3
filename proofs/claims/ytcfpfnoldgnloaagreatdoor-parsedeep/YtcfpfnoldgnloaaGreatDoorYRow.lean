/-
  Rows that the parser's methods append to, beside the parser and one variable; what else stays. No condition.
-/
import Derived.Test.YtcfpfnoldgnloaaGreatDoorYClimb
import Derived.Test.YtcfpfnoldgnloaaGreatDoorOrdB
import Derived.Test.YtcfpfnoldgnloaaGreatDoorRowS
import Derived.Laws.OwnMore
set_option linter.unusedVariables false
set_option linter.unusedSimpArgs false
namespace Go.Proofs.YtcfpfnoldgnloaaGreatDoor
open Go.RowKit
set_option maxRecDepth 100000
set_option maxHeartbeats 4000000

/-- What may change: the parser, one variable's block, blocks from base on. -/
structure AFr (p ob base : Nat) (w w' : World) : Prop where
  os : w'.os = w.os
  tape : w'.tape = w.tape
  output : w'.output = w.output
  size : w.heap.size ≤ w'.heap.size
  block : ∀ k, k < w.heap.size → k < base → k ≠ p → k ≠ ob → w'.heap[k]? = w.heap[k]?
section
variable {p ob base : Nat} {u v w : World}
theorem AFr.refl (p ob base : Nat) (w : World) : AFr p ob base w w := ⟨rfl, rfl, rfl, Nat.le_refl _, fun _ _ _ _ _ => rfl⟩
theorem AFr.trans (h : AFr p ob base u v) (k : AFr p ob base v w) : AFr p ob base u w :=
  ⟨k.os.trans h.os, k.tape.trans h.tape, k.output.trans h.output, Nat.le_trans h.size k.size, fun i hi hb h1 h2 => (k.block i (Nat.lt_of_lt_of_le hi h.size) hb h1 h2).trans (h.block i hi hb h1 h2)⟩
theorem AFr.of_sfr (h : SFr p v w) : AFr p ob base v w := ⟨h.os, h.tape, h.output, h.size, fun k hk _ h1 _ => h.block k hk h1⟩
theorem AFr.of_below (h : Below v.heap.size v w) : AFr p ob base v w := AFr.of_sfr (SFr.of_below h)
theorem AFr.old (h : AFr p ob base u v) (hb : Below v.heap.size v w) : AFr p ob base u w := h.trans (AFr.of_below hb)
theorem AFr.set (h : AFr p ob base u v) (i : Nat) (x : Value) : AFr p ob base u (v.setCell ⟨ob, i, none⟩ x) :=
  ⟨h.os, h.tape, h.output, by simpa [World.setCell] using h.size, fun k hk hb h1 h2 => (Below.heap_setCell _ _ _ _ (show k ≠ ob from h2)).trans (h.block k hk hb h1 h2)⟩
theorem AFr.high (h : AFr p ob base u v) {g : Nat} (hg : base ≤ g) (i : Nat) (x : Value) : AFr p ob base u (v.setCell ⟨g, i, none⟩ x) :=
  ⟨h.os, h.tape, h.output, by simpa [World.setCell] using h.size, fun k hk hb h1 h2 => (Below.heap_setCell _ _ _ _ (show k ≠ g by omega)).trans (h.block k hk hb h1 h2)⟩
theorem AFr.grown (h : AFr p ob base u v) {row : Option Nat} (hg : v.grownBy w row) (hr : ∀ k, row = some k → base ≤ k) : AFr p ob base u w :=
  ⟨hg.os.trans h.os, hg.tape.trans h.tape, hg.output.trans h.output, Nat.le_trans h.size hg.size, fun k hk hb h1 h2 => (hg.block k (Nat.lt_of_lt_of_le hk h.size) (fun e => by have := hr k e.symm; omega)).trans (h.block k hk hb h1 h2)⟩
theorem OwnAt.afr {b : Nat} {cs : List Value} {T : TypeId} (h : OwnAt v b cs T) (hf : AFr p ob base v w) (h1 : b < base) (h2 : b ≠ p) (h3 : b ≠ ob) : OwnAt w b cs T := (hf.block b h.lt h1 h2 h3).trans h
theorem OwnAt.grew {b : Nat} {cs : List Value} {T : TypeId} (h : OwnAt v b cs T) {row : Option Nat} (hg : v.grownBy w row) (hr : row ≠ some b) : OwnAt w b cs T := (hg.block b h.lt (fun e => hr e.symm)).trans h
end
theorem Ps.grown {w w' : World} {p tb : Nat} {l : List Tk} (h : Ps w p tb l) {row : Option Nat} (hg : w.grownBy w' row) {base : Nat} (hr : ∀ k, row = some k → base ≤ k) (hp : p < base) : Ps w' p tb l := by
  obtain ⟨o, cap, h⟩ := h
  have hl := h.lt
  refine ⟨o, cap, h.own.grew hg (fun e => by have := hr p e; omega), h.row.keep (fun b off x hb hx => ?_), h.hcap, h.fit, h.lt, h.ends, h.nums⟩
  have hb : b = tb := hb
  rw [World.cell?_of_block (w := w) (hg.block b (World.block_lt_of_cell? _ _ hx) (fun e => by have := hr b e.symm; omega))]; exact hx
theorem ExsOwn.sfrB {p : Nat} {w w' : World} {base : Nat} {ps : List (Ex × Value)} {v : Value} (h : ExsOwn w base ps v) (hf : SFr p w w') (hp : p < base) : ExsOwn w' base ps v := h.keep (fun k h1 h2 => hf.block k h1 (by omega))
theorem ExsOwn.old {w w' : World} {base : Nat} {ps : List (Ex × Value)} {v : Value} (h : ExsOwn w base ps v) (hb : Below w.heap.size w w') : ExsOwn w' base ps v := h.keep (fun k h1 _ => hb.block k h1)
theorem ExsOwn.low {w : World} {base : Nat} {ps : List (Ex × Value)} {v : Value} (h : ExsOwn w base ps v) {k : Nat} (hk : k < base) (i : Nat) (x : Value) : ExsOwn (w.setCell ⟨k, i, none⟩ x) base ps v := h.keep (fun j _ h2 => Below.heap_setCell _ _ _ _ (show j ≠ k by omega))
theorem ExsOwn.rowGe {w : World} {base : Nat} {ps : List (Ex × Value)} {v : Value} (h : ExsOwn w base ps v) : ∀ k, v.ownBlock = some k → base ≤ k := fun k e => (World.ownsRow.lt h.1 k e).1
theorem ExsOwn.yshape {w : World} {base : Nat} {ps : List (Ex × Value)} {v : Value} (h : ExsOwn w base ps v) : ∃ a cap, v = .slice a ps.length cap := by
  rcases h.1.2 with ⟨rfl, h0⟩ | ⟨g, cap, cur, rfl, _⟩
  · exact ⟨none, 0, by rw [h0]⟩
  · exact ⟨_, _, rfl⟩
def exZ : Ex := .mk 0 0 0 [] []
/-- The last one is stored. -/
theorem ExsOwn.setLast {w : World} {base g cap : Nat} {ps : List (Ex × Value)} {zv : Value} {z : Ex} (h : ExsOwn w base (ps ++ [(z, zv)]) (.slice (some ⟨g, 0, none⟩) (ps.length + 1) cap)) {x : Ex} {s : Value} (hx : ExsAt (fun b => base ≤ b ∧ b ≠ g) w x.args s) (hn : I64 x.n) :
    ExsOwn (((((w.setCell ⟨g, ps.length * 5, none⟩ (.int .i64 x.kind)).setCell ⟨g, ps.length * 5 + 1, none⟩ (.int .i64 x.op)).setCell ⟨g, ps.length * 5 + 2, none⟩ (.int .i64 x.n)).setCell ⟨g, ps.length * 5 + 3, none⟩ (.string (strOf x.name))).setCell ⟨g, ps.length * 5 + 4, none⟩ s) base (ps ++ [(x, s)]) (.slice (some ⟨g, 0, none⟩) (ps.length + 1) cap) := by
  have hl : (ps ++ [(z, zv)]).length = ps.length + 1 := by simp
  have h0 := h.1
  rw [hl] at h0
  have h1 := ((((h0.stored (ps.length * 5) (.int .i64 x.kind)).1.stored (ps.length * 5 + 1) (.int .i64 x.op)).1.stored (ps.length * 5 + 2) (.int .i64 x.n)).1.stored (ps.length * 5 + 3) (.string (strOf x.name))).1.stored (ps.length * 5 + 4) s
  have hf : (((((exFlat (ps ++ [(z, zv)])).set (ps.length * 5) (.int .i64 x.kind)).set (ps.length * 5 + 1) (.int .i64 x.op)).set (ps.length * 5 + 2) (.int .i64 x.n)).set (ps.length * 5 + 3) (.string (strOf x.name))).set (ps.length * 5 + 4) s = exFlat (ps ++ [(x, s)]) := by
    rw [exFlat_app, exFlat_app]
    have hq := exFlat_len ps
    rw [← hq]
    simp [exFlat, exCells, List.set_append]
  rw [hf] at h1
  have hk : Keeps (fun b => base ≤ b ∧ b ≠ g) w (((((w.setCell ⟨g, ps.length * 5, none⟩ (.int .i64 x.kind)).setCell ⟨g, ps.length * 5 + 1, none⟩ (.int .i64 x.op)).setCell ⟨g, ps.length * 5 + 2, none⟩ (.int .i64 x.n)).setCell ⟨g, ps.length * 5 + 3, none⟩ (.string (strOf x.name))).setCell ⟨g, ps.length * 5 + 4, none⟩ s) := by
    have hng : ¬ (base ≤ g ∧ g ≠ g) := fun e => e.2 rfl
    exact ((((keeps_set w hng _ _).trans (keeps_set _ hng _ _)).trans (keeps_set _ hng _ _)).trans (keeps_set _ hng _ _)).trans (keeps_set _ hng _ _)
  have hl2 : (ps ++ [(x, s)]).length = ps.length + 1 := by simp
  refine ⟨by rw [hl2]; exact h1.1, fun q hq => ?_⟩
  have ob : ∀ b, (base ≤ b ∧ (Value.slice (some ⟨g, 0, none⟩) (ps.length + 1) cap).ownBlock ≠ some b) → base ≤ b ∧ b ≠ g := fun b hb => ⟨hb.1, fun e => hb.2 (by rw [e]; rfl)⟩
  have bo : ∀ b, base ≤ b ∧ b ≠ g → (base ≤ b ∧ (Value.slice (some ⟨g, 0, none⟩) (ps.length + 1) cap).ownBlock ≠ some b) := fun b hb => ⟨hb.1, fun e => hb.2 (by injection e with e; exact e.symm)⟩
  rcases List.mem_append.1 hq with hq | hq
  · have := h.2 q (List.mem_append.2 (.inl hq))
    exact ⟨((this.1.mono ob).keep hk).mono bo, this.2⟩
  · rw [List.mem_singleton.1 hq]
    exact ⟨(hx.keep hk).mono bo, hn⟩
section
variable (w : World) {o : Oper} {a : Act} {K : Act → World → Prop} {Q : Exit → Act → World → Prop}
/-- An empty expression is appended. -/
theorem wp_exSnoc (s x : Operand) (ho : o.op = .call { callee := .builtin .append, args := #[s, x], argTypes := #[25, 25] })
    (base : Nat) (ps : List (Ex × Value)) (v : Value) (hs : a.eval s = v) (hown : ExsOwn w base ps v) (b c : Nat) (hx : a.eval x = .slice (some ⟨b, 0, none⟩) 1 c) (hnew : OwnAt w b (exCells exZ (.slice none 0 0)) 27)
    (hlen : ps.length ≤ 1000000) (hbase : base ≤ w.heap.size)
    (h : ∀ g cap w', ExsOwn w' base (ps ++ [(exZ, .slice none 0 0)]) (.slice (some ⟨g, 0, none⟩) (ps.length + 1) cap) → w.grownBy w' v.ownBlock → (v.ownBlock = some g ∨ g = w.heap.size) → g < w'.heap.size → K (a.put o.dst (.slice (some ⟨g, 0, none⟩) (ps.length + 1) cap)) w') : o.wp Tryz.prog a w K Q := by
  obtain ⟨i0, hi, hz0, hz1, hz2⟩ := info_parts infoEx
  refine wp_append_lies (P := Tryz.prog) w s x _ ho base 27 i0 _ 5 _ Tryz.underlying25 hi hz0 hz1 hz2 rfl (by decide) v ps.length (exFlat ps) hs hown.1 ⟨b, 0, none⟩ 1 c (exCells exZ (.slice none 0 0)) hx rfl ?_ ?_ (by decide) (by unfold maxLen; omega) (by omega) hbase _ rfl ?_
  · intro j u hu
    have h2 : (⟨b, 0, none⟩ : Addr).add j = ⟨b, j, none⟩ := by unfold Addr.add; split <;> simp_all
    rw [h2]; exact hnew.at j u hu
  · intro u hu
    simp only [exCells, List.mem_cons, List.not_mem_nil, or_false] at hu
    rcases hu with rfl | rfl | rfl | rfl | rfl <;> rfl
  · intro g cap w' hown' hg hat hlt
    exact h g cap w' (hown.snoc exZ (.slice none 0 0) ExsAt.zero yi64_0 hown' hg hat) hg hat hlt
end
end Go.Proofs.YtcfpfnoldgnloaaGreatDoor
