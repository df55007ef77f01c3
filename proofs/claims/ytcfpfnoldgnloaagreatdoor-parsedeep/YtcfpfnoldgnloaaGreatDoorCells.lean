/-
  Small trees in memory, put together. No condition.
-/
import Derived.Test.YtcfpfnoldgnloaaGreatDoorTreeA
set_option linter.unusedVariables false
set_option linter.unusedSimpArgs false
namespace Go.Proofs.YtcfpfnoldgnloaaGreatDoor
open Go.RowKit
set_option maxHeartbeats 4000000
set_option maxRecDepth 100000

abbrev exV (e : Ex) (s : Value) : Value := .agg #[.int .i64 e.kind, .int .i64 e.op, .int .i64 e.n, .string (strOf e.name), s]
theorem i64_small {n : Int} (h : -1000000 ≤ n ∧ n ≤ 1000000) : I64 n := ⟨by omega, by omega⟩
theorem infoEx : (Tryz.prog.info? 27).map (fun i => (i.zero, i.size, i.bytes)) = some (some (.agg #[.int .i64 0, .int .i64 0, .int .i64 0, .string ⟨#[]⟩, .slice none 0 0]), 5, 64) := by kernel_rfl
theorem ExsAt.zero {D : Nat → Prop} {w : World} : ExsAt D w [] (.slice none 0 0) :=
  .mk [] none 0 0 0 (fun _ => undef) (Nat.le_refl _) (by show _ ≤ _; simp) (.inl rfl) (fun i hi => absurd hi (Nat.not_lt_zero _)) (fun i hi => absurd hi (Nat.not_lt_zero _)) (fun i hi => absurd hi (Nat.not_lt_zero _)) (fun i hi => absurd hi (Nat.not_lt_zero _)) (fun i hi => absurd hi (Nat.not_lt_zero _)) (fun i hi => absurd hi (Nat.not_lt_zero _)) (fun i hi => absurd hi (Nat.not_lt_zero _))
theorem StsAt.zero {D : Nat → Prop} {w : World} : StsAt D w [] (.slice none 0 0) :=
  .mk [] none 0 0 0 (fun _ => undef) (fun _ => undef) (fun _ => undef) (Nat.le_refl _) (by show _ ≤ _; simp) (.inl rfl) (fun i hi => absurd hi (Nat.not_lt_zero _)) (fun i hi => absurd hi (Nat.not_lt_zero _)) (fun i hi => absurd hi (Nat.not_lt_zero _)) (fun i hi => absurd hi (Nat.not_lt_zero _)) (fun i hi => absurd hi (Nat.not_lt_zero _)) (fun i hi => absurd hi (Nat.not_lt_zero _)) (fun i hi => absurd hi (Nat.not_lt_zero _)) (fun i hi => absurd hi (Nat.not_lt_zero _))
theorem StrsAt.zero {D : Nat → Prop} {w : World} : StrsAt D w [] (.slice none 0 0) :=
  ⟨_, 0, 0, 0, rfl, Nat.le_refl _, by show _ ≤ _; simp, .inl rfl, fun i hi => absurd hi (Nat.not_lt_zero _)⟩
theorem ArsAt.zero {D : Nat → Prop} {w : World} : ArsAt D w [] (.slice none 0 0) :=
  ⟨_, 0, 0, 0, rfl, Nat.le_refl _, by show _ ≤ _; simp, .inl rfl, fun i hi => absurd hi (Nat.not_lt_zero _)⟩
theorem FusAt.zero {D : Nat → Prop} {w : World} : FusAt D w [] (.slice none 0 0) :=
  ⟨_, 0, 0, 0, fun _ => undef, fun _ => undef, fun _ => undef, rfl, Nat.le_refl _, by show _ ≤ _; simp, .inl rfl, fun i hi => absurd hi (Nat.not_lt_zero _)⟩

/-- The cells of an expression, a statement, a function. -/
def exCells (e : Ex) (s : Value) : List Value := [.int .i64 e.kind, .int .i64 e.op, .int .i64 e.n, .string (strOf e.name), s]
theorem RowAt.new (w : World) (cs : List Value) (T : TypeId) : RowAt (w.alloc (.cells cs.toArray T)) w.heap.size 0 cs := fun i hi => by simp
theorem RowAt.at {w : World} {b : Nat} {cs : List Value} (h : RowAt w b 0 cs) (i : Nat) (v : Value) (hi : cs[i]? = some v) : w.cell? ⟨b, i, none⟩ = some v := by
  obtain ⟨hl, e⟩ := List.getElem?_eq_some_iff.1 hi
  have := h i hl
  rw [e] at this; simpa using this
theorem ExsAt.one {D : Nat → Prop} {w : World} {b : Nat} (e : Ex) (s : Value) (hD : D b) (h : RowAt w b 0 (exCells e s)) (hs : ExsAt D w e.args s) (hn : I64 e.n) : ExsAt D w [e] (.slice (some ⟨b, 0, none⟩) 1 1) := by
  refine .mk [e] _ 1 b 0 (fun _ => s) (Nat.le_refl _) (by show _ ≤ _; simp) (.inr ⟨rfl, hD⟩) ?_ ?_ ?_ ?_ ?_ ?_ ?_
  all_goals
    intro i hi
    have hi0 : i = 0 := by simp at hi; omega
    subst hi0
  · exact h.at 0 _ rfl
  · exact h.at 1 _ rfl
  · exact h.at 2 _ rfl
  · exact h.at 3 _ rfl
  · exact h.at 4 _ rfl
  · exact hs
  · exact hn
theorem ExsAt.two {D : Nat → Prop} {w : World} {b : Nat} (e f : Ex) (s t : Value) (hD : D b) (h : RowAt w b 0 (exCells e s ++ exCells f t)) (hs : ExsAt D w e.args s) (hn : I64 e.n) (ht : ExsAt D w f.args t) (hm : I64 f.n) : ExsAt D w [e, f] (.slice (some ⟨b, 0, none⟩) 2 2) := by
  refine .mk [e, f] _ 2 b 0 (fun i => if i = 0 then s else t) (Nat.le_refl _) (by show _ ≤ _; simp) (.inr ⟨rfl, hD⟩) ?_ ?_ ?_ ?_ ?_ ?_ ?_
  all_goals
    intro i hi
    have hi0 : i = 0 ∨ i = 1 := by simp at hi; omega
    rcases hi0 with rfl | rfl
  · exact h.at 0 _ rfl
  · exact h.at 5 _ rfl
  · exact h.at 1 _ rfl
  · exact h.at 6 _ rfl
  · exact h.at 2 _ rfl
  · exact h.at 7 _ rfl
  · exact h.at 3 _ rfl
  · exact h.at 8 _ rfl
  · exact h.at 4 _ rfl
  · exact h.at 9 _ rfl
  · exact hs
  · exact ht
  · exact hn
  · exact hm
def stCells (x : St) (a t e : Value) : List Value := [.int .i64 x.kind, .string (strOf x.name), a, t, e]
theorem StsAt.one {D : Nat → Prop} {w : World} {b : Nat} (x : St) (a t e : Value) (hD : D b) (h : RowAt w b 0 (stCells x a t e)) (ha : ExsAt D w x.args a) (ht : StsAt D w x.thn t) (he : StsAt D w x.els e) : StsAt D w [x] (.slice (some ⟨b, 0, none⟩) 1 1) := by
  refine .mk [x] _ 1 b 0 (fun _ => a) (fun _ => t) (fun _ => e) (Nat.le_refl _) (by show _ ≤ _; simp) (.inr ⟨rfl, hD⟩) ?_ ?_ ?_ ?_ ?_ ?_ ?_ ?_
  all_goals
    intro i hi
    have hi0 : i = 0 := by simp at hi; omega
    subst hi0
  · exact h.at 0 _ rfl
  · exact h.at 1 _ rfl
  · exact h.at 2 _ rfl
  · exact h.at 3 _ rfl
  · exact h.at 4 _ rfl
  · exact ha
  · exact ht
  · exact he
def fuCells (f : Fu) (p l s : Value) : List Value := [.string (strOf f.name), p, l, s]
theorem FusAt.one {D : Nat → Prop} {w : World} {b : Nat} (f : Fu) (p l s : Value) (hD : D b) (h : RowAt w b 0 (fuCells f p l s)) (hp : StrsAt D w f.params p) (hl : StrsAt D w f.locals l) (hs : StsAt D w f.body s) : FusAt D w [f] (.slice (some ⟨b, 0, none⟩) 1 1) := by
  refine ⟨_, 1, b, 0, fun _ => p, fun _ => l, fun _ => s, rfl, Nat.le_refl _, by show _ ≤ _; simp, .inr ⟨rfl, hD⟩, ?_⟩
  intro i hi
  have hi0 : i = 0 := by simp at hi; omega
  subst hi0
  exact ⟨⟨h.at 0 _ rfl, h.at 1 _ rfl, h.at 2 _ rfl, h.at 3 _ rfl⟩, hp, hl, hs⟩
theorem RowAt.alloc {w : World} {b : Nat} {cs : List Value} (h : RowAt w b 0 cs) (o : Obj) : RowAt (w.alloc o) b 0 cs := h.below ((Below.refl _ _).alloc (Nat.le_refl _) _)
end Go.Proofs.YtcfpfnoldgnloaaGreatDoor
