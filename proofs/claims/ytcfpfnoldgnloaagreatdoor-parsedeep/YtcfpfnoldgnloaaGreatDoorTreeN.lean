/-
  A list of expressions that is being appended to: its own block. No condition.
-/
import Derived.Test.YtcfpfnoldgnloaaGreatDoorSfr
import Derived.Test.YtcfpfnoldgnloaaGreatDoorCells
import Derived.Deep.AppendLies
set_option linter.unusedVariables false
set_option linter.unusedSimpArgs false
namespace Go.Proofs.YtcfpfnoldgnloaaGreatDoor
open Go.RowKit
set_option maxHeartbeats 4000000
set_option maxRecDepth 100000

/-- The blocks that hold it are there. -/
theorem ExsAt.strong {D : Nat → Prop} {w : World} {l : List Ex} {v : Value} (h : ExsAt D w l v) : ExsAt (fun b => D b ∧ b < w.heap.size) w l v := by
  induction h with
  | mk l a cap b off sv hcap hfit ha h0 h1 h2 h3 h4 _ hn ih =>
    refine .mk l a cap b off sv hcap hfit ?_ h0 h1 h2 h3 h4 ih hn
    rcases ha with ha | ⟨ha, hD⟩
    · exact .inl ha
    · rcases Nat.eq_zero_or_pos l.length with hz | hz
      · exact .inl hz
      · exact .inr ⟨ha, hD, World.block_lt_of_cell? _ _ (h0 0 hz)⟩
def exFlat (ps : List (Ex × Value)) : List Value := ps.flatMap fun p => exCells p.1 p.2
theorem exFlat_len : ∀ ps, (exFlat ps).length = ps.length * 5
  | [] => rfl
  | p :: ps => by
    have := exFlat_len ps
    unfold exFlat at *
    simp only [List.flatMap_cons, List.length_append, List.length_cons]
    rw [this]; simp [exCells]; omega
theorem exFlat_at : ∀ (ps : List (Ex × Value)) (i q : Nat) (p : Ex × Value), ps[i]? = some p → q < 5 → (exFlat ps)[i * 5 + q]? = (exCells p.1 p.2)[q]?
  | [], i, q, p, h, _ => by simp at h
  | x :: ps, 0, q, p, h, hq => by
    simp at h; subst h
    unfold exFlat
    rw [List.flatMap_cons, List.getElem?_append_left (by simp [exCells]; omega)]
    simp
  | x :: ps, i + 1, q, p, h, hq => by
    simp at h
    have := exFlat_at ps i q p h hq
    unfold exFlat at *
    rw [List.flatMap_cons, List.getElem?_append_right (by simp [exCells]; omega)]
    rw [← this]; congr 1; simp [exCells]; omega
theorem exFlat_app (a c : List (Ex × Value)) : exFlat (a ++ c) = exFlat a ++ exFlat c := by unfold exFlat; rw [List.flatMap_append]
/-- v holds the expressions of ps, in a block of its own; their parts lie elsewhere. -/
def ExsOwn (w : World) (base : Nat) (ps : List (Ex × Value)) (v : Value) : Prop :=
  w.ownsRow base 27 5 v ps.length (exFlat ps) ∧ ∀ p, p ∈ ps → ExsAt (fun b => base ≤ b ∧ v.ownBlock ≠ some b) w p.1.args p.2 ∧ I64 p.1.n
theorem ExsOwn.zero (w : World) (base : Nat) : ExsOwn w base [] (.slice none 0 0) := ⟨⟨rfl, .inl ⟨rfl, rfl⟩⟩, fun p hp => by cases hp⟩
/-- Where only other blocks change. -/
theorem ExsOwn.keep {w w' : World} {base : Nat} {ps : List (Ex × Value)} {v : Value} (h : ExsOwn w base ps v) (hk : ∀ k, k < w.heap.size → base ≤ k → w'.heap[k]? = w.heap[k]?) : ExsOwn w' base ps v := by
  refine ⟨⟨h.1.1, ?_⟩, fun p hp => ⟨(h.2 p hp).1.keep (fun b off x hb hx => by rw [World.cell?_of_block (w := w) (hk b (World.block_lt_of_cell? _ _ hx) hb.1)]; exact hx), (h.2 p hp).2⟩⟩
  rcases h.1.2 with hn | ⟨g, cap, cur, rfl, hb, hg, r⟩
  · exact .inl hn
  · refine .inr ⟨g, cap, cur, rfl, hb, ?_, r⟩
    rw [hk g (by
      rcases Nat.lt_or_ge g w.heap.size with h' | h'
      · exact h'
      · simp [Array.getElem?_eq_none h'] at hg) hb]
    exact hg
theorem ExsOwn.exs {w : World} {base : Nat} {ps : List (Ex × Value)} {v : Value} (h : ExsOwn w base ps v) (hf : Fits ps.length) : ExsAt (base ≤ ·) w (ps.map (·.1)) v := by
  have hl : (ps.map (·.1)).length = ps.length := List.length_map _
  rcases h.1.2 with ⟨rfl, h0⟩ | ⟨g, cap, cur, rfl, hb, hg, hc, hm, hs, ht⟩
  · have : ps = [] := List.length_eq_zero_iff.1 h0
    subst this; exact ExsAt.zero
  · have cell : ∀ i q p u, ps[i]? = some p → q < 5 → (exCells p.1 p.2)[q]? = some u → w.cell? ⟨g, 0 + i * 5 + q, none⟩ = some u := by
      intro i q p u hp hq hu
      have h1 := h.1.cells (g := g) rfl (i * 5 + q) u (by rw [exFlat_at ps i q p hp hq]; exact hu)
      have h2 : (⟨g, 0, none⟩ : Addr).add (i * 5 + q) = ⟨g, 0 + i * 5 + q, none⟩ := by unfold Addr.add; split <;> simp_all <;> omega
      rwa [h2] at h1
    have get : ∀ i, i < (ps.map (·.1)).length → ∃ p, ps[i]? = some p ∧ exAt (ps.map (·.1)) i = p.1 ∧ p ∈ ps := by
      intro i hi
      rw [hl] at hi
      refine ⟨ps[i], List.getElem?_eq_getElem hi, ?_, List.getElem_mem hi⟩
      simp [exAt, List.getElem?_eq_getElem hi]
    have e := ExsAt.mk (D := (base ≤ ·)) (w := w) (ps.map (·.1)) (some ⟨g, 0, none⟩) cap g 0 (fun i => (ps.getD i (Ex.nil, undef)).2) (by rw [hl]; exact hc) (by rw [hl]; exact hf) (.inr ⟨rfl, hb⟩)
    rw [hl] at e
    have sv : ∀ i p, ps[i]? = some p → (ps.getD i (Ex.nil, undef)).2 = p.2 := fun i p hp => by rw [List.getD_eq_getElem?_getD, hp]; rfl
    have gp : ∀ i, i < ps.length → ∃ p, ps[i]? = some p ∧ exAt (ps.map (·.1)) i = p.1 ∧ p ∈ ps := fun i hi => get i (by rw [hl]; exact hi)
    refine e (fun i hi => ?_) (fun i hi => ?_) (fun i hi => ?_) (fun i hi => ?_) (fun i hi => ?_) (fun i hi => ?_) (fun i hi => ?_)
    all_goals
      obtain ⟨p, hp, hx, hm⟩ := gp i hi
      try rw [hx]
      try rw [sv i p hp]
    · exact cell i 0 p _ hp (by omega) rfl
    · exact cell i 1 p _ hp (by omega) rfl
    · exact cell i 2 p _ hp (by omega) rfl
    · exact cell i 3 p _ hp (by omega) rfl
    · exact cell i 4 p _ hp (by omega) rfl
    · exact (h.2 p hm).1.mono (fun b hb => hb.1)
    · exact (h.2 p hm).2
/-- An expression behind the others. -/
theorem ExsOwn.snoc {w w' : World} {base : Nat} {ps : List (Ex × Value)} {v : Value} (h : ExsOwn w base ps v) (x : Ex) (xv : Value) (hx : ExsAt (fun b => base ≤ b ∧ v.ownBlock ≠ some b) w x.args xv) (hn : I64 x.n) {g cap : Nat}
    (hown : w'.ownsRow base 27 5 (.slice (some ⟨g, 0, none⟩) (ps.length + 1) cap) (ps.length + 1) (exFlat ps ++ exCells x xv)) (hgrow : w.grownBy w' v.ownBlock) (hg : v.ownBlock = some g ∨ g = w.heap.size) :
    ExsOwn w' base (ps ++ [(x, xv)]) (.slice (some ⟨g, 0, none⟩) (ps.length + 1) cap) := by
  have hl : (ps ++ [(x, xv)]).length = ps.length + 1 := by simp
  have hfl : exFlat (ps ++ [(x, xv)]) = exFlat ps ++ exCells x xv := by rw [exFlat_app]; simp [exFlat]
  have keep : ∀ (l : List Ex) (u : Value), ExsAt (fun b => base ≤ b ∧ v.ownBlock ≠ some b) w l u → ExsAt (fun b => base ≤ b ∧ (Value.slice (some ⟨g, 0, none⟩) (ps.length + 1) cap).ownBlock ≠ some b) w' l u := by
    intro l u hu
    have h1 : ExsAt (fun b => (base ≤ b ∧ v.ownBlock ≠ some b) ∧ b < w.heap.size) w l u := hu.strong
    have h2 : ExsAt (fun b => (base ≤ b ∧ v.ownBlock ≠ some b) ∧ b < w.heap.size) w' l u := h1.keep (fun b off y hb hy => hgrow.cell hy (fun e => hb.1.2 e.symm))
    refine h2.mono (fun b hb => ⟨hb.1.1, ?_⟩)
    show some g ≠ some b
    intro e
    cases e
    rcases hg with hg | hg
    · exact hb.1.2 hg
    · omega
  refine ⟨by rw [hl, hfl]; exact hown, fun p hp => ?_⟩
  rcases List.mem_append.1 hp with hp | hp
  · exact ⟨keep _ _ (h.2 p hp).1, (h.2 p hp).2⟩
  · rw [List.mem_singleton.1 hp]; exact ⟨keep _ _ hx, hn⟩
end Go.Proofs.YtcfpfnoldgnloaaGreatDoor
