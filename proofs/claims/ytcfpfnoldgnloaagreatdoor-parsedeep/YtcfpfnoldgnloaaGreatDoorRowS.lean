/-
  A list of statements that is being appended to: its own block. No condition.
-/
import Derived.Test.YtcfpfnoldgnloaaGreatDoorTreeN
set_option linter.unusedVariables false
set_option linter.unusedSimpArgs false
namespace Go.Proofs.YtcfpfnoldgnloaaGreatDoor
open Go.RowKit
set_option maxHeartbeats 4000000
set_option maxRecDepth 100000

theorem infoSt : (Tryz.prog.info? 60).map (fun i => (i.zero, i.size, i.bytes)) = some (some (.agg #[.int .i64 0, .string ⟨#[]⟩, .slice none 0 0, .slice none 0 0, .slice none 0 0]), 5, 96) := by kernel_rfl
theorem ExsAt.strongS {D : Nat → Prop} {w : World} {l : List Ex} {v : Value} (h : ExsAt D w l v) : ExsAt (fun b => D b ∧ b < w.heap.size) w l v := h.strong
theorem StsAt.strong {D : Nat → Prop} {w : World} {l : List St} {v : Value} (h : StsAt D w l v) : StsAt (fun b => D b ∧ b < w.heap.size) w l v := by
  induction h with
  | mk l a cap b off sa st se hcap hfit ha h0 h1 h2 h3 h4 ea _ _ ih1 ih2 =>
    refine .mk l a cap b off sa st se hcap hfit ?_ h0 h1 h2 h3 h4 (fun i hi => (ea i hi).strong) ih1 ih2
    rcases ha with ha | ⟨ha, hD⟩
    · exact .inl ha
    · rcases Nat.eq_zero_or_pos l.length with hz | hz
      · exact .inl hz
      · exact .inr ⟨ha, hD, World.block_lt_of_cell? _ _ (h0 0 hz)⟩
/-- A statement, and the values of its three slices. -/
structure StV where
  x : St
  a : Value
  t : Value
  e : Value
def stFlat (ps : List StV) : List Value := ps.flatMap fun p => stCells p.x p.a p.t p.e
theorem stFlat_len : ∀ ps, (stFlat ps).length = ps.length * 5
  | [] => rfl
  | p :: ps => by
    have := stFlat_len ps
    unfold stFlat at *
    simp only [List.flatMap_cons, List.length_append, List.length_cons]
    rw [this]; simp [stCells]; omega
theorem stFlat_at : ∀ (ps : List StV) (i q : Nat) (p : StV), ps[i]? = some p → q < 5 → (stFlat ps)[i * 5 + q]? = (stCells p.x p.a p.t p.e)[q]?
  | [], i, q, p, h, _ => by simp at h
  | x :: ps, 0, q, p, h, hq => by
    simp at h; subst h
    unfold stFlat
    rw [List.flatMap_cons, List.getElem?_append_left (by simp [stCells]; omega)]
    simp
  | x :: ps, i + 1, q, p, h, hq => by
    simp at h
    have := stFlat_at ps i q p h hq
    unfold stFlat at *
    rw [List.flatMap_cons, List.getElem?_append_right (by simp [stCells]; omega)]
    rw [← this]; congr 1; simp [stCells]; omega
theorem stFlat_app (a c : List StV) : stFlat (a ++ c) = stFlat a ++ stFlat c := by unfold stFlat; rw [List.flatMap_append]
/-- The parts of a statement lie in the blocks D. -/
def StParts (D : Nat → Prop) (w : World) (p : StV) : Prop := ExsAt D w p.x.args p.a ∧ StsAt D w p.x.thn p.t ∧ StsAt D w p.x.els p.e
theorem StParts.keep {D : Nat → Prop} {w w' : World} (hk : Keeps D w w') {p : StV} (h : StParts D w p) : StParts D w' p := ⟨h.1.keep hk, h.2.1.keep hk, h.2.2.keep hk⟩
theorem StParts.mono {D D' : Nat → Prop} {w : World} (hD : ∀ b, D b → D' b) {p : StV} (h : StParts D w p) : StParts D' w p := ⟨h.1.mono hD, h.2.1.mono hD, h.2.2.mono hD⟩
theorem StParts.strong {D : Nat → Prop} {w : World} {p : StV} (h : StParts D w p) : StParts (fun b => D b ∧ b < w.heap.size) w p := ⟨h.1.strong, h.2.1.strong, h.2.2.strong⟩
/-- v holds the statements of ps, in a block of its own; their parts lie elsewhere. -/
def StsOwn (w : World) (base : Nat) (ps : List StV) (v : Value) : Prop :=
  w.ownsRow base 60 5 v ps.length (stFlat ps) ∧ ∀ p, p ∈ ps → StParts (fun b => base ≤ b ∧ v.ownBlock ≠ some b) w p
theorem StsOwn.zero (w : World) (base : Nat) : StsOwn w base [] (.slice none 0 0) := ⟨⟨rfl, .inl ⟨rfl, rfl⟩⟩, fun p hp => by cases hp⟩
/-- Where only other blocks change. -/
theorem StsOwn.keep {w w' : World} {base : Nat} {ps : List StV} {v : Value} (h : StsOwn w base ps v) (hk : ∀ k, k < w.heap.size → base ≤ k → w'.heap[k]? = w.heap[k]?) : StsOwn w' base ps v := by
  refine ⟨⟨h.1.1, ?_⟩, fun p hp => (h.2 p hp).keep (fun b off x hb hx => by rw [World.cell?_of_block (w := w) (hk b (World.block_lt_of_cell? _ _ hx) hb.1)]; exact hx)⟩
  rcases h.1.2 with hn | ⟨g, cap, cur, rfl, hb, hg, r⟩
  · exact .inl hn
  · refine .inr ⟨g, cap, cur, rfl, hb, ?_, r⟩
    rw [hk g (by
      rcases Nat.lt_or_ge g w.heap.size with h' | h'
      · exact h'
      · simp [Array.getElem?_eq_none h'] at hg) hb]
    exact hg
theorem StsOwn.sfr {s : Nat} {w w' : World} {base : Nat} {ps : List StV} {v : Value} (h : StsOwn w base ps v) (hf : SFr s w w') (hs : s < base) : StsOwn w' base ps v := h.keep (fun k h1 h2 => hf.block k h1 (by omega))
theorem ExsOwn.sfr {s : Nat} {w w' : World} {base : Nat} {ps : List (Ex × Value)} {v : Value} (h : ExsOwn w base ps v) (hf : SFr s w w') (hs : s < base) : ExsOwn w' base ps v := h.keep (fun k h1 h2 => hf.block k h1 (by omega))
theorem ExsOwn.below {w w' : World} {base : Nat} {ps : List (Ex × Value)} {v : Value} (h : ExsOwn w base ps v) (hb : Below w.heap.size w w') : ExsOwn w' base ps v := h.keep (fun k h1 h2 => hb.block k h1)
theorem ExsOwn.other {w : World} {base : Nat} {ps : List (Ex × Value)} {v : Value} (h : ExsOwn w base ps v) {k : Nat} (hk : k < base) (i : Nat) (u : Value) : ExsOwn (w.setCell ⟨k, i, none⟩ u) base ps v := h.keep (fun b h1 h2 => Below.heap_setCell _ _ _ _ (by show b ≠ k; omega))
theorem StsOwn.shape {w : World} {base : Nat} {ps : List StV} {v : Value} (h : StsOwn w base ps v) : ∃ a cap, v = .slice a ps.length cap := by
  rcases h.1.2 with ⟨rfl, h0⟩ | ⟨g, cap, cur, rfl, _⟩
  · exact ⟨none, 0, by rw [h0]⟩
  · exact ⟨_, _, rfl⟩
theorem StsOwn.ge {w : World} {base : Nat} {ps : List StV} {v : Value} (h : StsOwn w base ps v) {k : Nat} (hk : v.ownBlock = some k) : base ≤ k ∧ k < w.heap.size := h.1.lt k hk
theorem StsOwn.sts {w : World} {base : Nat} {ps : List StV} {v : Value} (h : StsOwn w base ps v) (hf : Fits ps.length) : StsAt (base ≤ ·) w (ps.map (·.x)) v := by
  have hl : (ps.map (·.x)).length = ps.length := List.length_map _
  rcases h.1.2 with ⟨rfl, h0⟩ | ⟨g, cap, cur, rfl, hb, hg, hc, hm, hs, ht⟩
  · have : ps = [] := List.length_eq_zero_iff.1 h0
    subst this; exact StsAt.zero
  · have cell : ∀ i q p u, ps[i]? = some p → q < 5 → (stCells p.x p.a p.t p.e)[q]? = some u → w.cell? ⟨g, 0 + i * 5 + q, none⟩ = some u := by
      intro i q p u hp hq hu
      have h1 := h.1.cells (g := g) rfl (i * 5 + q) u (by rw [stFlat_at ps i q p hp hq]; exact hu)
      have h2 : (⟨g, 0, none⟩ : Addr).add (i * 5 + q) = ⟨g, 0 + i * 5 + q, none⟩ := by unfold Addr.add; split <;> simp_all <;> omega
      rwa [h2] at h1
    have gp : ∀ i, i < ps.length → ∃ p, ps[i]? = some p ∧ stAt (ps.map (·.x)) i = p.x ∧ p ∈ ps := by
      intro i hi
      refine ⟨ps[i], List.getElem?_eq_getElem hi, ?_, List.getElem_mem hi⟩
      simp [stAt, List.getElem?_eq_getElem hi]
    let z : StV := ⟨St.nil, undef, undef, undef⟩
    have e := StsAt.mk (D := (base ≤ ·)) (w := w) (ps.map (·.x)) (some ⟨g, 0, none⟩) cap g 0 (fun i => (ps.getD i z).a) (fun i => (ps.getD i z).t) (fun i => (ps.getD i z).e) (by rw [hl]; exact hc) (by rw [hl]; exact hf) (.inr ⟨rfl, hb⟩)
    rw [hl] at e
    have sv : ∀ i p, ps[i]? = some p → ps.getD i z = p := fun i p hp => by rw [List.getD_eq_getElem?_getD, hp]; rfl
    refine e (fun i hi => ?_) (fun i hi => ?_) (fun i hi => ?_) (fun i hi => ?_) (fun i hi => ?_) (fun i hi => ?_) (fun i hi => ?_) (fun i hi => ?_)
    all_goals
      obtain ⟨p, hp, hx, hm⟩ := gp i hi
      try rw [hx]
      try rw [sv i p hp]
    · exact cell i 0 p _ hp (by omega) rfl
    · exact cell i 1 p _ hp (by omega) rfl
    · exact cell i 2 p _ hp (by omega) rfl
    · exact cell i 3 p _ hp (by omega) rfl
    · exact cell i 4 p _ hp (by omega) rfl
    · exact (h.2 p hm).1.mono (fun b hb => hb.1)
    · exact (h.2 p hm).2.1.mono (fun b hb => hb.1)
    · exact (h.2 p hm).2.2.mono (fun b hb => hb.1)
/-- A statement behind the others. -/
theorem StsOwn.snoc {w w' : World} {base : Nat} {ps : List StV} {v : Value} (h : StsOwn w base ps v) (p : StV) (hx : StParts (fun b => base ≤ b ∧ v.ownBlock ≠ some b) w p) {g cap : Nat}
    (hown : w'.ownsRow base 60 5 (.slice (some ⟨g, 0, none⟩) (ps.length + 1) cap) (ps.length + 1) (stFlat ps ++ stCells p.x p.a p.t p.e)) (hgrow : w.grownBy w' v.ownBlock) (hg : v.ownBlock = some g ∨ g = w.heap.size) :
    StsOwn w' base (ps ++ [p]) (.slice (some ⟨g, 0, none⟩) (ps.length + 1) cap) := by
  have hl : (ps ++ [p]).length = ps.length + 1 := by simp
  have hfl : stFlat (ps ++ [p]) = stFlat ps ++ stCells p.x p.a p.t p.e := by rw [stFlat_app]; simp [stFlat]
  have keep : ∀ q : StV, StParts (fun b => base ≤ b ∧ v.ownBlock ≠ some b) w q → StParts (fun b => base ≤ b ∧ (Value.slice (some ⟨g, 0, none⟩) (ps.length + 1) cap).ownBlock ≠ some b) w' q := by
    intro q hu
    have h1 : StParts (fun b => (base ≤ b ∧ v.ownBlock ≠ some b) ∧ b < w.heap.size) w q := hu.strong
    have h2 : StParts (fun b => (base ≤ b ∧ v.ownBlock ≠ some b) ∧ b < w.heap.size) w' q := h1.keep (fun b off y hb hy => hgrow.cell hy (fun e => hb.1.2 e.symm))
    refine h2.mono (fun b hb => ⟨hb.1.1, ?_⟩)
    show some g ≠ some b
    intro e
    cases e
    rcases hg with hg | hg
    · exact hb.1.2 hg
    · omega
  refine ⟨by rw [hl, hfl]; exact hown, fun q hq => ?_⟩
  rcases List.mem_append.1 hq with hq | hq
  · exact keep _ (h.2 q hq)
  · rw [List.mem_singleton.1 hq]; exact keep _ hx
theorem st_one (x : St) (a b c : Option Addr) (n m k i j l : Nat) : ∀ u, u ∈ stCells x (.slice a n i) (.slice b m j) (.slice c k l) → u.oneCell' = true := by
  intro u hu
  simp only [stCells, List.mem_cons, List.not_mem_nil, or_false] at hu
  rcases hu with rfl | rfl | rfl | rfl | rfl <;> rfl
end Go.Proofs.YtcfpfnoldgnloaaGreatDoor
