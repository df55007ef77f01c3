/-
  Lists of arrays and of functions that are appended to: their own blocks. No condition.
  A region that draws its order, by an invariant of what is done already. No condition.
  Codes of Prog. No condition.
  Prog: an array's name and size, in whatever order. Conditions: the source lies in memory.
  Prog: a function's name and params, in whatever order. Conditions: the source lies in memory.
  Prog: the names that a body may read. Conditions: the function and the scope lie in memory.
-/
import Derived.Test.YtgmaeflfiooigaaGreatDoorTreeW
import Derived.Maps.AppendAt
set_option linter.unusedVariables false
set_option linter.unusedSimpArgs false
namespace Go.Proofs.YtgmaeflfiooigaaGreatDoor
open Go.RowKit
set_option maxHeartbeats 4000000
set_option maxRecDepth 100000

theorem infoAr : (Tryz.prog.info? 73).map (fun i => (i.zero, i.size, i.bytes)) = some (some (.agg #[.string ⟨#[]⟩, .int .i64 0]), 2, 24) := by kernel_rfl
theorem infoFu : (Tryz.prog.info? 52).map (fun i => (i.zero, i.size, i.bytes)) = some (some (.agg #[.string ⟨#[]⟩, .slice none 0 0, .slice none 0 0, .slice none 0 0]), 4, 88) := by kernel_rfl
theorem infoStr : (Tryz.prog.info? 9).map (fun i => (i.zero, i.size, i.bytes)) = some (some (.string ⟨#[]⟩), 1, 16) := by kernel_rfl
/-- The blocks of D stay whole. -/
def BKeeps (D : Nat → Prop) (w w' : World) : Prop := ∀ k, D k → k < w.heap.size → w'.heap[k]? = w.heap[k]?
theorem BKeeps.keeps {D : Nat → Prop} {w w' : World} (h : BKeeps D w w') : Keeps D w w' := fun b off x hD hx => by
  rw [World.cell?_of_block (w := w) (h b hD (World.block_lt_of_cell? _ _ hx))]; exact hx
theorem BKeeps.mono {D D' : Nat → Prop} {w w' : World} (h : BKeeps D' w w') (hD : ∀ b, D b → D' b) : BKeeps D w w' := fun k hk hl => h k (hD k hk) hl
theorem BKeeps.below {D : Nat → Prop} {w w' : World} (h : Below w.heap.size w w') : BKeeps D w w' := fun k _ hl => h.block k hl
theorem BKeeps.sfr {s : Nat} {D : Nat → Prop} {w w' : World} (h : SFr s w w') (hD : ∀ b, D b → b ≠ s) : BKeeps D w w' := fun k hk hl => h.block k hl (hD k hk)
theorem BKeeps.set {D : Nat → Prop} (w : World) {k : Nat} (hD : ¬ D k) (i : Nat) (v : Value) : BKeeps D w (w.setCell ⟨k, i, none⟩ v) := fun b hb hl => Below.heap_setCell _ _ _ _ (by rintro rfl; exact hD hb)
theorem row_keep {D : Nat → Prop} {w w' : World} {base size n : Nat} {e : TypeId} {v : Value} {xs : List Value} (h : w.ownsRow base e size v n xs) (hD : ∀ k, v.ownBlock = some k → D k) (hk : BKeeps D w w') : w'.ownsRow base e size v n xs := by
  refine ⟨h.1, ?_⟩
  rcases h.2 with hn | ⟨g, cap, cur, rfl, hb, hg, r⟩
  · exact .inl hn
  · refine .inr ⟨g, cap, cur, rfl, hb, ?_, r⟩
    rw [hk g (hD g rfl) (by
      rcases Nat.lt_or_ge g w.heap.size with h' | h'
      · exact h'
      · simp [Array.getElem?_eq_none h'] at hg)]
    exact hg
theorem row_cells {w : World} {base size n g : Nat} {e : TypeId} {cap : Nat} {xs : List Value} (h : w.ownsRow base e size (.slice (some ⟨g, 0, none⟩) n cap) n xs) (j : Nat) (u : Value) (hu : xs[j]? = some u) : w.cell? ⟨g, 0 + j, none⟩ = some u := by
  have h1 := h.cells (g := g) rfl j u hu
  have h2 : (⟨g, 0, none⟩ : Addr).add j = ⟨g, 0 + j, none⟩ := by unfold Addr.add; split <;> simp_all
  rwa [h2] at h1
theorem flat_len {α : Type} (f : α → List Value) (k : Nat) (hf : ∀ x, (f x).length = k) : ∀ l : List α, (l.flatMap f).length = l.length * k
  | [] => by simp
  | x :: l => by
    have := flat_len f k hf l
    simp only [List.flatMap_cons, List.length_append, List.length_cons]
    rw [this, hf, Nat.add_mul]; omega
theorem flat_at {α : Type} (f : α → List Value) (k : Nat) (hf : ∀ x, (f x).length = k) : ∀ (l : List α) (i q : Nat) (p : α), l[i]? = some p → q < k → (l.flatMap f)[i * k + q]? = (f p)[q]?
  | [], i, q, p, h, _ => by simp at h
  | x :: l, 0, q, p, h, hq => by
    simp at h; subst h
    rw [List.flatMap_cons, List.getElem?_append_left (by rw [hf]; omega)]
    simp
  | x :: l, i + 1, q, p, h, hq => by
    simp at h
    have := flat_at f k hf l i q p h hq
    rw [List.flatMap_cons, List.getElem?_append_right (by rw [hf, Nat.add_mul]; omega), ← this]
    congr 1; rw [hf, Nat.add_mul]; omega

/-- Arrays in a block of their own. -/
def arCells (a : Ar) : List Value := [.string (strOf a.name), .int .i64 a.size]
def ArsOwn (w : World) (base : Nat) (l : List Ar) (v : Value) : Prop := w.ownsRow base 73 2 v l.length (l.flatMap arCells)
theorem ArsOwn.zero (w : World) (base : Nat) : ArsOwn w base [] (.slice none 0 0) := ⟨rfl, .inl ⟨rfl, rfl⟩⟩
theorem ArsOwn.shape {w : World} {base : Nat} {l : List Ar} {v : Value} (h : ArsOwn w base l v) : ∃ a cap, v = .slice a l.length cap := by
  rcases h.2 with ⟨rfl, h0⟩ | ⟨g, cap, cur, rfl, _⟩
  · exact ⟨none, 0, by rw [h0]⟩
  · exact ⟨_, _, rfl⟩
theorem ArsOwn.ge {w : World} {base : Nat} {l : List Ar} {v : Value} (h : ArsOwn w base l v) {k : Nat} (hk : v.ownBlock = some k) : base ≤ k ∧ k < w.heap.size := World.ownsRow.lt h k hk
theorem ArsOwn.keep {w w' : World} {base : Nat} {l : List Ar} {v : Value} (h : ArsOwn w base l v) (hk : BKeeps (base ≤ ·) w w') : ArsOwn w' base l v := row_keep h (fun k e => (h.ge e).1) hk
theorem ArsOwn.ars {w : World} {base : Nat} {l : List Ar} {v : Value} (h : ArsOwn w base l v) (hf : Fits l.length) : ArsAt (base ≤ ·) w l v := by
  have h0 := h
  rcases h.2 with ⟨rfl, hz⟩ | ⟨g, cap, cur, rfl, hb, hg, hc, hm, hs, ht⟩
  · have : l = [] := List.length_eq_zero_iff.1 hz
    subst this; exact ArsAt.zero
  · refine ⟨_, cap, g, 0, rfl, hc, hf, .inr ⟨rfl, hb⟩, fun i hi => ?_⟩
    have hp : l[i]? = some (arAt l i) := by simp [arAt, List.getElem?_eq_getElem hi]
    have f0 := flat_at arCells 2 (fun _ => rfl) l i 0 _ hp (by decide)
    have f1 := flat_at arCells 2 (fun _ => rfl) l i 1 _ hp (by decide)
    have c0 := row_cells h0 (i * 2 + 0) _ f0
    have c1 := row_cells h0 (i * 2 + 1) _ f1
    rw [show 0 + (i * 2 + 0) = 0 + i * 2 by omega] at c0
    rw [show 0 + (i * 2 + 1) = 0 + i * 2 + 1 by omega] at c1
    exact ⟨c0, c1⟩
theorem ArsOwn.snoc {w' : World} {base : Nat} {l : List Ar} (a : Ar) {g cap : Nat} (hown : w'.ownsRow base 73 2 (.slice (some ⟨g, 0, none⟩) (l.length + 1) cap) (l.length + 1) (l.flatMap arCells ++ arCells a)) :
    ArsOwn w' base (l ++ [a]) (.slice (some ⟨g, 0, none⟩) (l.length + 1) cap) := by
  unfold ArsOwn
  rw [List.length_append, List.flatMap_append]
  simpa using hown
theorem arCells_one (a : Ar) : ∀ u, u ∈ arCells a → u.oneCell' = true := by
  intro u hu
  simp only [arCells, List.mem_cons, List.not_mem_nil, or_false] at hu
  rcases hu with rfl | rfl <;> rfl

/-- Statements in a block of D, their parts in D too. -/
def StsOwnD (w : World) (D : Nat → Prop) (ls : List StV) (v : Value) : Prop :=
  w.ownsRow 0 49 5 v ls.length (stFlat ls) ∧ (∀ k, v.ownBlock = some k → D k ∧ k < w.heap.size) ∧ ∀ p, p ∈ ls → StParts (fun k => D k ∧ v.ownBlock ≠ some k) w p
theorem row_base {w : World} {base size n : Nat} {e : TypeId} {v : Value} {xs : List Value} (h : w.ownsRow base e size v n xs) {b' : Nat} (hb : ∀ k, v.ownBlock = some k → b' ≤ k) : w.ownsRow b' e size v n xs := by
  refine ⟨h.1, ?_⟩
  rcases h.2 with hn | ⟨g, cap, cur, rfl, _, r⟩
  · exact .inl hn
  · exact .inr ⟨g, cap, cur, rfl, hb g rfl, r⟩
theorem StsOwn.toD {w : World} {base : Nat} {ls : List StV} {v : Value} (h : StsOwn w base ls v) : StsOwnD w (base ≤ ·) ls v :=
  ⟨row_base h.1 (fun _ _ => Nat.zero_le _), fun k e => h.ge e, h.2⟩
theorem StsOwnD.zero (w : World) (D : Nat → Prop) : StsOwnD w D [] (.slice none 0 0) := ⟨⟨rfl, .inl ⟨rfl, rfl⟩⟩, fun k e => (by cases e), fun p hp => (by cases hp)⟩
theorem StsOwnD.keep {D : Nat → Prop} {w w' : World} {ls : List StV} {v : Value} (h : StsOwnD w D ls v) (hk : BKeeps D w w') (hz : w.heap.size ≤ w'.heap.size) : StsOwnD w' D ls v :=
  ⟨row_keep h.1 (fun k e => (h.2.1 k e).1) hk, fun k e => ⟨(h.2.1 k e).1, Nat.lt_of_lt_of_le (h.2.1 k e).2 hz⟩, fun p hp => (h.2.2 p hp).keep (hk.mono (fun b hb => hb.1)).keeps⟩
theorem StsOwnD.mono {D D' : Nat → Prop} {w : World} {ls : List StV} {v : Value} (h : StsOwnD w D ls v) (hD : ∀ b, D b → b < w.heap.size → D' b) : StsOwnD w D' ls v :=
  ⟨h.1, fun k e => ⟨hD k (h.2.1 k e).1 (h.2.1 k e).2, (h.2.1 k e).2⟩, fun p hp => (h.2.2 p hp).strong.mono (fun b hb => ⟨hD b hb.1.1 hb.2, hb.1.2⟩)⟩
theorem StsOwnD.shape {D : Nat → Prop} {w : World} {ps : List StV} {v : Value} (h : StsOwnD w D ps v) : ∃ a cap, v = .slice a ps.length cap := by
  rcases h.1.2 with ⟨rfl, h0⟩ | ⟨g, cap, cur, rfl, _⟩
  · exact ⟨none, 0, by rw [h0]⟩
  · exact ⟨_, _, rfl⟩
theorem StsOwnD.sts {D : Nat → Prop} {w : World} {ps : List StV} {v : Value} (h : StsOwnD w D ps v) (hf : Fits ps.length) : StsAt D w (ps.map (·.x)) v := by
  have hl : (ps.map (·.x)).length = ps.length := List.length_map _
  rcases h.1.2 with ⟨rfl, h0⟩ | ⟨g, cap, cur, rfl, hb, hg, hc, hm, hs, ht⟩
  · have : ps = [] := List.length_eq_zero_iff.1 h0
    subst this; exact StsAt.zero
  · have cell : ∀ i q p u, ps[i]? = some p → q < 5 → (stCells p.x p.a p.t p.e)[q]? = some u → w.cell? ⟨g, 0 + i * 5 + q, none⟩ = some u := by
      intro i q p u hp hq hu
      have h1 := row_cells h.1 (i * 5 + q) u (by rw [stFlat_at ps i q p hp hq]; exact hu)
      rwa [show 0 + (i * 5 + q) = 0 + i * 5 + q by omega] at h1
    have gp : ∀ i, i < ps.length → ∃ p, ps[i]? = some p ∧ stAt (ps.map (·.x)) i = p.x ∧ p ∈ ps := by
      intro i hi
      refine ⟨ps[i], List.getElem?_eq_getElem hi, ?_, List.getElem_mem hi⟩
      simp [stAt, List.getElem?_eq_getElem hi]
    let z : StV := ⟨St.nil, undef, undef, undef⟩
    have e := StsAt.mk (D := D) (w := w) (ps.map (·.x)) (some ⟨g, 0, none⟩) cap g 0 (fun i => (ps.getD i z).a) (fun i => (ps.getD i z).t) (fun i => (ps.getD i z).e) (by rw [hl]; exact hc) (by rw [hl]; exact hf) (.inr ⟨rfl, (h.2.1 g rfl).1⟩)
    rw [hl] at e
    have sv : ∀ i p, ps[i]? = some p → ps.getD i z = p := fun i p hp => by rw [List.getD_eq_getElem?_getD, hp]; rfl
    refine e (fun i hi => ?_) (fun i hi => ?_) (fun i hi => ?_) (fun i hi => ?_) (fun i hi => ?_) (fun i hi => ?_) (fun i hi => ?_) (fun i hi => ?_)
    all_goals
      obtain ⟨p, hp, hx, hm⟩ := gp i hi
      try rw [hx]
      try rw [sv i p hp]
    · exact cell i 0 p _ hp (by omega) rfl
    · exact cell i 1 p _ hp (by omega) rfl
    · exact cell i 2 p _ hp (by omega) rfl
    · exact cell i 3 p _ hp (by omega) rfl
    · exact cell i 4 p _ hp (by omega) rfl
    · exact (h.2.2 p hm).1.mono (fun b hb => hb.1)
    · exact (h.2.2 p hm).2.1.mono (fun b hb => hb.1)
    · exact (h.2.2 p hm).2.2.mono (fun b hb => hb.1)
theorem StrsAt.strong {D : Nat → Prop} {w : World} {l : List Bs} {v : Value} (h : StrsAt D w l v) : StrsAt (fun b => D b ∧ b < w.heap.size) w l v := by
  obtain ⟨a, cap, b, off, hv, h1, h2, h3, h4⟩ := h
  refine ⟨a, cap, b, off, hv, h1, h2, ?_, h4⟩
  rcases h3 with h3 | ⟨ha, hD⟩
  · exact .inl h3
  · rcases Nat.eq_zero_or_pos l.length with hz | hz
    · exact .inl hz
    · exact .inr ⟨ha, hD, World.block_lt_of_cell? _ _ (h4 0 hz)⟩
/-- A function, and the values of its slices. -/
structure FuV where
  x : Fu
  p : Value
  l : Value
  b : Value
def fvCells (p : FuV) : List Value := [.string (strOf p.x.name), p.p, p.l, p.b]
def FuParts (D : Nat → Prop) (w : World) (p : FuV) : Prop := StrsAt D w p.x.params p.p ∧ StrsAt D w p.x.locals p.l ∧ ∃ ls, ls.map (·.x) = p.x.body ∧ ls.length ≤ 4 ∧ StsOwnD w D ls p.b
theorem FuParts.keep {D : Nat → Prop} {w w' : World} {p : FuV} (h : FuParts D w p) (hk : BKeeps D w w') (hz : w.heap.size ≤ w'.heap.size) : FuParts D w' p := by
  obtain ⟨h1, h2, ls, h3, h4, h5⟩ := h
  exact ⟨h1.keep hk.keeps, h2.keep hk.keeps, ls, h3, h4, h5.keep hk hz⟩
theorem FuParts.mono {D D' : Nat → Prop} {w : World} {p : FuV} (h : FuParts D w p) (hD : ∀ b, D b → b < w.heap.size → D' b) : FuParts D' w p := by
  obtain ⟨h1, h2, ls, h3, h4, h5⟩ := h
  exact ⟨h1.strong.mono (fun b hb => hD b hb.1 hb.2), h2.strong.mono (fun b hb => hD b hb.1 hb.2), ls, h3, h4, h5.mono hD⟩
/-- Functions in a block of their own; their parts lie elsewhere. -/
def FusOwn (w : World) (base : Nat) (ps : List FuV) (v : Value) : Prop :=
  w.ownsRow base 52 4 v ps.length (ps.flatMap fvCells) ∧ ∀ p, p ∈ ps → FuParts (fun b => base ≤ b ∧ v.ownBlock ≠ some b) w p
theorem FusOwn.zero (w : World) (base : Nat) : FusOwn w base [] (.slice none 0 0) := ⟨⟨rfl, .inl ⟨rfl, rfl⟩⟩, fun p hp => by cases hp⟩
theorem FusOwn.shape {w : World} {base : Nat} {ps : List FuV} {v : Value} (h : FusOwn w base ps v) : ∃ a cap, v = .slice a ps.length cap := by
  rcases h.1.2 with ⟨rfl, h0⟩ | ⟨g, cap, cur, rfl, _⟩
  · exact ⟨none, 0, by rw [h0]⟩
  · exact ⟨_, _, rfl⟩
theorem FusOwn.ge {w : World} {base : Nat} {ps : List FuV} {v : Value} (h : FusOwn w base ps v) {k : Nat} (hk : v.ownBlock = some k) : base ≤ k ∧ k < w.heap.size := World.ownsRow.lt h.1 k hk
theorem FusOwn.keep {w w' : World} {base : Nat} {ps : List FuV} {v : Value} (h : FusOwn w base ps v) (hk : BKeeps (base ≤ ·) w w') (hz : w.heap.size ≤ w'.heap.size) : FusOwn w' base ps v :=
  ⟨row_keep h.1 (fun k e => (h.ge e).1) hk, fun p hp => (h.2 p hp).keep (hk.mono (fun b hb => hb.1)) hz⟩
theorem FusOwn.fus {w : World} {base : Nat} {ps : List FuV} {v : Value} (h : FusOwn w base ps v) (hf : Fits ps.length) : FusAt (base ≤ ·) w (ps.map (·.x)) v := by
  have hl : (ps.map (·.x)).length = ps.length := List.length_map _
  rcases h.1.2 with ⟨rfl, hz⟩ | ⟨g, cap, cur, rfl, hb, hg, hc, hm, hs, ht⟩
  · have : ps = [] := List.length_eq_zero_iff.1 hz
    subst this; exact FusAt.zero
  · let z : FuV := ⟨Fu.nil, undef, undef, undef⟩
    refine ⟨some ⟨g, 0, none⟩, cap, g, 0, (fun i => (ps.getD i z).p), (fun i => (ps.getD i z).l), (fun i => (ps.getD i z).b), by rw [hl], by rw [hl]; exact hc, by rw [hl]; exact hf, .inr ⟨rfl, hb⟩, fun i hi => ?_⟩
    rw [hl] at hi
    obtain ⟨p, hp, hx, hm⟩ : ∃ p, ps[i]? = some p ∧ fuAt (ps.map (·.x)) i = p.x ∧ p ∈ ps := ⟨ps[i], List.getElem?_eq_getElem hi, by simp [fuAt, List.getElem?_eq_getElem hi], List.getElem_mem hi⟩
    have sv : ps.getD i z = p := by rw [List.getD_eq_getElem?_getD, hp]; rfl
    rw [hx]
    dsimp only
    rw [sv]
    have cell : ∀ q u, q < 4 → (fvCells p)[q]? = some u → w.cell? ⟨g, 0 + i * 4 + q, none⟩ = some u := by
      intro q u hq hu
      have h1 := row_cells h.1 (i * 4 + q) u (by rw [flat_at fvCells 4 (fun _ => rfl) ps i q p hp hq]; exact hu)
      rwa [show 0 + (i * 4 + q) = 0 + i * 4 + q by omega] at h1
    obtain ⟨h1, h2, ls, h3, h4, h5⟩ := h.2 p hm
    have h6 := h5.sts (show ls.length ≤ 140737488355328 by omega)
    rw [h3] at h6
    exact ⟨⟨cell 0 _ (by decide) rfl, cell 1 _ (by decide) rfl, cell 2 _ (by decide) rfl, cell 3 _ (by decide) rfl⟩, h1.mono (fun b hb => hb.1), h2.mono (fun b hb => hb.1), h6.mono (fun b hb => hb.1)⟩
theorem FusOwn.snoc {w w' : World} {base : Nat} {ps : List FuV} {v : Value} (h : FusOwn w base ps v) (p : FuV) (hx : FuParts (fun b => base ≤ b ∧ v.ownBlock ≠ some b) w p) {g cap : Nat}
    (hown : w'.ownsRow base 52 4 (.slice (some ⟨g, 0, none⟩) (ps.length + 1) cap) (ps.length + 1) (ps.flatMap fvCells ++ fvCells p)) (hgrow : w.grownBy w' v.ownBlock) (hg : v.ownBlock = some g ∨ g = w.heap.size) :
    FusOwn w' base (ps ++ [p]) (.slice (some ⟨g, 0, none⟩) (ps.length + 1) cap) := by
  have keep : ∀ q : FuV, FuParts (fun b => base ≤ b ∧ v.ownBlock ≠ some b) w q → FuParts (fun b => base ≤ b ∧ (Value.slice (some ⟨g, 0, none⟩) (ps.length + 1) cap).ownBlock ≠ some b) w' q := by
    intro q hu
    have h1 : FuParts (fun b => base ≤ b ∧ (v.ownBlock ≠ some b ∧ b < w.heap.size)) w q := hu.mono (fun b hb hl => ⟨hb.1, hb.2, hl⟩)
    have h2 := h1.keep (w' := w') (fun k hk hl => hgrow.block k hl (fun e => hk.2.1 e.symm)) hgrow.size
    refine h2.mono (fun b hb _ => ⟨hb.1, ?_⟩)
    show some g ≠ some b
    intro e
    cases e
    rcases hg with hg | hg
    · exact hb.2.1 hg
    · have := hb.2.2; omega
  refine ⟨?_, fun q hq => ?_⟩
  · rw [List.length_append, List.flatMap_append]; simpa using hown
  · rcases List.mem_append.1 hq with hq | hq
    · exact keep _ (h.2 q hq)
    · rw [List.mem_singleton.1 hq]; exact keep _ hx
theorem fu_one' (n : Bs) (x : Fu) (a b c : Option Addr) (i j k i' j' k' : Nat) : ∀ u, u ∈ fvCells ⟨x, .slice a i i', .slice b j j', .slice c k k'⟩ → u.oneCell' = true := by
  intro u hu
  simp only [fvCells, List.mem_cons, List.not_mem_nil, or_false] at hu
  rcases hu with rfl | rfl | rfl | rfl <;> rfl
end Go.Proofs.YtgmaeflfiooigaaGreatDoor

namespace Go.Proofs.YtgmaeflfiooigaaGreatDoor
open Go.RowKit
set_option maxHeartbeats 4000000
set_option maxRecDepth 100000

def undone : List Bool → Nat
  | [] => 0
  | b :: l => (if b then 0 else 1) + undone l
theorem undone_set : ∀ (l : List Bool) (i : Nat), l[i]? = some false → undone (l.set i true) + 1 = undone l
  | [], i, h => by simp at h
  | b :: l, 0, h => by simp at h; subst h; simp [undone]; omega
  | b :: l, i + 1, h => by
    simp at h
    have := undone_set l i h
    simp only [List.set_cons_succ, undone]; omega
theorem undone_pos : ∀ (l : List Bool) (i : Nat), l[i]? = some false → 0 < undone l
  | [], i, h => by simp at h
  | b :: l, 0, h => by simp at h; subst h; simp [undone]; omega
  | b :: l, i + 1, h => by
    simp at h
    have := undone_pos l i h
    simp only [undone]; omega
theorem mem_ready {md : Region.Mode} {ops : Array Oper} {listed : Array Bool} {i : Nat} (h : i ∈ Region.ready md ops listed) : i < ops.size ∧ listed.toList[i]? = some false ∧ ∀ o, ops[i]? = some o → ∀ e, e ∈ o.after → Region.binds md e = true → listed.getD e.on false = true := by
  unfold Region.ready at h
  rw [List.mem_filter] at h
  obtain ⟨h1, h2⟩ := h
  simp only [Bool.and_eq_true, Bool.not_eq_true'] at h2
  refine ⟨List.mem_range.1 h1, ?_, fun o ho e he hb => ?_⟩
  · have h3 := h2.1
    rw [Array.getD_eq_getD_getElem?] at h3
    rw [Array.getElem?_toList]
    cases hl : listed[i]? with
    | none => rw [hl] at h3; simp at h3
    | some b => rw [hl] at h3; simp at h3; rw [h3]
  · have h3 := h2.2
    rw [ho] at h3
    simp only [Option.map_some, Option.getD_some] at h3
    have h4 := Array.all_eq_true_iff_forall_mem.1 h3 e he
    simpa [hb] using h4
/-- THE LAW: what is done is in 'listed'; the invariant is carried by each operation that may come. -/
theorem any_inv {P : Program} {ops : Array Oper} {Q : Exit → Act → World → Prop} (I : Array Bool → Act → World → Prop)
    (step : ∀ listed a w i, I listed a w → i < ops.size → listed.toList[i]? = some false → (∀ o, ops[i]? = some o → ∀ e, e ∈ o.after → Region.binds .any e = true → listed.getD e.on false = true) → wpOp P ops Q i (I (listed.setIfInBounds i true)) a w)
    (fin : ∀ listed a w, I listed a w → Region.ready .any ops listed = [] → Q .normal a w) : ∀ (fuel : Nat) (listed : Array Bool) (a : Act) (w : World), undone listed.toList ≤ fuel → I listed a w → wpAny P .any ops Q fuel listed a w
  | 0, listed, a, w, hu, hI => by
    have hr : Region.ready .any ops listed = [] := by
      cases hl : Region.ready .any ops listed with
      | nil => rfl
      | cons i l =>
        have := undone_pos _ _ (mem_ready (show i ∈ Region.ready .any ops listed by rw [hl]; exact List.mem_cons_self)).2.1
        omega
    exact ⟨hr, fin _ _ _ hI hr⟩
  | fuel + 1, listed, a, w, hu, hI => by
    refine ⟨fin _ _ _ hI, fun i hi => ?_⟩
    obtain ⟨h1, h2, h3⟩ := mem_ready hi
    refine wpOp_mono (fun a' w' hI' => any_inv I step fin fuel _ a' w' ?_ hI') (step listed a w i hI h1 h2 h3)
    have := undone_set _ _ h2
    rw [Array.toList_setIfInBounds]; omega
theorem undone_rep : ∀ n, undone (List.replicate n false) = n
  | 0 => rfl
  | n + 1 => by rw [List.replicate_succ, undone, undone_rep n]; simp; omega
theorem region_inv {P : Program} {id : Nat} {ops : Array Oper} {Q : Exit → Act → World → Prop} {a : Act} {w : World} (hm : P.follows .mixedOrders = true) (I : Array Bool → Act → World → Prop) (h0 : I (Array.replicate ops.size false) a w.drew)
    (step : ∀ listed a w i, I listed a w → i < ops.size → listed.toList[i]? = some false → (∀ o, ops[i]? = some o → ∀ e, e ∈ o.after → Region.binds .any e = true → listed.getD e.on false = true) → wpOp P ops Q i (I (listed.setIfInBounds i true)) a w)
    (fin : ∀ listed a w, I listed a w → Region.ready .any ops listed = [] → Q .normal a w) : (Code.region id ops true).wp P Q a w :=
  wp_region_any hm (any_inv I step fin _ _ _ _ (by rw [Array.toList_replicate, undone_rep]; exact Nat.le_refl _) h0)
/-- What is done, as a function. -/
def upd (L : Nat → Bool) (i : Nat) : Nat → Bool := fun j => if j = i then true else L j
theorem upd_same (L : Nat → Bool) (i : Nat) : upd L i i = true := if_pos rfl
theorem upd_ne (L : Nat → Bool) {i j : Nat} (h : j ≠ i) : upd L i j = L j := if_neg h
def doneOf (listed : Array Bool) : Nat → Bool := fun j => listed.getD j false
theorem doneOf_set (listed : Array Bool) (i : Nat) (h : i < listed.size) : doneOf (listed.setIfInBounds i true) = upd (doneOf listed) i := by
  funext j
  unfold doneOf upd
  by_cases hj : j = i
  · subst hj; simp [Array.getD_eq_getD_getElem?, h]
  · have : ¬ i = j := fun e => hj e.symm
    simp [Array.getD_eq_getD_getElem?, Array.getElem?_setIfInBounds, hj, this]
/-- Every edge goes to what stands before. -/
def lowOk (ops : Array Oper) : Bool := (List.range ops.size).all fun i => ((ops[i]?).map (fun o => o.after.all fun e => decide (e.on < i))).getD true
theorem all_done {ops : Array Oper} {listed : Array Bool} (hlow : lowOk ops = true) (hs : listed.size = ops.size) (h : Region.ready .any ops listed = []) : ∀ i, i < ops.size → doneOf listed i = true := by
  intro i
  induction i using Nat.strongRecOn with
  | _ i ih =>
    intro hi
    cases hd : doneOf listed i with
    | true => rfl
    | false =>
      exfalso
      have hm : i ∈ Region.ready .any ops listed := by
        unfold Region.ready
        rw [List.mem_filter]
        refine ⟨List.mem_range.2 hi, ?_⟩
        rw [Bool.and_eq_true]
        constructor
        · have hli : i < listed.size := by omega
          unfold doneOf at hd
          simp only [Array.getD_eq_getD_getElem?, Array.getElem?_eq_getElem hli, Option.getD_some] at hd ⊢
          rw [hd]; rfl
        · have ho : ops[i]? = some ops[i] := Array.getElem?_eq_getElem hi
          rw [ho]
          simp only [Option.map_some, Option.getD_some]
          rw [Array.all_eq_true_iff_forall_mem]
          intro e he
          have h1 := List.all_eq_true.1 hlow i (List.mem_range.2 hi)
          rw [ho] at h1
          simp only [Option.map_some, Option.getD_some] at h1
          have h2 := of_decide_eq_true (Array.all_eq_true_iff_forall_mem.1 h1 e he)
          have h3 := ih e.on h2 (by omega)
          unfold doneOf at h3
          rw [h3, Bool.or_true]
      rw [h] at hm; cases hm
theorem region_by {P : Program} {id : Nat} {ops : Array Oper} {Q : Exit → Act → World → Prop} {a : Act} {w : World} (hm : P.follows .mixedOrders = true) (hlow : lowOk ops = true) (I : (Nat → Bool) → Act → World → Prop) (h0 : I (fun _ => false) a w.drew)
    (step : ∀ L a w i, I L a w → i < ops.size → L i = false → (∀ o, ops[i]? = some o → ∀ e, e ∈ o.after → Region.binds .any e = true → L e.on = true) → wpOp P ops Q i (I (upd L i)) a w)
    (fin : ∀ L a w, I L a w → (∀ i, i < ops.size → L i = true) → Q .normal a w) : (Code.region id ops true).wp P Q a w := by
  refine region_inv hm (fun listed a w => listed.size = ops.size ∧ I (doneOf listed) a w) ⟨by simp, ?_⟩ ?_ ?_
  · have : doneOf (Array.replicate ops.size false) = fun _ => false := by
      funext j; unfold doneOf
      rw [Array.getD_eq_getD_getElem?, Array.getElem?_replicate]; split <;> rfl
    rw [this]; exact h0
  · intro listed a w i hI hi hl hd
    have hli : doneOf listed i = false := by
      unfold doneOf
      rw [Array.getElem?_toList] at hl
      rw [Array.getD_eq_getD_getElem?, hl]; rfl
    refine wpOp_mono (fun a' w' h => ⟨by rw [Array.size_setIfInBounds]; exact hI.1, ?_⟩) (step (doneOf listed) a w i hI.2 hi hli hd)
    rw [doneOf_set _ _ (by rw [hI.1]; exact hi)]; exact h
  · intro listed a w hI hr
    exact fin _ _ _ hI.2 (all_done hlow hI.1 hr)
theorem op_at {P : Program} {ops : Array Oper} {Q : Exit → Act → World → Prop} {i : Nat} {K : Act → World → Prop} {a : Act} {w : World} (o : Oper) (ho : ops[i]? = some o) (hg : o.guard = none) (h : ∀ K' : Act → World → Prop, (∀ a w, K a w → K' a w) → o.wp P a w K' Q) : wpOp P ops Q i K a w := by
  unfold wpOp
  rw [ho]
  simp only [Region.wanted, hg, if_true]
  exact .inl (h K (fun _ _ q => q))
end Go.Proofs.YtgmaeflfiooigaaGreatDoor

namespace Go.Proofs.YtgmaeflfiooigaaGreatDoor
open Go.RowKit
set_option maxHeartbeats 8000000
set_option maxRecDepth 100000

/-- The region n. -/
def regOf (n : Nat) : Code → Option Code
  | .region k o b => if k == n then some (.region k o b) else none
  | .loop c => regOf n c
  | .seq a b => match regOf n a with
    | some c => some c
    | none => regOf n b
  | .block _ c => regOf n c
  | .scope c => regOf n c
  | .cond _ a b => match regOf n a with
    | some c => some c
    | none => regOf n b
  | _ => none
noncomputable def pgReg (n : Nat) : Code := ((Tryz.f13.body.bind (regOf n)).getD .skip)
noncomputable def pgBlock (n : Nat) : Code := ((Tryz.f13.body.bind (partOf (isBlock n))).getD .skip)
noncomputable def pgBehind (n : Nat) : Code := ((Tryz.f13.body.bind (behindR n)).getD .skip)
def strsOf (l : List Bs) : List Value := l.map fun x => .string (strOf x)
def intsOf (l : List Int) : List Value := l.map fun x => .int .i64 x
theorem aName_at : ∀ j : Fin 3, (strsOf aNames)[j.val]? = some (.string (strOf (aNames.getD j.val []))) := by
  intro j; match j with
  | ⟨0, _⟩ => rfl
  | ⟨1, _⟩ => rfl
  | ⟨2, _⟩ => rfl
theorem aSize_at : ∀ j : Fin 4, (intsOf aSizes)[j.val]? = some (.int .i64 (aSizes.getD j.val 0)) := by
  intro j; match j with
  | ⟨0, _⟩ => rfl
  | ⟨1, _⟩ => rfl
  | ⟨2, _⟩ => rfl
  | ⟨3, _⟩ => rfl
end Go.Proofs.YtgmaeflfiooigaaGreatDoor

namespace Go.Proofs.YtgmaeflfiooigaaGreatDoor
open Go.RowKit
set_option maxHeartbeats 8000000
set_option maxRecDepth 100000

structure V9 (S i a : Nat) (raw : List Int) (W : World) (L : Nat → Bool) (z9 z34 z35 z36 z37 z38 z39 z40 z41 z42 z43 : Value) (wx : World) : Prop where
  fr : SFr S W wx
  src : SrcAt wx S raw (if L 6 = true then (gNext raw a 4).2 else a)
  ord : L 11 = true → ∀ j, j < 11 → L j = true
  c0 : L 0 = true → L 11 = false → ∃ b, z34 = .slice (some ⟨b, 0, none⟩) 3 3 ∧ W.heap.size ≤ b ∧ OwnAt wx b (strsOf aNames) 9
  c1 : L 1 = true → z35 = .int .i64 (i : Int)
  c2 : L 2 = true → L 11 = false → ∃ b, z36 = .pointer (some ⟨b, i, none⟩) ∧ W.heap.size ≤ b ∧ OwnAt wx b (strsOf aNames) 9
  c3 : L 3 = true → z37 = .string (strOf (aNames.getD i []))
  c4 : L 4 = true → L 11 = false → ∃ b, z38 = .slice (some ⟨b, 0, none⟩) 4 4 ∧ W.heap.size ≤ b ∧ OwnAt wx b (intsOf aSizes) 3
  c5 : L 5 = true → z39 = .pointer (some ⟨S, 0, none⟩)
  c6 : L 6 = true → z40 = .int .i64 (gNext raw a 4).1
  c7 : L 7 = true → L 11 = false → ∃ b, z41 = .pointer (some ⟨b, (gNext raw a 4).1.toNat, none⟩) ∧ W.heap.size ≤ b ∧ OwnAt wx b (intsOf aSizes) 3
  c8 : L 8 = true → z42 = .int .i64 (aSizes.getD (gNext raw a 4).1.toNat 0)
  c9 : L 9 = true → z43 = .agg #[.string (strOf (aNames.getD i [])), .int .i64 (aSizes.getD (gNext raw a 4).1.toNat 0)]
  c10 : L 10 = true → ∃ b, z9 = .pointer (some ⟨b, 0, none⟩) ∧ W.heap.size ≤ b ∧ OwnAt wx b (if L 11 = true then [.string (strOf (aNames.getD i [])), .int .i64 (aSizes.getD (gNext raw a 4).1.toNat 0)] else [.string ⟨#[]⟩, .int .i64 0]) 73
def R9 (S i a : Nat) (raw : List Int) (W : World) (q0 q1 q2 q3 q4 q6 q7 q10 q11 q12 q13 q14 q15 q16 q17 q18 q19 q20 q21 q22 q23 q24 q25 q26 q27 q28 q29 q30 q31 q32 q33 q44 q45 q46 q47 q48 q49 q50 q51 q52 q53 q54 q55 q56 q57 q58 q59 q60 q61 q62 q63 q64 q65 q66 q67 q68 q69 q70 q71 q72 q73 q74 q75 q76 q77 q78 q79 q80 q81 q82 q83 q84 q85 q86 q87 q88 q89 q90 q91 q92 q93 q94 q95 q96 q97 q98 q99 q100 q101 q102 q103 q104 q105 q106 q107 q108 q109 q110 q111 q112 q113 q114 q115 q116 q117 q118 q119 : Value) (a' : Act) (w' : World) : Prop :=
  ∃ z9 z34 z35 z36 z37 z38 z39 z40 z41 z42 z43 : Value, (∃ b, z9 = .pointer (some ⟨b, 0, none⟩) ∧ W.heap.size ≤ b ∧ OwnAt w' b [.string (strOf (aNames.getD i [])), .int .i64 (aSizes.getD (gNext raw a 4).1.toNat 0)] 73 ∧ SrcAt w' S raw (gNext raw a 4).2 ∧ SFr S W w') ∧ a' = ⟨[q0, q1, q2, q3, q4, .pointer (some ⟨S, 0, none⟩), q6, q7, .int .i64 (i : Int), z9, q10, q11, q12, q13, q14, q15, q16, q17, q18, q19, q20, q21, q22, q23, q24, q25, q26, q27, q28, q29, q30, q31, q32, q33, z34, z35, z36, z37, z38, z39, z40, z41, z42, z43, q44, q45, q46, q47, q48, q49, q50, q51, q52, q53, q54, q55, q56, q57, q58, q59, q60, q61, q62, q63, q64, q65, q66, q67, q68, q69, q70, q71, q72, q73, q74, q75, q76, q77, q78, q79, q80, q81, q82, q83, q84, q85, q86, q87, q88, q89, q90, q91, q92, q93, q94, q95, q96, q97, q98, q99, q100, q101, q102, q103, q104, q105, q106, q107, q108, q109, q110, q111, q112, q113, q114, q115, q116, q117, q118, q119].toArray, []⟩
def I9 (S i a : Nat) (raw : List Int) (W : World) (q0 q1 q2 q3 q4 q6 q7 q10 q11 q12 q13 q14 q15 q16 q17 q18 q19 q20 q21 q22 q23 q24 q25 q26 q27 q28 q29 q30 q31 q32 q33 q44 q45 q46 q47 q48 q49 q50 q51 q52 q53 q54 q55 q56 q57 q58 q59 q60 q61 q62 q63 q64 q65 q66 q67 q68 q69 q70 q71 q72 q73 q74 q75 q76 q77 q78 q79 q80 q81 q82 q83 q84 q85 q86 q87 q88 q89 q90 q91 q92 q93 q94 q95 q96 q97 q98 q99 q100 q101 q102 q103 q104 q105 q106 q107 q108 q109 q110 q111 q112 q113 q114 q115 q116 q117 q118 q119 : Value) (L : Nat → Bool) (a' : Act) (w' : World) : Prop :=
  ∃ z9 z34 z35 z36 z37 z38 z39 z40 z41 z42 z43 : Value, V9 S i a raw W L z9 z34 z35 z36 z37 z38 z39 z40 z41 z42 z43 w' ∧ a' = ⟨[q0, q1, q2, q3, q4, .pointer (some ⟨S, 0, none⟩), q6, q7, .int .i64 (i : Int), z9, q10, q11, q12, q13, q14, q15, q16, q17, q18, q19, q20, q21, q22, q23, q24, q25, q26, q27, q28, q29, q30, q31, q32, q33, z34, z35, z36, z37, z38, z39, z40, z41, z42, z43, q44, q45, q46, q47, q48, q49, q50, q51, q52, q53, q54, q55, q56, q57, q58, q59, q60, q61, q62, q63, q64, q65, q66, q67, q68, q69, q70, q71, q72, q73, q74, q75, q76, q77, q78, q79, q80, q81, q82, q83, q84, q85, q86, q87, q88, q89, q90, q91, q92, q93, q94, q95, q96, q97, q98, q99, q100, q101, q102, q103, q104, q105, q106, q107, q108, q109, q110, q111, q112, q113, q114, q115, q116, q117, q118, q119].toArray, []⟩
theorem pg_reg9 (S i a : Nat) (raw : List Int) (W : World) (hs : SrcAt W S raw a) (hi : 1 ≤ i ∧ i ≤ 2) (q0 q1 q2 q3 q4 q6 q7 q9 q10 q11 q12 q13 q14 q15 q16 q17 q18 q19 q20 q21 q22 q23 q24 q25 q26 q27 q28 q29 q30 q31 q32 q33 q34 q35 q36 q37 q38 q39 q40 q41 q42 q43 q44 q45 q46 q47 q48 q49 q50 q51 q52 q53 q54 q55 q56 q57 q58 q59 q60 q61 q62 q63 q64 q65 q66 q67 q68 q69 q70 q71 q72 q73 q74 q75 q76 q77 q78 q79 q80 q81 q82 q83 q84 q85 q86 q87 q88 q89 q90 q91 q92 q93 q94 q95 q96 q97 q98 q99 q100 q101 q102 q103 q104 q105 q106 q107 q108 q109 q110 q111 q112 q113 q114 q115 q116 q117 q118 q119 : Value) (J K' : Act → World → Prop) (hJ : ∀ a' w', R9 S i a raw W q0 q1 q2 q3 q4 q6 q7 q10 q11 q12 q13 q14 q15 q16 q17 q18 q19 q20 q21 q22 q23 q24 q25 q26 q27 q28 q29 q30 q31 q32 q33 q44 q45 q46 q47 q48 q49 q50 q51 q52 q53 q54 q55 q56 q57 q58 q59 q60 q61 q62 q63 q64 q65 q66 q67 q68 q69 q70 q71 q72 q73 q74 q75 q76 q77 q78 q79 q80 q81 q82 q83 q84 q85 q86 q87 q88 q89 q90 q91 q92 q93 q94 q95 q96 q97 q98 q99 q100 q101 q102 q103 q104 q105 q106 q107 q108 q109 q110 q111 q112 q113 q114 q115 q116 q117 q118 q119 a' w' → J a' w') (hM : ∀ a' w', Met J a' w' → K' a' w') :
    Code.wp Tryz.prog (pgReg 9) (Exit.then K' (fun _ _ _ => False)) ⟨[q0, q1, q2, q3, q4, .pointer (some ⟨S, 0, none⟩), q6, q7, .int .i64 (i : Int), q9, q10, q11, q12, q13, q14, q15, q16, q17, q18, q19, q20, q21, q22, q23, q24, q25, q26, q27, q28, q29, q30, q31, q32, q33, q34, q35, q36, q37, q38, q39, q40, q41, q42, q43, q44, q45, q46, q47, q48, q49, q50, q51, q52, q53, q54, q55, q56, q57, q58, q59, q60, q61, q62, q63, q64, q65, q66, q67, q68, q69, q70, q71, q72, q73, q74, q75, q76, q77, q78, q79, q80, q81, q82, q83, q84, q85, q86, q87, q88, q89, q90, q91, q92, q93, q94, q95, q96, q97, q98, q99, q100, q101, q102, q103, q104, q105, q106, q107, q108, q109, q110, q111, q112, q113, q114, q115, q116, q117, q118, q119].toArray, []⟩ W := by
  conv => arg 2; whnf
  dsimp only
  refine region_by (by kernel_rfl) (by kernel_rfl) (I9 S i a raw W q0 q1 q2 q3 q4 q6 q7 q10 q11 q12 q13 q14 q15 q16 q17 q18 q19 q20 q21 q22 q23 q24 q25 q26 q27 q28 q29 q30 q31 q32 q33 q44 q45 q46 q47 q48 q49 q50 q51 q52 q53 q54 q55 q56 q57 q58 q59 q60 q61 q62 q63 q64 q65 q66 q67 q68 q69 q70 q71 q72 q73 q74 q75 q76 q77 q78 q79 q80 q81 q82 q83 q84 q85 q86 q87 q88 q89 q90 q91 q92 q93 q94 q95 q96 q97 q98 q99 q100 q101 q102 q103 q104 q105 q106 q107 q108 q109 q110 q111 q112 q113 q114 q115 q116 q117 q118 q119) ?_ ?_ ?_
  · refine ⟨q9, q34, q35, q36, q37, q38, q39, q40, q41, q42, q43, ⟨SFr.of_below (Below.refl _ _).drew, by rw [if_neg (by decide)]; exact hs.old (Below.refl _ _).drew, fun h => (by cases h), fun h => (by cases h), fun h => (by cases h), fun h => (by cases h), fun h => (by cases h), fun h => (by cases h), fun h => (by cases h), fun h => (by cases h), fun h => (by cases h), fun h => (by cases h), fun h => (by cases h), fun h => (by cases h)⟩, rfl⟩
  · intro L act wx k hI hk hl hd
    obtain ⟨z9, z34, z35, z36, z37, z38, z39, z40, z41, z42, z43, hV, rfl⟩ := hI
    have hk : k = 0 ∨ k = 1 ∨ k = 2 ∨ k = 3 ∨ k = 4 ∨ k = 5 ∨ k = 6 ∨ k = 7 ∨ k = 8 ∨ k = 9 ∨ k = 10 ∨ k = 11 := by
      have : k < 12 := hk
      omega
    rcases hk with rfl | rfl | rfl | rfl | rfl | rfl | rfl | rfl | rfl | rfl | rfl | rfl
    · have n11 : L 11 = false := by
        cases h : L 11 with
        | false => rfl
        | true => have := hV.ord h 0 (by decide); rw [hl] at this; cases this
      have hal : Below wx.heap.size wx (wx.alloc (.cells (strsOf aNames).toArray 9)) := (Below.refl _ _).alloc (Nat.le_refl _) _
      have keep : ∀ b cs T, W.heap.size ≤ b → OwnAt wx b cs T → OwnAt (wx.alloc (.cells (strsOf aNames).toArray 9)) b cs T := fun b cs T _ h => h.old hal
      have HV := Lib.hid hV; have HD := Lib.hid hd; have HL := Lib.hid hl
      refine op_at _ rfl rfl (fun K' hK => ?_)
      conv => arg 2; whnf
      go_wp2_with fail
      exact ⟨z9, .slice (some ⟨wx.heap.size, 0, none⟩) 3 3, z35, z36, z37, z38, z39, z40, z41, z42, z43, ⟨hV.fr.trans (SFr.of_below hal), (by rw [upd_ne L (show 6 ≠ 0 by decide)]; exact hV.src.old hal), (fun h j hj => by rw [upd_ne L (show 11 ≠ 0 by decide)] at h; have := hV.ord h 0 (by decide); rw [hl] at this; cases this), (fun _ _ => ⟨wx.heap.size, rfl, hV.fr.size, OwnAt.new wx (strsOf aNames) _⟩), (fun h => hV.c1 (by rwa [upd_ne L (show 1 ≠ 0 by decide)] at h)), (fun h h11 => by obtain ⟨b, e1, e2, e3⟩ := hV.c2 (by rwa [upd_ne L (show 2 ≠ 0 by decide)] at h) (by rwa [upd_ne L (show 11 ≠ 0 by decide)] at h11); exact ⟨b, e1, e2, keep b _ _ e2 e3⟩), (fun h => hV.c3 (by rwa [upd_ne L (show 3 ≠ 0 by decide)] at h)), (fun h h11 => by obtain ⟨b, e1, e2, e3⟩ := hV.c4 (by rwa [upd_ne L (show 4 ≠ 0 by decide)] at h) (by rwa [upd_ne L (show 11 ≠ 0 by decide)] at h11); exact ⟨b, e1, e2, keep b _ _ e2 e3⟩), (fun h => hV.c5 (by rwa [upd_ne L (show 5 ≠ 0 by decide)] at h)), (fun h => hV.c6 (by rwa [upd_ne L (show 6 ≠ 0 by decide)] at h)), (fun h h11 => by obtain ⟨b, e1, e2, e3⟩ := hV.c7 (by rwa [upd_ne L (show 7 ≠ 0 by decide)] at h) (by rwa [upd_ne L (show 11 ≠ 0 by decide)] at h11); exact ⟨b, e1, e2, keep b _ _ e2 e3⟩), (fun h => hV.c8 (by rwa [upd_ne L (show 8 ≠ 0 by decide)] at h)), (fun h => hV.c9 (by rwa [upd_ne L (show 9 ≠ 0 by decide)] at h)), (fun h => by obtain ⟨b, e1, e2, e3⟩ := hV.c10 (by rwa [upd_ne L (show 10 ≠ 0 by decide)] at h); rw [upd_ne L (show 11 ≠ 0 by decide)]; exact ⟨b, e1, e2, keep b _ _ e2 e3⟩)⟩, rfl⟩
    · have n11 : L 11 = false := by
        cases h : L 11 with
        | false => rfl
        | true => have := hV.ord h 1 (by decide); rw [hl] at this; cases this
      have HV := Lib.hid hV; have HD := Lib.hid hd; have HL := Lib.hid hl
      refine op_at _ rfl rfl (fun K' hK => ?_)
      conv => arg 2; whnf
      go_wp2_with fail
      exact ⟨z9, z34, .int .i64 (i : Int), z36, z37, z38, z39, z40, z41, z42, z43, ⟨hV.fr, (by rw [upd_ne L (show 6 ≠ 1 by decide)]; exact hV.src), (fun h j hj => by rw [upd_ne L (show 11 ≠ 1 by decide)] at h; have := hV.ord h 1 (by decide); rw [hl] at this; cases this), (fun h h11 => by obtain ⟨b, e1, e2, e3⟩ := hV.c0 (by rwa [upd_ne L (show 0 ≠ 1 by decide)] at h) (by rwa [upd_ne L (show 11 ≠ 1 by decide)] at h11); exact ⟨b, e1, e2, e3⟩), (fun _ => rfl), (fun h h11 => by obtain ⟨b, e1, e2, e3⟩ := hV.c2 (by rwa [upd_ne L (show 2 ≠ 1 by decide)] at h) (by rwa [upd_ne L (show 11 ≠ 1 by decide)] at h11); exact ⟨b, e1, e2, e3⟩), (fun h => hV.c3 (by rwa [upd_ne L (show 3 ≠ 1 by decide)] at h)), (fun h h11 => by obtain ⟨b, e1, e2, e3⟩ := hV.c4 (by rwa [upd_ne L (show 4 ≠ 1 by decide)] at h) (by rwa [upd_ne L (show 11 ≠ 1 by decide)] at h11); exact ⟨b, e1, e2, e3⟩), (fun h => hV.c5 (by rwa [upd_ne L (show 5 ≠ 1 by decide)] at h)), (fun h => hV.c6 (by rwa [upd_ne L (show 6 ≠ 1 by decide)] at h)), (fun h h11 => by obtain ⟨b, e1, e2, e3⟩ := hV.c7 (by rwa [upd_ne L (show 7 ≠ 1 by decide)] at h) (by rwa [upd_ne L (show 11 ≠ 1 by decide)] at h11); exact ⟨b, e1, e2, e3⟩), (fun h => hV.c8 (by rwa [upd_ne L (show 8 ≠ 1 by decide)] at h)), (fun h => hV.c9 (by rwa [upd_ne L (show 9 ≠ 1 by decide)] at h)), (fun h => by obtain ⟨b, e1, e2, e3⟩ := hV.c10 (by rwa [upd_ne L (show 10 ≠ 1 by decide)] at h); rw [upd_ne L (show 11 ≠ 1 by decide)]; exact ⟨b, e1, e2, e3⟩)⟩, rfl⟩
    · have n11 : L 11 = false := by
        cases h : L 11 with
        | false => rfl
        | true => have := hV.ord h 2 (by decide); rw [hl] at this; cases this
      have d0 : L 0 = true := hd _ rfl ⟨0, .data⟩ (by simp) rfl
      have d1 : L 1 = true := hd _ rfl ⟨1, .data⟩ (by simp) rfl
      obtain ⟨b, rfl, hb, ho⟩ := hV.c0 d0 n11
      obtain rfl := hV.c1 d1
      have hi3 : (i : Int) < 3 := by omega
      have HV := Lib.hid hV; have HD := Lib.hid hd; have HL := Lib.hid hl
      refine op_at _ rfl rfl (fun K' hK => ?_)
      conv => arg 2; whnf
      go_wp2_with fail
      exact ⟨z9, .slice (some ⟨b, 0, none⟩) 3 3, .int .i64 (i : Int), .pointer (some ⟨b, i, none⟩), z37, z38, z39, z40, z41, z42, z43, ⟨hV.fr, (by rw [upd_ne L (show 6 ≠ 2 by decide)]; exact hV.src), (fun h j hj => by rw [upd_ne L (show 11 ≠ 2 by decide)] at h; have := hV.ord h 2 (by decide); rw [hl] at this; cases this), (fun h h11 => by obtain ⟨b, e1, e2, e3⟩ := hV.c0 (by rwa [upd_ne L (show 0 ≠ 2 by decide)] at h) (by rwa [upd_ne L (show 11 ≠ 2 by decide)] at h11); exact ⟨b, e1, e2, e3⟩), (fun h => hV.c1 (by rwa [upd_ne L (show 1 ≠ 2 by decide)] at h)), (fun _ _ => ⟨b, rfl, hb, ho⟩), (fun h => hV.c3 (by rwa [upd_ne L (show 3 ≠ 2 by decide)] at h)), (fun h h11 => by obtain ⟨b, e1, e2, e3⟩ := hV.c4 (by rwa [upd_ne L (show 4 ≠ 2 by decide)] at h) (by rwa [upd_ne L (show 11 ≠ 2 by decide)] at h11); exact ⟨b, e1, e2, e3⟩), (fun h => hV.c5 (by rwa [upd_ne L (show 5 ≠ 2 by decide)] at h)), (fun h => hV.c6 (by rwa [upd_ne L (show 6 ≠ 2 by decide)] at h)), (fun h h11 => by obtain ⟨b, e1, e2, e3⟩ := hV.c7 (by rwa [upd_ne L (show 7 ≠ 2 by decide)] at h) (by rwa [upd_ne L (show 11 ≠ 2 by decide)] at h11); exact ⟨b, e1, e2, e3⟩), (fun h => hV.c8 (by rwa [upd_ne L (show 8 ≠ 2 by decide)] at h)), (fun h => hV.c9 (by rwa [upd_ne L (show 9 ≠ 2 by decide)] at h)), (fun h => by obtain ⟨b, e1, e2, e3⟩ := hV.c10 (by rwa [upd_ne L (show 10 ≠ 2 by decide)] at h); rw [upd_ne L (show 11 ≠ 2 by decide)]; exact ⟨b, e1, e2, e3⟩)⟩, rfl⟩
    · have n11 : L 11 = false := by
        cases h : L 11 with
        | false => rfl
        | true => have := hV.ord h 3 (by decide); rw [hl] at this; cases this
      have d2 : L 2 = true := hd _ rfl ⟨2, .data⟩ (by simp) rfl
      obtain ⟨b, rfl, hb, ho⟩ := hV.c2 d2 n11
      have hx := ho.at i _ (aName_at ⟨i, by omega⟩)
      have HV := Lib.hid hV; have HD := Lib.hid hd; have HL := Lib.hid hl
      refine op_at _ rfl rfl (fun K' hK => ?_)
      conv => arg 2; whnf
      go_wp2_with fail
      exact ⟨z9, z34, z35, .pointer (some ⟨b, i, none⟩), .string (strOf (aNames.getD i [])), z38, z39, z40, z41, z42, z43, ⟨hV.fr, (by rw [upd_ne L (show 6 ≠ 3 by decide)]; exact hV.src), (fun h j hj => by rw [upd_ne L (show 11 ≠ 3 by decide)] at h; have := hV.ord h 3 (by decide); rw [hl] at this; cases this), (fun h h11 => by obtain ⟨b, e1, e2, e3⟩ := hV.c0 (by rwa [upd_ne L (show 0 ≠ 3 by decide)] at h) (by rwa [upd_ne L (show 11 ≠ 3 by decide)] at h11); exact ⟨b, e1, e2, e3⟩), (fun h => hV.c1 (by rwa [upd_ne L (show 1 ≠ 3 by decide)] at h)), (fun h h11 => by obtain ⟨b, e1, e2, e3⟩ := hV.c2 (by rwa [upd_ne L (show 2 ≠ 3 by decide)] at h) (by rwa [upd_ne L (show 11 ≠ 3 by decide)] at h11); exact ⟨b, e1, e2, e3⟩), (fun _ => rfl), (fun h h11 => by obtain ⟨b, e1, e2, e3⟩ := hV.c4 (by rwa [upd_ne L (show 4 ≠ 3 by decide)] at h) (by rwa [upd_ne L (show 11 ≠ 3 by decide)] at h11); exact ⟨b, e1, e2, e3⟩), (fun h => hV.c5 (by rwa [upd_ne L (show 5 ≠ 3 by decide)] at h)), (fun h => hV.c6 (by rwa [upd_ne L (show 6 ≠ 3 by decide)] at h)), (fun h h11 => by obtain ⟨b, e1, e2, e3⟩ := hV.c7 (by rwa [upd_ne L (show 7 ≠ 3 by decide)] at h) (by rwa [upd_ne L (show 11 ≠ 3 by decide)] at h11); exact ⟨b, e1, e2, e3⟩), (fun h => hV.c8 (by rwa [upd_ne L (show 8 ≠ 3 by decide)] at h)), (fun h => hV.c9 (by rwa [upd_ne L (show 9 ≠ 3 by decide)] at h)), (fun h => by obtain ⟨b, e1, e2, e3⟩ := hV.c10 (by rwa [upd_ne L (show 10 ≠ 3 by decide)] at h); rw [upd_ne L (show 11 ≠ 3 by decide)]; exact ⟨b, e1, e2, e3⟩)⟩, rfl⟩
    · have n11 : L 11 = false := by
        cases h : L 11 with
        | false => rfl
        | true => have := hV.ord h 4 (by decide); rw [hl] at this; cases this
      have hal : Below wx.heap.size wx (wx.alloc (.cells (intsOf aSizes).toArray 3)) := (Below.refl _ _).alloc (Nat.le_refl _) _
      have keep : ∀ b cs T, W.heap.size ≤ b → OwnAt wx b cs T → OwnAt (wx.alloc (.cells (intsOf aSizes).toArray 3)) b cs T := fun b cs T _ h => h.old hal
      have HV := Lib.hid hV; have HD := Lib.hid hd; have HL := Lib.hid hl
      refine op_at _ rfl rfl (fun K' hK => ?_)
      conv => arg 2; whnf
      go_wp2_with fail
      exact ⟨z9, z34, z35, z36, z37, .slice (some ⟨wx.heap.size, 0, none⟩) 4 4, z39, z40, z41, z42, z43, ⟨hV.fr.trans (SFr.of_below hal), (by rw [upd_ne L (show 6 ≠ 4 by decide)]; exact hV.src.old hal), (fun h j hj => by rw [upd_ne L (show 11 ≠ 4 by decide)] at h; have := hV.ord h 4 (by decide); rw [hl] at this; cases this), (fun h h11 => by obtain ⟨b, e1, e2, e3⟩ := hV.c0 (by rwa [upd_ne L (show 0 ≠ 4 by decide)] at h) (by rwa [upd_ne L (show 11 ≠ 4 by decide)] at h11); exact ⟨b, e1, e2, keep b _ _ e2 e3⟩), (fun h => hV.c1 (by rwa [upd_ne L (show 1 ≠ 4 by decide)] at h)), (fun h h11 => by obtain ⟨b, e1, e2, e3⟩ := hV.c2 (by rwa [upd_ne L (show 2 ≠ 4 by decide)] at h) (by rwa [upd_ne L (show 11 ≠ 4 by decide)] at h11); exact ⟨b, e1, e2, keep b _ _ e2 e3⟩), (fun h => hV.c3 (by rwa [upd_ne L (show 3 ≠ 4 by decide)] at h)), (fun _ _ => ⟨wx.heap.size, rfl, hV.fr.size, OwnAt.new wx (intsOf aSizes) _⟩), (fun h => hV.c5 (by rwa [upd_ne L (show 5 ≠ 4 by decide)] at h)), (fun h => hV.c6 (by rwa [upd_ne L (show 6 ≠ 4 by decide)] at h)), (fun h h11 => by obtain ⟨b, e1, e2, e3⟩ := hV.c7 (by rwa [upd_ne L (show 7 ≠ 4 by decide)] at h) (by rwa [upd_ne L (show 11 ≠ 4 by decide)] at h11); exact ⟨b, e1, e2, keep b _ _ e2 e3⟩), (fun h => hV.c8 (by rwa [upd_ne L (show 8 ≠ 4 by decide)] at h)), (fun h => hV.c9 (by rwa [upd_ne L (show 9 ≠ 4 by decide)] at h)), (fun h => by obtain ⟨b, e1, e2, e3⟩ := hV.c10 (by rwa [upd_ne L (show 10 ≠ 4 by decide)] at h); rw [upd_ne L (show 11 ≠ 4 by decide)]; exact ⟨b, e1, e2, keep b _ _ e2 e3⟩)⟩, rfl⟩
    · have n11 : L 11 = false := by
        cases h : L 11 with
        | false => rfl
        | true => have := hV.ord h 5 (by decide); rw [hl] at this; cases this
      have HV := Lib.hid hV; have HD := Lib.hid hd; have HL := Lib.hid hl
      refine op_at _ rfl rfl (fun K' hK => ?_)
      conv => arg 2; whnf
      go_wp2_with fail
      exact ⟨z9, z34, z35, z36, z37, z38, .pointer (some ⟨S, 0, none⟩), z40, z41, z42, z43, ⟨hV.fr, (by rw [upd_ne L (show 6 ≠ 5 by decide)]; exact hV.src), (fun h j hj => by rw [upd_ne L (show 11 ≠ 5 by decide)] at h; have := hV.ord h 5 (by decide); rw [hl] at this; cases this), (fun h h11 => by obtain ⟨b, e1, e2, e3⟩ := hV.c0 (by rwa [upd_ne L (show 0 ≠ 5 by decide)] at h) (by rwa [upd_ne L (show 11 ≠ 5 by decide)] at h11); exact ⟨b, e1, e2, e3⟩), (fun h => hV.c1 (by rwa [upd_ne L (show 1 ≠ 5 by decide)] at h)), (fun h h11 => by obtain ⟨b, e1, e2, e3⟩ := hV.c2 (by rwa [upd_ne L (show 2 ≠ 5 by decide)] at h) (by rwa [upd_ne L (show 11 ≠ 5 by decide)] at h11); exact ⟨b, e1, e2, e3⟩), (fun h => hV.c3 (by rwa [upd_ne L (show 3 ≠ 5 by decide)] at h)), (fun h h11 => by obtain ⟨b, e1, e2, e3⟩ := hV.c4 (by rwa [upd_ne L (show 4 ≠ 5 by decide)] at h) (by rwa [upd_ne L (show 11 ≠ 5 by decide)] at h11); exact ⟨b, e1, e2, e3⟩), (fun _ => rfl), (fun h => hV.c6 (by rwa [upd_ne L (show 6 ≠ 5 by decide)] at h)), (fun h h11 => by obtain ⟨b, e1, e2, e3⟩ := hV.c7 (by rwa [upd_ne L (show 7 ≠ 5 by decide)] at h) (by rwa [upd_ne L (show 11 ≠ 5 by decide)] at h11); exact ⟨b, e1, e2, e3⟩), (fun h => hV.c8 (by rwa [upd_ne L (show 8 ≠ 5 by decide)] at h)), (fun h => hV.c9 (by rwa [upd_ne L (show 9 ≠ 5 by decide)] at h)), (fun h => by obtain ⟨b, e1, e2, e3⟩ := hV.c10 (by rwa [upd_ne L (show 10 ≠ 5 by decide)] at h); rw [upd_ne L (show 11 ≠ 5 by decide)]; exact ⟨b, e1, e2, e3⟩)⟩, rfl⟩
    · have n11 : L 11 = false := by
        cases h : L 11 with
        | false => rfl
        | true => have := hV.ord h 6 (by decide); rw [hl] at this; cases this
      have d5 : L 5 = true := hd _ rfl ⟨5, .data⟩ (by simp) rfl
      obtain rfl := hV.c5 d5
      have hsrc := hV.src
      rw [if_neg (by rw [hl]; decide)] at hsrc
      have hsS := hs.lt
      have HV := Lib.hid hV; have HD := Lib.hid hd; have HL := Lib.hid hl
      refine op_at _ rfl rfl (fun K' hK => ?_)
      conv => arg 2; whnf
      go_wp2_with fail
      refine (next_any S raw a 4 wx hsrc (by decide) (by decide)).mono ?_
      rintro r w2 ⟨rfl, hs2, hf2⟩
      have keep : ∀ b cs T, W.heap.size ≤ b → OwnAt wx b cs T → OwnAt w2 b cs T := fun b cs T hb h => h.sfr hf2 (by omega)
      go_wp2_with fail
      exact ⟨z9, z34, z35, z36, z37, z38, .pointer (some ⟨S, 0, none⟩), .int .i64 (gNext raw a 4).1, z41, z42, z43, ⟨hV.fr.trans hf2, (by rw [upd_same, if_pos rfl]; exact hs2), (fun h j hj => by rw [upd_ne L (show 11 ≠ 6 by decide)] at h; have := hV.ord h 6 (by decide); rw [hl] at this; cases this), (fun h h11 => by obtain ⟨b, e1, e2, e3⟩ := hV.c0 (by rwa [upd_ne L (show 0 ≠ 6 by decide)] at h) (by rwa [upd_ne L (show 11 ≠ 6 by decide)] at h11); exact ⟨b, e1, e2, keep b _ _ e2 e3⟩), (fun h => hV.c1 (by rwa [upd_ne L (show 1 ≠ 6 by decide)] at h)), (fun h h11 => by obtain ⟨b, e1, e2, e3⟩ := hV.c2 (by rwa [upd_ne L (show 2 ≠ 6 by decide)] at h) (by rwa [upd_ne L (show 11 ≠ 6 by decide)] at h11); exact ⟨b, e1, e2, keep b _ _ e2 e3⟩), (fun h => hV.c3 (by rwa [upd_ne L (show 3 ≠ 6 by decide)] at h)), (fun h h11 => by obtain ⟨b, e1, e2, e3⟩ := hV.c4 (by rwa [upd_ne L (show 4 ≠ 6 by decide)] at h) (by rwa [upd_ne L (show 11 ≠ 6 by decide)] at h11); exact ⟨b, e1, e2, keep b _ _ e2 e3⟩), (fun h => hV.c5 (by rwa [upd_ne L (show 5 ≠ 6 by decide)] at h)), (fun _ => rfl), (fun h h11 => by obtain ⟨b, e1, e2, e3⟩ := hV.c7 (by rwa [upd_ne L (show 7 ≠ 6 by decide)] at h) (by rwa [upd_ne L (show 11 ≠ 6 by decide)] at h11); exact ⟨b, e1, e2, keep b _ _ e2 e3⟩), (fun h => hV.c8 (by rwa [upd_ne L (show 8 ≠ 6 by decide)] at h)), (fun h => hV.c9 (by rwa [upd_ne L (show 9 ≠ 6 by decide)] at h)), (fun h => by obtain ⟨b, e1, e2, e3⟩ := hV.c10 (by rwa [upd_ne L (show 10 ≠ 6 by decide)] at h); rw [upd_ne L (show 11 ≠ 6 by decide)]; exact ⟨b, e1, e2, keep b _ _ e2 e3⟩)⟩, rfl⟩
    · have n11 : L 11 = false := by
        cases h : L 11 with
        | false => rfl
        | true => have := hV.ord h 7 (by decide); rw [hl] at this; cases this
      have d4 : L 4 = true := hd _ rfl ⟨4, .data⟩ (by simp) rfl
      have d6 : L 6 = true := hd _ rfl ⟨6, .data⟩ (by simp) rfl
      obtain ⟨b, rfl, hb, ho⟩ := hV.c4 d4 n11
      obtain rfl := hV.c6 d6
      have hr := gNext_range raw a 4 (by decide)
      obtain ⟨g0, g1⟩ := hr
      have HV := Lib.hid hV; have HD := Lib.hid hd; have HL := Lib.hid hl
      refine op_at _ rfl rfl (fun K' hK => ?_)
      conv => arg 2; whnf
      go_wp2_with fail
      exact ⟨z9, z34, z35, z36, z37, .slice (some ⟨b, 0, none⟩) 4 4, z39, .int .i64 (gNext raw a 4).1, .pointer (some ⟨b, (gNext raw a 4).1.toNat, none⟩), z42, z43, ⟨hV.fr, (by rw [upd_ne L (show 6 ≠ 7 by decide)]; exact hV.src), (fun h j hj => by rw [upd_ne L (show 11 ≠ 7 by decide)] at h; have := hV.ord h 7 (by decide); rw [hl] at this; cases this), (fun h h11 => by obtain ⟨b, e1, e2, e3⟩ := hV.c0 (by rwa [upd_ne L (show 0 ≠ 7 by decide)] at h) (by rwa [upd_ne L (show 11 ≠ 7 by decide)] at h11); exact ⟨b, e1, e2, e3⟩), (fun h => hV.c1 (by rwa [upd_ne L (show 1 ≠ 7 by decide)] at h)), (fun h h11 => by obtain ⟨b, e1, e2, e3⟩ := hV.c2 (by rwa [upd_ne L (show 2 ≠ 7 by decide)] at h) (by rwa [upd_ne L (show 11 ≠ 7 by decide)] at h11); exact ⟨b, e1, e2, e3⟩), (fun h => hV.c3 (by rwa [upd_ne L (show 3 ≠ 7 by decide)] at h)), (fun h h11 => by obtain ⟨b, e1, e2, e3⟩ := hV.c4 (by rwa [upd_ne L (show 4 ≠ 7 by decide)] at h) (by rwa [upd_ne L (show 11 ≠ 7 by decide)] at h11); exact ⟨b, e1, e2, e3⟩), (fun h => hV.c5 (by rwa [upd_ne L (show 5 ≠ 7 by decide)] at h)), (fun h => hV.c6 (by rwa [upd_ne L (show 6 ≠ 7 by decide)] at h)), (fun _ _ => ⟨b, rfl, hb, ho⟩), (fun h => hV.c8 (by rwa [upd_ne L (show 8 ≠ 7 by decide)] at h)), (fun h => hV.c9 (by rwa [upd_ne L (show 9 ≠ 7 by decide)] at h)), (fun h => by obtain ⟨b, e1, e2, e3⟩ := hV.c10 (by rwa [upd_ne L (show 10 ≠ 7 by decide)] at h); rw [upd_ne L (show 11 ≠ 7 by decide)]; exact ⟨b, e1, e2, e3⟩)⟩, rfl⟩
    · have n11 : L 11 = false := by
        cases h : L 11 with
        | false => rfl
        | true => have := hV.ord h 8 (by decide); rw [hl] at this; cases this
      have d7 : L 7 = true := hd _ rfl ⟨7, .data⟩ (by simp) rfl
      obtain ⟨b, rfl, hb, ho⟩ := hV.c7 d7 n11
      have hr := gNext_range raw a 4 (by decide)
      have hx := ho.at (gNext raw a 4).1.toNat _ (aSize_at ⟨(gNext raw a 4).1.toNat, by omega⟩)
      have HV := Lib.hid hV; have HD := Lib.hid hd; have HL := Lib.hid hl
      refine op_at _ rfl rfl (fun K' hK => ?_)
      conv => arg 2; whnf
      go_wp2_with fail
      exact ⟨z9, z34, z35, z36, z37, z38, z39, z40, .pointer (some ⟨b, (gNext raw a 4).1.toNat, none⟩), .int .i64 (aSizes.getD (gNext raw a 4).1.toNat 0), z43, ⟨hV.fr, (by rw [upd_ne L (show 6 ≠ 8 by decide)]; exact hV.src), (fun h j hj => by rw [upd_ne L (show 11 ≠ 8 by decide)] at h; have := hV.ord h 8 (by decide); rw [hl] at this; cases this), (fun h h11 => by obtain ⟨b, e1, e2, e3⟩ := hV.c0 (by rwa [upd_ne L (show 0 ≠ 8 by decide)] at h) (by rwa [upd_ne L (show 11 ≠ 8 by decide)] at h11); exact ⟨b, e1, e2, e3⟩), (fun h => hV.c1 (by rwa [upd_ne L (show 1 ≠ 8 by decide)] at h)), (fun h h11 => by obtain ⟨b, e1, e2, e3⟩ := hV.c2 (by rwa [upd_ne L (show 2 ≠ 8 by decide)] at h) (by rwa [upd_ne L (show 11 ≠ 8 by decide)] at h11); exact ⟨b, e1, e2, e3⟩), (fun h => hV.c3 (by rwa [upd_ne L (show 3 ≠ 8 by decide)] at h)), (fun h h11 => by obtain ⟨b, e1, e2, e3⟩ := hV.c4 (by rwa [upd_ne L (show 4 ≠ 8 by decide)] at h) (by rwa [upd_ne L (show 11 ≠ 8 by decide)] at h11); exact ⟨b, e1, e2, e3⟩), (fun h => hV.c5 (by rwa [upd_ne L (show 5 ≠ 8 by decide)] at h)), (fun h => hV.c6 (by rwa [upd_ne L (show 6 ≠ 8 by decide)] at h)), (fun h h11 => by obtain ⟨b, e1, e2, e3⟩ := hV.c7 (by rwa [upd_ne L (show 7 ≠ 8 by decide)] at h) (by rwa [upd_ne L (show 11 ≠ 8 by decide)] at h11); exact ⟨b, e1, e2, e3⟩), (fun _ => rfl), (fun h => hV.c9 (by rwa [upd_ne L (show 9 ≠ 8 by decide)] at h)), (fun h => by obtain ⟨b, e1, e2, e3⟩ := hV.c10 (by rwa [upd_ne L (show 10 ≠ 8 by decide)] at h); rw [upd_ne L (show 11 ≠ 8 by decide)]; exact ⟨b, e1, e2, e3⟩)⟩, rfl⟩
    · have n11 : L 11 = false := by
        cases h : L 11 with
        | false => rfl
        | true => have := hV.ord h 9 (by decide); rw [hl] at this; cases this
      have d3 : L 3 = true := hd _ rfl ⟨3, .data⟩ (by simp) rfl
      have d8 : L 8 = true := hd _ rfl ⟨8, .data⟩ (by simp) rfl
      obtain rfl := hV.c3 d3
      obtain rfl := hV.c8 d8
      have HV := Lib.hid hV; have HD := Lib.hid hd; have HL := Lib.hid hl
      refine op_at _ rfl rfl (fun K' hK => ?_)
      conv => arg 2; whnf
      go_wp2_with fail
      exact ⟨z9, z34, z35, z36, .string (strOf (aNames.getD i [])), z38, z39, z40, z41, .int .i64 (aSizes.getD (gNext raw a 4).1.toNat 0), .agg #[.string (strOf (aNames.getD i [])), .int .i64 (aSizes.getD (gNext raw a 4).1.toNat 0)], ⟨hV.fr, (by rw [upd_ne L (show 6 ≠ 9 by decide)]; exact hV.src), (fun h j hj => by rw [upd_ne L (show 11 ≠ 9 by decide)] at h; have := hV.ord h 9 (by decide); rw [hl] at this; cases this), (fun h h11 => by obtain ⟨b, e1, e2, e3⟩ := hV.c0 (by rwa [upd_ne L (show 0 ≠ 9 by decide)] at h) (by rwa [upd_ne L (show 11 ≠ 9 by decide)] at h11); exact ⟨b, e1, e2, e3⟩), (fun h => hV.c1 (by rwa [upd_ne L (show 1 ≠ 9 by decide)] at h)), (fun h h11 => by obtain ⟨b, e1, e2, e3⟩ := hV.c2 (by rwa [upd_ne L (show 2 ≠ 9 by decide)] at h) (by rwa [upd_ne L (show 11 ≠ 9 by decide)] at h11); exact ⟨b, e1, e2, e3⟩), (fun h => hV.c3 (by rwa [upd_ne L (show 3 ≠ 9 by decide)] at h)), (fun h h11 => by obtain ⟨b, e1, e2, e3⟩ := hV.c4 (by rwa [upd_ne L (show 4 ≠ 9 by decide)] at h) (by rwa [upd_ne L (show 11 ≠ 9 by decide)] at h11); exact ⟨b, e1, e2, e3⟩), (fun h => hV.c5 (by rwa [upd_ne L (show 5 ≠ 9 by decide)] at h)), (fun h => hV.c6 (by rwa [upd_ne L (show 6 ≠ 9 by decide)] at h)), (fun h h11 => by obtain ⟨b, e1, e2, e3⟩ := hV.c7 (by rwa [upd_ne L (show 7 ≠ 9 by decide)] at h) (by rwa [upd_ne L (show 11 ≠ 9 by decide)] at h11); exact ⟨b, e1, e2, e3⟩), (fun h => hV.c8 (by rwa [upd_ne L (show 8 ≠ 9 by decide)] at h)), (fun _ => rfl), (fun h => by obtain ⟨b, e1, e2, e3⟩ := hV.c10 (by rwa [upd_ne L (show 10 ≠ 9 by decide)] at h); rw [upd_ne L (show 11 ≠ 9 by decide)]; exact ⟨b, e1, e2, e3⟩)⟩, rfl⟩
    · have n11 : L 11 = false := by
        cases h : L 11 with
        | false => rfl
        | true => have := hV.ord h 10 (by decide); rw [hl] at this; cases this
      have hal : Below wx.heap.size wx (wx.alloc (.cells #[.string ⟨#[]⟩, .int .i64 0] 73)) := (Below.refl _ _).alloc (Nat.le_refl _) _
      have keep : ∀ b cs T, W.heap.size ≤ b → OwnAt wx b cs T → OwnAt (wx.alloc (.cells #[.string ⟨#[]⟩, .int .i64 0] 73)) b cs T := fun b cs T _ h => h.old hal
      have HV := Lib.hid hV; have HD := Lib.hid hd; have HL := Lib.hid hl
      refine op_at _ rfl rfl (fun K' hK => ?_)
      conv => arg 2; whnf
      go_wp2_with fail
      exact ⟨.pointer (some ⟨wx.heap.size, 0, none⟩), z34, z35, z36, z37, z38, z39, z40, z41, z42, z43, ⟨hV.fr.trans (SFr.of_below hal), (by rw [upd_ne L (show 6 ≠ 10 by decide)]; exact hV.src.old hal), (fun h j hj => by rw [upd_ne L (show 11 ≠ 10 by decide)] at h; have := hV.ord h 10 (by decide); rw [hl] at this; cases this), (fun h h11 => by obtain ⟨b, e1, e2, e3⟩ := hV.c0 (by rwa [upd_ne L (show 0 ≠ 10 by decide)] at h) (by rwa [upd_ne L (show 11 ≠ 10 by decide)] at h11); exact ⟨b, e1, e2, keep b _ _ e2 e3⟩), (fun h => hV.c1 (by rwa [upd_ne L (show 1 ≠ 10 by decide)] at h)), (fun h h11 => by obtain ⟨b, e1, e2, e3⟩ := hV.c2 (by rwa [upd_ne L (show 2 ≠ 10 by decide)] at h) (by rwa [upd_ne L (show 11 ≠ 10 by decide)] at h11); exact ⟨b, e1, e2, keep b _ _ e2 e3⟩), (fun h => hV.c3 (by rwa [upd_ne L (show 3 ≠ 10 by decide)] at h)), (fun h h11 => by obtain ⟨b, e1, e2, e3⟩ := hV.c4 (by rwa [upd_ne L (show 4 ≠ 10 by decide)] at h) (by rwa [upd_ne L (show 11 ≠ 10 by decide)] at h11); exact ⟨b, e1, e2, keep b _ _ e2 e3⟩), (fun h => hV.c5 (by rwa [upd_ne L (show 5 ≠ 10 by decide)] at h)), (fun h => hV.c6 (by rwa [upd_ne L (show 6 ≠ 10 by decide)] at h)), (fun h h11 => by obtain ⟨b, e1, e2, e3⟩ := hV.c7 (by rwa [upd_ne L (show 7 ≠ 10 by decide)] at h) (by rwa [upd_ne L (show 11 ≠ 10 by decide)] at h11); exact ⟨b, e1, e2, keep b _ _ e2 e3⟩), (fun h => hV.c8 (by rwa [upd_ne L (show 8 ≠ 10 by decide)] at h)), (fun h => hV.c9 (by rwa [upd_ne L (show 9 ≠ 10 by decide)] at h)), (fun _ => ⟨wx.heap.size, rfl, hV.fr.size, by rw [upd_ne L (show 11 ≠ 10 by decide), n11]; exact OwnAt.new wx [.string ⟨#[]⟩, .int .i64 0] _⟩)⟩, rfl⟩
    · have d9 : L 9 = true := hd _ rfl ⟨9, .data⟩ (by simp) rfl
      have d10 : L 10 = true := hd _ rfl ⟨10, .data⟩ (by simp) rfl
      obtain ⟨b, rfl, hb, ho⟩ := hV.c10 d10
      obtain rfl := hV.c9 d9
      rw [hl, if_neg (by decide)] at ho
      have before : ∀ j, j < 11 → L j = true := fun j hj => by
        have hj : j = 0 ∨ j = 1 ∨ j = 2 ∨ j = 3 ∨ j = 4 ∨ j = 5 ∨ j = 6 ∨ j = 7 ∨ j = 8 ∨ j = 9 ∨ j = 10 := by omega
        rcases hj with rfl | rfl | rfl | rfl | rfl | rfl | rfl | rfl | rfl | rfl | rfl
        · exact hd _ rfl ⟨0, .phase⟩ (by simp) rfl
        · exact hd _ rfl ⟨1, .phase⟩ (by simp) rfl
        · exact hd _ rfl ⟨2, .phase⟩ (by simp) rfl
        · exact hd _ rfl ⟨3, .phase⟩ (by simp) rfl
        · exact hd _ rfl ⟨4, .phase⟩ (by simp) rfl
        · exact hd _ rfl ⟨5, .phase⟩ (by simp) rfl
        · exact hd _ rfl ⟨6, .phase⟩ (by simp) rfl
        · exact hd _ rfl ⟨7, .phase⟩ (by simp) rfl
        · exact hd _ rfl ⟨8, .phase⟩ (by simp) rfl
        · exact hd _ rfl ⟨9, .phase⟩ (by simp) rfl
        · exact hd _ rfl ⟨10, .phase⟩ (by simp) rfl
      have hx0 := ho.at 0 _ rfl
      have hx1 := ho.at 1 _ rfl
      have fx0 := ho.fz 0
      have fx1 := ho.fz 1
      have hbl := ho.lt
      have hsS := hs.lt
      have HV := Lib.hid hV; have HD := Lib.hid hd; have HL := Lib.hid hl
      refine op_at _ rfl rfl (fun K' hK => ?_)
      conv => arg 2; whnf
      go_wp2_with fail
      exact ⟨.pointer (some ⟨b, 0, none⟩), z34, z35, z36, z37, z38, z39, z40, z41, z42, .agg #[.string (strOf (aNames.getD i [])), .int .i64 (aSizes.getD (gNext raw a 4).1.toNat 0)], ⟨(hV.fr.setNew hb 0 (.string (strOf (aNames.getD i [])))).setNew hb 1 (.int .i64 (aSizes.getD (gNext raw a 4).1.toNat 0)), (by rw [upd_ne L (show 6 ≠ 11 by decide)]; exact (hV.src.other (by omega) 0 (.string (strOf (aNames.getD i [])))).other (by omega) 1 (.int .i64 (aSizes.getD (gNext raw a 4).1.toNat 0))), (fun _ j hj => by rw [upd_ne L (show j ≠ 11 by omega)]; exact before j hj), (fun _ h11 => by rw [upd_same] at h11; cases h11), (fun h => hV.c1 (by rwa [upd_ne L (show 1 ≠ 11 by decide)] at h)), (fun _ h11 => by rw [upd_same] at h11; cases h11), (fun h => hV.c3 (by rwa [upd_ne L (show 3 ≠ 11 by decide)] at h)), (fun _ h11 => by rw [upd_same] at h11; cases h11), (fun h => hV.c5 (by rwa [upd_ne L (show 5 ≠ 11 by decide)] at h)), (fun h => hV.c6 (by rwa [upd_ne L (show 6 ≠ 11 by decide)] at h)), (fun _ h11 => by rw [upd_same] at h11; cases h11), (fun h => hV.c8 (by rwa [upd_ne L (show 8 ≠ 11 by decide)] at h)), (fun h => hV.c9 (by rwa [upd_ne L (show 9 ≠ 11 by decide)] at h)), (fun _ => ⟨b, rfl, hb, by rw [upd_same, if_pos rfl]; exact (ho.set 0 (.string (strOf (aNames.getD i [])))).set 1 (.int .i64 (aSizes.getD (gNext raw a 4).1.toNat 0))⟩)⟩, rfl⟩
  · intro L act wx hI hall
    obtain ⟨z9, z34, z35, z36, z37, z38, z39, z40, z41, z42, z43, hV, rfl⟩ := hI
    obtain ⟨b, e1, e2, e3⟩ := hV.c10 (hall 10 (by decide))
    have hsrc := hV.src
    rw [if_pos (hall 6 (by decide))] at hsrc
    rw [if_pos (hall 11 (by decide))] at e3
    exact hM _ _ (Met.intro (hJ _ _ ⟨z9, z34, z35, z36, z37, z38, z39, z40, z41, z42, z43, ⟨b, e1, e2, e3, hsrc, hV.fr⟩, rfl⟩))
end Go.Proofs.YtgmaeflfiooigaaGreatDoor

namespace Go.Proofs.YtgmaeflfiooigaaGreatDoor
open Go.RowKit
set_option maxHeartbeats 8000000
set_option maxRecDepth 100000

theorem fName_at : ∀ j : Fin 3, (strsOf fNames)[j.val]? = some (.string (strOf (fNames.getD j.val []))) := by
  intro j; match j with
  | ⟨0, _⟩ => rfl
  | ⟨1, _⟩ => rfl
  | ⟨2, _⟩ => rfl
structure V18 (S i a : Nat) (raw : List Int) (W : World) (L : Nat → Bool) (z11 z69 z70 z71 z72 z73 z74 z75 z76 z77 : Value) (wx : World) : Prop where
  fr : SFr S W wx
  src : SrcAt wx S raw (if L 6 = true then (gNext raw a 7).2 else a)
  ord : L 10 = true → ∀ j, j < 10 → L j = true
  c0 : L 0 = true → L 10 = false → ∃ b, z69 = .slice (some ⟨b, 0, none⟩) 3 3 ∧ W.heap.size ≤ b ∧ OwnAt wx b (strsOf fNames) 9
  c1 : L 1 = true → z70 = .int .i64 (i : Int)
  c2 : L 2 = true → L 10 = false → ∃ b, z71 = .pointer (some ⟨b, i, none⟩) ∧ W.heap.size ≤ b ∧ OwnAt wx b (strsOf fNames) 9
  c3 : L 3 = true → z72 = .string (strOf (fNames.getD i []))
  c4 : L 4 = true → L 10 = false → ∃ b, z73 = .slice (some ⟨b, 0, none⟩) 6 6 ∧ W.heap.size ≤ b ∧ OwnAt wx b (strsOf pNames) 9
  c5 : L 5 = true → z74 = .pointer (some ⟨S, 0, none⟩)
  c6 : L 6 = true → z75 = .int .i64 (gNext raw a 7).1
  c7 : L 7 = true → L 10 = false → ∃ b, z76 = .slice (some ⟨b, 0, none⟩) (gNext raw a 7).1.toNat 6 ∧ W.heap.size ≤ b ∧ OwnAt wx b (strsOf pNames) 9
  c8 : L 8 = true → L 10 = false → ∃ b, z77 = .agg #[.string (strOf (fNames.getD i [])), .slice (some ⟨b, 0, none⟩) (gNext raw a 7).1.toNat 6, .slice none 0 0, .slice none 0 0] ∧ W.heap.size ≤ b ∧ OwnAt wx b (strsOf pNames) 9
  c9 : L 9 = true → L 10 = false → ∃ b, z11 = .pointer (some ⟨b, 0, none⟩) ∧ W.heap.size ≤ b ∧ OwnAt wx b [.string ⟨#[]⟩, .slice none 0 0, .slice none 0 0, .slice none 0 0] 52
  c10 : L 10 = true → ∃ b b6, z11 = .pointer (some ⟨b, 0, none⟩) ∧ W.heap.size ≤ b ∧ OwnAt wx b [.string (strOf (fNames.getD i [])), .slice (some ⟨b6, 0, none⟩) (gNext raw a 7).1.toNat 6, .slice none 0 0, .slice none 0 0] 52 ∧ W.heap.size ≤ b6 ∧ OwnAt wx b6 (strsOf pNames) 9
def R18 (S i a : Nat) (raw : List Int) (W : World) (q0 q1 q2 q3 q4 q6 q7 q8 q9 q12 q13 q14 q15 q16 q17 q18 q19 q20 q21 q22 q23 q24 q25 q26 q27 q28 q29 q30 q31 q32 q33 q34 q35 q36 q37 q38 q39 q40 q41 q42 q43 q44 q45 q46 q47 q48 q49 q50 q51 q52 q53 q54 q55 q56 q57 q58 q59 q60 q61 q62 q63 q64 q65 q66 q67 q68 q78 q79 q80 q81 q82 q83 q84 q85 q86 q87 q88 q89 q90 q91 q92 q93 q94 q95 q96 q97 q98 q99 q100 q101 q102 q103 q104 q105 q106 q107 q108 q109 q110 q111 q112 q113 q114 q115 q116 q117 q118 q119 : Value) (a' : Act) (w' : World) : Prop :=
  ∃ z11 z69 z70 z71 z72 z73 z74 z75 z76 z77 : Value, (∃ b b6, z11 = .pointer (some ⟨b, 0, none⟩) ∧ W.heap.size ≤ b ∧ OwnAt w' b [.string (strOf (fNames.getD i [])), .slice (some ⟨b6, 0, none⟩) (gNext raw a 7).1.toNat 6, .slice none 0 0, .slice none 0 0] 52 ∧ W.heap.size ≤ b6 ∧ OwnAt w' b6 (strsOf pNames) 9 ∧ SrcAt w' S raw (gNext raw a 7).2 ∧ SFr S W w') ∧ a' = ⟨[q0, q1, q2, q3, q4, .pointer (some ⟨S, 0, none⟩), q6, q7, q8, q9, .int .i64 (i : Int), z11, q12, q13, q14, q15, q16, q17, q18, q19, q20, q21, q22, q23, q24, q25, q26, q27, q28, q29, q30, q31, q32, q33, q34, q35, q36, q37, q38, q39, q40, q41, q42, q43, q44, q45, q46, q47, q48, q49, q50, q51, q52, q53, q54, q55, q56, q57, q58, q59, q60, q61, q62, q63, q64, q65, q66, q67, q68, z69, z70, z71, z72, z73, z74, z75, z76, z77, q78, q79, q80, q81, q82, q83, q84, q85, q86, q87, q88, q89, q90, q91, q92, q93, q94, q95, q96, q97, q98, q99, q100, q101, q102, q103, q104, q105, q106, q107, q108, q109, q110, q111, q112, q113, q114, q115, q116, q117, q118, q119].toArray, []⟩
def I18 (S i a : Nat) (raw : List Int) (W : World) (q0 q1 q2 q3 q4 q6 q7 q8 q9 q12 q13 q14 q15 q16 q17 q18 q19 q20 q21 q22 q23 q24 q25 q26 q27 q28 q29 q30 q31 q32 q33 q34 q35 q36 q37 q38 q39 q40 q41 q42 q43 q44 q45 q46 q47 q48 q49 q50 q51 q52 q53 q54 q55 q56 q57 q58 q59 q60 q61 q62 q63 q64 q65 q66 q67 q68 q78 q79 q80 q81 q82 q83 q84 q85 q86 q87 q88 q89 q90 q91 q92 q93 q94 q95 q96 q97 q98 q99 q100 q101 q102 q103 q104 q105 q106 q107 q108 q109 q110 q111 q112 q113 q114 q115 q116 q117 q118 q119 : Value) (L : Nat → Bool) (a' : Act) (w' : World) : Prop :=
  ∃ z11 z69 z70 z71 z72 z73 z74 z75 z76 z77 : Value, V18 S i a raw W L z11 z69 z70 z71 z72 z73 z74 z75 z76 z77 w' ∧ a' = ⟨[q0, q1, q2, q3, q4, .pointer (some ⟨S, 0, none⟩), q6, q7, q8, q9, .int .i64 (i : Int), z11, q12, q13, q14, q15, q16, q17, q18, q19, q20, q21, q22, q23, q24, q25, q26, q27, q28, q29, q30, q31, q32, q33, q34, q35, q36, q37, q38, q39, q40, q41, q42, q43, q44, q45, q46, q47, q48, q49, q50, q51, q52, q53, q54, q55, q56, q57, q58, q59, q60, q61, q62, q63, q64, q65, q66, q67, q68, z69, z70, z71, z72, z73, z74, z75, z76, z77, q78, q79, q80, q81, q82, q83, q84, q85, q86, q87, q88, q89, q90, q91, q92, q93, q94, q95, q96, q97, q98, q99, q100, q101, q102, q103, q104, q105, q106, q107, q108, q109, q110, q111, q112, q113, q114, q115, q116, q117, q118, q119].toArray, []⟩
theorem pg_reg18 (S i a : Nat) (raw : List Int) (W : World) (hs : SrcAt W S raw a) (hi : 1 ≤ i ∧ i ≤ 2) (q0 q1 q2 q3 q4 q6 q7 q8 q9 q11 q12 q13 q14 q15 q16 q17 q18 q19 q20 q21 q22 q23 q24 q25 q26 q27 q28 q29 q30 q31 q32 q33 q34 q35 q36 q37 q38 q39 q40 q41 q42 q43 q44 q45 q46 q47 q48 q49 q50 q51 q52 q53 q54 q55 q56 q57 q58 q59 q60 q61 q62 q63 q64 q65 q66 q67 q68 q69 q70 q71 q72 q73 q74 q75 q76 q77 q78 q79 q80 q81 q82 q83 q84 q85 q86 q87 q88 q89 q90 q91 q92 q93 q94 q95 q96 q97 q98 q99 q100 q101 q102 q103 q104 q105 q106 q107 q108 q109 q110 q111 q112 q113 q114 q115 q116 q117 q118 q119 : Value) (J K' : Act → World → Prop) (hJ : ∀ a' w', R18 S i a raw W q0 q1 q2 q3 q4 q6 q7 q8 q9 q12 q13 q14 q15 q16 q17 q18 q19 q20 q21 q22 q23 q24 q25 q26 q27 q28 q29 q30 q31 q32 q33 q34 q35 q36 q37 q38 q39 q40 q41 q42 q43 q44 q45 q46 q47 q48 q49 q50 q51 q52 q53 q54 q55 q56 q57 q58 q59 q60 q61 q62 q63 q64 q65 q66 q67 q68 q78 q79 q80 q81 q82 q83 q84 q85 q86 q87 q88 q89 q90 q91 q92 q93 q94 q95 q96 q97 q98 q99 q100 q101 q102 q103 q104 q105 q106 q107 q108 q109 q110 q111 q112 q113 q114 q115 q116 q117 q118 q119 a' w' → J a' w') (hM : ∀ a' w', Met J a' w' → K' a' w') :
    Code.wp Tryz.prog (pgReg 18) (Exit.then K' (fun _ _ _ => False)) ⟨[q0, q1, q2, q3, q4, .pointer (some ⟨S, 0, none⟩), q6, q7, q8, q9, .int .i64 (i : Int), q11, q12, q13, q14, q15, q16, q17, q18, q19, q20, q21, q22, q23, q24, q25, q26, q27, q28, q29, q30, q31, q32, q33, q34, q35, q36, q37, q38, q39, q40, q41, q42, q43, q44, q45, q46, q47, q48, q49, q50, q51, q52, q53, q54, q55, q56, q57, q58, q59, q60, q61, q62, q63, q64, q65, q66, q67, q68, q69, q70, q71, q72, q73, q74, q75, q76, q77, q78, q79, q80, q81, q82, q83, q84, q85, q86, q87, q88, q89, q90, q91, q92, q93, q94, q95, q96, q97, q98, q99, q100, q101, q102, q103, q104, q105, q106, q107, q108, q109, q110, q111, q112, q113, q114, q115, q116, q117, q118, q119].toArray, []⟩ W := by
  conv => arg 2; whnf
  dsimp only
  refine region_by (by kernel_rfl) (by kernel_rfl) (I18 S i a raw W q0 q1 q2 q3 q4 q6 q7 q8 q9 q12 q13 q14 q15 q16 q17 q18 q19 q20 q21 q22 q23 q24 q25 q26 q27 q28 q29 q30 q31 q32 q33 q34 q35 q36 q37 q38 q39 q40 q41 q42 q43 q44 q45 q46 q47 q48 q49 q50 q51 q52 q53 q54 q55 q56 q57 q58 q59 q60 q61 q62 q63 q64 q65 q66 q67 q68 q78 q79 q80 q81 q82 q83 q84 q85 q86 q87 q88 q89 q90 q91 q92 q93 q94 q95 q96 q97 q98 q99 q100 q101 q102 q103 q104 q105 q106 q107 q108 q109 q110 q111 q112 q113 q114 q115 q116 q117 q118 q119) ?_ ?_ ?_
  · refine ⟨q11, q69, q70, q71, q72, q73, q74, q75, q76, q77, ⟨SFr.of_below (Below.refl _ _).drew, by rw [if_neg (by decide)]; exact hs.old (Below.refl _ _).drew, fun h => (by cases h), fun h => (by cases h), fun h => (by cases h), fun h => (by cases h), fun h => (by cases h), fun h => (by cases h), fun h => (by cases h), fun h => (by cases h), fun h => (by cases h), fun h => (by cases h), fun h => (by cases h), fun h => (by cases h)⟩, rfl⟩
  · intro L act wx k hI hk hl hd
    obtain ⟨z11, z69, z70, z71, z72, z73, z74, z75, z76, z77, hV, rfl⟩ := hI
    have hk : k = 0 ∨ k = 1 ∨ k = 2 ∨ k = 3 ∨ k = 4 ∨ k = 5 ∨ k = 6 ∨ k = 7 ∨ k = 8 ∨ k = 9 ∨ k = 10 := by
      have : k < 11 := hk
      omega
    rcases hk with rfl | rfl | rfl | rfl | rfl | rfl | rfl | rfl | rfl | rfl | rfl
    · have n11 : L 10 = false := by
        cases h : L 10 with
        | false => rfl
        | true => have := hV.ord h 0 (by decide); rw [hl] at this; cases this
      have hal : Below wx.heap.size wx (wx.alloc (.cells (strsOf fNames).toArray 9)) := (Below.refl _ _).alloc (Nat.le_refl _) _
      have keep : ∀ b cs T, W.heap.size ≤ b → OwnAt wx b cs T → OwnAt (wx.alloc (.cells (strsOf fNames).toArray 9)) b cs T := fun b cs T _ h => h.old hal
      have HV := Lib.hid hV; have HD := Lib.hid hd; have HL := Lib.hid hl
      refine op_at _ rfl rfl (fun K' hK => ?_)
      conv => arg 2; whnf
      go_wp2_with fail
      exact ⟨z11, .slice (some ⟨wx.heap.size, 0, none⟩) 3 3, z70, z71, z72, z73, z74, z75, z76, z77, ⟨hV.fr.trans (SFr.of_below hal), (by rw [upd_ne L (show 6 ≠ 0 by decide)]; exact hV.src.old hal), (fun h j hj => by rw [upd_ne L (show 10 ≠ 0 by decide)] at h; have := hV.ord h 0 (by decide); rw [hl] at this; cases this), (fun _ _ => ⟨wx.heap.size, rfl, hV.fr.size, OwnAt.new wx (strsOf fNames) _⟩), (fun h => hV.c1 (by rwa [upd_ne L (show 1 ≠ 0 by decide)] at h)), (fun h h11 => by obtain ⟨b, e1, e2, e3⟩ := hV.c2 (by rwa [upd_ne L (show 2 ≠ 0 by decide)] at h) (by rwa [upd_ne L (show 10 ≠ 0 by decide)] at h11); exact ⟨b, e1, e2, keep b _ _ e2 e3⟩), (fun h => hV.c3 (by rwa [upd_ne L (show 3 ≠ 0 by decide)] at h)), (fun h h11 => by obtain ⟨b, e1, e2, e3⟩ := hV.c4 (by rwa [upd_ne L (show 4 ≠ 0 by decide)] at h) (by rwa [upd_ne L (show 10 ≠ 0 by decide)] at h11); exact ⟨b, e1, e2, keep b _ _ e2 e3⟩), (fun h => hV.c5 (by rwa [upd_ne L (show 5 ≠ 0 by decide)] at h)), (fun h => hV.c6 (by rwa [upd_ne L (show 6 ≠ 0 by decide)] at h)), (fun h h11 => by obtain ⟨b, e1, e2, e3⟩ := hV.c7 (by rwa [upd_ne L (show 7 ≠ 0 by decide)] at h) (by rwa [upd_ne L (show 10 ≠ 0 by decide)] at h11); exact ⟨b, e1, e2, keep b _ _ e2 e3⟩), (fun h h11 => by obtain ⟨b, e1, e2, e3⟩ := hV.c8 (by rwa [upd_ne L (show 8 ≠ 0 by decide)] at h) (by rwa [upd_ne L (show 10 ≠ 0 by decide)] at h11); exact ⟨b, e1, e2, keep b _ _ e2 e3⟩), (fun h h11 => by obtain ⟨b, e1, e2, e3⟩ := hV.c9 (by rwa [upd_ne L (show 9 ≠ 0 by decide)] at h) (by rwa [upd_ne L (show 10 ≠ 0 by decide)] at h11); exact ⟨b, e1, e2, keep b _ _ e2 e3⟩), (fun h => by rw [upd_ne L (show 10 ≠ 0 by decide)] at h; have := hV.ord h 0 (by decide); rw [hl] at this; cases this)⟩, rfl⟩
    · have n11 : L 10 = false := by
        cases h : L 10 with
        | false => rfl
        | true => have := hV.ord h 1 (by decide); rw [hl] at this; cases this
      have HV := Lib.hid hV; have HD := Lib.hid hd; have HL := Lib.hid hl
      refine op_at _ rfl rfl (fun K' hK => ?_)
      conv => arg 2; whnf
      go_wp2_with fail
      exact ⟨z11, z69, .int .i64 (i : Int), z71, z72, z73, z74, z75, z76, z77, ⟨hV.fr, (by rw [upd_ne L (show 6 ≠ 1 by decide)]; exact hV.src), (fun h j hj => by rw [upd_ne L (show 10 ≠ 1 by decide)] at h; have := hV.ord h 1 (by decide); rw [hl] at this; cases this), (fun h h11 => by obtain ⟨b, e1, e2, e3⟩ := hV.c0 (by rwa [upd_ne L (show 0 ≠ 1 by decide)] at h) (by rwa [upd_ne L (show 10 ≠ 1 by decide)] at h11); exact ⟨b, e1, e2, e3⟩), (fun _ => rfl), (fun h h11 => by obtain ⟨b, e1, e2, e3⟩ := hV.c2 (by rwa [upd_ne L (show 2 ≠ 1 by decide)] at h) (by rwa [upd_ne L (show 10 ≠ 1 by decide)] at h11); exact ⟨b, e1, e2, e3⟩), (fun h => hV.c3 (by rwa [upd_ne L (show 3 ≠ 1 by decide)] at h)), (fun h h11 => by obtain ⟨b, e1, e2, e3⟩ := hV.c4 (by rwa [upd_ne L (show 4 ≠ 1 by decide)] at h) (by rwa [upd_ne L (show 10 ≠ 1 by decide)] at h11); exact ⟨b, e1, e2, e3⟩), (fun h => hV.c5 (by rwa [upd_ne L (show 5 ≠ 1 by decide)] at h)), (fun h => hV.c6 (by rwa [upd_ne L (show 6 ≠ 1 by decide)] at h)), (fun h h11 => by obtain ⟨b, e1, e2, e3⟩ := hV.c7 (by rwa [upd_ne L (show 7 ≠ 1 by decide)] at h) (by rwa [upd_ne L (show 10 ≠ 1 by decide)] at h11); exact ⟨b, e1, e2, e3⟩), (fun h h11 => by obtain ⟨b, e1, e2, e3⟩ := hV.c8 (by rwa [upd_ne L (show 8 ≠ 1 by decide)] at h) (by rwa [upd_ne L (show 10 ≠ 1 by decide)] at h11); exact ⟨b, e1, e2, e3⟩), (fun h h11 => by obtain ⟨b, e1, e2, e3⟩ := hV.c9 (by rwa [upd_ne L (show 9 ≠ 1 by decide)] at h) (by rwa [upd_ne L (show 10 ≠ 1 by decide)] at h11); exact ⟨b, e1, e2, e3⟩), (fun h => by rw [upd_ne L (show 10 ≠ 1 by decide)] at h; have := hV.ord h 1 (by decide); rw [hl] at this; cases this)⟩, rfl⟩
    · have n11 : L 10 = false := by
        cases h : L 10 with
        | false => rfl
        | true => have := hV.ord h 2 (by decide); rw [hl] at this; cases this
      have d0 : L 0 = true := hd _ rfl ⟨0, .data⟩ (by simp) rfl
      have d1 : L 1 = true := hd _ rfl ⟨1, .data⟩ (by simp) rfl
      obtain ⟨b, rfl, hb, ho⟩ := hV.c0 d0 n11
      obtain rfl := hV.c1 d1
      have hi3 : (i : Int) < 3 := by omega
      have HV := Lib.hid hV; have HD := Lib.hid hd; have HL := Lib.hid hl
      refine op_at _ rfl rfl (fun K' hK => ?_)
      conv => arg 2; whnf
      go_wp2_with fail
      exact ⟨z11, .slice (some ⟨b, 0, none⟩) 3 3, .int .i64 (i : Int), .pointer (some ⟨b, i, none⟩), z72, z73, z74, z75, z76, z77, ⟨hV.fr, (by rw [upd_ne L (show 6 ≠ 2 by decide)]; exact hV.src), (fun h j hj => by rw [upd_ne L (show 10 ≠ 2 by decide)] at h; have := hV.ord h 2 (by decide); rw [hl] at this; cases this), (fun h h11 => by obtain ⟨b, e1, e2, e3⟩ := hV.c0 (by rwa [upd_ne L (show 0 ≠ 2 by decide)] at h) (by rwa [upd_ne L (show 10 ≠ 2 by decide)] at h11); exact ⟨b, e1, e2, e3⟩), (fun h => hV.c1 (by rwa [upd_ne L (show 1 ≠ 2 by decide)] at h)), (fun _ _ => ⟨b, rfl, hb, ho⟩), (fun h => hV.c3 (by rwa [upd_ne L (show 3 ≠ 2 by decide)] at h)), (fun h h11 => by obtain ⟨b, e1, e2, e3⟩ := hV.c4 (by rwa [upd_ne L (show 4 ≠ 2 by decide)] at h) (by rwa [upd_ne L (show 10 ≠ 2 by decide)] at h11); exact ⟨b, e1, e2, e3⟩), (fun h => hV.c5 (by rwa [upd_ne L (show 5 ≠ 2 by decide)] at h)), (fun h => hV.c6 (by rwa [upd_ne L (show 6 ≠ 2 by decide)] at h)), (fun h h11 => by obtain ⟨b, e1, e2, e3⟩ := hV.c7 (by rwa [upd_ne L (show 7 ≠ 2 by decide)] at h) (by rwa [upd_ne L (show 10 ≠ 2 by decide)] at h11); exact ⟨b, e1, e2, e3⟩), (fun h h11 => by obtain ⟨b, e1, e2, e3⟩ := hV.c8 (by rwa [upd_ne L (show 8 ≠ 2 by decide)] at h) (by rwa [upd_ne L (show 10 ≠ 2 by decide)] at h11); exact ⟨b, e1, e2, e3⟩), (fun h h11 => by obtain ⟨b, e1, e2, e3⟩ := hV.c9 (by rwa [upd_ne L (show 9 ≠ 2 by decide)] at h) (by rwa [upd_ne L (show 10 ≠ 2 by decide)] at h11); exact ⟨b, e1, e2, e3⟩), (fun h => by rw [upd_ne L (show 10 ≠ 2 by decide)] at h; have := hV.ord h 2 (by decide); rw [hl] at this; cases this)⟩, rfl⟩
    · have n11 : L 10 = false := by
        cases h : L 10 with
        | false => rfl
        | true => have := hV.ord h 3 (by decide); rw [hl] at this; cases this
      have d2 : L 2 = true := hd _ rfl ⟨2, .data⟩ (by simp) rfl
      obtain ⟨b, rfl, hb, ho⟩ := hV.c2 d2 n11
      have hx := ho.at i _ (fName_at ⟨i, by omega⟩)
      have HV := Lib.hid hV; have HD := Lib.hid hd; have HL := Lib.hid hl
      refine op_at _ rfl rfl (fun K' hK => ?_)
      conv => arg 2; whnf
      go_wp2_with fail
      exact ⟨z11, z69, z70, .pointer (some ⟨b, i, none⟩), .string (strOf (fNames.getD i [])), z73, z74, z75, z76, z77, ⟨hV.fr, (by rw [upd_ne L (show 6 ≠ 3 by decide)]; exact hV.src), (fun h j hj => by rw [upd_ne L (show 10 ≠ 3 by decide)] at h; have := hV.ord h 3 (by decide); rw [hl] at this; cases this), (fun h h11 => by obtain ⟨b, e1, e2, e3⟩ := hV.c0 (by rwa [upd_ne L (show 0 ≠ 3 by decide)] at h) (by rwa [upd_ne L (show 10 ≠ 3 by decide)] at h11); exact ⟨b, e1, e2, e3⟩), (fun h => hV.c1 (by rwa [upd_ne L (show 1 ≠ 3 by decide)] at h)), (fun h h11 => by obtain ⟨b, e1, e2, e3⟩ := hV.c2 (by rwa [upd_ne L (show 2 ≠ 3 by decide)] at h) (by rwa [upd_ne L (show 10 ≠ 3 by decide)] at h11); exact ⟨b, e1, e2, e3⟩), (fun _ => rfl), (fun h h11 => by obtain ⟨b, e1, e2, e3⟩ := hV.c4 (by rwa [upd_ne L (show 4 ≠ 3 by decide)] at h) (by rwa [upd_ne L (show 10 ≠ 3 by decide)] at h11); exact ⟨b, e1, e2, e3⟩), (fun h => hV.c5 (by rwa [upd_ne L (show 5 ≠ 3 by decide)] at h)), (fun h => hV.c6 (by rwa [upd_ne L (show 6 ≠ 3 by decide)] at h)), (fun h h11 => by obtain ⟨b, e1, e2, e3⟩ := hV.c7 (by rwa [upd_ne L (show 7 ≠ 3 by decide)] at h) (by rwa [upd_ne L (show 10 ≠ 3 by decide)] at h11); exact ⟨b, e1, e2, e3⟩), (fun h h11 => by obtain ⟨b, e1, e2, e3⟩ := hV.c8 (by rwa [upd_ne L (show 8 ≠ 3 by decide)] at h) (by rwa [upd_ne L (show 10 ≠ 3 by decide)] at h11); exact ⟨b, e1, e2, e3⟩), (fun h h11 => by obtain ⟨b, e1, e2, e3⟩ := hV.c9 (by rwa [upd_ne L (show 9 ≠ 3 by decide)] at h) (by rwa [upd_ne L (show 10 ≠ 3 by decide)] at h11); exact ⟨b, e1, e2, e3⟩), (fun h => by rw [upd_ne L (show 10 ≠ 3 by decide)] at h; have := hV.ord h 3 (by decide); rw [hl] at this; cases this)⟩, rfl⟩
    · have n11 : L 10 = false := by
        cases h : L 10 with
        | false => rfl
        | true => have := hV.ord h 4 (by decide); rw [hl] at this; cases this
      have hal : Below wx.heap.size wx (wx.alloc (.cells (strsOf pNames).toArray 9)) := (Below.refl _ _).alloc (Nat.le_refl _) _
      have keep : ∀ b cs T, W.heap.size ≤ b → OwnAt wx b cs T → OwnAt (wx.alloc (.cells (strsOf pNames).toArray 9)) b cs T := fun b cs T _ h => h.old hal
      have HV := Lib.hid hV; have HD := Lib.hid hd; have HL := Lib.hid hl
      refine op_at _ rfl rfl (fun K' hK => ?_)
      conv => arg 2; whnf
      go_wp2_with fail
      exact ⟨z11, z69, z70, z71, z72, .slice (some ⟨wx.heap.size, 0, none⟩) 6 6, z74, z75, z76, z77, ⟨hV.fr.trans (SFr.of_below hal), (by rw [upd_ne L (show 6 ≠ 4 by decide)]; exact hV.src.old hal), (fun h j hj => by rw [upd_ne L (show 10 ≠ 4 by decide)] at h; have := hV.ord h 4 (by decide); rw [hl] at this; cases this), (fun h h11 => by obtain ⟨b, e1, e2, e3⟩ := hV.c0 (by rwa [upd_ne L (show 0 ≠ 4 by decide)] at h) (by rwa [upd_ne L (show 10 ≠ 4 by decide)] at h11); exact ⟨b, e1, e2, keep b _ _ e2 e3⟩), (fun h => hV.c1 (by rwa [upd_ne L (show 1 ≠ 4 by decide)] at h)), (fun h h11 => by obtain ⟨b, e1, e2, e3⟩ := hV.c2 (by rwa [upd_ne L (show 2 ≠ 4 by decide)] at h) (by rwa [upd_ne L (show 10 ≠ 4 by decide)] at h11); exact ⟨b, e1, e2, keep b _ _ e2 e3⟩), (fun h => hV.c3 (by rwa [upd_ne L (show 3 ≠ 4 by decide)] at h)), (fun _ _ => ⟨wx.heap.size, rfl, hV.fr.size, OwnAt.new wx (strsOf pNames) _⟩), (fun h => hV.c5 (by rwa [upd_ne L (show 5 ≠ 4 by decide)] at h)), (fun h => hV.c6 (by rwa [upd_ne L (show 6 ≠ 4 by decide)] at h)), (fun h h11 => by obtain ⟨b, e1, e2, e3⟩ := hV.c7 (by rwa [upd_ne L (show 7 ≠ 4 by decide)] at h) (by rwa [upd_ne L (show 10 ≠ 4 by decide)] at h11); exact ⟨b, e1, e2, keep b _ _ e2 e3⟩), (fun h h11 => by obtain ⟨b, e1, e2, e3⟩ := hV.c8 (by rwa [upd_ne L (show 8 ≠ 4 by decide)] at h) (by rwa [upd_ne L (show 10 ≠ 4 by decide)] at h11); exact ⟨b, e1, e2, keep b _ _ e2 e3⟩), (fun h h11 => by obtain ⟨b, e1, e2, e3⟩ := hV.c9 (by rwa [upd_ne L (show 9 ≠ 4 by decide)] at h) (by rwa [upd_ne L (show 10 ≠ 4 by decide)] at h11); exact ⟨b, e1, e2, keep b _ _ e2 e3⟩), (fun h => by rw [upd_ne L (show 10 ≠ 4 by decide)] at h; have := hV.ord h 4 (by decide); rw [hl] at this; cases this)⟩, rfl⟩
    · have n11 : L 10 = false := by
        cases h : L 10 with
        | false => rfl
        | true => have := hV.ord h 5 (by decide); rw [hl] at this; cases this
      have HV := Lib.hid hV; have HD := Lib.hid hd; have HL := Lib.hid hl
      refine op_at _ rfl rfl (fun K' hK => ?_)
      conv => arg 2; whnf
      go_wp2_with fail
      exact ⟨z11, z69, z70, z71, z72, z73, .pointer (some ⟨S, 0, none⟩), z75, z76, z77, ⟨hV.fr, (by rw [upd_ne L (show 6 ≠ 5 by decide)]; exact hV.src), (fun h j hj => by rw [upd_ne L (show 10 ≠ 5 by decide)] at h; have := hV.ord h 5 (by decide); rw [hl] at this; cases this), (fun h h11 => by obtain ⟨b, e1, e2, e3⟩ := hV.c0 (by rwa [upd_ne L (show 0 ≠ 5 by decide)] at h) (by rwa [upd_ne L (show 10 ≠ 5 by decide)] at h11); exact ⟨b, e1, e2, e3⟩), (fun h => hV.c1 (by rwa [upd_ne L (show 1 ≠ 5 by decide)] at h)), (fun h h11 => by obtain ⟨b, e1, e2, e3⟩ := hV.c2 (by rwa [upd_ne L (show 2 ≠ 5 by decide)] at h) (by rwa [upd_ne L (show 10 ≠ 5 by decide)] at h11); exact ⟨b, e1, e2, e3⟩), (fun h => hV.c3 (by rwa [upd_ne L (show 3 ≠ 5 by decide)] at h)), (fun h h11 => by obtain ⟨b, e1, e2, e3⟩ := hV.c4 (by rwa [upd_ne L (show 4 ≠ 5 by decide)] at h) (by rwa [upd_ne L (show 10 ≠ 5 by decide)] at h11); exact ⟨b, e1, e2, e3⟩), (fun _ => rfl), (fun h => hV.c6 (by rwa [upd_ne L (show 6 ≠ 5 by decide)] at h)), (fun h h11 => by obtain ⟨b, e1, e2, e3⟩ := hV.c7 (by rwa [upd_ne L (show 7 ≠ 5 by decide)] at h) (by rwa [upd_ne L (show 10 ≠ 5 by decide)] at h11); exact ⟨b, e1, e2, e3⟩), (fun h h11 => by obtain ⟨b, e1, e2, e3⟩ := hV.c8 (by rwa [upd_ne L (show 8 ≠ 5 by decide)] at h) (by rwa [upd_ne L (show 10 ≠ 5 by decide)] at h11); exact ⟨b, e1, e2, e3⟩), (fun h h11 => by obtain ⟨b, e1, e2, e3⟩ := hV.c9 (by rwa [upd_ne L (show 9 ≠ 5 by decide)] at h) (by rwa [upd_ne L (show 10 ≠ 5 by decide)] at h11); exact ⟨b, e1, e2, e3⟩), (fun h => by rw [upd_ne L (show 10 ≠ 5 by decide)] at h; have := hV.ord h 5 (by decide); rw [hl] at this; cases this)⟩, rfl⟩
    · have n11 : L 10 = false := by
        cases h : L 10 with
        | false => rfl
        | true => have := hV.ord h 6 (by decide); rw [hl] at this; cases this
      have d5 : L 5 = true := hd _ rfl ⟨5, .data⟩ (by simp) rfl
      obtain rfl := hV.c5 d5
      have hsrc := hV.src
      rw [if_neg (by rw [hl]; decide)] at hsrc
      have hsS := hs.lt
      have HV := Lib.hid hV; have HD := Lib.hid hd; have HL := Lib.hid hl
      refine op_at _ rfl rfl (fun K' hK => ?_)
      conv => arg 2; whnf
      go_wp2_with fail
      refine (next_any S raw a 7 wx hsrc (by decide) (by decide)).mono ?_
      rintro r w2 ⟨rfl, hs2, hf2⟩
      have keep : ∀ b cs T, W.heap.size ≤ b → OwnAt wx b cs T → OwnAt w2 b cs T := fun b cs T hb h => h.sfr hf2 (by omega)
      go_wp2_with fail
      exact ⟨z11, z69, z70, z71, z72, z73, .pointer (some ⟨S, 0, none⟩), .int .i64 (gNext raw a 7).1, z76, z77, ⟨hV.fr.trans hf2, (by rw [upd_same, if_pos rfl]; exact hs2), (fun h j hj => by rw [upd_ne L (show 10 ≠ 6 by decide)] at h; have := hV.ord h 6 (by decide); rw [hl] at this; cases this), (fun h h11 => by obtain ⟨b, e1, e2, e3⟩ := hV.c0 (by rwa [upd_ne L (show 0 ≠ 6 by decide)] at h) (by rwa [upd_ne L (show 10 ≠ 6 by decide)] at h11); exact ⟨b, e1, e2, keep b _ _ e2 e3⟩), (fun h => hV.c1 (by rwa [upd_ne L (show 1 ≠ 6 by decide)] at h)), (fun h h11 => by obtain ⟨b, e1, e2, e3⟩ := hV.c2 (by rwa [upd_ne L (show 2 ≠ 6 by decide)] at h) (by rwa [upd_ne L (show 10 ≠ 6 by decide)] at h11); exact ⟨b, e1, e2, keep b _ _ e2 e3⟩), (fun h => hV.c3 (by rwa [upd_ne L (show 3 ≠ 6 by decide)] at h)), (fun h h11 => by obtain ⟨b, e1, e2, e3⟩ := hV.c4 (by rwa [upd_ne L (show 4 ≠ 6 by decide)] at h) (by rwa [upd_ne L (show 10 ≠ 6 by decide)] at h11); exact ⟨b, e1, e2, keep b _ _ e2 e3⟩), (fun h => hV.c5 (by rwa [upd_ne L (show 5 ≠ 6 by decide)] at h)), (fun _ => rfl), (fun h h11 => by obtain ⟨b, e1, e2, e3⟩ := hV.c7 (by rwa [upd_ne L (show 7 ≠ 6 by decide)] at h) (by rwa [upd_ne L (show 10 ≠ 6 by decide)] at h11); exact ⟨b, e1, e2, keep b _ _ e2 e3⟩), (fun h h11 => by obtain ⟨b, e1, e2, e3⟩ := hV.c8 (by rwa [upd_ne L (show 8 ≠ 6 by decide)] at h) (by rwa [upd_ne L (show 10 ≠ 6 by decide)] at h11); exact ⟨b, e1, e2, keep b _ _ e2 e3⟩), (fun h h11 => by obtain ⟨b, e1, e2, e3⟩ := hV.c9 (by rwa [upd_ne L (show 9 ≠ 6 by decide)] at h) (by rwa [upd_ne L (show 10 ≠ 6 by decide)] at h11); exact ⟨b, e1, e2, keep b _ _ e2 e3⟩), (fun h => by rw [upd_ne L (show 10 ≠ 6 by decide)] at h; have := hV.ord h 6 (by decide); rw [hl] at this; cases this)⟩, rfl⟩
    · have n11 : L 10 = false := by
        cases h : L 10 with
        | false => rfl
        | true => have := hV.ord h 7 (by decide); rw [hl] at this; cases this
      have d4 : L 4 = true := hd _ rfl ⟨4, .data⟩ (by simp) rfl
      have d6 : L 6 = true := hd _ rfl ⟨6, .data⟩ (by simp) rfl
      obtain ⟨b, rfl, hb, ho⟩ := hV.c4 d4 n11
      obtain rfl := hV.c6 d6
      have hr := gNext_range raw a 7 (by decide)
      obtain ⟨g0, g1⟩ := hr
      have HV := Lib.hid hV; have HD := Lib.hid hd; have HL := Lib.hid hl
      refine op_at _ rfl rfl (fun K' hK => ?_)
      conv => arg 2; whnf
      go_wp2_with fail
      exact ⟨z11, z69, z70, z71, z72, .slice (some ⟨b, 0, none⟩) 6 6, z74, .int .i64 (gNext raw a 7).1, .slice (some ⟨b, 0, none⟩) (gNext raw a 7).1.toNat 6, z77, ⟨hV.fr, (by rw [upd_ne L (show 6 ≠ 7 by decide)]; exact hV.src), (fun h j hj => by rw [upd_ne L (show 10 ≠ 7 by decide)] at h; have := hV.ord h 7 (by decide); rw [hl] at this; cases this), (fun h h11 => by obtain ⟨b, e1, e2, e3⟩ := hV.c0 (by rwa [upd_ne L (show 0 ≠ 7 by decide)] at h) (by rwa [upd_ne L (show 10 ≠ 7 by decide)] at h11); exact ⟨b, e1, e2, e3⟩), (fun h => hV.c1 (by rwa [upd_ne L (show 1 ≠ 7 by decide)] at h)), (fun h h11 => by obtain ⟨b, e1, e2, e3⟩ := hV.c2 (by rwa [upd_ne L (show 2 ≠ 7 by decide)] at h) (by rwa [upd_ne L (show 10 ≠ 7 by decide)] at h11); exact ⟨b, e1, e2, e3⟩), (fun h => hV.c3 (by rwa [upd_ne L (show 3 ≠ 7 by decide)] at h)), (fun h h11 => by obtain ⟨b, e1, e2, e3⟩ := hV.c4 (by rwa [upd_ne L (show 4 ≠ 7 by decide)] at h) (by rwa [upd_ne L (show 10 ≠ 7 by decide)] at h11); exact ⟨b, e1, e2, e3⟩), (fun h => hV.c5 (by rwa [upd_ne L (show 5 ≠ 7 by decide)] at h)), (fun h => hV.c6 (by rwa [upd_ne L (show 6 ≠ 7 by decide)] at h)), (fun _ _ => ⟨b, rfl, hb, ho⟩), (fun h h11 => by obtain ⟨b, e1, e2, e3⟩ := hV.c8 (by rwa [upd_ne L (show 8 ≠ 7 by decide)] at h) (by rwa [upd_ne L (show 10 ≠ 7 by decide)] at h11); exact ⟨b, e1, e2, e3⟩), (fun h h11 => by obtain ⟨b, e1, e2, e3⟩ := hV.c9 (by rwa [upd_ne L (show 9 ≠ 7 by decide)] at h) (by rwa [upd_ne L (show 10 ≠ 7 by decide)] at h11); exact ⟨b, e1, e2, e3⟩), (fun h => by rw [upd_ne L (show 10 ≠ 7 by decide)] at h; have := hV.ord h 7 (by decide); rw [hl] at this; cases this)⟩, rfl⟩
    · have n11 : L 10 = false := by
        cases h : L 10 with
        | false => rfl
        | true => have := hV.ord h 8 (by decide); rw [hl] at this; cases this
      have d3 : L 3 = true := hd _ rfl ⟨3, .data⟩ (by simp) rfl
      have d7 : L 7 = true := hd _ rfl ⟨7, .data⟩ (by simp) rfl
      obtain rfl := hV.c3 d3
      obtain ⟨b, rfl, hb, ho⟩ := hV.c7 d7 n11
      have HV := Lib.hid hV; have HD := Lib.hid hd; have HL := Lib.hid hl
      refine op_at _ rfl rfl (fun K' hK => ?_)
      conv => arg 2; whnf
      go_wp2_with fail
      exact ⟨z11, z69, z70, z71, .string (strOf (fNames.getD i [])), z73, z74, z75, .slice (some ⟨b, 0, none⟩) (gNext raw a 7).1.toNat 6, .agg #[.string (strOf (fNames.getD i [])), .slice (some ⟨b, 0, none⟩) (gNext raw a 7).1.toNat 6, .slice none 0 0, .slice none 0 0], ⟨hV.fr, (by rw [upd_ne L (show 6 ≠ 8 by decide)]; exact hV.src), (fun h j hj => by rw [upd_ne L (show 10 ≠ 8 by decide)] at h; have := hV.ord h 8 (by decide); rw [hl] at this; cases this), (fun h h11 => by obtain ⟨b, e1, e2, e3⟩ := hV.c0 (by rwa [upd_ne L (show 0 ≠ 8 by decide)] at h) (by rwa [upd_ne L (show 10 ≠ 8 by decide)] at h11); exact ⟨b, e1, e2, e3⟩), (fun h => hV.c1 (by rwa [upd_ne L (show 1 ≠ 8 by decide)] at h)), (fun h h11 => by obtain ⟨b, e1, e2, e3⟩ := hV.c2 (by rwa [upd_ne L (show 2 ≠ 8 by decide)] at h) (by rwa [upd_ne L (show 10 ≠ 8 by decide)] at h11); exact ⟨b, e1, e2, e3⟩), (fun h => hV.c3 (by rwa [upd_ne L (show 3 ≠ 8 by decide)] at h)), (fun h h11 => by obtain ⟨b, e1, e2, e3⟩ := hV.c4 (by rwa [upd_ne L (show 4 ≠ 8 by decide)] at h) (by rwa [upd_ne L (show 10 ≠ 8 by decide)] at h11); exact ⟨b, e1, e2, e3⟩), (fun h => hV.c5 (by rwa [upd_ne L (show 5 ≠ 8 by decide)] at h)), (fun h => hV.c6 (by rwa [upd_ne L (show 6 ≠ 8 by decide)] at h)), (fun h h11 => by obtain ⟨b, e1, e2, e3⟩ := hV.c7 (by rwa [upd_ne L (show 7 ≠ 8 by decide)] at h) (by rwa [upd_ne L (show 10 ≠ 8 by decide)] at h11); exact ⟨b, e1, e2, e3⟩), (fun _ _ => ⟨b, rfl, hb, ho⟩), (fun h h11 => by obtain ⟨b, e1, e2, e3⟩ := hV.c9 (by rwa [upd_ne L (show 9 ≠ 8 by decide)] at h) (by rwa [upd_ne L (show 10 ≠ 8 by decide)] at h11); exact ⟨b, e1, e2, e3⟩), (fun h => by rw [upd_ne L (show 10 ≠ 8 by decide)] at h; have := hV.ord h 8 (by decide); rw [hl] at this; cases this)⟩, rfl⟩
    · have n11 : L 10 = false := by
        cases h : L 10 with
        | false => rfl
        | true => have := hV.ord h 9 (by decide); rw [hl] at this; cases this
      have hal : Below wx.heap.size wx (wx.alloc (.cells #[.string ⟨#[]⟩, .slice none 0 0, .slice none 0 0, .slice none 0 0] 52)) := (Below.refl _ _).alloc (Nat.le_refl _) _
      have keep : ∀ b cs T, W.heap.size ≤ b → OwnAt wx b cs T → OwnAt (wx.alloc (.cells #[.string ⟨#[]⟩, .slice none 0 0, .slice none 0 0, .slice none 0 0] 52)) b cs T := fun b cs T _ h => h.old hal
      have HV := Lib.hid hV; have HD := Lib.hid hd; have HL := Lib.hid hl
      refine op_at _ rfl rfl (fun K' hK => ?_)
      conv => arg 2; whnf
      go_wp2_with fail
      exact ⟨.pointer (some ⟨wx.heap.size, 0, none⟩), z69, z70, z71, z72, z73, z74, z75, z76, z77, ⟨hV.fr.trans (SFr.of_below hal), (by rw [upd_ne L (show 6 ≠ 9 by decide)]; exact hV.src.old hal), (fun h j hj => by rw [upd_ne L (show 10 ≠ 9 by decide)] at h; have := hV.ord h 9 (by decide); rw [hl] at this; cases this), (fun h h11 => by obtain ⟨b, e1, e2, e3⟩ := hV.c0 (by rwa [upd_ne L (show 0 ≠ 9 by decide)] at h) (by rwa [upd_ne L (show 10 ≠ 9 by decide)] at h11); exact ⟨b, e1, e2, keep b _ _ e2 e3⟩), (fun h => hV.c1 (by rwa [upd_ne L (show 1 ≠ 9 by decide)] at h)), (fun h h11 => by obtain ⟨b, e1, e2, e3⟩ := hV.c2 (by rwa [upd_ne L (show 2 ≠ 9 by decide)] at h) (by rwa [upd_ne L (show 10 ≠ 9 by decide)] at h11); exact ⟨b, e1, e2, keep b _ _ e2 e3⟩), (fun h => hV.c3 (by rwa [upd_ne L (show 3 ≠ 9 by decide)] at h)), (fun h h11 => by obtain ⟨b, e1, e2, e3⟩ := hV.c4 (by rwa [upd_ne L (show 4 ≠ 9 by decide)] at h) (by rwa [upd_ne L (show 10 ≠ 9 by decide)] at h11); exact ⟨b, e1, e2, keep b _ _ e2 e3⟩), (fun h => hV.c5 (by rwa [upd_ne L (show 5 ≠ 9 by decide)] at h)), (fun h => hV.c6 (by rwa [upd_ne L (show 6 ≠ 9 by decide)] at h)), (fun h h11 => by obtain ⟨b, e1, e2, e3⟩ := hV.c7 (by rwa [upd_ne L (show 7 ≠ 9 by decide)] at h) (by rwa [upd_ne L (show 10 ≠ 9 by decide)] at h11); exact ⟨b, e1, e2, keep b _ _ e2 e3⟩), (fun h h11 => by obtain ⟨b, e1, e2, e3⟩ := hV.c8 (by rwa [upd_ne L (show 8 ≠ 9 by decide)] at h) (by rwa [upd_ne L (show 10 ≠ 9 by decide)] at h11); exact ⟨b, e1, e2, keep b _ _ e2 e3⟩), (fun _ _ => ⟨wx.heap.size, rfl, hV.fr.size, OwnAt.new wx [.string ⟨#[]⟩, .slice none 0 0, .slice none 0 0, .slice none 0 0] _⟩), (fun h => by rw [upd_ne L (show 10 ≠ 9 by decide)] at h; have := hV.ord h 9 (by decide); rw [hl] at this; cases this)⟩, rfl⟩
    · have n11 := hl
      have d9 : L 9 = true := hd _ rfl ⟨9, .data⟩ (by simp) rfl
      have d8 : L 8 = true := hd _ rfl ⟨8, .data⟩ (by simp) rfl
      obtain ⟨b, rfl, hb, ho⟩ := hV.c9 d9 n11
      obtain ⟨b6, rfl, hb6, ho6⟩ := hV.c8 d8 n11
      have hbb : b6 ≠ b := by
        rintro rfl
        have e := ho.symm.trans ho6
        simp at e
      have before : ∀ j, j < 10 → L j = true := fun j hj => by
        have hj : j = 0 ∨ j = 1 ∨ j = 2 ∨ j = 3 ∨ j = 4 ∨ j = 5 ∨ j = 6 ∨ j = 7 ∨ j = 8 ∨ j = 9 := by omega
        rcases hj with rfl | rfl | rfl | rfl | rfl | rfl | rfl | rfl | rfl | rfl
        · exact hd _ rfl ⟨0, .phase⟩ (by simp) rfl
        · exact hd _ rfl ⟨1, .phase⟩ (by simp) rfl
        · exact hd _ rfl ⟨2, .phase⟩ (by simp) rfl
        · exact hd _ rfl ⟨3, .phase⟩ (by simp) rfl
        · exact hd _ rfl ⟨4, .phase⟩ (by simp) rfl
        · exact hd _ rfl ⟨5, .phase⟩ (by simp) rfl
        · exact hd _ rfl ⟨6, .phase⟩ (by simp) rfl
        · exact hd _ rfl ⟨7, .phase⟩ (by simp) rfl
        · exact hd _ rfl ⟨8, .phase⟩ (by simp) rfl
        · exact hd _ rfl ⟨9, .phase⟩ (by simp) rfl
      have hx0 := ho.at 0 _ rfl
      have fx0 := ho.fz 0
      have hx1 := ho.at 1 _ rfl
      have fx1 := ho.fz 1
      have hx2 := ho.at 2 _ rfl
      have fx2 := ho.fz 2
      have hx3 := ho.at 3 _ rfl
      have fx3 := ho.fz 3
      have hbl := ho.lt
      have hsS := hs.lt
      have hSb : S < b := by omega
      have HV := Lib.hid hV; have HD := Lib.hid hd; have HL := Lib.hid hl
      refine op_at _ rfl rfl (fun K' hK => ?_)
      conv => arg 2; whnf
      go_wp2_with fail
      exact ⟨.pointer (some ⟨b, 0, none⟩), z69, z70, z71, z72, z73, z74, z75, z76, .agg #[.string (strOf (fNames.getD i [])), .slice (some ⟨b6, 0, none⟩) (gNext raw a 7).1.toNat 6, .slice none 0 0, .slice none 0 0], ⟨(((hV.fr.setNew hb 0 (.string (strOf (fNames.getD i [])))).setNew hb 1 (.slice (some ⟨b6, 0, none⟩) (gNext raw a 7).1.toNat 6)).setNew hb 2 (.slice none 0 0)).setNew hb 3 (.slice none 0 0), (by rw [upd_ne L (show 6 ≠ 10 by decide)]; exact (((hV.src.other hSb 0 (.string (strOf (fNames.getD i [])))).other hSb 1 (.slice (some ⟨b6, 0, none⟩) (gNext raw a 7).1.toNat 6)).other hSb 2 (.slice none 0 0)).other hSb 3 (.slice none 0 0)), (fun _ j hj => by rw [upd_ne L (show j ≠ 10 by omega)]; exact before j hj), (fun _ h11 => by rw [upd_same] at h11; cases h11), (fun h => hV.c1 (by rwa [upd_ne L (show 1 ≠ 10 by decide)] at h)), (fun _ h11 => by rw [upd_same] at h11; cases h11), (fun h => hV.c3 (by rwa [upd_ne L (show 3 ≠ 10 by decide)] at h)), (fun _ h11 => by rw [upd_same] at h11; cases h11), (fun h => hV.c5 (by rwa [upd_ne L (show 5 ≠ 10 by decide)] at h)), (fun h => hV.c6 (by rwa [upd_ne L (show 6 ≠ 10 by decide)] at h)), (fun _ h11 => by rw [upd_same] at h11; cases h11), (fun _ h11 => by rw [upd_same] at h11; cases h11), (fun _ h11 => by rw [upd_same] at h11; cases h11), (fun _ => ⟨b, b6, rfl, hb, (((ho.set 0 (.string (strOf (fNames.getD i [])))).set 1 (.slice (some ⟨b6, 0, none⟩) (gNext raw a 7).1.toNat 6)).set 2 (.slice none 0 0)).set 3 (.slice none 0 0), hb6, (((ho6.other hbb 0 (.string (strOf (fNames.getD i [])))).other hbb 1 (.slice (some ⟨b6, 0, none⟩) (gNext raw a 7).1.toNat 6)).other hbb 2 (.slice none 0 0)).other hbb 3 (.slice none 0 0)⟩)⟩, rfl⟩
  · intro L act wx hI hall
    obtain ⟨z11, z69, z70, z71, z72, z73, z74, z75, z76, z77, hV, rfl⟩ := hI
    obtain ⟨b, b6, e1, e2, e3, e4, e5⟩ := hV.c10 (hall 10 (by decide))
    have hsrc := hV.src
    rw [if_pos (hall 6 (by decide))] at hsrc
    exact hM _ _ (Met.intro (hJ _ _ ⟨z11, z69, z70, z71, z72, z73, z74, z75, z76, z77, ⟨b, b6, e1, e2, e3, e4, e5, hsrc, hV.fr⟩, rfl⟩))
end Go.Proofs.YtgmaeflfiooigaaGreatDoor

namespace Go.Proofs.YtgmaeflfiooigaaGreatDoor
open Go.RowKit
set_option maxHeartbeats 8000000
set_option maxRecDepth 100000

theorem strsOf_one (l : List Bs) : ∀ u, u ∈ strsOf l → u.oneCell' = true := by
  intro u hu
  obtain ⟨x, _, rfl⟩ := List.mem_map.1 hu
  rfl
theorem strsOf_len (l : List Bs) : (strsOf l).length = l.length := List.length_map _
/-- A list of texts behind a row of one's own. -/
theorem run_append_strs (w : World) (base : Nat) (ty : TypeId) (v : Value) (n : Nat) (xs : List Value) (hown : w.ownsRow base 9 1 v n xs) {D : Nat → Prop} (l : List Bs) (sv : Value) (hs : StrsAt D w l sv) (hn : n + l.length ≤ 1000) (hbase : base ≤ w.heap.size) :
    ∃ v' w', (Builtin.append_ #[50, 50] ty #[v, sv]).run Tryz.prog w = .ok v' w' ∧ w'.ownsRow base 9 1 v' (n + l.length) (xs ++ strsOf l) ∧ w.grownBy w' v.ownBlock ∧ (v'.ownBlock = v.ownBlock ∨ v'.ownBlock = some w.heap.size) := by
  obtain ⟨i0, hi0, hz0, hz1, hz2⟩ := info_parts infoStr
  obtain ⟨a, cap, b, off, rfl, h1, h2, h3, h4⟩ := hs
  cases a with
  | none =>
    have h0 : l = [] := by
      rcases h3 with h3 | h3
      · exact List.length_eq_zero_iff.1 h3
      · cases h3.1
    subst h0
    refine ⟨v, w, ?_, by simpa [strsOf] using hown, World.grownBy.refl w _, .inl rfl⟩
    rcases hown.2 with ⟨rfl, rfl⟩ | ⟨g, c, cur, rfl, _, _, hnc, _⟩
    · simp [Builtin.append_, run_underlying Tryz.underlying50, sizeOf, typeInfo, hi0, Builtin.lenOf, Builtin.firstCells]
    · simp [Builtin.append_, run_underlying Tryz.underlying50, sizeOf, typeInfo, hi0, Builtin.lenOf, Builtin.firstCells, hnc, storeCells]
  | some ad =>
    have hc : ∀ j u, (strsOf l)[j]? = some u → w.cell? (ad.add j) = some u := by
      intro j u hu
      have hj : j < l.length := by
        rcases Nat.lt_or_ge j l.length with h | h
        · exact h
        · rw [List.getElem?_eq_none (by rw [strsOf_len]; exact h)] at hu; cases hu
      rcases h3 with h3 | ⟨h3, _⟩
      · omega
      · cases h3
        have e : (strsOf l)[j]? = some (.string (strOf (l.getD j []))) := by
          unfold strsOf; rw [List.getElem?_map, List.getElem?_eq_getElem hj, List.getD_eq_getElem?_getD, List.getElem?_eq_getElem hj]; rfl
        rw [e] at hu
        cases hu
        have h5 : (⟨b, off, none⟩ : Addr).add j = ⟨b, off + j, none⟩ := by unfold Addr.add; split <;> simp_all
        rw [h5]; exact h4 j hj
    obtain ⟨v', w', hr, h5, h6, _, h7⟩ := run_append_own_at (P := Tryz.prog) w base 50 ty 9 i0 _ 1 16 Tryz.underlying50 hi0 hz0 hz1 hz2 rfl (by decide) v n xs hown ad l.length cap (strsOf l) (by rw [strsOf_len, Nat.mul_one]) hc (strsOf_one l) (by unfold maxLen; omega) (by omega) hbase
    exact ⟨v', w', hr, h5, h6, h7⟩
theorem wp_append_strs {o : Oper} {a : Act} {w : World} {K : Act → World → Prop} {Q : Exit → Act → World → Prop} (s x : Operand) (ho : o.op = .call { callee := .builtin .append, args := #[s, x], argTypes := #[50, 50] })
    (base : Nat) (v : Value) (n : Nat) (xs : List Value) (hs : a.eval s = v) (hown : w.ownsRow base 9 1 v n xs) {D : Nat → Prop} (l : List Bs) (sv : Value) (hx : a.eval x = sv) (hl : StrsAt D w l sv) (hn : n + l.length ≤ 1000) (hbase : base ≤ w.heap.size)
    (h : ∀ v' w', w'.ownsRow base 9 1 v' (n + l.length) (xs ++ strsOf l) → w.grownBy w' v.ownBlock → (v'.ownBlock = v.ownBlock ∨ v'.ownBlock = some w.heap.size) → K (a.put o.dst v') w') : o.wp Tryz.prog a w K Q := by
  obtain ⟨v', w', hr, h1, h2, h3⟩ := run_append_strs w base o.type v n xs hown l sv hl hn hbase
  unfold Oper.wp execOp
  simp only [ho, resolve, invoke, builtin, Sem.run_bind, Sem.run_pure, Result.andThen_ok, List.map_toArray, List.map_cons, List.map_nil, hs, hx, hr]
  exact h v' w' h1 h2 h3
theorem row_shape {w : World} {base size n : Nat} {e : TypeId} {v : Value} {xs : List Value} (h : w.ownsRow base e size v n xs) : ∃ a k c, v = .slice a k c := by
  rcases h.2 with ⟨rfl, _⟩ | ⟨g, cap, cur, rfl, _⟩
  · exact ⟨_, _, _, rfl⟩
  · exact ⟨_, _, _, rfl⟩
/-- A row of texts is a slice of texts. -/
theorem row_strs {w : World} {base : Nat} {v : Value} (l : List Bs) (h : w.ownsRow base 9 1 v l.length (strsOf l)) (hf : Fits l.length) : StrsAt (base ≤ ·) w l v := by
  have h0 := h
  rcases h.2 with ⟨rfl, hz⟩ | ⟨g, cap, cur, rfl, hb, hg, hc, hm, hs, ht⟩
  · have : l = [] := List.length_eq_zero_iff.1 hz
    subst this; exact StrsAt.zero
  · refine ⟨_, cap, g, 0, rfl, hc, hf, .inr ⟨rfl, hb⟩, fun i hi => ?_⟩
    refine row_cells h0 i _ ?_
    unfold strsOf; rw [List.getElem?_map, List.getElem?_eq_getElem hi, List.getD_eq_getElem?_getD, List.getElem?_eq_getElem hi]; rfl
structure V26 (f n : Nat) (nm : Bs) (ps ls : List Bs) (pv lv bd x1 x2 x3 x4 : Value) (W : World) (L : Nat → Bool) (z102 z103 z104 z105 z106 z107 z108 : Value) (wx : World) : Prop where
  fr : SFr n W wx
  ord : L 7 = true → ∀ j, j < 7 → L j = true
  own : OwnAt wx n (if L 7 = true then [z107, x1, x2, x3, x4] else [.slice none 0 0, x1, x2, x3, x4]) 69
  c0 : L 0 = true → z102 = .pointer (some ⟨f, 1, none⟩)
  c1 : L 1 = true → z103 = pv
  c2 : L 2 = true → L 5 = false → wx.ownsRow W.heap.size 9 1 z104 ps.length (strsOf ps)
  c3 : L 3 = true → z105 = .pointer (some ⟨f, 2, none⟩)
  c4 : L 4 = true → z106 = lv
  c5 : L 5 = true → wx.ownsRow W.heap.size 9 1 z107 (ps ++ ls).length (strsOf (ps ++ ls))
  c6 : L 6 = true → z108 = .pointer (some ⟨n, 0, none⟩)
  c25 : L 5 = true → ¬ L 2 = false
def R26 (f n : Nat) (nm : Bs) (ps ls : List Bs) (pv lv bd x1 x2 x3 x4 : Value) (W : World) (q0 q1 q2 q3 q4 q5 q6 q7 q8 q9 q10 q11 q12 q15 q16 q17 q18 q19 q20 q21 q22 q23 q24 q25 q26 q27 q28 q29 q30 q31 q32 q33 q34 q35 q36 q37 q38 q39 q40 q41 q42 q43 q44 q45 q46 q47 q48 q49 q50 q51 q52 q53 q54 q55 q56 q57 q58 q59 q60 q61 q62 q63 q64 q65 q66 q67 q68 q69 q70 q71 q72 q73 q74 q75 q76 q77 q78 q79 q80 q81 q82 q83 q84 q85 q86 q87 q88 q89 q90 q91 q92 q93 q94 q95 q96 q97 q98 q99 q100 q101 q109 q110 q111 q112 q113 q114 q115 q116 q117 q118 q119 : Value) (a' : Act) (w' : World) : Prop :=
  ∃ z102 z103 z104 z105 z106 z107 z108 : Value, (∃ v, OwnAt w' n [v, x1, x2, x3, x4] 69 ∧ StrsAt (W.heap.size ≤ ·) w' (ps ++ ls) v ∧ SFr n W w') ∧ a' = ⟨[q0, q1, q2, q3, q4, q5, q6, q7, q8, q9, q10, q11, q12, .pointer (some ⟨f, 0, none⟩), .pointer (some ⟨n, 0, none⟩), q15, q16, q17, q18, q19, q20, q21, q22, q23, q24, q25, q26, q27, q28, q29, q30, q31, q32, q33, q34, q35, q36, q37, q38, q39, q40, q41, q42, q43, q44, q45, q46, q47, q48, q49, q50, q51, q52, q53, q54, q55, q56, q57, q58, q59, q60, q61, q62, q63, q64, q65, q66, q67, q68, q69, q70, q71, q72, q73, q74, q75, q76, q77, q78, q79, q80, q81, q82, q83, q84, q85, q86, q87, q88, q89, q90, q91, q92, q93, q94, q95, q96, q97, q98, q99, q100, q101, z102, z103, z104, z105, z106, z107, z108, q109, q110, q111, q112, q113, q114, q115, q116, q117, q118, q119].toArray, []⟩
def I26 (f n : Nat) (nm : Bs) (ps ls : List Bs) (pv lv bd x1 x2 x3 x4 : Value) (W : World) (q0 q1 q2 q3 q4 q5 q6 q7 q8 q9 q10 q11 q12 q15 q16 q17 q18 q19 q20 q21 q22 q23 q24 q25 q26 q27 q28 q29 q30 q31 q32 q33 q34 q35 q36 q37 q38 q39 q40 q41 q42 q43 q44 q45 q46 q47 q48 q49 q50 q51 q52 q53 q54 q55 q56 q57 q58 q59 q60 q61 q62 q63 q64 q65 q66 q67 q68 q69 q70 q71 q72 q73 q74 q75 q76 q77 q78 q79 q80 q81 q82 q83 q84 q85 q86 q87 q88 q89 q90 q91 q92 q93 q94 q95 q96 q97 q98 q99 q100 q101 q109 q110 q111 q112 q113 q114 q115 q116 q117 q118 q119 : Value) (L : Nat → Bool) (a' : Act) (w' : World) : Prop :=
  ∃ z102 z103 z104 z105 z106 z107 z108 : Value, V26 f n nm ps ls pv lv bd x1 x2 x3 x4 W L z102 z103 z104 z105 z106 z107 z108 w' ∧ a' = ⟨[q0, q1, q2, q3, q4, q5, q6, q7, q8, q9, q10, q11, q12, .pointer (some ⟨f, 0, none⟩), .pointer (some ⟨n, 0, none⟩), q15, q16, q17, q18, q19, q20, q21, q22, q23, q24, q25, q26, q27, q28, q29, q30, q31, q32, q33, q34, q35, q36, q37, q38, q39, q40, q41, q42, q43, q44, q45, q46, q47, q48, q49, q50, q51, q52, q53, q54, q55, q56, q57, q58, q59, q60, q61, q62, q63, q64, q65, q66, q67, q68, q69, q70, q71, q72, q73, q74, q75, q76, q77, q78, q79, q80, q81, q82, q83, q84, q85, q86, q87, q88, q89, q90, q91, q92, q93, q94, q95, q96, q97, q98, q99, q100, q101, z102, z103, z104, z105, z106, z107, z108, q109, q110, q111, q112, q113, q114, q115, q116, q117, q118, q119].toArray, []⟩
theorem pg_reg26 (f n : Nat) (nm : Bs) (ps ls : List Bs) (pv lv bd x1 x2 x3 x4 : Value) (W : World) (hf : OwnAt W f [.string (strOf nm), pv, lv, bd] 52) (hn : OwnAt W n [.slice none 0 0, x1, x2, x3, x4] 69) (hfn : f ≠ n) (hps : StrsAt (· ≠ n) W ps pv) (hls : StrsAt (· ≠ n) W ls lv) (hlen : ps.length + ls.length ≤ 1000) (q0 q1 q2 q3 q4 q5 q6 q7 q8 q9 q10 q11 q12 q15 q16 q17 q18 q19 q20 q21 q22 q23 q24 q25 q26 q27 q28 q29 q30 q31 q32 q33 q34 q35 q36 q37 q38 q39 q40 q41 q42 q43 q44 q45 q46 q47 q48 q49 q50 q51 q52 q53 q54 q55 q56 q57 q58 q59 q60 q61 q62 q63 q64 q65 q66 q67 q68 q69 q70 q71 q72 q73 q74 q75 q76 q77 q78 q79 q80 q81 q82 q83 q84 q85 q86 q87 q88 q89 q90 q91 q92 q93 q94 q95 q96 q97 q98 q99 q100 q101 q102 q103 q104 q105 q106 q107 q108 q109 q110 q111 q112 q113 q114 q115 q116 q117 q118 q119 : Value) (J K' : Act → World → Prop) (hJ : ∀ a' w', R26 f n nm ps ls pv lv bd x1 x2 x3 x4 W q0 q1 q2 q3 q4 q5 q6 q7 q8 q9 q10 q11 q12 q15 q16 q17 q18 q19 q20 q21 q22 q23 q24 q25 q26 q27 q28 q29 q30 q31 q32 q33 q34 q35 q36 q37 q38 q39 q40 q41 q42 q43 q44 q45 q46 q47 q48 q49 q50 q51 q52 q53 q54 q55 q56 q57 q58 q59 q60 q61 q62 q63 q64 q65 q66 q67 q68 q69 q70 q71 q72 q73 q74 q75 q76 q77 q78 q79 q80 q81 q82 q83 q84 q85 q86 q87 q88 q89 q90 q91 q92 q93 q94 q95 q96 q97 q98 q99 q100 q101 q109 q110 q111 q112 q113 q114 q115 q116 q117 q118 q119 a' w' → J a' w') (hM : ∀ a' w', Met J a' w' → K' a' w') :
    Code.wp Tryz.prog (pgReg 26) (Exit.then K' (fun _ _ _ => False)) ⟨[q0, q1, q2, q3, q4, q5, q6, q7, q8, q9, q10, q11, q12, .pointer (some ⟨f, 0, none⟩), .pointer (some ⟨n, 0, none⟩), q15, q16, q17, q18, q19, q20, q21, q22, q23, q24, q25, q26, q27, q28, q29, q30, q31, q32, q33, q34, q35, q36, q37, q38, q39, q40, q41, q42, q43, q44, q45, q46, q47, q48, q49, q50, q51, q52, q53, q54, q55, q56, q57, q58, q59, q60, q61, q62, q63, q64, q65, q66, q67, q68, q69, q70, q71, q72, q73, q74, q75, q76, q77, q78, q79, q80, q81, q82, q83, q84, q85, q86, q87, q88, q89, q90, q91, q92, q93, q94, q95, q96, q97, q98, q99, q100, q101, q102, q103, q104, q105, q106, q107, q108, q109, q110, q111, q112, q113, q114, q115, q116, q117, q118, q119].toArray, []⟩ W := by
  have hnl := hn.lt
  conv => arg 2; whnf
  dsimp only
  refine region_by (by kernel_rfl) (by kernel_rfl) (I26 f n nm ps ls pv lv bd x1 x2 x3 x4 W q0 q1 q2 q3 q4 q5 q6 q7 q8 q9 q10 q11 q12 q15 q16 q17 q18 q19 q20 q21 q22 q23 q24 q25 q26 q27 q28 q29 q30 q31 q32 q33 q34 q35 q36 q37 q38 q39 q40 q41 q42 q43 q44 q45 q46 q47 q48 q49 q50 q51 q52 q53 q54 q55 q56 q57 q58 q59 q60 q61 q62 q63 q64 q65 q66 q67 q68 q69 q70 q71 q72 q73 q74 q75 q76 q77 q78 q79 q80 q81 q82 q83 q84 q85 q86 q87 q88 q89 q90 q91 q92 q93 q94 q95 q96 q97 q98 q99 q100 q101 q109 q110 q111 q112 q113 q114 q115 q116 q117 q118 q119) ?_ ?_ ?_
  · exact ⟨q102, q103, q104, q105, q106, q107, q108, ⟨SFr.of_below (Below.refl _ _).drew, fun h => (by cases h), by rw [if_neg (by decide)]; exact hn.old (Below.refl _ _).drew, fun h => (by cases h), fun h => (by cases h), fun h => (by cases h), fun h => (by cases h), fun h => (by cases h), fun h => (by cases h), fun h => (by cases h), fun h => (by cases h)⟩, rfl⟩
  · intro L act wx k hI hk hl hd
    obtain ⟨z102, z103, z104, z105, z106, z107, z108, hV, rfl⟩ := hI
    have hk : k = 0 ∨ k = 1 ∨ k = 2 ∨ k = 3 ∨ k = 4 ∨ k = 5 ∨ k = 6 ∨ k = 7 := by
      have : k < 8 := hk
      omega
    rcases hk with rfl | rfl | rfl | rfl | rfl | rfl | rfl | rfl
    · have n7 : L 7 = false := by
        cases h : L 7 with
        | false => rfl
        | true => have := hV.ord h 0 (by decide); rw [hl] at this; cases this
      have hown := hV.own
      rw [n7, if_neg (by decide)] at hown
      have HV := Lib.hid hV; have HD := Lib.hid hd; have HL := Lib.hid hl
      refine op_at _ rfl rfl (fun K' hK => ?_)
      conv => arg 2; whnf
      go_wp2_with fail
      exact ⟨.pointer (some ⟨f, 1, none⟩), z103, z104, z105, z106, z107, z108, ⟨hV.fr, (fun h j hj => by rw [upd_ne L (show 7 ≠ 0 by decide)] at h; have := hV.ord h 0 (by decide); rw [hl] at this; cases this), (by rw [upd_ne L (show 7 ≠ 0 by decide), n7]; exact hown), (fun _ => rfl), (fun h => hV.c1 (by rwa [upd_ne L (show 1 ≠ 0 by decide)] at h)), (fun h h5 => hV.c2 (by rwa [upd_ne L (show 2 ≠ 0 by decide)] at h) (by rwa [upd_ne L (show 5 ≠ 0 by decide)] at h5)), (fun h => hV.c3 (by rwa [upd_ne L (show 3 ≠ 0 by decide)] at h)), (fun h => hV.c4 (by rwa [upd_ne L (show 4 ≠ 0 by decide)] at h)), (fun h => hV.c5 (by rwa [upd_ne L (show 5 ≠ 0 by decide)] at h)), (fun h => hV.c6 (by rwa [upd_ne L (show 6 ≠ 0 by decide)] at h)), (fun h => by rw [upd_ne L (show 2 ≠ 0 by decide)]; exact hV.c25 (by rwa [upd_ne L (show 5 ≠ 0 by decide)] at h))⟩, rfl⟩
    · have n7 : L 7 = false := by
        cases h : L 7 with
        | false => rfl
        | true => have := hV.ord h 1 (by decide); rw [hl] at this; cases this
      have d0 : L 0 = true := hd _ rfl ⟨0, .data⟩ (by simp) rfl
      have hown := hV.own
      rw [n7, if_neg (by decide)] at hown
      obtain rfl := hV.c0 d0
      have hfo := hf.sfr hV.fr hfn
      have f1 := hfo.at 1 _ rfl
      have f2 := hfo.at 2 _ rfl
      have HV := Lib.hid hV; have HD := Lib.hid hd; have HL := Lib.hid hl
      refine op_at _ rfl rfl (fun K' hK => ?_)
      conv => arg 2; whnf
      go_wp2_with fail
      exact ⟨.pointer (some ⟨f, 1, none⟩), pv, z104, z105, z106, z107, z108, ⟨hV.fr, (fun h j hj => by rw [upd_ne L (show 7 ≠ 1 by decide)] at h; have := hV.ord h 1 (by decide); rw [hl] at this; cases this), (by rw [upd_ne L (show 7 ≠ 1 by decide), n7]; exact hown), (fun h => hV.c0 (by rwa [upd_ne L (show 0 ≠ 1 by decide)] at h)), (fun _ => rfl), (fun h h5 => hV.c2 (by rwa [upd_ne L (show 2 ≠ 1 by decide)] at h) (by rwa [upd_ne L (show 5 ≠ 1 by decide)] at h5)), (fun h => hV.c3 (by rwa [upd_ne L (show 3 ≠ 1 by decide)] at h)), (fun h => hV.c4 (by rwa [upd_ne L (show 4 ≠ 1 by decide)] at h)), (fun h => hV.c5 (by rwa [upd_ne L (show 5 ≠ 1 by decide)] at h)), (fun h => hV.c6 (by rwa [upd_ne L (show 6 ≠ 1 by decide)] at h)), (fun h => by rw [upd_ne L (show 2 ≠ 1 by decide)]; exact hV.c25 (by rwa [upd_ne L (show 5 ≠ 1 by decide)] at h))⟩, rfl⟩
    · have n7 : L 7 = false := by
        cases h : L 7 with
        | false => rfl
        | true => have := hV.ord h 2 (by decide); rw [hl] at this; cases this
      have d1 : L 1 = true := hd _ rfl ⟨1, .data⟩ (by simp) rfl
      have hown := hV.own
      rw [n7, if_neg (by decide)] at hown
      obtain rfl := hV.c1 d1
      have n5 : L 5 = false := by
        cases h : L 5 with
        | false => rfl
        | true => exact absurd (hV.c25 h) (by rw [hl]; decide)
      have hp2 := hps.keep hV.fr.keeps
      have HV := Lib.hid hV; have HD := Lib.hid hd; have HL := Lib.hid hl
      refine op_at _ rfl rfl (fun K' hK => ?_)
      conv => arg 2; whnf
      refine wp_append_strs _ _ rfl W.heap.size (.slice none 0 0) 0 [] rfl ⟨rfl, .inl ⟨rfl, rfl⟩⟩ ps z103 rfl hp2 (by omega) hV.fr.size ?_
      intro v2 w2 hr2 hg2 ha2
      rw [Nat.zero_add, List.nil_append] at hr2
      have hf2 : SFr n wx w2 := ⟨hg2.os, hg2.tape, hg2.output, hg2.size, fun j hj _ => hg2.block j hj (by simp [Value.ownBlock])⟩
      have ho2 : OwnAt w2 n _ _ := hown.low (hg2.block n hown.lt (by simp [Value.ownBlock]))
      go_wp2_with fail
      exact ⟨z102, z103, v2, z105, z106, z107, z108, ⟨hV.fr.trans hf2, (fun h j hj => by rw [upd_ne L (show 7 ≠ 2 by decide)] at h; have := hV.ord h 2 (by decide); rw [hl] at this; cases this), (by rw [upd_ne L (show 7 ≠ 2 by decide), n7]; exact ho2), (fun h => hV.c0 (by rwa [upd_ne L (show 0 ≠ 2 by decide)] at h)), (fun h => hV.c1 (by rwa [upd_ne L (show 1 ≠ 2 by decide)] at h)), (fun _ _ => hr2), (fun h => hV.c3 (by rwa [upd_ne L (show 3 ≠ 2 by decide)] at h)), (fun h => hV.c4 (by rwa [upd_ne L (show 4 ≠ 2 by decide)] at h)), (fun h => by rw [upd_ne L (show 5 ≠ 2 by decide), n5] at h; cases h), (fun h => hV.c6 (by rwa [upd_ne L (show 6 ≠ 2 by decide)] at h)), (fun _ => by rw [upd_same]; decide)⟩, rfl⟩
    · have n7 : L 7 = false := by
        cases h : L 7 with
        | false => rfl
        | true => have := hV.ord h 3 (by decide); rw [hl] at this; cases this
      have hown := hV.own
      rw [n7, if_neg (by decide)] at hown
      have HV := Lib.hid hV; have HD := Lib.hid hd; have HL := Lib.hid hl
      refine op_at _ rfl rfl (fun K' hK => ?_)
      conv => arg 2; whnf
      go_wp2_with fail
      exact ⟨z102, z103, z104, .pointer (some ⟨f, 2, none⟩), z106, z107, z108, ⟨hV.fr, (fun h j hj => by rw [upd_ne L (show 7 ≠ 3 by decide)] at h; have := hV.ord h 3 (by decide); rw [hl] at this; cases this), (by rw [upd_ne L (show 7 ≠ 3 by decide), n7]; exact hown), (fun h => hV.c0 (by rwa [upd_ne L (show 0 ≠ 3 by decide)] at h)), (fun h => hV.c1 (by rwa [upd_ne L (show 1 ≠ 3 by decide)] at h)), (fun h h5 => hV.c2 (by rwa [upd_ne L (show 2 ≠ 3 by decide)] at h) (by rwa [upd_ne L (show 5 ≠ 3 by decide)] at h5)), (fun _ => rfl), (fun h => hV.c4 (by rwa [upd_ne L (show 4 ≠ 3 by decide)] at h)), (fun h => hV.c5 (by rwa [upd_ne L (show 5 ≠ 3 by decide)] at h)), (fun h => hV.c6 (by rwa [upd_ne L (show 6 ≠ 3 by decide)] at h)), (fun h => by rw [upd_ne L (show 2 ≠ 3 by decide)]; exact hV.c25 (by rwa [upd_ne L (show 5 ≠ 3 by decide)] at h))⟩, rfl⟩
    · have n7 : L 7 = false := by
        cases h : L 7 with
        | false => rfl
        | true => have := hV.ord h 4 (by decide); rw [hl] at this; cases this
      have d3 : L 3 = true := hd _ rfl ⟨3, .data⟩ (by simp) rfl
      have hown := hV.own
      rw [n7, if_neg (by decide)] at hown
      obtain rfl := hV.c3 d3
      have hfo := hf.sfr hV.fr hfn
      have f1 := hfo.at 1 _ rfl
      have f2 := hfo.at 2 _ rfl
      have HV := Lib.hid hV; have HD := Lib.hid hd; have HL := Lib.hid hl
      refine op_at _ rfl rfl (fun K' hK => ?_)
      conv => arg 2; whnf
      go_wp2_with fail
      exact ⟨z102, z103, z104, .pointer (some ⟨f, 2, none⟩), lv, z107, z108, ⟨hV.fr, (fun h j hj => by rw [upd_ne L (show 7 ≠ 4 by decide)] at h; have := hV.ord h 4 (by decide); rw [hl] at this; cases this), (by rw [upd_ne L (show 7 ≠ 4 by decide), n7]; exact hown), (fun h => hV.c0 (by rwa [upd_ne L (show 0 ≠ 4 by decide)] at h)), (fun h => hV.c1 (by rwa [upd_ne L (show 1 ≠ 4 by decide)] at h)), (fun h h5 => hV.c2 (by rwa [upd_ne L (show 2 ≠ 4 by decide)] at h) (by rwa [upd_ne L (show 5 ≠ 4 by decide)] at h5)), (fun h => hV.c3 (by rwa [upd_ne L (show 3 ≠ 4 by decide)] at h)), (fun _ => rfl), (fun h => hV.c5 (by rwa [upd_ne L (show 5 ≠ 4 by decide)] at h)), (fun h => hV.c6 (by rwa [upd_ne L (show 6 ≠ 4 by decide)] at h)), (fun h => by rw [upd_ne L (show 2 ≠ 4 by decide)]; exact hV.c25 (by rwa [upd_ne L (show 5 ≠ 4 by decide)] at h))⟩, rfl⟩
    · have n7 : L 7 = false := by
        cases h : L 7 with
        | false => rfl
        | true => have := hV.ord h 5 (by decide); rw [hl] at this; cases this
      have d2 : L 2 = true := hd _ rfl ⟨2, .data⟩ (by simp) rfl
      have d4 : L 4 = true := hd _ rfl ⟨4, .data⟩ (by simp) rfl
      have hown := hV.own
      rw [n7, if_neg (by decide)] at hown
      obtain rfl := hV.c4 d4
      have hr1 := hV.c2 d2 hl
      have hl2 := hls.keep hV.fr.keeps
      have hge : ∀ k, z104.ownBlock = some k → W.heap.size ≤ k := fun k e => (World.ownsRow.lt hr1 k e).1
      have HV := Lib.hid hV; have HD := Lib.hid hd; have HL := Lib.hid hl
      refine op_at _ rfl rfl (fun K' hK => ?_)
      conv => arg 2; whnf
      refine wp_append_strs _ _ rfl W.heap.size z104 ps.length (strsOf ps) rfl hr1 ls z106 rfl hl2 (by omega) hV.fr.size ?_
      intro v2 w2 hr2 hg2 ha2
      have hf2 : SFr n W w2 := hV.fr.grow hg2 hge
      have ho2 : OwnAt w2 n _ _ := hown.low (hg2.block n hown.lt (fun e => by have := hge n e.symm; omega))
      go_wp2_with fail
      exact ⟨z102, z103, z104, z105, z106, v2, z108, ⟨hf2, (fun h j hj => by rw [upd_ne L (show 7 ≠ 5 by decide)] at h; have := hV.ord h 5 (by decide); rw [hl] at this; cases this), (by rw [upd_ne L (show 7 ≠ 5 by decide), n7]; exact ho2), (fun h => hV.c0 (by rwa [upd_ne L (show 0 ≠ 5 by decide)] at h)), (fun h => hV.c1 (by rwa [upd_ne L (show 1 ≠ 5 by decide)] at h)), (fun _ h5 => by rw [upd_same] at h5; cases h5), (fun h => hV.c3 (by rwa [upd_ne L (show 3 ≠ 5 by decide)] at h)), (fun h => hV.c4 (by rwa [upd_ne L (show 4 ≠ 5 by decide)] at h)), (fun _ => by rw [List.length_append, show strsOf (ps ++ ls) = strsOf ps ++ strsOf ls from List.map_append]; exact hr2), (fun h => hV.c6 (by rwa [upd_ne L (show 6 ≠ 5 by decide)] at h)), (fun _ => by rw [upd_ne L (show 2 ≠ 5 by decide), d2]; decide)⟩, rfl⟩
    · have n7 : L 7 = false := by
        cases h : L 7 with
        | false => rfl
        | true => have := hV.ord h 6 (by decide); rw [hl] at this; cases this
      have hown := hV.own
      rw [n7, if_neg (by decide)] at hown
      have HV := Lib.hid hV; have HD := Lib.hid hd; have HL := Lib.hid hl
      refine op_at _ rfl rfl (fun K' hK => ?_)
      conv => arg 2; whnf
      go_wp2_with fail
      exact ⟨z102, z103, z104, z105, z106, z107, .pointer (some ⟨n, 0, none⟩), ⟨hV.fr, (fun h j hj => by rw [upd_ne L (show 7 ≠ 6 by decide)] at h; have := hV.ord h 6 (by decide); rw [hl] at this; cases this), (by rw [upd_ne L (show 7 ≠ 6 by decide), n7]; exact hown), (fun h => hV.c0 (by rwa [upd_ne L (show 0 ≠ 6 by decide)] at h)), (fun h => hV.c1 (by rwa [upd_ne L (show 1 ≠ 6 by decide)] at h)), (fun h h5 => hV.c2 (by rwa [upd_ne L (show 2 ≠ 6 by decide)] at h) (by rwa [upd_ne L (show 5 ≠ 6 by decide)] at h5)), (fun h => hV.c3 (by rwa [upd_ne L (show 3 ≠ 6 by decide)] at h)), (fun h => hV.c4 (by rwa [upd_ne L (show 4 ≠ 6 by decide)] at h)), (fun h => hV.c5 (by rwa [upd_ne L (show 5 ≠ 6 by decide)] at h)), (fun _ => rfl), (fun h => by rw [upd_ne L (show 2 ≠ 6 by decide)]; exact hV.c25 (by rwa [upd_ne L (show 5 ≠ 6 by decide)] at h))⟩, rfl⟩
    · have n7 := hl
      have d6 : L 6 = true := hd _ rfl ⟨6, .data⟩ (by simp) rfl
      have d5 : L 5 = true := hd _ rfl ⟨5, .data⟩ (by simp) rfl
      have hown := hV.own
      rw [n7, if_neg (by decide)] at hown
      obtain rfl := hV.c6 d6
      have hr5 := hV.c5 d5
      obtain ⟨ra, rk, rc, rfl⟩ := row_shape hr5
      have before : ∀ j, j < 7 → L j = true := fun j hj => by
        have hj : j = 0 ∨ j = 1 ∨ j = 2 ∨ j = 3 ∨ j = 4 ∨ j = 5 ∨ j = 6 := by omega
        rcases hj with rfl | rfl | rfl | rfl | rfl | rfl | rfl
        · exact hd _ rfl ⟨0, .phase⟩ (by simp) rfl
        · exact hd _ rfl ⟨1, .phase⟩ (by simp) rfl
        · exact hd _ rfl ⟨2, .phase⟩ (by simp) rfl
        · exact hd _ rfl ⟨3, .phase⟩ (by simp) rfl
        · exact hd _ rfl ⟨4, .phase⟩ (by simp) rfl
        · exact hd _ rfl ⟨5, .data⟩ (by simp) rfl
        · exact hd _ rfl ⟨6, .data⟩ (by simp) rfl
      have hx0 := hown.at 0 _ rfl
      have fx0 := hown.fz 0
      have hnx := hown.lt
      have hfs : SFr n W (wx.setCell ⟨n, 0, none⟩ (.slice ra rk rc)) := hV.fr.trans ⟨rfl, rfl, rfl, by simp [World.setCell], fun k hk hs => Below.heap_setCell _ _ _ _ hs⟩
      have hk5 : (wx.setCell ⟨n, 0, none⟩ (.slice ra rk rc)).ownsRow W.heap.size 9 1 (.slice ra rk rc) (ps ++ ls).length (strsOf (ps ++ ls)) := row_keep hr5 (D := (W.heap.size ≤ ·)) (fun k e => (World.ownsRow.lt hr5 k e).1) (BKeeps.set wx (by show ¬ W.heap.size ≤ n; omega) 0 (.slice ra rk rc))
      have HV := Lib.hid hV; have HD := Lib.hid hd; have HL := Lib.hid hl
      refine op_at _ rfl rfl (fun K' hK => ?_)
      conv => arg 2; whnf
      go_wp2_with fail
      exact ⟨z102, z103, z104, z105, z106, .slice ra rk rc, .pointer (some ⟨n, 0, none⟩), ⟨hfs, (fun _ j hj => by rw [upd_ne L (show j ≠ 7 by omega)]; exact before j hj), (by rw [upd_same, if_pos rfl]; exact hown.set 0 (.slice ra rk rc)), (fun h => hV.c0 (by rwa [upd_ne L (show 0 ≠ 7 by decide)] at h)), (fun h => hV.c1 (by rwa [upd_ne L (show 1 ≠ 7 by decide)] at h)), (fun _ h5 => by rw [upd_ne L (show 5 ≠ 7 by decide), d5] at h5; cases h5), (fun h => hV.c3 (by rwa [upd_ne L (show 3 ≠ 7 by decide)] at h)), (fun h => hV.c4 (by rwa [upd_ne L (show 4 ≠ 7 by decide)] at h)), (fun _ => hk5), (fun h => hV.c6 (by rwa [upd_ne L (show 6 ≠ 7 by decide)] at h)), (fun h => by rw [upd_ne L (show 2 ≠ 7 by decide)]; exact hV.c25 (by rwa [upd_ne L (show 5 ≠ 7 by decide)] at h))⟩, rfl⟩
  · intro L act wx hI hall
    obtain ⟨z102, z103, z104, z105, z106, z107, z108, hV, rfl⟩ := hI
    have h1 := hV.own
    rw [if_pos (hall 7 (by decide))] at h1
    exact hM _ _ (Met.intro (hJ _ _ ⟨z102, z103, z104, z105, z106, z107, z108, ⟨z107, h1, row_strs _ (hV.c5 (hall 5 (by decide))) (by show _ ≤ _; rw [List.length_append]; omega), hV.fr⟩, rfl⟩))
end Go.Proofs.YtgmaeflfiooigaaGreatDoor
