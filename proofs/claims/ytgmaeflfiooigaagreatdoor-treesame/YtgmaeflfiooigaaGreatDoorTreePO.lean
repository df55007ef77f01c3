/-
  Programs in old memory. No condition.
-/
import Derived.Test.YtgmaeflfiooigaaGreatDoorTreeZ
set_option linter.unusedVariables false
set_option linter.unusedSimpArgs false
namespace Go.Proofs.YtgmaeflfiooigaaGreatDoor
open Go.RowKit
set_option maxHeartbeats 4000000
set_option maxRecDepth 100000

theorem fus_of {D : Nat → Prop} {w : World} {base : Nat} {ps : List FuV} {v : Value} (h : w.ownsRow base 52 4 v ps.length (ps.flatMap fvCells)) (hD : ∀ k, v.ownBlock = some k → D k) (hp : ∀ p, p ∈ ps → FuParts D w p) (hf : Fits ps.length) : FusAt D w (ps.map (·.x)) v := by
  have hl : (ps.map (·.x)).length = ps.length := List.length_map _
  rcases h.2 with ⟨rfl, hz⟩ | ⟨g, cap, cur, rfl, hb, hg, hc, hm, hs, ht⟩
  · have : ps = [] := List.length_eq_zero_iff.1 hz
    subst this; exact FusAt.zero
  · let z : FuV := ⟨Fu.nil, undef, undef, undef⟩
    refine ⟨some ⟨g, 0, none⟩, cap, g, 0, (fun i => (ps.getD i z).p), (fun i => (ps.getD i z).l), (fun i => (ps.getD i z).b), by rw [hl], by rw [hl]; exact hc, by rw [hl]; exact hf, .inr ⟨rfl, hD g rfl⟩, fun i hi => ?_⟩
    rw [hl] at hi
    obtain ⟨p, hp1, hx, hm⟩ : ∃ p, ps[i]? = some p ∧ fuAt (ps.map (·.x)) i = p.x ∧ p ∈ ps := ⟨ps[i], List.getElem?_eq_getElem hi, by simp [fuAt, List.getElem?_eq_getElem hi], List.getElem_mem hi⟩
    have sv : ps.getD i z = p := by rw [List.getD_eq_getElem?_getD, hp1]; rfl
    rw [hx]
    dsimp only
    rw [sv]
    have cell : ∀ q u, q < 4 → (fvCells p)[q]? = some u → w.cell? ⟨g, 0 + i * 4 + q, none⟩ = some u := by
      intro q u hq hu
      have h1 := row_cells h (i * 4 + q) u (by rw [flat_at fvCells 4 (fun _ => rfl) ps i q p hp1 hq]; exact hu)
      rwa [show 0 + (i * 4 + q) = 0 + i * 4 + q by omega] at h1
    obtain ⟨h1, h2, ls, h3, h4, h5⟩ := hp p hm
    have h6 := h5.sts (show ls.length ≤ 140737488355328 by omega)
    rw [h3] at h6
    exact ⟨⟨cell 0 _ (by decide) rfl, cell 1 _ (by decide) rfl, cell 2 _ (by decide) rfl, cell 3 _ (by decide) rfl⟩, h1, h2, h6⟩
/-- What is there of a program: below a bound. -/
structure PrOld (w : World) (p : Pr) (n : Nat) (va vf : Value) (ds : List FuV) : Prop where
  ars : ArsAt (· < n) w p.arrays va
  own : w.ownsRow 0 52 4 vf ds.length (ds.flatMap fvCells)
  eq : ds.map (·.x) = p.funcs
  len : ds.length ≤ 3
  lt : ∀ q, q ∈ ds → FuParts (fun b => b < n ∧ vf.ownBlock ≠ some b) w q
  row : ∀ k, vf.ownBlock = some k → k < n
theorem PrOld.fus {w : World} {p : Pr} {n : Nat} {va vf : Value} {ds : List FuV} (h : PrOld w p n va vf ds) : FusAt (· < n) w p.funcs vf := by
  have q := fus_of h.own h.row (fun q hq => (h.lt q hq).mono (fun b hb _ => hb.1)) (show ds.length ≤ 140737488355328 by have := h.len; omega)
  rwa [h.eq] at q
theorem PrOld.fo {w : World} {p : Pr} {n : Nat} {va vf : Value} {ds : List FuV} (h : PrOld w p n va vf ds) : FusOwn w 0 ds vf := ⟨h.own, fun q hq => (h.lt q hq).mono (fun b hb _ => ⟨Nat.zero_le _, hb.2⟩)⟩
theorem PrOld.keep {w w' : World} {p : Pr} {n : Nat} {va vf : Value} {ds : List FuV} (h : PrOld w p n va vf ds) (hk : ∀ k, k < n → k < w.heap.size → w'.heap[k]? = w.heap[k]?) (hz : w.heap.size ≤ w'.heap.size) : PrOld w' p n va vf ds :=
  have hb : BKeeps (· < n) w w' := fun k hk' hl => hk k hk' hl
  ⟨h.ars.keep hb.keeps, row_keep h.own h.row hb, h.eq, h.len, fun q hq => (h.lt q hq).keep (hb.mono (fun b hb => hb.1)) hz, h.row⟩
theorem PrOld.up {w : World} {p : Pr} {n m : Nat} {va vf : Value} {ds : List FuV} (h : PrOld w p n va vf ds) (hn : n ≤ m) : PrOld w p m va vf ds :=
  ⟨h.ars.mono (fun b hb => Nat.lt_of_lt_of_le hb hn), h.own, h.eq, h.len, fun q hq => (h.lt q hq).mono (fun b hb _ => ⟨Nat.lt_of_lt_of_le hb.1 hn, hb.2⟩), fun k e => Nat.lt_of_lt_of_le (h.row k e) hn⟩
theorem PrOld.old {w w' : World} {p : Pr} {n : Nat} {va vf : Value} {ds : List FuV} (h : PrOld w p n va vf ds) (hb : Below w.heap.size w w') : PrOld w' p n va vf ds := h.keep (fun k _ hl => hb.block k hl) hb.size
theorem PrOld.of {w w' : World} {p : Pr} {va vf : Value} {ds : List FuV} (ha : ArsAt (w.heap.size ≤ ·) w' p.arrays va) (hds : ds.map (·.x) = p.funcs) (hl : ds.length ≤ 3) (hf : FusOwn w' w.heap.size ds vf) : PrOld w' p w'.heap.size va vf ds :=
  ⟨ha.strong.mono (fun b hb => hb.2), row_base hf.1 (fun _ _ => Nat.zero_le _), hds, hl, fun q hq => (hf.2 q hq).mono (fun b hb hl => ⟨hl, hb.2⟩), fun k e => (hf.ge e).2⟩
end Go.Proofs.YtgmaeflfiooigaaGreatDoor
