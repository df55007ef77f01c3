/-
  Lists that the laws append to: kinds, texts, lines; side by side. No condition.
-/
import Derived.Test.YtjmidoncojajcaaDoorScanLi
import Derived.Test.YtjmidoncojajcaaDoorScanTx
import Derived.Deep.AppendLies
import Derived.BigQuiet
set_option linter.unusedVariables false
set_option linter.unusedSimpArgs false
namespace Go.Proofs.YtjmidoncojajcaaDoor
open Go.RowKit
set_option maxHeartbeats 4000000
set_option maxRecDepth 100000

def kindsV (raw : List (Int × Int)) (k : Nat) : List Value := (List.range k).map (fun i => .int .i64 (zw raw i).2.1)
def textsV (raw : List (Int × Int)) (k : Nat) : List Value := (List.range k).map (fun i => .string (strOf (zw raw i).1))
theorem kindsV_succ (raw : List (Int × Int)) (k : Nat) : kindsV raw (k + 1) = kindsV raw k ++ [.int .i64 (zw raw k).2.1] := by unfold kindsV; rw [List.range_succ, List.map_append]; rfl
theorem textsV_succ (raw : List (Int × Int)) (k : Nat) : textsV raw (k + 1) = textsV raw k ++ [.string (strOf (zw raw k).1)] := by unfold textsV; rw [List.range_succ, List.map_append]; rfl
theorem kindsV_at (raw : List (Int × Int)) (k j : Nat) (h : j < k) : (kindsV raw k)[j]? = some (.int .i64 (zw raw j).2.1) := by unfold kindsV; rw [List.getElem?_map, List.getElem?_range h]; rfl
theorem textsV_at (raw : List (Int × Int)) (k j : Nat) (h : j < k) : (textsV raw k)[j]? = some (.string (strOf (zw raw j).1)) := by unfold textsV; rw [List.getElem?_map, List.getElem?_range h]; rfl
/-- Two values have no block in common. -/
def Sep (a b : Value) : Prop := ∀ g, a.ownBlock = some g → b.ownBlock ≠ some g
theorem Sep.symm {a b : Value} (h : Sep a b) : Sep b a := fun g hg e => h g e hg
theorem Sep.nil (b : Value) : Sep (.slice none 0 0) b := fun g hg => (by cases hg)
theorem Sep.kept {w w' : World} {a b : Value} {base size n : Nat} {e : TypeId} {xs : List Value} (h : Sep a b) (hb : w.ownsRow base e size b n xs) (hg : w.grownBy w' a.ownBlock) : w'.ownsRow base e size b n xs := by
  cases hbo : b.ownBlock with
  | none => exact hb.kept hg (.inl hbo)
  | some g => exact hb.kept hg (.inr (fun he => h g (by rw [← he]; exact hbo) hbo))
theorem Sep.next {a b : Value} {g n cap H : Nat} (h : Sep a b) (hb : ∀ k, b.ownBlock = some k → k < H) (hat : a.ownBlock = some g ∨ g = H) : Sep (.slice (some ⟨g, 0, none⟩) n cap) b := by
  intro k hk
  have hk' : g = k := by
    have : (Value.slice (some ⟨g, 0, none⟩) n cap).ownBlock = some g := rfl
    rw [this] at hk; exact Option.some.inj hk
  subst hk'
  rcases hat with hat | rfl
  · exact h g hat
  · intro e; have := hb _ e; omega
theorem zrow_lt {w : World} {base size n : Nat} {e : TypeId} {v : Value} {xs : List Value} (h : w.ownsRow base e size v n xs) : ∀ k, v.ownBlock = some k → base ≤ k ∧ k < w.heap.size := fun k hk => World.ownsRow.lt h k hk
theorem zrow_cell {w : World} {base n : Nat} {e : TypeId} {a : Option Addr} {cap : Nat} {xs : List Value} (h : w.ownsRow base e 1 (.slice a n cap) n xs) (j : Nat) (u : Value) (hj : j < n) (hu : xs[j]? = some u) : ∃ g, a = some ⟨g, 0, none⟩ ∧ g < w.heap.size ∧ w.cell? ⟨g, j, none⟩ = some u := by
  rcases zrow_shape h with ⟨_, h0⟩ | ⟨g, cap', e'⟩
  · omega
  · cases e'
    have c := zrow_at h j u hu
    exact ⟨g, rfl, World.block_lt_of_cell? _ _ c, c⟩
theorem Below.of_eq' {a b : World} (h : a = b) : Below a.heap.size a b := by subst h; exact Below.refl _ _
/-- A region that draws its order, whose operations read and whose callees leave a world of a class: one walk. -/
theorem region_in {Ix : Type} (F : Ix → World) {P : Program} {id : Nat} {Q : Exit → Act → World → Prop} {a : Act} {w : World} {l : List Oper} (hm : P.follows .mixedOrders = true) (hB : Region.lexB .any l.toArray = true) (hC : ∃ n, w.drew = F n)
    (h : wpQuiet P l.toArray (fun w' => ∃ n, w' = F n) (fun a' => ∀ w', (∃ n, w' = F n) → Q .normal a' w') l a) : (Code.region id l.toArray true).wp P Q a w :=
  wp_region_quiet (C := fun w' => ∃ n, w' = F n) hm hB hC (by simpa using h)
abbrev Lat (w : World) : Type := {w' : World // Below w.heap.size w w'}
theorem lat_fun (wr : World) : ∃ (Ix : Type) (_ : Nonempty Ix) (F : Ix → World), Hid (∀ n, Below wr.heap.size wr (F n)) ∧ Hid (∀ w', Below wr.heap.size wr w' → ∃ n, w' = F n) := ⟨Lat wr, ⟨⟨wr, Below.refl _ _⟩⟩, fun n => n.1, fun n => n.2, fun w' h => ⟨⟨w', h⟩, rfl⟩⟩
theorem zrow_empty (w : World) (base size : Nat) (e : TypeId) : w.ownsRow base e size (.slice none 0 0) 0 [] := ⟨by simp, .inl ⟨rfl, rfl⟩⟩
end Go.Proofs.YtjmidoncojajcaaDoor
