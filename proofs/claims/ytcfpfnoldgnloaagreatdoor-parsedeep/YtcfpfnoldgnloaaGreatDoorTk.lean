/-
  Scan's list of tokens, as it is appended to. No condition.
-/
import Derived.Test.YtcfpfnoldgnloaaGreatDoorTreeA
import Derived.Deep.OwnRows
set_option linter.unusedVariables false
set_option linter.unusedSimpArgs false
namespace Go.Proofs.YtcfpfnoldgnloaaGreatDoor
open Go.RowKit
set_option maxHeartbeats 4000000
set_option maxRecDepth 100000


/-- A token: its kind, text, number and line. -/
structure Tk where
  kind : Int
  text : Bs
  num : Int
  line : Int
def tkCells (t : Tk) : List Value := [.int .i64 t.kind, .string (strOf t.text), .int .i64 t.num, .int .i64 t.line]
theorem infoTk : (Tryz.prog.info? 50).map (fun i => (i.zero, i.size, i.bytes)) = some (some (.agg #[.int .i64 0, .string ⟨#[]⟩, .int .i64 0, .int .i64 0]), 4, 40) := by kernel_rfl
def TksOwn (w : World) (base : Nat) (l : List Tk) (v : Value) : Prop := w.ownsRow base 50 4 v l.length (l.flatMap tkCells)
theorem TksOwn.zero (w : World) (base : Nat) : TksOwn w base [] (.slice none 0 0) := ⟨rfl, .inl ⟨rfl, rfl⟩⟩
theorem TksOwn.ge {w : World} {base : Nat} {l : List Tk} {v : Value} (h : TksOwn w base l v) {k : Nat} (hk : v.ownBlock = some k) : base ≤ k ∧ k < w.heap.size := World.ownsRow.lt h k hk
theorem TksOwn.snoc {w' : World} {base : Nat} {l : List Tk} (a : Tk) {g cap : Nat} (hown : w'.ownsRow base 50 4 (.slice (some ⟨g, 0, none⟩) (l.length + 1) cap) (l.length + 1) (l.flatMap tkCells ++ tkCells a)) :
    TksOwn w' base (l ++ [a]) (.slice (some ⟨g, 0, none⟩) (l.length + 1) cap) := by
  unfold TksOwn
  simpa using hown
theorem tkCells_one (a : Tk) : ∀ u, u ∈ tkCells a → u.oneCell' = true := by
  intro u hu
  simp only [tkCells, List.mem_cons, List.not_mem_nil, or_false] at hu
  rcases hu with rfl | rfl | rfl | rfl <;> rfl
end Go.Proofs.YtcfpfnoldgnloaaGreatDoor
