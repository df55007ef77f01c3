/-
  Instructions in memory; blocks of one's own, what stays. No condition.
  rowOf, part, may: an instruction's word and form; its parts. No condition.
  Label: may a text be a label? No condition.
  Regions that draw their order; iterators beside blocks of one's own. No condition.
-/
import Derived.Test.YtgdnnaiidmfncaaDoorInstrA
import Derived.Test.YtgdnnaiidmfncaaDoorTreeA
import Derived.Laws.Tables
import Derived.Laws.CopyOwn
import Derived.Deep.CutRange
import Derived.Great.Walk
import Derived.Great.BuildSlice
import Derived.Laws.RangeAny
import Derived.Lib.OthersKept
import Derived.BigQuiet
import Derived.Deep.QuietTactic
set_option linter.unusedVariables false
set_option linter.unusedSimpArgs false
namespace Go.Proofs.YtgdnnaiidmfncaaDoor
open Go.RowKit
set_option maxHeartbeats 4000000
set_option maxRecDepth 100000

def OwnAt (w : World) (b : Nat) (cs : List Value) (T : TypeId) : Prop := w.heap[b]? = some (.cells cs.toArray T (0, 0))
theorem OwnAt.new (w : World) (cs : List Value) (T : TypeId) : OwnAt (w.alloc (.cells cs.toArray T)) w.heap.size cs T := Array.getElem?_push_size
theorem OwnAt.lt {w : World} {b : Nat} {cs : List Value} {T : TypeId} (h : OwnAt w b cs T) : b < w.heap.size := by
  rcases Nat.lt_or_ge b w.heap.size with h' | h'
  · exact h'
  · unfold OwnAt at h; simp [Array.getElem?_eq_none h'] at h
theorem OwnAt.at {w : World} {b : Nat} {cs : List Value} {T : TypeId} (h : OwnAt w b cs T) (i : Nat) (v : Value) (hi : cs[i]? = some v) : w.cell? ⟨b, i, none⟩ = some v := by
  rw [Lib.cell_of_heap h]; simpa using hi
theorem OwnAt.fz {w : World} {b : Nat} {cs : List Value} {T : TypeId} (h : OwnAt w b cs T) (i : Nat) : w.frozen? ⟨b, i, none⟩ = false := Lib.frozen_of_heap h i
theorem OwnAt.old {w w' : World} {b : Nat} {cs : List Value} {T : TypeId} (h : OwnAt w b cs T) (hb : Below w.heap.size w w') : OwnAt w' b cs T := (hb.block b h.lt).trans h
theorem OwnAt.set {w : World} {b : Nat} {cs : List Value} {T : TypeId} (h : OwnAt w b cs T) (i : Nat) (v : Value) : OwnAt (w.setCell ⟨b, i, none⟩ v) b (cs.set i v) T := by
  unfold OwnAt at *
  simp [World.setCell, Array.getElem?_modify, h]
theorem OwnAt.row {w : World} {b : Nat} {cs : List Value} {T : TypeId} (h : OwnAt w b cs T) {k : Nat} (hk : b ≠ k) (xs : Array Value) : OwnAt (w.setRow k xs) b cs T := (setRow_other w k b xs hk).trans h
theorem OwnAt.other {w : World} {b : Nat} {cs : List Value} {T : TypeId} (h : OwnAt w b cs T) {k : Nat} (hk : b ≠ k) (i : Nat) (v : Value) : OwnAt (w.setCell ⟨k, i, none⟩ v) b cs T := by
  unfold OwnAt at *
  rw [Below.heap_setCell _ _ _ _ hk]; exact h
theorem iflat_at {α : Type} (f : α → List Value) (k : Nat) (hf : ∀ x, (f x).length = k) : ∀ (l : List α) (i q : Nat) (p : α), l[i]? = some p → q < k → (l.flatMap f)[i * k + q]? = (f p)[q]?
  | [], i, q, p, h, _ => by simp at h
  | x :: l, 0, q, p, h, hq => by
    simp at h; subst h
    rw [List.flatMap_cons, List.getElem?_append_left (by rw [hf]; omega)]
    simp
  | x :: l, i + 1, q, p, h, hq => by
    simp at h
    have := iflat_at f k hf l i q p h hq
    rw [List.flatMap_cons, List.getElem?_append_right (by rw [hf, Nat.add_mul]; omega), ← this]
    congr 1; rw [hf, Nat.add_mul]; omega
theorem zbelow_set {B : Nat} {a w : World} (h : Below B a w) {k : Nat} (hk : B ≤ k) (i : Nat) (v : Value) : Below B a (w.setCell ⟨k, i, none⟩ v) := h.setCell (p := ⟨k, i, none⟩) hk v
/-- An instruction, as cells and as a value. -/
def insCells (x : Ins) : List Value := [.int .i64 x.op, .int .i64 x.d, .int .i64 x.a, .int .i64 x.b, .int .i64 x.n, .string (strOf x.name)]
def insV (x : Ins) : Value := .agg #[.int .i64 x.op, .int .i64 x.d, .int .i64 x.a, .int .i64 x.b, .int .i64 x.n, .string (strOf x.name)]
end Go.Proofs.YtgdnnaiidmfncaaDoor

namespace Go.Proofs.YtgdnnaiidmfncaaDoor
open Go.RowKit
set_option maxHeartbeats 4000000
set_option maxRecDepth 100000

def rowCellsI : List Value := rowsI.flatMap (fun r => [.string (strOf r.1), .string (strOf r.2)])
theorem rows_at (j : Nat) (hj : j < 29) : rowCellsI[j * 2]? = some (.string (strOf (rowsI.getD j ([], [])).1)) ∧ rowCellsI[j * 2 + 1]? = some (.string (strOf (rowsI.getD j ([], [])).2)) := by
  have hp : rowsI[j]? = some (rowsI.getD j ([], [])) := by
    have hl : j < rowsI.length := hj
    rw [List.getD_eq_getElem?_getD, List.getElem?_eq_getElem hl]; rfl
  have key := iflat_at (fun r : Bs × Bs => [Value.string (strOf r.1), .string (strOf r.2)]) 2 (fun _ => rfl) rowsI j
  exact ⟨key 0 _ hp (by decide), key 1 _ hp (by decide)⟩
def rowV (r : Bs × Bs) : Value := .agg #[.string (strOf r.1), .string (strOf r.2)]
theorem rowOf_any (op : Int) (w : World) :
    Calls Tryd.prog 21 #[.int .i64 op] w fun e w' => e = .returned (rowV (rowI op)) ∧ Below w.heap.size w w' := by
  obtain ⟨r, hr⟩ : ∃ r, rowI op = r := ⟨_, rfl⟩
  rw [hr]
  unfold rowV
  go_enter Tryd.func21, Tryd.ntmps21
  go_upto_region 1 with (fail)
  go_cut [2, 3] (fun q2 q3 wx => q2 = .pointer (some ⟨w.heap.size, 0, none⟩) ∧ q3 = .pointer (some ⟨w.heap.size + 1, 0, none⟩) ∧ Hid (OwnAt wx w.heap.size [.string ⟨#[]⟩, .string ⟨#[]⟩] 43) ∧ Hid (OwnAt wx (w.heap.size + 1) rowCellsI 71) ∧ Hid (Below w.heap.size w wx))
  case first =>
    refine wp_region_lit ?_
    refine Go.Great.wpList_readTo rfl (some 4) rfl (.agg #[.string ⟨#[]⟩, .string ⟨#[]⟩]) (by kernel_rfl) ?_
    refine Go.Great.wpList_readTo rfl (some 5) rfl (.agg #[.string ⟨#[97, 100, 100]⟩, .string ⟨#[68, 44, 32, 65, 44, 32, 66]⟩]) (by kernel_rfl) ?_
    refine Go.Great.wpList_readTo rfl (some 6) rfl (.agg #[.string ⟨#[115, 117, 98]⟩, .string ⟨#[68, 44, 32, 65, 44, 32, 66]⟩]) (by kernel_rfl) ?_
    refine Go.Great.wpList_readTo rfl (some 7) rfl (.agg #[.string ⟨#[109, 117, 108]⟩, .string ⟨#[68, 44, 32, 65, 44, 32, 66]⟩]) (by kernel_rfl) ?_
    refine Go.Great.wpList_readTo rfl (some 8) rfl (.agg #[.string ⟨#[100, 105, 118]⟩, .string ⟨#[68, 44, 32, 65, 44, 32, 66]⟩]) (by kernel_rfl) ?_
    refine Go.Great.wpList_readTo rfl (some 9) rfl (.agg #[.string ⟨#[114, 101, 109]⟩, .string ⟨#[68, 44, 32, 65, 44, 32, 66]⟩]) (by kernel_rfl) ?_
    refine Go.Great.wpList_readTo rfl (some 10) rfl (.agg #[.string ⟨#[97, 110, 100]⟩, .string ⟨#[68, 44, 32, 65, 44, 32, 66]⟩]) (by kernel_rfl) ?_
    refine Go.Great.wpList_readTo rfl (some 11) rfl (.agg #[.string ⟨#[111, 114]⟩, .string ⟨#[68, 44, 32, 65, 44, 32, 66]⟩]) (by kernel_rfl) ?_
    refine Go.Great.wpList_readTo rfl (some 12) rfl (.agg #[.string ⟨#[120, 111, 114]⟩, .string ⟨#[68, 44, 32, 65, 44, 32, 66]⟩]) (by kernel_rfl) ?_
    refine Go.Great.wpList_readTo rfl (some 13) rfl (.agg #[.string ⟨#[115, 108, 108]⟩, .string ⟨#[68, 44, 32, 65, 44, 32, 66]⟩]) (by kernel_rfl) ?_
    refine Go.Great.wpList_readTo rfl (some 14) rfl (.agg #[.string ⟨#[115, 114, 97]⟩, .string ⟨#[68, 44, 32, 65, 44, 32, 66]⟩]) (by kernel_rfl) ?_
    refine Go.Great.wpList_readTo rfl (some 15) rfl (.agg #[.string ⟨#[115, 108, 116]⟩, .string ⟨#[68, 44, 32, 65, 44, 32, 66]⟩]) (by kernel_rfl) ?_
    refine Go.Great.wpList_readTo rfl (some 16) rfl (.agg #[.string ⟨#[115, 108, 116, 117]⟩, .string ⟨#[68, 44, 32, 65, 44, 32, 66]⟩]) (by kernel_rfl) ?_
    refine Go.Great.wpList_readTo rfl (some 17) rfl (.agg #[.string ⟨#[115, 101, 113, 122]⟩, .string ⟨#[68, 44, 32, 65]⟩]) (by kernel_rfl) ?_
    refine Go.Great.wpList_readTo rfl (some 18) rfl (.agg #[.string ⟨#[115, 110, 101, 122]⟩, .string ⟨#[68, 44, 32, 65]⟩]) (by kernel_rfl) ?_
    refine Go.Great.wpList_readTo rfl (some 19) rfl (.agg #[.string ⟨#[109, 118]⟩, .string ⟨#[68, 44, 32, 65]⟩]) (by kernel_rfl) ?_
    refine Go.Great.wpList_readTo rfl (some 20) rfl (.agg #[.string ⟨#[108, 105]⟩, .string ⟨#[68, 44, 32, 78]⟩]) (by kernel_rfl) ?_
    refine Go.Great.wpList_readTo rfl (some 21) rfl (.agg #[.string ⟨#[108, 97]⟩, .string ⟨#[68, 44, 32, 76]⟩]) (by kernel_rfl) ?_
    refine Go.Great.wpList_readTo rfl (some 22) rfl (.agg #[.string ⟨#[97, 100, 100, 105]⟩, .string ⟨#[68, 44, 32, 65, 44, 32, 83]⟩]) (by kernel_rfl) ?_
    refine Go.Great.wpList_readTo rfl (some 23) rfl (.agg #[.string ⟨#[108, 100]⟩, .string ⟨#[68, 44, 32, 83, 40, 65, 41]⟩]) (by kernel_rfl) ?_
    refine Go.Great.wpList_readTo rfl (some 24) rfl (.agg #[.string ⟨#[115, 100]⟩, .string ⟨#[66, 44, 32, 83, 40, 65, 41]⟩]) (by kernel_rfl) ?_
    refine Go.Great.wpList_readTo rfl (some 25) rfl (.agg #[.string ⟨#[98, 101, 113]⟩, .string ⟨#[65, 44, 32, 66, 44, 32, 76]⟩]) (by kernel_rfl) ?_
    refine Go.Great.wpList_readTo rfl (some 26) rfl (.agg #[.string ⟨#[98, 110, 101]⟩, .string ⟨#[65, 44, 32, 66, 44, 32, 76]⟩]) (by kernel_rfl) ?_
    refine Go.Great.wpList_readTo rfl (some 27) rfl (.agg #[.string ⟨#[98, 108, 116]⟩, .string ⟨#[65, 44, 32, 66, 44, 32, 76]⟩]) (by kernel_rfl) ?_
    refine Go.Great.wpList_readTo rfl (some 28) rfl (.agg #[.string ⟨#[98, 103, 101]⟩, .string ⟨#[65, 44, 32, 66, 44, 32, 76]⟩]) (by kernel_rfl) ?_
    refine Go.Great.wpList_readTo rfl (some 29) rfl (.agg #[.string ⟨#[106]⟩, .string ⟨#[76]⟩]) (by kernel_rfl) ?_
    refine Go.Great.wpList_readTo rfl (some 30) rfl (.agg #[.string ⟨#[106, 97, 108]⟩, .string ⟨#[76]⟩]) (by kernel_rfl) ?_
    refine Go.Great.wpList_readTo rfl (some 31) rfl (.agg #[.string ⟨#[114, 101, 116]⟩, .string ⟨#[]⟩]) (by kernel_rfl) ?_
    refine Go.Great.wpList_readTo rfl (some 32) rfl (.agg #[.string ⟨#[101, 99, 97, 108, 108]⟩, .string ⟨#[]⟩]) (by kernel_rfl) ?_
    refine Go.Great.wpList_readTo rfl (some 33) rfl (.agg rowCellsI.toArray) (by kernel_rfl) ?_
    refine Go.Great.wpList_runTo rfl (some 3) rfl (.pointer (some ⟨(w.alloc (.cells #[.string ⟨#[]⟩, .string ⟨#[]⟩] 43)).heap.size, 0, none⟩)) ((w.alloc (.cells #[.string ⟨#[]⟩, .string ⟨#[]⟩] 43)).alloc (.cells #[.string ⟨#[]⟩, .string ⟨#[]⟩, .string ⟨#[]⟩, .string ⟨#[]⟩, .string ⟨#[]⟩, .string ⟨#[]⟩, .string ⟨#[]⟩, .string ⟨#[]⟩, .string ⟨#[]⟩, .string ⟨#[]⟩, .string ⟨#[]⟩, .string ⟨#[]⟩, .string ⟨#[]⟩, .string ⟨#[]⟩, .string ⟨#[]⟩, .string ⟨#[]⟩, .string ⟨#[]⟩, .string ⟨#[]⟩, .string ⟨#[]⟩, .string ⟨#[]⟩, .string ⟨#[]⟩, .string ⟨#[]⟩, .string ⟨#[]⟩, .string ⟨#[]⟩, .string ⟨#[]⟩, .string ⟨#[]⟩, .string ⟨#[]⟩, .string ⟨#[]⟩, .string ⟨#[]⟩, .string ⟨#[]⟩, .string ⟨#[]⟩, .string ⟨#[]⟩, .string ⟨#[]⟩, .string ⟨#[]⟩, .string ⟨#[]⟩, .string ⟨#[]⟩, .string ⟨#[]⟩, .string ⟨#[]⟩, .string ⟨#[]⟩, .string ⟨#[]⟩, .string ⟨#[]⟩, .string ⟨#[]⟩, .string ⟨#[]⟩, .string ⟨#[]⟩, .string ⟨#[]⟩, .string ⟨#[]⟩, .string ⟨#[]⟩, .string ⟨#[]⟩, .string ⟨#[]⟩, .string ⟨#[]⟩, .string ⟨#[]⟩, .string ⟨#[]⟩, .string ⟨#[]⟩, .string ⟨#[]⟩, .string ⟨#[]⟩, .string ⟨#[]⟩, .string ⟨#[]⟩, .string ⟨#[]⟩] 71)) (by kernel_rfl) ?_
    refine wpList_store_row rfl 71 _ _ rfl (w.alloc (.cells #[.string ⟨#[]⟩, .string ⟨#[]⟩] 43)).heap.size rowCellsI.toArray (by kernel_rfl) (by kernel_rfl) 71 _ Array.getElem?_push_size (by kernel_rfl) (by kernel_rfl) (by kernel_rfl) ?_
    refine wpList_frame (a' := ⟨#[.int .i64 op, undef, .pointer (some ⟨w.heap.size, 0, none⟩), .pointer (some ⟨(w.alloc (.cells #[.string ⟨#[]⟩, .string ⟨#[]⟩] 43)).heap.size, 0, none⟩), .agg #[.string ⟨#[]⟩, .string ⟨#[]⟩], .agg #[.string ⟨#[97, 100, 100]⟩, .string ⟨#[68, 44, 32, 65, 44, 32, 66]⟩], .agg #[.string ⟨#[115, 117, 98]⟩, .string ⟨#[68, 44, 32, 65, 44, 32, 66]⟩], .agg #[.string ⟨#[109, 117, 108]⟩, .string ⟨#[68, 44, 32, 65, 44, 32, 66]⟩], .agg #[.string ⟨#[100, 105, 118]⟩, .string ⟨#[68, 44, 32, 65, 44, 32, 66]⟩], .agg #[.string ⟨#[114, 101, 109]⟩, .string ⟨#[68, 44, 32, 65, 44, 32, 66]⟩], .agg #[.string ⟨#[97, 110, 100]⟩, .string ⟨#[68, 44, 32, 65, 44, 32, 66]⟩], .agg #[.string ⟨#[111, 114]⟩, .string ⟨#[68, 44, 32, 65, 44, 32, 66]⟩], .agg #[.string ⟨#[120, 111, 114]⟩, .string ⟨#[68, 44, 32, 65, 44, 32, 66]⟩], .agg #[.string ⟨#[115, 108, 108]⟩, .string ⟨#[68, 44, 32, 65, 44, 32, 66]⟩], .agg #[.string ⟨#[115, 114, 97]⟩, .string ⟨#[68, 44, 32, 65, 44, 32, 66]⟩], .agg #[.string ⟨#[115, 108, 116]⟩, .string ⟨#[68, 44, 32, 65, 44, 32, 66]⟩], .agg #[.string ⟨#[115, 108, 116, 117]⟩, .string ⟨#[68, 44, 32, 65, 44, 32, 66]⟩], .agg #[.string ⟨#[115, 101, 113, 122]⟩, .string ⟨#[68, 44, 32, 65]⟩], .agg #[.string ⟨#[115, 110, 101, 122]⟩, .string ⟨#[68, 44, 32, 65]⟩], .agg #[.string ⟨#[109, 118]⟩, .string ⟨#[68, 44, 32, 65]⟩], .agg #[.string ⟨#[108, 105]⟩, .string ⟨#[68, 44, 32, 78]⟩], .agg #[.string ⟨#[108, 97]⟩, .string ⟨#[68, 44, 32, 76]⟩], .agg #[.string ⟨#[97, 100, 100, 105]⟩, .string ⟨#[68, 44, 32, 65, 44, 32, 83]⟩], .agg #[.string ⟨#[108, 100]⟩, .string ⟨#[68, 44, 32, 83, 40, 65, 41]⟩], .agg #[.string ⟨#[115, 100]⟩, .string ⟨#[66, 44, 32, 83, 40, 65, 41]⟩], .agg #[.string ⟨#[98, 101, 113]⟩, .string ⟨#[65, 44, 32, 66, 44, 32, 76]⟩], .agg #[.string ⟨#[98, 110, 101]⟩, .string ⟨#[65, 44, 32, 66, 44, 32, 76]⟩], .agg #[.string ⟨#[98, 108, 116]⟩, .string ⟨#[65, 44, 32, 66, 44, 32, 76]⟩], .agg #[.string ⟨#[98, 103, 101]⟩, .string ⟨#[65, 44, 32, 66, 44, 32, 76]⟩], .agg #[.string ⟨#[106]⟩, .string ⟨#[76]⟩], .agg #[.string ⟨#[106, 97, 108]⟩, .string ⟨#[76]⟩], .agg #[.string ⟨#[114, 101, 116]⟩, .string ⟨#[]⟩], .agg #[.string ⟨#[101, 99, 97, 108, 108]⟩, .string ⟨#[]⟩], .agg rowCellsI.toArray, undef, undef, undef, undef, undef, undef, undef, undef, undef, undef], []⟩) (by kernel_rfl) ?_
    refine wpList_nil ?_
    dsimp only
    rename_i hjx hmx
    refine hmx _ _ (Met.intro (hjx _ _ ?_))
    repeat apply Exists.intro
    refine ⟨⟨rfl, ?_, ?_, ?_, ?_⟩, rfl⟩
    · show Value.pointer (some ⟨(w.alloc (.cells #[.string ⟨#[]⟩, .string ⟨#[]⟩] 43)).heap.size, 0, none⟩) = _; congr 3; simp
    · exact ((OwnAt.new w [.string ⟨#[]⟩, .string ⟨#[]⟩] 43).old ((Below.refl _ _).alloc (Nat.le_refl _) _)).row (by simp) _
    · have h2 := setRow_heap ((w.alloc (.cells #[.string ⟨#[]⟩, .string ⟨#[]⟩] 43)).alloc (.cells #[.string ⟨#[]⟩, .string ⟨#[]⟩, .string ⟨#[]⟩, .string ⟨#[]⟩, .string ⟨#[]⟩, .string ⟨#[]⟩, .string ⟨#[]⟩, .string ⟨#[]⟩, .string ⟨#[]⟩, .string ⟨#[]⟩, .string ⟨#[]⟩, .string ⟨#[]⟩, .string ⟨#[]⟩, .string ⟨#[]⟩, .string ⟨#[]⟩, .string ⟨#[]⟩, .string ⟨#[]⟩, .string ⟨#[]⟩, .string ⟨#[]⟩, .string ⟨#[]⟩, .string ⟨#[]⟩, .string ⟨#[]⟩, .string ⟨#[]⟩, .string ⟨#[]⟩, .string ⟨#[]⟩, .string ⟨#[]⟩, .string ⟨#[]⟩, .string ⟨#[]⟩, .string ⟨#[]⟩, .string ⟨#[]⟩, .string ⟨#[]⟩, .string ⟨#[]⟩, .string ⟨#[]⟩, .string ⟨#[]⟩, .string ⟨#[]⟩, .string ⟨#[]⟩, .string ⟨#[]⟩, .string ⟨#[]⟩, .string ⟨#[]⟩, .string ⟨#[]⟩, .string ⟨#[]⟩, .string ⟨#[]⟩, .string ⟨#[]⟩, .string ⟨#[]⟩, .string ⟨#[]⟩, .string ⟨#[]⟩, .string ⟨#[]⟩, .string ⟨#[]⟩, .string ⟨#[]⟩, .string ⟨#[]⟩, .string ⟨#[]⟩, .string ⟨#[]⟩, .string ⟨#[]⟩, .string ⟨#[]⟩, .string ⟨#[]⟩, .string ⟨#[]⟩, .string ⟨#[]⟩, .string ⟨#[]⟩] 71)) (w.alloc (.cells #[.string ⟨#[]⟩, .string ⟨#[]⟩] 43)).heap.size _ rowCellsI.toArray 71 (0, 0) Array.getElem?_push_size
      rw [show (w.alloc (.cells #[.string ⟨#[]⟩, .string ⟨#[]⟩] 43)).heap.size = w.heap.size + 1 by simp] at h2 ⊢
      exact h2
    · exact below_setRow (((Below.refl _ _).alloc (Nat.le_refl _) _).alloc (by simp) _) (by simp) _
  case rest =>
  obtain ⟨rfl, rfl, H1, H2, HB⟩ := hcut
  have a0 := H1.out.at 0 _ rfl
  have a1 := H1.out.at 1 _ rfl
  have z0 := H1.out.fz 0
  have z1 := H1.out.fz 1
  have al := H1.out.lt
  have bl := H2.out.lt
  by_cases hin : op < 0 ∨ 29 ≤ op
  · have e : rowI op = ([], []) := by unfold rowI; rw [if_pos hin]
    rw [e] at hr
    subst hr
    clear e H2
    have HS := Lib.hid ((H1.out.set 0 (.string ⟨#[]⟩)).set 1 (.string ⟨#[]⟩))
    have e0 := HS.out.at 0 _ rfl
    have e1 := HS.out.at 1 _ rfl
    rcases hin with h | h
    · go_wp2_with fail
      exact bodyPost_ret (v := .agg #[.string (strOf []), .string (strOf [])]) (by simp [results, Tryd.results21, go_sem, e0, e1]) rfl ⟨rfl, by first | exact zbelow_set (zbelow_set HB.out (Nat.le_refl _) 0 (.string ⟨#[]⟩)) (Nat.le_refl _) 1 (.string ⟨#[]⟩) | exact HB.out⟩
    · have h0 : 0 ≤ op := by omega
      go_wp2_with fail
      exact bodyPost_ret (v := .agg #[.string (strOf []), .string (strOf [])]) (by simp [results, Tryd.results21, go_sem, e0, e1]) rfl ⟨rfl, by first | exact zbelow_set (zbelow_set HB.out (Nat.le_refl _) 0 (.string ⟨#[]⟩)) (Nat.le_refl _) 1 (.string ⟨#[]⟩) | exact HB.out⟩
  · have h0 : 0 ≤ op := by omega
    have h29 : op < 29 := by omega
    obtain ⟨k, rfl⟩ := Int.eq_ofNat_of_zero_le h0
    have hk : k < 29 := by omega
    have e : rowI (k : Int) = rowsI.getD k ([], []) := by unfold rowI; rw [if_neg hin, Int.toNat_natCast]
    rw [e] at hr
    obtain ⟨c0, c1⟩ := rows_at k hk
    rw [hr] at c0 c1
    obtain ⟨x, y⟩ := r
    dsimp only at c0 c1 ⊢
    have d0 := H2.out.at (k * 2) _ c0
    have d1 := H2.out.at (k * 2 + 1) _ c1
    have HS := Lib.hid ((H1.out.set 0 (.string (strOf x))).set 1 (.string (strOf y)))
    have e0 := HS.out.at 0 _ rfl
    have e1 := HS.out.at 1 _ rfl
    clear e H2 c0 c1 hin hr
    go_wp2_with fail
    exact bodyPost_ret (v := .agg #[.string (strOf x), .string (strOf y)]) (by simp [results, Tryd.results21, go_sem, e0, e1]) rfl ⟨rfl, zbelow_set (zbelow_set HB.out (Nat.le_refl _) 0 (.string (strOf x))) (Nat.le_refl _) 1 (.string (strOf y))⟩
def partP (b : Nat) (c : UInt8) : Value := if c = 68 then .pointer (some ⟨b, 1, none⟩) else if c = 65 then .pointer (some ⟨b, 2, none⟩) else if c = 66 then .pointer (some ⟨b, 3, none⟩) else if c = 78 ∨ c = 83 then .pointer (some ⟨b, 4, none⟩) else .pointer none
theorem u8_eq (c : UInt8) (n : Nat) (hn : n < 256) : ((c.toNat : Int) == (n : Int)) = decide (c = UInt8.ofNat n) := by
  rw [Bool.eq_iff_iff, beq_iff_eq, decide_eq_true_eq]
  constructor
  · intro h
    rw [← UInt8.toNat_inj, UInt8.toNat_ofNat', Nat.mod_eq_of_lt (by simpa using hn)]; omega
  · intro h
    rw [h, UInt8.toNat_ofNat', Nat.mod_eq_of_lt (by simpa using hn)]
theorem part_any (b : Nat) (c : UInt8) (w : World) :
    Calls Tryd.prog 24 #[.pointer (some ⟨b, 0, none⟩), .int .i32 (c.toNat : Nat)] w fun e w' => e = .returned (partP b c) ∧ w = w' := by
  have f1 := u8_eq c 68 (by decide)
  have f2 := u8_eq c 65 (by decide)
  have f3 := u8_eq c 66 (by decide)
  have f4 := u8_eq c 78 (by decide)
  have f5 := u8_eq c 83 (by decide)
  generalize (c.toNat : Int) = n at *
  unfold partP
  by_cases h1 : c = 68
  · subst h1
    simp only [show ((68 : Nat) : Int) = 68 from rfl] at f1
    have g1 : (n == 68) = true := by rw [f1]; decide
    rw [if_pos rfl]
    clear f1 f2 f3 f4 f5
    go_enter Tryd.func24, Tryd.ntmps24
    go_wp2_with fail
    go_ret
    exact ⟨rfl, rfl⟩
  · have g1 : (n == 68) = false := by have := f1; simp only [show ((68 : Nat) : Int) = 68 from rfl] at this; rw [this]; exact decide_eq_false h1
    rw [if_neg h1]
    by_cases h2 : c = 65
    · subst h2
      have g2 : (n == 65) = true := by have := f2; simp only [show ((65 : Nat) : Int) = 65 from rfl] at this; rw [this]; decide
      rw [if_pos rfl]
      clear f1 f2 f3 f4 f5 h1
      go_enter Tryd.func24, Tryd.ntmps24
      go_wp2_with fail
      go_ret
      exact ⟨rfl, rfl⟩
    · have g2 : (n == 65) = false := by have := f2; simp only [show ((65 : Nat) : Int) = 65 from rfl] at this; rw [this]; exact decide_eq_false h2
      rw [if_neg h2]
      by_cases h3 : c = 66
      · subst h3
        have g3 : (n == 66) = true := by have := f3; simp only [show ((66 : Nat) : Int) = 66 from rfl] at this; rw [this]; decide
        rw [if_pos rfl]
        clear f1 f2 f3 f4 f5 h1 h2
        go_enter Tryd.func24, Tryd.ntmps24
        go_wp2_with fail
        go_ret
        exact ⟨rfl, rfl⟩
      · have g3 : (n == 66) = false := by have := f3; simp only [show ((66 : Nat) : Int) = 66 from rfl] at this; rw [this]; exact decide_eq_false h3
        rw [if_neg h3]
        by_cases h4 : c = 78
        · subst h4
          have g4 : (n == 78) = true := by have := f4; simp only [show ((78 : Nat) : Int) = 78 from rfl] at this; rw [this]; decide
          rw [if_pos (.inl rfl)]
          clear f1 f2 f3 f4 f5 h1 h2 h3
          go_enter Tryd.func24, Tryd.ntmps24
          go_wp2_with fail
          go_ret
          exact ⟨rfl, rfl⟩
        · have g4 : (n == 78) = false := by have := f4; simp only [show ((78 : Nat) : Int) = 78 from rfl] at this; rw [this]; exact decide_eq_false h4
          by_cases h5 : c = 83
          · subst h5
            have g5 : (n == 83) = true := by have := f5; simp only [show ((83 : Nat) : Int) = 83 from rfl] at this; rw [this]; decide
            rw [if_pos (.inr rfl)]
            clear f1 f2 f3 f4 f5 h1 h2 h3 h4
            go_enter Tryd.func24, Tryd.ntmps24
            go_wp2_with fail
            go_ret
            exact ⟨rfl, rfl⟩
          · have g5 : (n == 83) = false := by have := f5; simp only [show ((83 : Nat) : Int) = 83 from rfl] at this; rw [this]; exact decide_eq_false h5
            rw [if_neg (by simp [h4, h5])]
            clear f1 f2 f3 f4 f5 h1 h2 h3 h4 h5
            go_enter Tryd.func24, Tryd.ntmps24
            go_wp2_with fail
            go_ret
            exact ⟨rfl, rfl⟩
theorem may_any (v : Int) (c : UInt8) (w : World) :
    Calls Tryd.prog 30 #[.int .i64 v, .int .i32 (c.toNat : Nat)] w fun e w' => e = .returned (.bool (mayI v c)) ∧ w = w' := by
  have f4 := u8_eq c 78 (by decide)
  have f5 := u8_eq c 83 (by decide)
  generalize (c.toNat : Int) = n at *
  unfold mayI
  by_cases h4 : c = 78
  · subst h4
    have g4 : (n == 78) = true := by have := f4; simp only [show ((78 : Nat) : Int) = 78 from rfl] at this; rw [this]; decide
    rw [if_pos rfl]
    clear f4 f5
    go_enter Tryd.func30, Tryd.ntmps30
    go_wp2_with fail
    go_ret
    exact ⟨rfl, rfl⟩
  · have g4 : (n == 78) = false := by have := f4; simp only [show ((78 : Nat) : Int) = 78 from rfl] at this; rw [this]; exact decide_eq_false h4
    rw [if_neg h4]
    by_cases h5 : c = 83
    · subst h5
      have g5 : (n == 83) = true := by have := f5; simp only [show ((83 : Nat) : Int) = 83 from rfl] at this; rw [this]; decide
      rw [if_pos rfl]
      clear f4 f5 h4
      go_enter Tryd.func30, Tryd.ntmps30
      go_wp2
      all_goals go_ret
      all_goals (refine ⟨ret_bool ?_, rfl⟩; rw [Bool.eq_iff_iff]; simp; try omega)
    · have g5 : (n == 83) = false := by have := f5; simp only [show ((83 : Nat) : Int) = 83 from rfl] at this; rw [this]; exact decide_eq_false h5
      rw [if_neg h5]
      clear f4 f5 h4 h5
      go_enter Tryd.func30, Tryd.ntmps30
      go_wp2
      all_goals go_ret
      all_goals (refine ⟨ret_bool ?_, rfl⟩; rw [Bool.eq_iff_iff]; simp; try omega)
end Go.Proofs.YtgdnnaiidmfncaaDoor

namespace Go.Proofs.YtgdnnaiidmfncaaDoor
open Go.RowKit
set_option maxHeartbeats 4000000
set_option maxRecDepth 100000

def labR (r : Int) : Bool := decide (r = 46 ∨ r = 95 ∨ (97 ≤ r ∧ r ≤ 122) ∨ (65 ≤ r ∧ r ≤ 90))
def digR (r : Int) : Bool := decide (48 ≤ r ∧ r ≤ 57)
theorem labR_of (c : UInt8) : labR (c.toNat : Nat) = labC c := by
  rw [Bool.eq_iff_iff]; simp [labR, labC, isLetter, UInt8.le_iff_toNat_le, ← UInt8.toNat_inj]; omega
theorem digR_of (c : UInt8) : digR (c.toNat : Nat) = isDigit c := by
  rw [Bool.eq_iff_iff]; simp [digR, isDigit, UInt8.le_iff_toNat_le]; omega
theorem labR_high {r : Nat} (h : 128 ≤ r) : labR r = false := by simp [labR]; omega
theorem digR_high {r : Nat} (h : 128 ≤ r) : digR r = false := by simp [digR]; omega
theorem lab_decode (l : Bs) (k : Nat) (h : k < l.length) : ∃ r d, Utf8.decode (strOf l) k = (r, d) ∧ 1 ≤ d ∧ labR r = labC l[k] ∧ digR r = isDigit l[k] ∧ (r < 128 → r = l[k].toNat ∧ d = 1) ∧ r ≤ 2147483647 := by
  have hs : k < (strOf l).size := h
  have he : (strOf l)[k]'hs = l[k] := rfl
  have hle := decode_le (strOf l) k
  by_cases ha : ((strOf l)[k]'hs).toNat < 128
  · rw [decode_ascii _ _ hs ha] at hle
    exact ⟨_, _, decode_ascii _ _ hs ha, Nat.le_refl _, by rw [he]; exact labR_of _, by rw [he]; exact digR_of _, fun _ => ⟨by rw [he], rfl⟩, hle⟩
  · have hh := decode_high (strOf l) k hs (by omega)
    have h2 : 128 ≤ l[k].toNat := by rw [← he]; omega
    have e1 : labC l[k] = false := by rw [← labR_of]; exact labR_high h2
    have e2 : isDigit l[k] = false := by rw [← digR_of]; exact digR_high h2
    generalize Utf8.decode (strOf l) k = q at hh hle ⊢
    exact ⟨q.1, q.2, rfl, hh.2, by rw [labR_high hh.1, e1], by rw [digR_high hh.1, e2], fun h => by omega, hle⟩
theorem labR_low {r : Nat} (h : labR r = true) : r < 128 := by simp [labR] at h; omega
theorem digR_low {r : Nat} (h : digR r = true) : r < 128 := by simp [digR] at h; omega
theorem label_any (l : Bs) (hsz : l.length ≤ 9223372036854775807) (w : World) :
    Calls Tryd.prog 18 #[.string (strOf l)] w fun e w' => e = .returned (.bool (labelB l)) ∧ Below w.heap.size w w' := by
  have hszI : (l.length : Int) ≤ 9223372036854775807 := by omega
  go_enter Tryd.func18, Tryd.ntmps18
  go_wp2_with fail
  go_loopw [3, 4, 5] (fun _ _ _ wr => ∃ k : Nat, k ≤ l.length ∧ wr = w.iter (strOf l) k ∧ Hid (labelAt true l = labelAt (decide (k = 0)) (l.drop k))) (fun _ _ _ wr => l.length - wr.iterPos w.heap.size)
  case atStart => exact ⟨0, Nat.zero_le _, rfl, rfl⟩
  case round =>
    obtain ⟨k, hk, rfl, HI⟩ := hrel
    by_cases hlt : k < l.length
    · have hnx := fun ty => run_next_any (P := Tryd.prog) w (strOf l) k ty hlt
      obtain ⟨r, d, hd, h1, hl, hdg, hlow, hr⟩ := lab_decode l k hlt
      rw [hd] at hnx
      have HL := Lib.hid hl; have HD := Lib.hid hdg; have HLOW := Lib.hid hlow
      have HE : Hid (labelAt (decide (k = 0)) (l.drop k) = (((isDigit l[k] && !decide (k = 0)) || labC l[k]) && labelAt false (l.drop (k + 1)))) := by
        show _ = _
        rw [List.drop_eq_getElem_cons hlt]; rfl
      have good : ∀ (hg : ((digR r && !decide (k = 0)) || labR r) = true), d = 1 ∧ labelAt true l = labelAt false (l.drop (k + 1)) := fun hg => by
        refine ⟨?_, by rw [HI.out, HE.out, ← HL.out, ← HD.out, hg]; rfl⟩
        have : r < 128 := by
          simp only [Bool.or_eq_true, Bool.and_eq_true] at hg
          rcases hg with hg | hg
          · exact digR_low hg.1
          · exact labR_low hg
        exact (HLOW.out this).2
      have bad : ∀ (hg : ((digR r && !decide (k = 0)) || labR r) = false), labelB l = false := fun hg => by
        unfold labelB
        rw [HI.out, HE.out, ← HL.out, ← HD.out, hg]; rfl
      have GOOD := Lib.hid good; have BAD := Lib.hid bad
      have hrI : (0 : Int) ≤ (r : Int) := by omega
      clear hl hdg hlow hd good bad
      by_cases z : k = 0
      · subst z
        go_wp2
        all_goals (first | (go_ret
                            have hq : _ := BAD.out (by first | (simp [labR, digR]; done) | (simp [labR, digR]; omega) | (simp at *; simp [labR, digR]; omega))
                            exact ⟨ret_bool hq.symm, (Below.refl _ _).alloc (Nat.le_refl _) _⟩) | skip)
        all_goals go_roundw
        all_goals first
          | (have hq := GOOD.out (by first | (simp [labR, digR]; done) | (simp [labR, digR]; omega) | (simp at *; simp [labR, digR]; omega))
             obtain ⟨rfl, hg⟩ := hq
             exact ⟨1, hlt, rfl, by show _ = _; rw [hg]; rfl⟩)
          | (simp; omega)
      · have zI : (0 : Int) < (k : Int) := by omega
        go_wp2
        all_goals (first | (go_ret
                            have hq : _ := BAD.out (by first | (simp [labR, digR, z]; done) | (simp [labR, digR, z]; omega) | (simp at *; simp [labR, digR, z]; omega))
                            exact ⟨ret_bool hq.symm, (Below.refl _ _).alloc (Nat.le_refl _) _⟩) | skip)
        all_goals go_roundw
        all_goals first
          | (have hq := GOOD.out (by first | (simp [labR, digR, z]; done) | (simp [labR, digR, z]; omega) | (simp at *; simp [labR, digR, z]; omega))
             obtain ⟨rfl, hg⟩ := hq
             exact ⟨k + 1, hlt, rfl, by show _ = _; rw [hg]; simp⟩)
          | (simp; omega)
    · have hnx := fun ty => run_next_end (P := Tryd.prog) w (strOf l) k ty hlt
      have hfin : labelAt true l = true := by rw [HI.out, List.drop_eq_nil_of_le (by omega)]; rfl
      clear HI hk hlt
      by_cases he : l = []
      · subst he
        go_wp2_with fail
        go_ret
        exact ⟨rfl, (Below.refl _ _).alloc (Nat.le_refl _) _⟩
      · have he' : l.isEmpty = false := by simpa using he
        have hres : labelB l = decide ((l.length : Int) ≤ 40) := by
          unfold labelB
          rw [hfin, he']
          simp
          try omega
        have HRES := Lib.hid hres
        clear hres hfin
        go_wp2
        all_goals (go_ret; exact ⟨ret_bool (by rw [HRES.out]), (Below.refl _ _).alloc (Nat.le_refl _) _⟩)
end Go.Proofs.YtgdnnaiidmfncaaDoor

namespace Go.Proofs.YtgdnnaiidmfncaaDoor
open Go.RowKit
set_option maxHeartbeats 4000000
set_option maxRecDepth 100000

theorem Below.of_eq' {a b : World} (h : a = b) : Below a.heap.size a b := by subst h; exact Below.refl _ _
/-- A region that draws its order, whose operations read and whose callees leave a world of a class: one walk. -/
theorem region_in {Ix : Type} (F : Ix → World) {P : Program} {id : Nat} {Q : Exit → Act → World → Prop} {a : Act} {w : World} {l : List Oper} (hm : P.follows .mixedOrders = true) (hB : Region.lexB .any l.toArray = true) (hC : ∃ n, w.drew = F n)
    (h : wpQuiet P l.toArray (fun w' => ∃ n, w' = F n) (fun a' => ∀ w', (∃ n, w' = F n) → Q .normal a' w') l a) : (Code.region id l.toArray true).wp P Q a w :=
  wp_region_quiet (C := fun w' => ∃ n, w' = F n) hm hB hC (by simpa using h)
abbrev Lat (w : World) : Type := {w' : World // Below w.heap.size w w'}
theorem lat_fun (wr : World) : ∃ (Ix : Type) (_ : Nonempty Ix) (F : Ix → World), Hid (∀ n, Below wr.heap.size wr (F n)) ∧ Hid (∀ w', Below wr.heap.size wr w' → ∃ n, w' = F n) := ⟨Lat wr, ⟨⟨wr, Below.refl _ _⟩⟩, fun n => n.1, fun n => n.2, fun w' h => ⟨⟨w', h⟩, rfl⟩⟩
theorem below_drewN {B : Nat} {a w : World} (h : Below B a w) (n : Nat) : Below B a (w.drewN n) := ⟨h.os, h.tape, h.output, h.size, h.block⟩
theorem OwnAt.iter {w : World} {b : Nat} {cs : List Value} {T : TypeId} (h : OwnAt w b cs T) {k : Nat} (hk : b ≠ k) (s : ByteArray) (pos : Nat) : OwnAt (w.iterAt k s pos) b cs T := (Lib.iterAt_other w k b s pos hk).trans h
theorem OwnAt.kept {w w' : World} {b : Nat} {cs : List Value} {T : TypeId} {e : TypeId} {q : Option Nat} (h : OwnAt w b cs T) (hk : Lib.OthersKept e q w w') (hb : some b ≠ q) (hT : T ≠ e) : OwnAt w' b cs T := hk b _ h hb (fun c fz e1 => by injection e1 with _ e2; exact hT e2)
/-- A string's iterator in a block. -/
def IterAt (w : World) (k : Nat) (s : ByteArray) (pos : Nat) : Prop := w.heap[k]? = some (.stringIter s pos)
theorem IterAt.new (w : World) (s : ByteArray) : IterAt (w.alloc (.stringIter s 0)) w.heap.size s 0 := Array.getElem?_push_size
theorem IterAt.lt {w : World} {k : Nat} {s : ByteArray} {pos : Nat} (h : IterAt w k s pos) : k < w.heap.size := by
  rcases Nat.lt_or_ge k w.heap.size with h' | h'
  · exact h'
  · unfold IterAt at h; simp [Array.getElem?_eq_none h'] at h
theorem IterAt.old {w w' : World} {k : Nat} {s : ByteArray} {pos : Nat} (h : IterAt w k s pos) (hb : Below w.heap.size w w') : IterAt w' k s pos := (hb.block k h.lt).trans h
theorem IterAt.set {w : World} {k : Nat} {s : ByteArray} {pos : Nat} (h : IterAt w k s pos) {b : Nat} (hb : k ≠ b) (i : Nat) (v : Value) : IterAt (w.setCell ⟨b, i, none⟩ v) k s pos := by
  unfold IterAt at *
  rw [Below.heap_setCell _ _ _ _ hb]; exact h
theorem IterAt.step {w : World} {k : Nat} {s : ByteArray} {pos : Nat} (h : IterAt w k s pos) (pos' : Nat) : IterAt (w.iterAt k s pos') k s pos' := Lib.iterAt_heap w k s pos pos' h
theorem IterAt.kept {w w' : World} {k : Nat} {s : ByteArray} {pos : Nat} {e : TypeId} {q : Option Nat} (h : IterAt w k s pos) (hk : Lib.OthersKept e q w w') (hb : some k ≠ q) : IterAt w' k s pos := hk k _ h hb (fun c fz e1 => by cases e1)
theorem iter_next {P : Program} {w : World} {k : Nat} {l : Bs} {pos : Nat} (h : IterAt w k (strOf l) pos) (hl : pos < l.length) (h7 : l[pos].toNat < 128) (ty : TypeId) :
    (Instr.next (.pointer (some ⟨k, 0, none⟩)) true ty).run P w = .ok (.tuple #[.bool true, .int .i64 pos, .int .i32 (l[pos].toNat : Nat)]) (w.iterAt k (strOf l) (pos + 1)) := by
  have hs : pos < (strOf l).size := hl
  exact Lib.run_next_ascii_at w k (strOf l) pos ty h hs h7
theorem iter_end {P : Program} {w : World} {k : Nat} {l : Bs} {pos : Nat} (h : IterAt w k (strOf l) pos) (hl : ¬ pos < l.length) (ty : TypeId) :
    (Instr.next (.pointer (some ⟨k, 0, none⟩)) true ty).run P w = .ok (.tuple #[.bool false]) w := Lib.run_next_end_at w k (strOf l) pos ty h hl
theorem iterPos_at {w : World} {k : Nat} {s : ByteArray} {pos : Nat} (h : IterAt w k s pos) : w.iterPos k = pos := by
  unfold IterAt at h
  simp [World.iterPos, h]
end Go.Proofs.YtgdnnaiidmfncaaDoor
