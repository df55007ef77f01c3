/-
  What comes in: the library's variables. Condition: the tables that a row of folder 04 lists are laid as the program's text lays them.
-/
import Derived.Test.YtcfpfnoldgnloaaGreatDoorScanE
import Derived.Test.YtcfpfnoldgnloaaGreatDoorRows
import Derived.Test.YtcfpfnoldgnloaaGreatDoorTreeWr
import Derived.ChangeSlices
import Derived.WideKeyArgs
import Derived.Lib.LaidU8T
import Derived.PinnedBridge
import Derived.Shelf.Vars
set_option linter.unusedVariables false
set_option linter.unusedSimpArgs false
namespace Go.Proofs.YtcfpfnoldgnloaaGreatDoor
open Go.ChangeShapes Go.WideShapes Go.ChangeAt Go.RowKit
set_option maxHeartbeats 4000000
set_option maxRecDepth 100000

theorem zi64 {n : Int} (h : (Lit.int .i64 n).wf = true) : I64 n := by
  simp only [Lit.wf, Bool.and_eq_true, decide_eq_true_eq] at h
  exact h
theorem yopen_rawint {H : Type} {enc : TypeId × Value → H} {W : World} {base : Nat} {x : Value} {d : DataW H} {p : List MemPlace} (hv : Value.okWide Tryz.prog W .any base 3 x) (h : DataW.Trod enc Tryz.prog W 0 (fun _ => true) true 3 x d p) : ∃ n, x = .int .i64 n ∧ I64 n := by
  obtain ⟨n, rfl⟩ := okWide_int Tryz.underlying3 hv
  obtain ⟨fuel, hf⟩ := h
  obtain ⟨m, e, _, hw⟩ := DataW.trod_int Tryz.underlying3 hf
  simp [Value.cells] at e
  subst e
  exact ⟨_, rfl, zi64 hw⟩

/-- What the rows list gives. -/
theorem zgTab : Tryz.prog.globalNamed "internal/strconv.uint64pow10" = some 3 := by kernel_rfl
theorem zgTabType : (Tryz.prog.globals[3]?).map (·.type) = some 211 := by kernel_rfl
theorem zcellsTab : Tryz.prog.cellsOf 211 = 20 := by kernel_rfl
theorem zcellsU : Tryz.prog.cellsOf 194 = 1 := by kernel_rfl
theorem zU8 : U8Extra Tryz.prog Tryz.lays196_ren := ⟨by kernel_rfl, by kernel_rfl, by kernel_rfl, by kernel_rfl, by kernel_rfl, by kernel_rfl, by kernel_rfl⟩
theorem zaccept : Rows.laid_unicode_utf8_acceptRanges = Lib.acceptData := by kernel_rfl
theorem zlib_of {W : World} (h : laidMetH Tryz.prog Rows.parseDeepRow.laid W) (hsh : W.ShapedOpen Tryz.prog) : ZLib W := by
  have h' : laidMet Tryz.prog Rows.parseDeepRow.laid W := h
  refine ⟨?_, ?_, ?_⟩
  · exact Lib.tabIs_of_head (rest := _) zgTab zgTabType Tryz.underlying211 Tryz.underlying194 zcellsU zcellsTab (laidMet_tail (laidMet_tail h'))
  · exact cell_of_shapedOpen_int (zero := #[.int .i64 0]) (t := 3) hsh (of_decide_eq_true (by kernel_rfl)) (by kernel_rfl) rfl (by kernel_rfl) (by kernel_rfl) Tryz.underlying3
  · refine utf8Tabs_of_readsT (U8Types.of196 Tryz.lays196) zU8 ?_ ?_
    · have := Lib.laidMet.reads h' (n := "unicode/utf8.first") (d := Rows.laid_unicode_utf8_first) (.tail _ (.tail _ (.tail _ (.tail _ (.tail _ (.tail _ (.head _)))))))
      rw [← Pinned.utf8First_eq]; exact this
    · have := Lib.laidMet.reads h' (n := "unicode/utf8.acceptRanges") (d := Rows.laid_unicode_utf8_acceptRanges) (.tail _ (.tail _ (.tail _ (.head _))))
      rw [← zaccept]; exact this
theorem zlaidOut : laidOutB Tryz.prog = true := by kernel_rfl
/-- An argument reads as it did. -/
theorem zagain {H : Type} {enc : TypeId × Value → H} {t : TypeId} (hr : Tryz.prog.readableRec t = true) (hrow : t < Tryz.prog.types.size) {W W' : World} {x : Value} {d : DataW H} {p : List MemPlace} (h : DataW.Trod enc Tryz.prog W 0 (fun _ => true) true t x d p) (hb : Below W.heap.size W W') (sp : Nat → Bool) (hsp : ∀ q, q ∈ p → sp q.block = true) : DataW.Trod enc Tryz.prog W' 0 sp true t x d p := by
  obtain ⟨fuel, hf⟩ := h
  have hlt := DataW.trod_lt _ _ _ _ hf
  exact WideElems.Trod_stays zlaidOut hr hrow ⟨fuel, hf⟩ (fun q hq => hb.same (hlt q hq)) hsp
end Go.Proofs.YtcfpfnoldgnloaaGreatDoor
