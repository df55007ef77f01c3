/-
  What comes in: raw numbers, raw pairs; the library's variables. Condition: the tables that a row lists are laid as the program's text lays them.
-/
import Derived.Test.YtjmidoncojajcaaDoorScanF
import Derived.Test.YtjmidoncojajcaaDoorScanE
import Derived.Test.YtjmidoncojajcaaDoorTreeWr
import Derived.ChangeSlices
import Derived.Deep.Slices
import Derived.WideKeyArgs
import Derived.Lib.LaidU8T
import Derived.PinnedBridge
import Derived.Shelf.Vars
set_option linter.unusedVariables false
set_option linter.unusedSimpArgs false
namespace Go.Proofs.YtjmidoncojajcaaDoor
open Go.ChangeShapes Go.WideShapes Go.ChangeAt Go.RowKit
set_option maxHeartbeats 4000000
set_option maxRecDepth 100000

theorem zi64 {n : Int} (h : (Lit.int .i64 n).wf = true) : I64 n := by
  simp only [Lit.wf, Bool.and_eq_true, decide_eq_true_eq] at h
  exact h
theorem zcellsInt : Tryd.prog.cellsOf 3 = 1 := by kernel_rfl
theorem zcellsPair : Tryd.prog.cellsOf 28 = 2 := by kernel_rfl
theorem open_zraw {H : Type} {enc : TypeId × Value → H} {W : World} {base : Nat} {x : Value} {d : DataW H} {p : List MemPlace} (hv : Value.okWide Tryd.prog W .any base 24 x) (h : DataW.Trod enc Tryd.prog W 0 (fun _ => true) true 24 x d p) : ∃ raw, ZRaw W raw x := by
  obtain ⟨a0, len, cap, rfl⟩ := okWide_slice Tryd.underlying24 hv
  obtain ⟨fuel, hf⟩ := h
  rcases open_ints Tryd.underlying24 Tryd.underlying3 zcellsInt hf with ⟨hcs, hx⟩ | ⟨a, len', cap', zs, hcs, hb, hl, hm, hz, hx, hcell, hwz⟩
  · cases hcs
    exact ⟨[], none, 0, 0, 0, rfl, .inl rfl, Nat.zero_le _, fun i hi => (by cases hi)⟩
  · cases hcs
    rw [if_pos rfl] at hz
    have e : (zs.take len).length = len := by rw [List.length_take]; omega
    have hmax : cap ≤ 9223372036854775807 := by unfold maxLen at hm; omega
    rcases Nat.eq_zero_or_pos len with h0 | h0
    · subst h0
      exact ⟨[], some a, cap, 0, 0, rfl, .inl rfl, Nat.zero_le _, fun i hi => (by cases hi)⟩
    · obtain ⟨b, off, rfl, hc⟩ := ints_at hcell (show 0 < zs.length by omega)
      refine ⟨zs.take len, some ⟨b, off, none⟩, cap, b, off, by rw [e], .inr rfl, by rw [e]; omega, fun i hi => ?_⟩
      rw [e] at hi
      have e1 : (zs.take len).getD i 0 = zs.getD i 0 := by rw [List.getD_eq_getElem?_getD, List.getElem?_take, if_pos hi, ← List.getD_eq_getElem?_getD]
      rw [e1]
      exact ⟨hc i (by omega), zi64 (hwz _ (by rw [List.getD_eq_getElem?_getD, List.getElem?_eq_getElem (show i < zs.length by omega)]; exact List.getElem_mem _))⟩
theorem arr_agg {H : Type} {enc : TypeId × Value → H} {P : Program} {w : World} {base : Nat} {sp : Nat → Bool} {held : Bool} {fuel n : Nat} {t e : TypeId} {cs : List Value} {x : DataW H × List MemPlace} (ht : P.underlying t = some (.array n e))
    (h : DataW.trod enc P w base sp held fuel t cs = some x) : ∃ ds p, x = (.agg ds, p) := by
  cases fuel with
  | zero => simp [DataW.trod] at h
  | succ fuel =>
    simp only [DataW.trod, ht] at h
    split at h
    · obtain ⟨xs, hm, hx⟩ := Option.map_eq_some_iff.1 h
      exact ⟨_, _, hx.symm⟩
    · cases h
theorem open_zraw2 {H : Type} {enc : TypeId × Value → H} {W : World} {base : Nat} {x : Value} {d : DataW H} {p : List MemPlace} (hv : Value.okWide Tryd.prog W .any base 22 x) (h : DataW.Trod enc Tryd.prog W 0 (fun _ => true) true 22 x d p) : ∃ raw, ZRaw2 W raw x := by
  obtain ⟨a0, len, cap, rfl⟩ := okWide_slice Tryd.underlying22 hv
  obtain ⟨fuel, hf⟩ := h
  rcases Go.Deep.open_slice Tryd.underlying22 hf with ⟨hcs, hx⟩ | ⟨a, len', cap', m, n, Dd, Pl, hcs, hb, hl, hm, hmm, hx, hi⟩
  · cases hcs
    exact ⟨[], none, 0, 0, 0, rfl, .inl rfl, Nat.zero_le _, fun i hi => (by cases hi)⟩
  · cases hcs
    rw [if_pos rfl] at hmm
    rw [hmm] at hi
    clear hmm hx
    have hmax : cap ≤ 9223372036854775807 := by unfold maxLen at hm; omega
    rcases Nat.eq_zero_or_pos len with h0 | h0
    · subst h0
      exact ⟨[], some a, cap, 0, 0, rfl, .inl rfl, Nat.zero_le _, fun i hi => (by cases hi)⟩
    · have each : ∀ i, i < cap → ∃ z0 z1 : Int, W.cell? (a.add (i * 2)) = some (.int .i64 z0) ∧ W.cell? (a.add (i * 2 + 1)) = some (.int .i64 z1) ∧ I64 z0 ∧ I64 z1 := by
        intro i him
        obtain ⟨cs', hc, ht⟩ := hi i him
        rw [zcellsPair] at hc
        obtain ⟨ds, q, hq⟩ := arr_agg Tryd.underlying28 ht
        rw [hq] at ht
        obtain ⟨_, hcl, hat⟩ := World.cells?_some hc
        obtain ⟨f0, d0, q0, _, t0⟩ := Lib.array_elem Tryd.underlying28 ht 0 (by decide)
        obtain ⟨f1, d1, q1, _, t1⟩ := Lib.array_elem Tryd.underlying28 ht 1 (by decide)
        rw [zcellsInt] at t0 t1
        obtain ⟨z0, e0, _, w0⟩ := DataW.trod_int Tryd.underlying3 t0
        obtain ⟨z1, e1, _, w1⟩ := DataW.trod_int Tryd.underlying3 t1
        have h0 := hat 0 (by decide)
        have h1 := hat 1 (by decide)
        have g0 : cs'[0]? = some (.int .i64 z0) := by
          have := congrArg (·[0]?) e0
          simpa [List.getElem?_take] using this
        have g1 : cs'[1]? = some (.int .i64 z1) := by
          have := congrArg (·[0]?) e1
          simpa [List.getElem?_take, List.getElem?_drop] using this
        rw [Go.Deep.add_add] at h0 h1
        exact ⟨z0, z1, h0.trans g0, h1.trans g1, zi64 w0, zi64 w1⟩
      obtain ⟨y0, y1, hy0, _⟩ := each 0 (by omega)
      obtain ⟨b, off, rfl, _⟩ := ints_at (w := W) (a := a) (k := .i64) (zs := [y0]) (fun i hi => by
        have : i = 0 := by simp at hi; omega
        subst this
        simpa using hy0) (by simp)
      have plain : ∀ j, (⟨b, off, none⟩ : Addr).add j = ⟨b, off + j, none⟩ := fun j => by unfold Addr.add; split <;> simp_all
      have each2 : ∀ i, i < cap → ∃ z : Int × Int, W.cell? ⟨b, off + i * 2, none⟩ = some (.int .i64 z.1) ∧ W.cell? ⟨b, off + i * 2 + 1, none⟩ = some (.int .i64 z.2) ∧ I64 z.1 ∧ I64 z.2 := fun i hi => by
        obtain ⟨z0, z1, h1, h2, h3, h4⟩ := each i hi
        rw [plain] at h1 h2
        exact ⟨(z0, z1), h1, by rw [Nat.add_assoc]; exact h2, h3, h4⟩
      let f : Nat → Int × Int := fun i => if hi : i < cap then Classical.choose (each2 i hi) else (0, 0)
      refine ⟨(List.range len).map f, some ⟨b, off, none⟩, cap, b, off, by simp, .inr rfl, by simp; omega, fun i hi => ?_⟩
      have hil : i < len := by simpa using hi
      have hic : i < cap := by omega
      have e1 : ((List.range len).map f).getD i (0, 0) = f i := by rw [List.getD_eq_getElem?_getD, List.getElem?_map, List.getElem?_range hil]; rfl
      have e2 : f i = Classical.choose (each2 i hic) := dif_pos hic
      rw [e1, e2]
      exact Classical.choose_spec (each2 i hic)

/-- What the rows list gives. -/
theorem zgTab : Tryd.prog.globalNamed "internal/strconv.uint64pow10" = some 5 := by kernel_rfl
theorem zgTabType : (Tryd.prog.globals[5]?).map (·.type) = some 100 := by kernel_rfl
theorem zcellsTab : Tryd.prog.cellsOf 100 = 20 := by kernel_rfl
theorem zcellsU : Tryd.prog.cellsOf 72 = 1 := by kernel_rfl
theorem zU8 : U8Extra Tryd.prog Tryd.lays196_ren := ⟨by kernel_rfl, by kernel_rfl, by kernel_rfl, by kernel_rfl, by kernel_rfl, by kernel_rfl, by kernel_rfl⟩
theorem zaccept : Rows.laid_unicode_utf8_acceptRanges = Lib.acceptData := by kernel_rfl
theorem zlib_of {W : World} (h : laidMetH Tryd.prog Rows.scanWordsRow.laid W) (hsh : W.ShapedOpen Tryd.prog) : ZLib W := by
  have h' : laidMet Tryd.prog Rows.scanWordsRow.laid W := h
  refine ⟨?_, ?_, ?_⟩
  · exact Lib.tabIs_of_head (rest := _) zgTab zgTabType Tryd.underlying100 Tryd.underlying72 zcellsU zcellsTab (laidMet_tail (laidMet_tail h'))
  · exact cell_of_shapedOpen_int (zero := #[.int .i64 0]) (t := 3) hsh (of_decide_eq_true (by kernel_rfl)) (by kernel_rfl) rfl (by kernel_rfl) (by kernel_rfl) Tryd.underlying3
  · refine utf8Tabs_of_readsT (U8Types.of196 Tryd.lays196) zU8 ?_ ?_
    · have := Lib.laidMet.reads h' (n := "unicode/utf8.first") (d := Rows.laid_unicode_utf8_first) (.tail _ (.tail _ (.tail _ (.tail _ (.tail _ (.tail _ (.head _)))))))
      rw [← Pinned.utf8First_eq]; exact this
    · have := Lib.laidMet.reads h' (n := "unicode/utf8.acceptRanges") (d := Rows.laid_unicode_utf8_acceptRanges) (.tail _ (.tail _ (.tail _ (.head _))))
      rw [← zaccept]; exact this
theorem zlaidOut : laidOutB Tryd.prog = true := by kernel_rfl
/-- An argument reads as it did. -/
theorem zagain {H : Type} {enc : TypeId × Value → H} {t : TypeId} (hr : Tryd.prog.readableRec t = true) (hrow : t < Tryd.prog.types.size) {W W' : World} {x : Value} {d : DataW H} {p : List MemPlace} (h : DataW.Trod enc Tryd.prog W 0 (fun _ => true) true t x d p) (hb : Below W.heap.size W W') (sp : Nat → Bool) (hsp : ∀ q, q ∈ p → sp q.block = true) : DataW.Trod enc Tryd.prog W' 0 sp true t x d p := by
  obtain ⟨fuel, hf⟩ := h
  have hlt := DataW.trod_lt _ _ _ _ hf
  exact WideElems.Trod_stays zlaidOut hr hrow ⟨fuel, hf⟩ (fun q hq => hb.same (hlt q hq)) hsp
end Go.Proofs.YtjmidoncojajcaaDoor
