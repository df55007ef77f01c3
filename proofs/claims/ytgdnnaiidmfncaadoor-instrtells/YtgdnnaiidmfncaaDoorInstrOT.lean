/-
  What comes in: raw instructions, numbers, texts; the library's variables. Condition: the variables that a row lists are laid as the program's text lays them.
-/
import Derived.Test.YtgdnnaiidmfncaaDoorInstrF
import Derived.Test.YtgdnnaiidmfncaaDoorInstrD
import Derived.Test.YtgdnnaiidmfncaaDoorTreeWr
import Derived.ChangeSlices
import Derived.WideKeyArgs
import Derived.Lib.LaidU8T
import Derived.PinnedBridge
import Derived.Shelf.Vars
import Derived.SizedLaws
set_option linter.unusedVariables false
set_option linter.unusedSimpArgs false
namespace Go.Proofs.YtgdnnaiidmfncaaDoor
open Go.ChangeShapes Go.WideShapes Go.ChangeAt Go.RowKit
set_option maxHeartbeats 4000000
set_option maxRecDepth 100000

theorem ri64 {n : Int} (h : (Lit.int .i64 n).wf = true) : I64 n := by
  simp only [Lit.wf, Bool.and_eq_true, decide_eq_true_eq] at h
  exact h
theorem ricellsInt : Tryd.prog.cellsOf 3 = 1 := by kernel_rfl
theorem ricellsStr : Tryd.prog.cellsOf 9 = 1 := by kernel_rfl
theorem ricellsIns : Tryd.prog.cellsOf 23 = 6 := by kernel_rfl
theorem open_rawint {H : Type} {enc : TypeId × Value → H} {W : World} {base : Nat} {x : Value} {d : DataW H} {p : List MemPlace} (hv : Value.okWide Tryd.prog W .any base 3 x) (h : DataW.Trod enc Tryd.prog W 0 (fun _ => true) true 3 x d p) : ∃ n, x = .int .i64 n ∧ I64 n := by
  obtain ⟨n, rfl⟩ := okWide_int Tryd.underlying3 hv
  obtain ⟨fuel, hf⟩ := h
  obtain ⟨m, e, _, hw⟩ := DataW.trod_int Tryd.underlying3 hf
  simp [Value.cells] at e
  subst e
  exact ⟨_, rfl, ri64 hw⟩
theorem open_rawstr {H : Type} {enc : TypeId × Value → H} {W : World} {base : Nat} {x : Value} {d : DataW H} {p : List MemPlace} (hv : Value.okWide Tryd.prog W .any base 9 x) (h : DataW.Trod enc Tryd.prog W 0 (fun _ => true) true 9 x d p) : ∃ l : Bs, x = .string (strOf l) ∧ d = .lit (.string l) := by
  obtain ⟨s, rfl⟩ := okWide_string Tryd.underlying9 hv
  obtain ⟨fuel, hf⟩ := h
  obtain ⟨m, e, hd, hw⟩ := DataW.trod_string Tryd.underlying9 hf
  simp [Value.cells] at e
  subst e
  exact ⟨s.data.toList, rfl, congrArg Prod.fst hd⟩
theorem riField (i : Nat) (hi : i < 6) : ∃ fs : Array Field, Tryd.prog.underlying 23 = some (.struct fs) ∧ ∃ f, fs[i]? = some f ∧ f.offset = i ∧ f.type = (if i = 5 then 9 else 3) := by
  refine ⟨_, Tryd.underlying23, ?_⟩
  have : i = 0 ∨ i = 1 ∨ i = 2 ∨ i = 3 ∨ i = 4 ∨ i = 5 := by omega
  rcases this with rfl | rfl | rfl | rfl | rfl | rfl <;> exact ⟨_, rfl, rfl, rfl⟩
theorem open_rawI {H : Type} {enc : TypeId × Value → H} {W : World} {base : Nat} {x : Value} {d : DataW H} {p : List MemPlace} (hv : Value.okWide Tryd.prog W .any base 23 x) (h : DataW.Trod enc Tryd.prog W 0 (fun _ => true) true 23 x d p) : ∃ X : Ins, x = insV X ∧ RawI X ∧ X.name.length ≤ 9223372036854775807 := by
  obtain ⟨cs, rfl, hcs⟩ := okWide_struct Tryd.underlying23 hv
  rw [ricellsIns] at hcs
  obtain ⟨fuel, hf⟩ := h
  obtain ⟨xs, n, rfl, hx, hl, hxl, hi⟩ := DataW.trod_struct Tryd.underlying23 hf
  have hcl : (Value.agg cs).cells.toList = cs.toList := rfl
  rw [hcl] at hi
  have hx6 : xs.length = 6 := hxl
  have hci : ∀ i, i < 5 → ∃ z, cs.toList[i]? = some (.int .i64 z) ∧ I64 z := by
    intro i hi5
    have : i = 0 ∨ i = 1 ∨ i = 2 ∨ i = 3 ∨ i = 4 := by omega
    have key : ∀ f : Field, f.offset = i → f.type = 3 → DataW.trod enc Tryd.prog W 0 (fun _ => true) true n f.type ((cs.toList.drop f.offset).take (Tryd.prog.cellsOf f.type)) = xs[i]? → ∃ z, cs.toList[i]? = some (.int .i64 z) ∧ I64 z := by
      intro f h1 h2 h3
      rw [h1, h2, ricellsInt, List.getElem?_eq_getElem (show i < xs.length by omega)] at h3
      obtain ⟨z, e, _, hw⟩ := DataW.trod_int Tryd.underlying3 h3
      refine ⟨z, ?_, ri64 hw⟩
      have := congrArg (·[0]?) e
      simpa [List.getElem?_take, List.getElem?_drop] using this
    rcases this with rfl | rfl | rfl | rfl | rfl
    · exact key _ rfl rfl (hi 0 _ rfl)
    · exact key _ rfl rfl (hi 1 _ rfl)
    · exact key _ rfl rfl (hi 2 _ rfl)
    · exact key _ rfl rfl (hi 3 _ rfl)
    · exact key _ rfl rfl (hi 4 _ rfl)
  have hcs5 : ∃ s : ByteArray, cs.toList[5]? = some (.string s) ∧ s.size ≤ maxLen := by
    have key : ∀ f : Field, f.offset = 5 → f.type = 9 → DataW.trod enc Tryd.prog W 0 (fun _ => true) true n f.type ((cs.toList.drop f.offset).take (Tryd.prog.cellsOf f.type)) = xs[5]? → ∃ s : ByteArray, cs.toList[5]? = some (.string s) ∧ s.size ≤ maxLen := by
      intro f h1 h2 h3
      rw [h1, h2, ricellsStr, List.getElem?_eq_getElem (show 5 < xs.length by omega)] at h3
      obtain ⟨s, e, _, hw⟩ := DataW.trod_string Tryd.underlying9 h3
      refine ⟨s, ?_, hw⟩
      have := congrArg (·[0]?) e
      simpa [List.getElem?_take, List.getElem?_drop] using this
    exact key _ rfl rfl (hi 5 _ rfl)
  obtain ⟨z0, e0, i0⟩ := hci 0 (by decide)
  obtain ⟨z1, e1, i1⟩ := hci 1 (by decide)
  obtain ⟨z2, e2, i2⟩ := hci 2 (by decide)
  obtain ⟨z3, e3, i3⟩ := hci 3 (by decide)
  obtain ⟨z4, e4, i4⟩ := hci 4 (by decide)
  obtain ⟨s, e5, i5⟩ := hcs5
  have hlen : cs.toList.length = 6 := by simpa using hcs
  have e : cs.toList = [.int .i64 z0, .int .i64 z1, .int .i64 z2, .int .i64 z3, .int .i64 z4, .string s] := by
    apply List.ext_getElem?
    intro i
    by_cases h6 : i < 6
    · have : i = 0 ∨ i = 1 ∨ i = 2 ∨ i = 3 ∨ i = 4 ∨ i = 5 := by omega
      rcases this with rfl | rfl | rfl | rfl | rfl | rfl
      · rw [e0]; rfl
      · rw [e1]; rfl
      · rw [e2]; rfl
      · rw [e3]; rfl
      · rw [e4]; rfl
      · rw [e5]; rfl
    · rw [List.getElem?_eq_none (by omega), List.getElem?_eq_none (by simp; omega)]
  refine ⟨⟨z0, z1, z2, z3, z4, s.data.toList⟩, ?_, ⟨i0, i1, i2, i3, i4⟩, ?_⟩
  · unfold insV
    rw [← Array.toArray_toList (xs := cs), e]
    try rfl
  · unfold maxLen at i5
    have : s.size = s.data.toList.length := by rw [Array.length_toList]; rfl
    show s.data.toList.length ≤ _
    omega

/-- What the rows list gives. -/
theorem rigTab : Tryd.prog.globalNamed "internal/strconv.uint64pow10" = some 3 := by kernel_rfl
theorem rigTabType : (Tryd.prog.globals[3]?).map (·.type) = some 110 := by kernel_rfl
theorem ricellsTab : Tryd.prog.cellsOf 110 = 20 := by kernel_rfl
theorem ricellsU : Tryd.prog.cellsOf 96 = 1 := by kernel_rfl
theorem trod_isIface {H : Type} {enc : TypeId × Value → H} {P : Program} {w : World} {base : Nat} {sp : Nat → Bool} {held : Bool} {fuel : Nat} {t : TypeId} {ms : Array (String × TypeId)} {cs : List Value} {nm : String} {d : DataW H} {p : List MemPlace} (ht : P.underlying t = some (.interface ms))
    (h : DataW.trod enc P w base sp held fuel t cs = some (.iface nm d, p)) : ∃ u v, cs = [.iface u v] := by
  cases fuel with
  | zero => simp [DataW.trod] at h
  | succ fuel =>
    unfold DataW.trod at h
    rw [ht] at h
    split at h <;> simp_all
theorem err_cell {w : World} {n : String} {g : Nat} {nm : String} {d : DataW Unit} (hg : Tryd.prog.globalNamed n = some g) (hy : (Tryd.prog.globals[g]?).map (·.type) = some 50) (h : Lib.VarReads Tryd.prog w n (.iface nm d)) : ∃ te pe, w.cell? ⟨g, 0, none⟩ = some (.iface te pe) := by
  obtain ⟨g', t, cs, fuel, p, h1, h2, h3, h4⟩ := h
  rw [hg] at h1
  cases h1
  rw [hy] at h2
  cases h2
  obtain ⟨u, v, e⟩ := trod_isIface Tryd.underlying50 h4
  refine ⟨u, v, ?_⟩
  unfold World.var? at h3
  rw [hg] at h3
  simp only [Option.bind_some] at h3
  unfold World.cell?
  cases hh : w.heap[g]? with
  | none => rw [hh] at h3; cases h3
  | some o =>
    rw [hh] at h3
    cases o with
    | cells cs' T fz =>
      simp at h3
      subst h3
      have e2 : cs' = #[.iface u v] := by rw [← Array.toArray_toList (xs := cs'), e]
      simp [e2]
    | _ => cases h3
theorem ilib_of {W : World} (h : laidMetH Tryd.prog Rows.instrTellsRow.laid W) (hsh : W.ShapedOpen Tryd.prog) : ILib W := by
  have h' : laidMet Tryd.prog Rows.instrTellsRow.laid W := h
  refine ⟨?_, ?_, ?_, ?_⟩
  · exact Lib.tabIs_of_head (rest := _) rigTab rigTabType Tryd.underlying110 Tryd.underlying96 ricellsU ricellsTab (laidMet_tail (laidMet_tail h'))
  · exact cell_of_shapedOpen_int (zero := #[.int .i64 0]) (t := 3) hsh (of_decide_eq_true (by kernel_rfl)) (by kernel_rfl) rfl (by kernel_rfl) (by kernel_rfl) Tryd.underlying3
  · exact err_cell (n := "strconv.ErrSyntax") (by kernel_rfl) (by kernel_rfl) (Lib.laidMet.reads h' (n := "strconv.ErrSyntax") (d := Rows.laid_strconv_ErrSyntax) (.tail _ (.tail _ (.tail _ (.tail _ (.head _))))))
  · exact err_cell (n := "strconv.ErrRange") (by kernel_rfl) (by kernel_rfl) (Lib.laidMet.reads h' (n := "strconv.ErrRange") (d := Rows.laid_strconv_ErrRange) (.tail _ (.tail _ (.tail _ (.head _)))))
theorem rilaidOut : laidOutB Tryd.prog = true := by kernel_rfl
/-- An argument reads as it did. -/
theorem riagain {H : Type} {enc : TypeId × Value → H} {t : TypeId} (hr : Tryd.prog.readableRec t = true) (hrow : t < Tryd.prog.types.size) {W W' : World} {x : Value} {d : DataW H} {p : List MemPlace} (h : DataW.Trod enc Tryd.prog W 0 (fun _ => true) true t x d p) (hb : Below W.heap.size W W') (sp : Nat → Bool) (hsp : ∀ q, q ∈ p → sp q.block = true) : DataW.Trod enc Tryd.prog W' 0 sp true t x d p := by
  obtain ⟨fuel, hf⟩ := h
  have hlt := DataW.trod_lt _ _ _ _ hf
  exact WideElems.Trod_stays rilaidOut hr hrow ⟨fuel, hf⟩ (fun q hq => hb.same (hlt q hq)) hsp
end Go.Proofs.YtgdnnaiidmfncaaDoor
