/-
  What comes in: raw lines, numbers; the library's variables. Condition: the variables that a row lists are laid as the program's text lays them.
-/
import Derived.Test.YtlkfmnabbmceeaaGreatDoorAsmK
import Derived.Deep.Slices
import Derived.Test.YtlkfmnabbmceeaaGreatDoorTreeWr
import Derived.ChangeSlices
import Derived.WideKeyArgs
import Derived.Lib.LaidU8T
import Derived.PinnedBridge
import Derived.Shelf.Vars
import Derived.SizedLaws
set_option linter.unusedVariables false
set_option linter.unusedSimpArgs false
namespace Go.Proofs.YtlkfmnabbmceeaaGreatDoor
open Go.ChangeShapes Go.WideShapes Go.ChangeAt Go.RowKit
set_option maxHeartbeats 4000000
set_option maxRecDepth 100000

theorem ri64 {n : Int} (h : (Lit.int .i64 n).wf = true) : I64 n := by
  simp only [Lit.wf, Bool.and_eq_true, decide_eq_true_eq] at h
  exact h
theorem ricellsInt : Tryz.prog.cellsOf 3 = 1 := by kernel_rfl
theorem ricellsStr : Tryz.prog.cellsOf 9 = 1 := by kernel_rfl
theorem ricellsIns : Tryz.prog.cellsOf 36 = 6 := by kernel_rfl
theorem open_rawint {H : Type} {enc : TypeId × Value → H} {W : World} {base : Nat} {x : Value} {d : DataW H} {p : List MemPlace} (hv : Value.okWide Tryz.prog W .any base 3 x) (h : DataW.Trod enc Tryz.prog W 0 (fun _ => true) true 3 x d p) : ∃ n, x = .int .i64 n ∧ I64 n := by
  obtain ⟨n, rfl⟩ := okWide_int Tryz.underlying3 hv
  obtain ⟨fuel, hf⟩ := h
  obtain ⟨m, e, _, hw⟩ := DataW.trod_int Tryz.underlying3 hf
  simp [Value.cells] at e
  subst e
  exact ⟨_, rfl, ri64 hw⟩
theorem open_rawstr {H : Type} {enc : TypeId × Value → H} {W : World} {base : Nat} {x : Value} {d : DataW H} {p : List MemPlace} (hv : Value.okWide Tryz.prog W .any base 9 x) (h : DataW.Trod enc Tryz.prog W 0 (fun _ => true) true 9 x d p) : ∃ l : Bs, x = .string (strOf l) ∧ d = .lit (.string l) := by
  obtain ⟨s, rfl⟩ := okWide_string Tryz.underlying9 hv
  obtain ⟨fuel, hf⟩ := h
  obtain ⟨m, e, hd, hw⟩ := DataW.trod_string Tryz.underlying9 hf
  simp [Value.cells] at e
  subst e
  exact ⟨s.data.toList, rfl, congrArg Prod.fst hd⟩
theorem riField (i : Nat) (hi : i < 6) : ∃ fs : Array Field, Tryz.prog.underlying 36 = some (.struct fs) ∧ ∃ f, fs[i]? = some f ∧ f.offset = i ∧ f.type = (if i = 5 then 9 else 3) := by
  refine ⟨_, Tryz.underlying36, ?_⟩
  have : i = 0 ∨ i = 1 ∨ i = 2 ∨ i = 3 ∨ i = 4 ∨ i = 5 := by omega
  rcases this with rfl | rfl | rfl | rfl | rfl | rfl <;> exact ⟨_, rfl, rfl, rfl⟩
theorem ins_cells {H : Type} {enc : TypeId × Value → H} {W : World} {cs : List Value} {fuel : Nat} {y : DataW H × List MemPlace} (hf : DataW.trod enc Tryz.prog W 0 (fun _ => true) true fuel 36 cs = some y) : ∃ X : Ins, RawI X ∧ X.name.length ≤ 9223372036854775807 ∧ ∀ (q : Nat) (u : Value), (insCells X)[q]? = some u → cs[q]? = some u := by
  obtain ⟨xs, n, rfl, hx, hl, hxl, hi⟩ := DataW.trod_struct Tryz.underlying36 hf
  have hx6 : xs.length = 6 := hxl
  have hci : ∀ i, i < 5 → ∃ z, cs[i]? = some (.int .i64 z) ∧ I64 z := by
    intro i hi5
    have : i = 0 ∨ i = 1 ∨ i = 2 ∨ i = 3 ∨ i = 4 := by omega
    have key : ∀ f : Field, f.offset = i → f.type = 3 → DataW.trod enc Tryz.prog W 0 (fun _ => true) true n f.type ((cs.drop f.offset).take (Tryz.prog.cellsOf f.type)) = xs[i]? → ∃ z, cs[i]? = some (.int .i64 z) ∧ I64 z := by
      intro f h1 h2 h3
      rw [h1, h2, ricellsInt, List.getElem?_eq_getElem (show i < xs.length by omega)] at h3
      obtain ⟨z, e, _, hw⟩ := DataW.trod_int Tryz.underlying3 h3
      refine ⟨z, ?_, ri64 hw⟩
      have := congrArg (·[0]?) e
      simpa [List.getElem?_take, List.getElem?_drop] using this
    rcases this with rfl | rfl | rfl | rfl | rfl
    · exact key _ rfl rfl (hi 0 _ rfl)
    · exact key _ rfl rfl (hi 1 _ rfl)
    · exact key _ rfl rfl (hi 2 _ rfl)
    · exact key _ rfl rfl (hi 3 _ rfl)
    · exact key _ rfl rfl (hi 4 _ rfl)
  have hcs5 : ∃ s : ByteArray, cs[5]? = some (.string s) ∧ s.size ≤ maxLen := by
    have key : ∀ f : Field, f.offset = 5 → f.type = 9 → DataW.trod enc Tryz.prog W 0 (fun _ => true) true n f.type ((cs.drop f.offset).take (Tryz.prog.cellsOf f.type)) = xs[5]? → ∃ s : ByteArray, cs[5]? = some (.string s) ∧ s.size ≤ maxLen := by
      intro f h1 h2 h3
      rw [h1, h2, ricellsStr, List.getElem?_eq_getElem (show 5 < xs.length by omega)] at h3
      obtain ⟨s, e, _, hw⟩ := DataW.trod_string Tryz.underlying9 h3
      refine ⟨s, ?_, hw⟩
      have := congrArg (·[0]?) e
      simpa [List.getElem?_take, List.getElem?_drop] using this
    exact key _ rfl rfl (hi 5 _ rfl)
  obtain ⟨z0, e0, i0⟩ := hci 0 (by decide)
  obtain ⟨z1, e1, i1⟩ := hci 1 (by decide)
  obtain ⟨z2, e2, i2⟩ := hci 2 (by decide)
  obtain ⟨z3, e3, i3⟩ := hci 3 (by decide)
  obtain ⟨z4, e4, i4⟩ := hci 4 (by decide)
  obtain ⟨s, e5, i5⟩ := hcs5
  refine ⟨⟨z0, z1, z2, z3, z4, s.data.toList⟩, ⟨i0, i1, i2, i3, i4⟩, ?_, ?_⟩
  · unfold maxLen at i5
    have : s.size = s.data.toList.length := by rw [Array.length_toList]; rfl
    show s.data.toList.length ≤ _
    omega
  · intro q u hu
    have hq : q < 6 := by have := (List.getElem?_eq_some_iff.1 hu).1; rwa [insCells_len] at this
    have h6 : q = 0 ∨ q = 1 ∨ q = 2 ∨ q = 3 ∨ q = 4 ∨ q = 5 := by omega
    rcases h6 with rfl | rfl | rfl | rfl | rfl | rfl
    · rw [e0]; exact hu
    · rw [e1]; exact hu
    · rw [e2]; exact hu
    · rw [e3]; exact hu
    · rw [e4]; exact hu
    · rw [e5]; exact hu
theorem ricellsLn : Tryz.prog.cellsOf 48 = 7 := by kernel_rfl
theorem ribytesLn : Tryz.prog.bytesOf 48 = 72 := by kernel_rfl
theorem ribytesInt : Tryz.prog.bytesOf 3 = 8 := by kernel_rfl
theorem ln_cells {H : Type} {enc : TypeId × Value → H} {W : World} {cs : List Value} {fuel : Nat} {y : DataW H × List MemPlace} (hf : DataW.trod enc Tryz.prog W 0 (fun _ => true) true fuel 48 cs = some y) : ∃ X : Ln, RawI X.ins ∧ LimL X ∧ ∀ (q : Nat) (u : Value), (lnCells X)[q]? = some u → cs[q]? = some u := by
  obtain ⟨xs, n, rfl, hx, hl, hxl, hi⟩ := DataW.trod_struct Tryz.underlying48 hf
  have hx2 : xs.length = 2 := hxl
  have k0 : ∀ f : Field, f.offset = 0 → f.type = 9 → DataW.trod enc Tryz.prog W 0 (fun _ => true) true n f.type ((cs.drop f.offset).take (Tryz.prog.cellsOf f.type)) = xs[0]? → ∃ s : ByteArray, cs[0]? = some (.string s) ∧ s.size ≤ maxLen := by
    intro f h1 h2 h3
    rw [h1, h2, ricellsStr, List.getElem?_eq_getElem (show 0 < xs.length by omega)] at h3
    obtain ⟨s, e, _, hw⟩ := DataW.trod_string Tryz.underlying9 h3
    refine ⟨s, ?_, hw⟩
    have := congrArg (·[0]?) e
    simpa [List.getElem?_take, List.getElem?_drop] using this
  have k1 : ∀ f : Field, f.offset = 1 → f.type = 36 → DataW.trod enc Tryz.prog W 0 (fun _ => true) true n f.type ((cs.drop f.offset).take (Tryz.prog.cellsOf f.type)) = xs[1]? → ∃ X : Ins, RawI X ∧ X.name.length ≤ 9223372036854775807 ∧ ∀ (q : Nat) (u : Value), (insCells X)[q]? = some u → cs[1 + q]? = some u := by
    intro f h1 h2 h3
    rw [h1, h2, ricellsIns, List.getElem?_eq_getElem (show 1 < xs.length by omega)] at h3
    obtain ⟨X, r, l, c⟩ := ins_cells h3
    refine ⟨X, r, l, fun q u hu => ?_⟩
    have hq : q < 6 := by have := (List.getElem?_eq_some_iff.1 hu).1; rwa [insCells_len] at this
    have := c q u hu
    rw [List.getElem?_take, if_pos hq, List.getElem?_drop] at this
    exact this
  obtain ⟨s, e0, i0⟩ := k0 _ rfl rfl (hi 0 _ rfl)
  obtain ⟨X, r, l, c⟩ := k1 _ rfl rfl (hi 1 _ rfl)
  refine ⟨⟨s.data.toList, X⟩, r, ⟨?_, l⟩, ?_⟩
  · unfold maxLen at i0
    have : s.size = s.data.toList.length := by rw [Array.length_toList]; rfl
    show s.data.toList.length ≤ _
    omega
  · intro q u hu
    cases q with
    | zero => rw [e0]; exact hu
    | succ q => rw [Nat.add_comm q 1]; exact c q u hu
theorem open_lns {H : Type} {enc : TypeId × Value → H} {W : World} {base : Nat} {x : Value} {d : DataW H} {p : List MemPlace} (hv : Value.okWide Tryz.prog W .any base 22 x) (h : DataW.Trod enc Tryz.prog W 0 (fun _ => true) true 22 x d p)
    (hsz : ∀ a b, d = .slice a b → (a.length + b.length) * Tryz.prog.bytesOf 48 ≤ reachBytes) : ∃ raw, RawQ W raw x := by
  obtain ⟨a0, len, cap, rfl⟩ := okWide_slice Tryz.underlying22 hv
  obtain ⟨fuel, hf⟩ := h
  rcases Go.Deep.open_slice Tryz.underlying22 hf with ⟨hcs, hx⟩ | ⟨a, len', cap', m, n, Dd, Pl, hcs, hb, hl, hm, hmm, hx, hi⟩
  · cases hcs
    exact ⟨[], ⟨RwAt.nil _ _ _, fun x h => (by cases h), fun x h => (by cases h)⟩⟩
  · cases hcs
    rw [if_pos rfl] at hmm
    have hlen : len ≤ 140737488355328 := by
      have h1 := hsz _ _ (congrArg Prod.fst hx)
      rw [ribytesLn, List.length_map, List.length_range] at h1
      have := reachBytes_lt
      omega
    rw [hmm] at hi
    clear hmm hx
    rw [ricellsLn] at hi
    rcases Nat.eq_zero_or_pos len with h0 | h0
    · subst h0
      exact ⟨[], ⟨⟨some a, cap, 0, 0, rfl, .inl rfl, Nat.zero_le _, fun i p hi => (by simp at hi)⟩, fun x h => (by cases h), fun x h => (by cases h)⟩⟩
    · have each : ∀ i, i < cap → ∃ X : Ln, RawI X.ins ∧ LimL X ∧ ∀ (q : Nat) (u : Value), (lnCells X)[q]? = some u → W.cell? (a.add (i * 7 + q)) = some u := by
        intro i him
        obtain ⟨cs', hc, ht⟩ := hi i him
        obtain ⟨_, hcl, hat⟩ := World.cells?_some hc
        obtain ⟨X, r, l, c⟩ := ln_cells ht
        refine ⟨X, r, l, fun q u hu => ?_⟩
        have hq : q < 7 := by have := (List.getElem?_eq_some_iff.1 hu).1; rwa [lnCells_len] at this
        have h1 := hat q hq
        rw [Go.Deep.add_add] at h1
        exact h1.trans (c q u hu)
      obtain ⟨X0, _, _, c0⟩ := each 0 (by omega)
      have hpl : ∃ b off, a = ⟨b, off, none⟩ := by
        have h0 := c0 0 _ rfl
        obtain ⟨ab, ao, asp⟩ := a
        have hs : asp = none := by simpa [Addr.add] using World.cell?_spot h0
        exact ⟨ab, ao, by rw [hs]⟩
      obtain ⟨b, off, rfl⟩ := hpl
      have plain : ∀ j, (⟨b, off, none⟩ : Addr).add j = ⟨b, off + j, none⟩ := fun j => by unfold Addr.add; split <;> simp_all
      let f : Nat → Ln := fun i => if hi : i < cap then Classical.choose (each i hi) else ⟨[], zeroI 0⟩
      have hf : ∀ i, i < cap → RawI (f i).ins ∧ LimL (f i) ∧ ∀ (q : Nat) (u : Value), (lnCells (f i))[q]? = some u → W.cell? ⟨b, off + (i * 7 + q), none⟩ = some u := by
        intro i hic
        have e2 : f i = Classical.choose (each i hic) := dif_pos hic
        rw [e2]
        obtain ⟨h1, h2, h3⟩ := Classical.choose_spec (each i hic)
        exact ⟨h1, h2, fun q u hu => by have := h3 q u hu; rwa [plain] at this⟩
      refine ⟨(List.range len).map f, ⟨some ⟨b, off, none⟩, cap, b, off, by simp, .inr rfl, by simpa using hlen, fun i p hi => ?_⟩, fun x hx => ?_, fun x hx => ?_⟩
      · have hil : i < len := by have := (List.getElem?_eq_some_iff.1 hi).1; simpa using this
        rw [List.getElem?_map, List.getElem?_range hil] at hi
        simp at hi
        subst hi
        exact (hf i (by omega)).2.2
      · obtain ⟨i, hi, rfl⟩ := List.mem_map.1 hx
        exact (hf i (by have := List.mem_range.1 hi; omega)).1
      · obtain ⟨i, hi, rfl⟩ := List.mem_map.1 hx
        exact (hf i (by have := List.mem_range.1 hi; omega)).2.1
theorem open_ints {H : Type} {enc : TypeId × Value → H} {W : World} {base : Nat} {x : Value} {d : DataW H} {p : List MemPlace} (hv : Value.okWide Tryz.prog W .any base 29 x) (h : DataW.Trod enc Tryz.prog W 0 (fun _ => true) true 29 x d p)
    (hsz : ∀ a b, d = .slice a b → (a.length + b.length) * Tryz.prog.bytesOf 3 ≤ reachBytes) : ∃ raw, NumsAt W raw x ∧ ∀ n, n ∈ raw → I64 n := by
  obtain ⟨a0, len, cap, rfl⟩ := okWide_slice Tryz.underlying29 hv
  obtain ⟨fuel, hf⟩ := h
  rcases Go.Deep.open_slice Tryz.underlying29 hf with ⟨hcs, hx⟩ | ⟨a, len', cap', m, n, Dd, Pl, hcs, hb, hl, hm, hmm, hx, hi⟩
  · cases hcs
    exact ⟨[], RwAt.nil _ _ _, fun x h => (by cases h)⟩
  · cases hcs
    rw [if_pos rfl] at hmm
    have hlen : len ≤ 140737488355328 := by
      have h1 := hsz _ _ (congrArg Prod.fst hx)
      rw [ribytesInt, List.length_map, List.length_range] at h1
      have := reachBytes_lt
      omega
    rw [hmm] at hi
    clear hmm hx
    rw [ricellsInt] at hi
    rcases Nat.eq_zero_or_pos len with h0 | h0
    · subst h0
      exact ⟨[], ⟨some a, cap, 0, 0, rfl, .inl rfl, Nat.zero_le _, fun i p hi => (by simp at hi)⟩, fun x h => (by cases h)⟩
    · have each : ∀ i, i < cap → ∃ z : Int, W.cell? (a.add i) = some (.int .i64 z) ∧ I64 z := by
        intro i him
        obtain ⟨cs', hc, ht⟩ := hi i him
        obtain ⟨z, e, _, hw⟩ := DataW.trod_int Tryz.underlying3 ht
        obtain ⟨_, hcl, hat⟩ := World.cells?_some hc
        have h0 := hat 0 (by decide)
        rw [Go.Deep.add_add, e, Nat.mul_one, Nat.add_zero] at h0
        exact ⟨z, h0, ri64 hw⟩
      obtain ⟨y0, hy0, _⟩ := each 0 (by omega)
      obtain ⟨b, off, rfl, _⟩ := ints_at (w := W) (a := a) (k := .i64) (zs := [y0]) (fun i hi => by
        have : i = 0 := by simp at hi; omega
        subst this
        simpa using hy0) (by simp)
      have plain : ∀ j, (⟨b, off, none⟩ : Addr).add j = ⟨b, off + j, none⟩ := fun j => by unfold Addr.add; split <;> simp_all
      let f : Nat → Int := fun i => if hi : i < cap then Classical.choose (each i hi) else 0
      have hf : ∀ i, i < cap → W.cell? ⟨b, off + i, none⟩ = some (.int .i64 (f i)) ∧ I64 (f i) := by
        intro i hic
        have e2 : f i = Classical.choose (each i hic) := dif_pos hic
        rw [e2]
        obtain ⟨h1, h2⟩ := Classical.choose_spec (each i hic)
        exact ⟨(congrArg W.cell? (plain i)).symm.trans h1, h2⟩
      refine ⟨(List.range len).map f, ⟨some ⟨b, off, none⟩, cap, b, off, by simp, .inr rfl, by simpa using hlen, fun i p hi q u hu => ?_⟩, fun x hx => ?_⟩
      · have hil : i < len := by have := (List.getElem?_eq_some_iff.1 hi).1; simpa using this
        rw [List.getElem?_map, List.getElem?_range hil] at hi
        simp at hi
        subst hi
        have hq : q = 0 := by have := (List.getElem?_eq_some_iff.1 hu).1; rw [intCells_len] at this; omega
        subst hq
        simp [intCells] at hu
        subst hu
        rw [Nat.mul_one, Nat.add_zero]
        exact (hf i (by omega)).1
      · obtain ⟨i, hi, rfl⟩ := List.mem_map.1 hx
        exact (hf i (by have := List.mem_range.1 hi; omega)).2

/-- What the rows list gives. -/
theorem rigTab : Tryz.prog.globalNamed "internal/strconv.uint64pow10" = some 5 := by kernel_rfl
theorem rigTabType : (Tryz.prog.globals[5]?).map (·.type) = some 193 := by kernel_rfl
theorem ricellsTab : Tryz.prog.cellsOf 193 = 20 := by kernel_rfl
theorem ricellsU : Tryz.prog.cellsOf 103 = 1 := by kernel_rfl
theorem trod_isIface {H : Type} {enc : TypeId × Value → H} {P : Program} {w : World} {base : Nat} {sp : Nat → Bool} {held : Bool} {fuel : Nat} {t : TypeId} {ms : Array (String × TypeId)} {cs : List Value} {nm : String} {d : DataW H} {p : List MemPlace} (ht : P.underlying t = some (.interface ms))
    (h : DataW.trod enc P w base sp held fuel t cs = some (.iface nm d, p)) : ∃ u v, cs = [.iface u v] := by
  cases fuel with
  | zero => simp [DataW.trod] at h
  | succ fuel =>
    unfold DataW.trod at h
    rw [ht] at h
    split at h <;> simp_all
theorem err_cell {w : World} {n : String} {g : Nat} {nm : String} {d : DataW Unit} (hg : Tryz.prog.globalNamed n = some g) (hy : (Tryz.prog.globals[g]?).map (·.type) = some 109) (h : Lib.VarReads Tryz.prog w n (.iface nm d)) : ∃ te pe, w.cell? ⟨g, 0, none⟩ = some (.iface te pe) := by
  obtain ⟨g', t, cs, fuel, p, h1, h2, h3, h4⟩ := h
  rw [hg] at h1
  cases h1
  rw [hy] at h2
  cases h2
  obtain ⟨u, v, e⟩ := trod_isIface Tryz.underlying109 h4
  refine ⟨u, v, ?_⟩
  unfold World.var? at h3
  rw [hg] at h3
  simp only [Option.bind_some] at h3
  unfold World.cell?
  cases hh : w.heap[g]? with
  | none => rw [hh] at h3; cases h3
  | some o =>
    rw [hh] at h3
    cases o with
    | cells cs' T fz =>
      simp at h3
      subst h3
      have e2 : cs' = #[.iface u v] := by rw [← Array.toArray_toList (xs := cs'), e]
      simp [e2]
    | _ => cases h3
theorem ilib_of {W : World} (h : laidMetH Tryz.prog Rows.blocksPartsRow.laid W) (hsh : W.ShapedOpen Tryz.prog) : ILib W := by
  have h' : laidMet Tryz.prog Rows.blocksPartsRow.laid W := h
  refine ⟨?_, ?_, ?_, ?_⟩
  · exact Lib.tabIs_of_head (rest := _) rigTab rigTabType Tryz.underlying193 Tryz.underlying103 ricellsU ricellsTab (laidMet_tail (laidMet_tail h'))
  · exact cell_of_shapedOpen_int (zero := #[.int .i64 0]) (t := 3) hsh (of_decide_eq_true (by kernel_rfl)) (by kernel_rfl) rfl (by kernel_rfl) (by kernel_rfl) Tryz.underlying3
  · exact err_cell (n := "strconv.ErrSyntax") (by kernel_rfl) (by kernel_rfl) (Lib.laidMet.reads h' (n := "strconv.ErrSyntax") (d := Rows.laid_strconv_ErrSyntax) (.tail _ (.tail _ (.tail _ (.tail _ (.tail _ (.head _)))))))
  · exact err_cell (n := "strconv.ErrRange") (by kernel_rfl) (by kernel_rfl) (Lib.laidMet.reads h' (n := "strconv.ErrRange") (d := Rows.laid_strconv_ErrRange) (.tail _ (.tail _ (.tail _ (.tail _ (.head _))))))
theorem rilaidOut : laidOutB Tryz.prog = true := by kernel_rfl
/-- An argument reads as it did. -/
theorem riagain {H : Type} {enc : TypeId × Value → H} {t : TypeId} (hr : Tryz.prog.readableRec t = true) (hrow : t < Tryz.prog.types.size) {W W' : World} {x : Value} {d : DataW H} {p : List MemPlace} (h : DataW.Trod enc Tryz.prog W 0 (fun _ => true) true t x d p) (hb : Below W.heap.size W W') (sp : Nat → Bool) (hsp : ∀ q, q ∈ p → sp q.block = true) : DataW.Trod enc Tryz.prog W' 0 sp true t x d p := by
  obtain ⟨fuel, hf⟩ := h
  have hlt := DataW.trod_lt _ _ _ _ hf
  exact WideElems.Trod_stays rilaidOut hr hrow ⟨fuel, hf⟩ (fun q hq => hb.same (hlt q hq)) hsp
end Go.Proofs.YtlkfmnabbmceeaaGreatDoor
