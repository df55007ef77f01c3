/-
  InstrTells: for every input the law returns true, and its arguments read afterwards as before: the row, the card. Condition: the tables that the row lists are laid as the program's text lays them.
-/
import Derived.Test.YtgdnnaiidmfncaaDoorCards
import Derived.Test.YtgdnnaiidmfncaaDoorTie
import Derived.Test.YtgdnnaiidmfncaaDoorTreeWr
import Derived.Test.YtgdnnaiidmfncaaDoorInstrOT
import Derived.Test.YtgdnnaiidmfncaaDoorInstrTl
set_option linter.unusedVariables false
set_option linter.unusedSimpArgs false
namespace Go.Proofs.YtgdnnaiidmfncaaDoor.wInstrTells
open Go.ChangeShapes Go.WideShapes Go.ChangeAt Go.RowKit
set_option maxRecDepth 100000

theorem own : ownKnob Tryd.prog.godebug = none := by kernel_rfl
theorem contract (H : Type) (enc : TypeId × Value → H) (W : World) (base : Nat) (args : Array Value) (ds gs : List (DataW H)) (before : List MemPlace)
    (hval : ∀ (j : Nat) t v, Tryd.f3.params[j]? = some t → args[j]? = some v → Value.okWide Tryd.prog W .any base t v)
    (hW : DataW.Whole enc Tryd.prog Tryd.f3.params.toList Rows.instrTellsSpec.vars false W args.toList ds gs before) (hsz : (DataW.weightsEach Tryd.prog (Tryd.f3.params.toList ++ (OpenSpec.ofChange Rows.instrTellsSpec).bare.plain.varTypes Tryd.prog) (ds ++ gs)).all (· ≤ reachBytes) = true) (hL : laidMetH Tryd.prog Rows.instrTellsRow.laid W) (hsh : W.ShapedOpen Tryd.prog) :
    Calls Tryd.prog 3 args W fun e W' => ∃ v, e = .returned v ∧ Rows.instrTellsSpec.post enc Tryd.prog Tryd.f3 false true false false W args v W' := by
  have hT := ilib_of hL hsh
  have hW' := hW
  obtain ⟨p, q, hA0, hV, rfl, hfz, hnd⟩ := hW
  have hA : DataW.TrodAll enc Tryd.prog W 0 (fun _ => true) true Tryd.f3.params.toList args.toList ds p := hA0
  rw [Tryd.params3] at hA hval hsz
  obtain ⟨x0, vs0, d0, ds0, p0, q0, hargs, rfl, rfl, h0, r0⟩ := trodAll_cons hA
  obtain ⟨x1, vs1, d1, ds1, p1, q1, e1, rfl, rfl, h1, r1⟩ := trodAll_cons r0
  obtain ⟨x2, vs2, d2, ds2, p2, q2, e2, rfl, rfl, h2, r2⟩ := trodAll_cons r1
  obtain ⟨x3, vs3, d3, ds3, p3, q3, e3, rfl, rfl, h3, r3⟩ := trodAll_cons r2
  obtain ⟨rfl, rfl, rfl⟩ := trodAll_nil r3
  subst e1
  subst e2
  subst e3
  obtain rfl : args = #[x0, x1, x2, x3] := by cases args; simp_all
  obtain ⟨rfl, rfl⟩ := trodVars_none hV
  obtain ⟨raw0, hx0, hraw0, hnm0⟩ := open_rawI (hval 0 23 x0 rfl rfl) h0
  obtain ⟨raw1, hx1, hraw1⟩ := open_rawstr (hval 1 9 x1 rfl rfl) h1
  obtain ⟨raw2, hx2, hraw2⟩ := open_rawint (hval 2 3 x2 rfl rfl) h2
  obtain ⟨raw3, hx3, hraw3⟩ := open_rawstr (hval 3 9 x3 rfl rfl) h3
  subst hx0
  subst hx1
  subst hraw1
  have hsl1 : raw1.length ≤ 140737488355328 := Nat.le_trans (sized_string hsz (j := 1) (t := 9) rfl rfl) (by decide)
  subst hx2
  subst hx3
  subst hraw3
  have hsl3 : raw3.length ≤ 140737488355328 := Nat.le_trans (sized_string hsz (j := 3) (t := 9) rfl rfl) (by decide)
  clear hA0
  refine (itells_any raw0 raw1 raw2 raw3 hraw0 hnm0 hraw2 hsl1 hsl3 W hT).mono fun e W' ⟨he, hb⟩ => ?_
  subst he
  exact ⟨_, rfl, post_below (pa := (p0 ++ (p1 ++ (p2 ++ (p3 ++ []))))) (pv := []) hW' (fun _ _ _ => trodAll_cons_mk (shut_bool Tryd.underlying4 _) trodAll_mk0) (fun sp hsp => trodAll_cons_mk (riagain (by kernel_rfl) (of_decide_eq_true (by kernel_rfl)) h0 hb sp (fun q hq => hsp q (by simp [hq]))) (trodAll_cons_mk (riagain (by kernel_rfl) (of_decide_eq_true (by kernel_rfl)) h1 hb sp (fun q hq => hsp q (by simp [hq]))) (trodAll_cons_mk (riagain (by kernel_rfl) (of_decide_eq_true (by kernel_rfl)) h2 hb sp (fun q hq => hsp q (by simp [hq]))) (trodAll_cons_mk (riagain (by kernel_rfl) (of_decide_eq_true (by kernel_rfl)) h3 hb sp (fun q hq => hsp q (by simp [hq]))) (trodAll_mk0))))) (fun _ _ => rfl) rfl
    hb (ok_one (by kernel_rfl) rfl (okWide_bool_mk Tryd.underlying4 _))⟩

/-- The cells of a table. -/
def tab1 : DataW Unit → List Value
  | .lit (.int k n) => [.int k n]
  | .agg l => l.map fun | .lit (.int k n) => Value.int k n | _ => undef
  | _ => [undef]
def tabCells : DataW Unit → Array Value
  | .agg l => (l.flatMap tab1).toArray
  | _ => #[]
def errText : DataW Unit → Value
  | .iface _ (.ptr (.agg [.lit (.string b)])) => .string ⟨b.toArray⟩
  | _ => undef
noncomputable def lowB : Nat := (World.holding Tryd.prog default ⟨#[], #[], []⟩).heap.size
/-- A world for the witness: the settled one, the tables holding what their initialisers lay. -/
noncomputable def laidWorld (os : Os) : World :=
  let h0 := (World.holding Tryd.prog os ⟨#[.cells #[errText Rows.laid_strconv_ErrRange] 118, .cells #[errText Rows.laid_strconv_ErrSyntax] 118], #[], []⟩).heap
  let lay (g : Nat) (d : DataW Unit) (h : Array Obj) : Array Obj := h.modify g fun
    | .cells _ t frozen => .cells (tabCells d) t frozen
    | o => o
  let err (g : Nat) (b : Nat) (h : Array Obj) : Array Obj := h.modify g fun
    | .cells _ t frozen => .cells #[.iface 116 (.pointer (some ⟨b, 0, none⟩))] t frozen
    | o => o
  { World.holding Tryd.prog os ⟨#[.cells #[errText Rows.laid_strconv_ErrRange] 118, .cells #[errText Rows.laid_strconv_ErrSyntax] 118], #[], []⟩ with heap := lay 4 Rows.laid_math_bits_deBruijn32tab (lay 5 Rows.laid_math_bits_deBruijn64tab (lay 3 Rows.laid_internal_strconv_uint64pow10 (err 2 lowB (err 1 (lowB + 1) h0)))) }
theorem laid_met (os : Os) : laidMet Tryd.prog Rows.instrTellsRow.laid ((laidWorld os).forCall (fun _ _ => 0) ⟨#[], #[.agg #[.int .i64 0, .int .i64 0, .int .i64 0, .int .i64 0, .int .i64 0, .string ⟨#[]⟩], .string ⟨#[]⟩, .int .i64 0, .string ⟨#[]⟩], []⟩).memory :=
  laidMet_of_run' 8 (by kernel_rfl) (by kernel_rfl)
theorem reads (os : Os) {H : Type} (enc : TypeId × Value → H) : ∃ places, DataW.whole enc Tryd.prog ((laidWorld os).forCall (fun _ _ => 0) ⟨#[], #[.agg #[.int .i64 0, .int .i64 0, .int .i64 0, .int .i64 0, .int .i64 0, .string ⟨#[]⟩], .string ⟨#[]⟩, .int .i64 0, .string ⟨#[]⟩], []⟩).memory Tryd.f3.params.toList Rows.instrTellsSpec.vars false ((#[.agg #[.int .i64 0, .int .i64 0, .int .i64 0, .int .i64 0, .int .i64 0, .string ⟨#[]⟩], .string ⟨#[]⟩, .int .i64 0, .string ⟨#[]⟩] : Array Value).toList) 8 = some ([.agg [.lit (.int .i64 0), .lit (.int .i64 0), .lit (.int .i64 0), .lit (.int .i64 0), .lit (.int .i64 0), .lit (.string [])], .lit (.string []), .lit (.int .i64 0), .lit (.string [])], [], places) :=
  ⟨[], by kernel_rfl⟩

theorem lifted (os : Os) (started : os.Started) (H : Type) (enc : TypeId × Value → H) (F : Stop.Interp) :
    ReturnsInHanded {} Tryd.checked os 3 .any ((OpenSpec.ofChange Rows.instrTellsSpec).preRow enc Tryd.prog Tryd.f3 Rows.instrTellsRow.domain false Rows.instrTellsRow.laid) (((OpenSpec.ofChange Rows.instrTellsSpec).at F).post enc Tryd.prog Tryd.f3 false true false false) := by
  obtain ⟨places, hx⟩ := reads os enc
  refine returnsInHanded_of_row (C := Tryd.checked) (s := OpenSpec.ofChange Rows.instrTellsSpec) own started (by kernel_rfl) Tryd.func3
    (witness_row_at (enc := enc) (C := Tryd.checked) false (laidWorld os) #[.agg #[.int .i64 0, .int .i64 0, .int .i64 0, .int .i64 0, .int .i64 0, .string ⟨#[]⟩], .string ⟨#[]⟩, .int .i64 0, .string ⟨#[]⟩] rfl (by kernel_rfl) (by kernel_rfl) (by kernel_rfl)
      (OpenSpec.preRow_of_cond 8 hx (by kernel_rfl) (fun k hk => by cases hk) (by kernel_rfl) (laid_met os))) ?_
  intro W base args ds gs before hval hW _ _ hsz hL hsh _
  exact contract H enc W base args ds gs before hval hW hsz hL hsh

theorem said : Rows.InstrTellsSaid :=
  OpenClaim.holds_of_cond 3 Tryd.f3 rfl rfl rfl rfl rfl rfl rfl ⟨rfl, rfl, rfl, rfl, rfl⟩ rfl rfl rfl rfl rfl (by kernel_rfl) Tryd.func3 (by kernel_rfl)
    (of_decide_eq_true (by kernel_rfl)) (by unfold Func.isWrapper; first | (rw [if_pos (by decide +kernel)]; kernel_rfl) | (rw [if_neg (by decide +kernel)]; exact ⟨rfl, rfl⟩))
    (fun os started H enc _ F => by rw [OpenClaim.pre_eq_preRow]; exact lifted os started H enc F)

theorem plain (f : FuncId) (fn : Func) (hf : Tryd.pinned.checked.prog.funcNamed "counterproof/counterprooflaw07.InstrTells" = some f) (hfn : Tryd.pinned.checked.prog.funcs[f]? = some fn) :
    true = Tryd.pinned.checked.prog.looks [] ∧ ∀ (j : Nat) t, fn.params[j]? = some t → Tryd.pinned.checked.prog.wantsStandIn t = false := by
  obtain rfl : f = 3 := Option.some.inj ((show Tryd.prog.funcNamed "counterproof/counterprooflaw07.InstrTells" = some 3 by kernel_rfl).symm.trans hf) |>.symm
  obtain rfl : fn = Tryd.f3 := (Option.some.inj (Tryd.func3.symm.trans hfn)).symm
  refine ⟨by kernel_rfl, fun j t ht => ?_⟩
  rw [Tryd.params3] at ht
  have hm := Array.mem_of_getElem? ht
  simp only [List.mem_toArray, List.mem_cons, List.not_mem_nil, or_false] at hm
  rcases hm with rfl | rfl | rfl | rfl
  · exact (show Tryd.prog.wantsStandIn 23 = false by kernel_rfl)
  · exact (show Tryd.prog.wantsStandIn 9 = false by kernel_rfl)
  · exact (show Tryd.prog.wantsStandIn 3 = false by kernel_rfl)
  · exact (show Tryd.prog.wantsStandIn 9 = false by kernel_rfl)
end Go.Proofs.YtgdnnaiidmfncaaDoor.wInstrTells
namespace Go.Proofs.YtgdnnaiidmfncaaDoor
/-- The card. -/
theorem instrTells_card : Rows.InstrTellsCardSaid :=
  Claim7.holds_tied_plain_at .later [] _ _ _ _ wInstrTells.said (fun _ h => by cases h) (by kernel_rfl) (fun _ h => by cases h) instrTells_row_tie rfl ⟨rfl, rfl⟩ (by kernel_rfl) rfl wInstrTells.plain (by kernel_rfl)
#print axioms instrTells_card
end Go.Proofs.YtgdnnaiidmfncaaDoor
