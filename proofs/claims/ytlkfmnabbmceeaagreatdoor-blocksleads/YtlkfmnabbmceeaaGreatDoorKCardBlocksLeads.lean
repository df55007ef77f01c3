/-
  BlocksLeads: for every input the law returns true, and its arguments read afterwards as before: the row, the card. Condition: the tables that the row lists are laid as the program's text lays them.
-/
import Derived.Test.YtlkfmnabbmceeaaGreatDoorCards
import Derived.Test.YtlkfmnabbmceeaaGreatDoorTie
import Derived.Test.YtlkfmnabbmceeaaGreatDoorTreeWr
import Derived.Test.YtlkfmnabbmceeaaGreatDoorBlkOp
import Derived.Test.YtlkfmnabbmceeaaGreatDoorBlkLe
set_option linter.unusedVariables false
set_option linter.unusedSimpArgs false
namespace Go.Proofs.YtlkfmnabbmceeaaGreatDoor.wBlocksLeads
open Go.ChangeShapes Go.WideShapes Go.ChangeAt Go.RowKit
set_option maxRecDepth 100000

theorem own : ownKnob Tryz.prog.godebug = none := by kernel_rfl
theorem contract (H : Type) (enc : TypeId × Value → H) (W : World) (base : Nat) (args : Array Value) (ds gs : List (DataW H)) (before : List MemPlace)
    (hval : ∀ (j : Nat) t v, Tryz.f4.params[j]? = some t → args[j]? = some v → Value.okWide Tryz.prog W .any base t v)
    (hW : DataW.Whole enc Tryz.prog Tryz.f4.params.toList Rows.blocksLeadsSpec.vars false W args.toList ds gs before) (hsz : (DataW.weightsEach Tryz.prog (Tryz.f4.params.toList ++ (OpenSpec.ofChange Rows.blocksLeadsSpec).bare.plain.varTypes Tryz.prog) (ds ++ gs)).all (· ≤ reachBytes) = true) (hL : laidMetH Tryz.prog Rows.blocksLeadsRow.laid W) (hsh : W.ShapedOpen Tryz.prog) :
    Calls Tryz.prog 4 args W fun e W' => ∃ v, e = .returned v ∧ Rows.blocksLeadsSpec.post enc Tryz.prog Tryz.f4 false true false false W args v W' := by
  have hT := ilib_of hL hsh
  have hW' := hW
  obtain ⟨p, q, hA0, hV, rfl, hfz, hnd⟩ := hW
  have hA : DataW.TrodAll enc Tryz.prog W 0 (fun _ => true) true Tryz.f4.params.toList args.toList ds p := hA0
  rw [Tryz.params4] at hA hval hsz
  obtain ⟨x0, vs0, d0, ds0, p0, q0, hargs, rfl, rfl, h0, r0⟩ := trodAll_cons hA
  obtain ⟨rfl, rfl, rfl⟩ := trodAll_nil r0
  obtain rfl : args = #[x0] := by cases args; simp_all
  obtain ⟨rfl, rfl⟩ := trodVars_none hV
  obtain ⟨raw0, hraw0⟩ := open_lns (hval 0 22 x0 rfl rfl) h0 (fun a b hd => sized_slice hsz (j := 0) (t := 22) rfl (by rw [hd]; rfl) Tryz.underlying22)
  clear hA0
  refine (bleads_any raw0 x0 W hraw0 hT).mono fun e W' ⟨he, hb⟩ => ?_
  subst he
  exact ⟨_, rfl, post_below (pa := (p0 ++ [])) (pv := []) hW' (fun _ _ _ => trodAll_cons_mk (shut_bool Tryz.underlying4 _) trodAll_mk0) (fun sp hsp => trodAll_cons_mk (riagain (by kernel_rfl) (of_decide_eq_true (by kernel_rfl)) h0 hb sp (fun q hq => hsp q (by simp [hq]))) (trodAll_mk0)) (fun _ _ => rfl) rfl
    hb (ok_one (by kernel_rfl) rfl (okWide_bool_mk Tryz.underlying4 _))⟩

/-- The cells of a table. -/
def tab1 : DataW Unit → List Value
  | .lit (.int k n) => [.int k n]
  | .agg l => l.map fun | .lit (.int k n) => Value.int k n | _ => undef
  | _ => [undef]
def tabCells : DataW Unit → Array Value
  | .agg l => (l.flatMap tab1).toArray
  | _ => #[]
def errText : DataW Unit → Value
  | .iface _ (.ptr (.agg [.lit (.string b)])) => .string ⟨b.toArray⟩
  | _ => undef
noncomputable def lowB : Nat := (World.holding Tryz.prog default ⟨#[], #[], []⟩).heap.size
/-- A world for the witness: the settled one, the tables holding what their initialisers lay. -/
noncomputable def laidWorld (os : Os) : World :=
  let h0 := (World.holding Tryz.prog os ⟨#[.cells #[errText Rows.laid_strconv_ErrRange] 191, .cells #[errText Rows.laid_strconv_ErrSyntax] 191], #[], []⟩).heap
  let lay (g : Nat) (d : DataW Unit) (h : Array Obj) : Array Obj := h.modify g fun
    | .cells _ t frozen => .cells (tabCells d) t frozen
    | o => o
  let err (g : Nat) (b : Nat) (h : Array Obj) : Array Obj := h.modify g fun
    | .cells _ t frozen => .cells #[.iface 189 (.pointer (some ⟨b, 0, none⟩))] t frozen
    | o => o
  { World.holding Tryz.prog os ⟨#[.cells #[errText Rows.laid_strconv_ErrRange] 191, .cells #[errText Rows.laid_strconv_ErrSyntax] 191], #[], []⟩ with heap := lay 6 Rows.laid_math_bits_deBruijn32tab (lay 7 Rows.laid_math_bits_deBruijn64tab (lay 5 Rows.laid_internal_strconv_uint64pow10 (lay 2 Rows.laid_unicode_utf8_acceptRanges (lay 1 Rows.laid_unicode_utf8_first (err 4 lowB (err 3 (lowB + 1) h0)))))) }
theorem laid_met (os : Os) : laidMet Tryz.prog Rows.blocksLeadsRow.laid ((laidWorld os).forCall (fun _ _ => 0) ⟨#[], #[.slice none 0 0], []⟩).memory :=
  laidMet_of_run' 8 (by kernel_rfl) (by kernel_rfl)
theorem reads (os : Os) {H : Type} (enc : TypeId × Value → H) : ∃ places, DataW.whole enc Tryz.prog ((laidWorld os).forCall (fun _ _ => 0) ⟨#[], #[.slice none 0 0], []⟩).memory Tryz.f4.params.toList Rows.blocksLeadsSpec.vars false ((#[.slice none 0 0] : Array Value).toList) 8 = some ([.nil], [], places) :=
  ⟨[], by kernel_rfl⟩

theorem lifted (os : Os) (started : os.Started) (H : Type) (enc : TypeId × Value → H) (F : Stop.Interp) :
    ReturnsInHanded {} Tryz.checked os 4 .any ((OpenSpec.ofChange Rows.blocksLeadsSpec).preRow enc Tryz.prog Tryz.f4 Rows.blocksLeadsRow.domain false Rows.blocksLeadsRow.laid) (((OpenSpec.ofChange Rows.blocksLeadsSpec).at F).post enc Tryz.prog Tryz.f4 false true false false) := by
  obtain ⟨places, hx⟩ := reads os enc
  refine returnsInHanded_of_row (C := Tryz.checked) (s := OpenSpec.ofChange Rows.blocksLeadsSpec) own started (by kernel_rfl) Tryz.func4
    (witness_row_at (enc := enc) (C := Tryz.checked) false (laidWorld os) #[.slice none 0 0] rfl (by kernel_rfl) (by kernel_rfl) (by kernel_rfl)
      (OpenSpec.preRow_of_cond 8 hx (by kernel_rfl) (fun k hk => by cases hk) (by kernel_rfl) (laid_met os))) ?_
  intro W base args ds gs before hval hW _ _ hsz hL hsh _
  exact contract H enc W base args ds gs before hval hW hsz hL hsh

theorem said : Rows.BlocksLeadsSaid :=
  OpenClaim.holds_of_cond 4 Tryz.f4 rfl rfl rfl rfl rfl rfl rfl ⟨rfl, rfl, rfl, rfl, rfl⟩ rfl rfl rfl rfl rfl (by kernel_rfl) Tryz.func4 (by kernel_rfl)
    (of_decide_eq_true (by kernel_rfl)) (by unfold Func.isWrapper; first | (rw [if_pos (by decide +kernel)]; kernel_rfl) | (rw [if_neg (by decide +kernel)]; exact ⟨rfl, rfl⟩))
    (fun os started H enc _ F => by rw [OpenClaim.pre_eq_preRow]; exact lifted os started H enc F)

theorem plain (f : FuncId) (fn : Func) (hf : Tryz.pinned.checked.prog.funcNamed "counterproof/counterprooflaw19.BlocksLeads" = some f) (hfn : Tryz.pinned.checked.prog.funcs[f]? = some fn) :
    true = Tryz.pinned.checked.prog.looks [] ∧ ∀ (j : Nat) t, fn.params[j]? = some t → Tryz.pinned.checked.prog.wantsStandIn t = false := by
  obtain rfl : f = 4 := Option.some.inj ((show Tryz.prog.funcNamed "counterproof/counterprooflaw19.BlocksLeads" = some 4 by kernel_rfl).symm.trans hf) |>.symm
  obtain rfl : fn = Tryz.f4 := (Option.some.inj (Tryz.func4.symm.trans hfn)).symm
  refine ⟨by kernel_rfl, fun j t ht => ?_⟩
  rw [Tryz.params4] at ht
  have hm := Array.mem_of_getElem? ht
  simp only [List.mem_toArray, List.mem_cons, List.not_mem_nil, or_false] at hm
  subst hm
  exact (show Tryz.prog.wantsStandIn 22 = false by kernel_rfl)
end Go.Proofs.YtlkfmnabbmceeaaGreatDoor.wBlocksLeads
namespace Go.Proofs.YtlkfmnabbmceeaaGreatDoor
/-- The card. -/
theorem blocksLeads_card : Rows.BlocksLeadsCardSaid :=
  Claim7.holds_tied_plain_at .later [] _ _ _ _ wBlocksLeads.said (fun _ h => by cases h) (by kernel_rfl) (fun _ h => by cases h) blocksLeads_row_tie rfl ⟨rfl, rfl⟩ (by kernel_rfl) rfl wBlocksLeads.plain (by kernel_rfl)
#print axioms blocksLeads_card
end Go.Proofs.YtlkfmnabbmceeaaGreatDoor
