/-
  Code in memory: rows of arrays, of lines, of instructions, of numbers. No condition.
  A map from texts to numbers, as a plain function. No condition.
  Rows that a call makes by append: instructions, numbers, lines, arrays, texts. No condition.
  A region that draws its order, by an invariant of what is done already; only edges that bind need lead back. No condition.
-/
import Derived.Test.YtlkfmnabbmceeaaGreatDoorAsmA
import Derived.Test.YtlkfmnabbmceeaaGreatDoorInstrB
import Derived.Maps.OwnSet
import Derived.Maps.OwnOps
import Derived.Deep.AppendLies
import Derived.Laws.MakeOwn
set_option linter.unusedVariables false
set_option linter.unusedSimpArgs false
namespace Go.Proofs.YtlkfmnabbmceeaaGreatDoor
open Go.RowKit
set_option maxHeartbeats 4000000
set_option maxRecDepth 100000

/-- A slice that reads as a list: each element k cells. -/
def RwAt {α : Type} (cf : α → List Value) (k : Nat) (w : World) (L : List α) (v : Value) : Prop :=
  ∃ a cap b off, v = .slice a L.length cap ∧ (L.length = 0 ∨ a = some ⟨b, off, none⟩) ∧ L.length ≤ 140737488355328 ∧
    ∀ i p, L[i]? = some p → ∀ q u, (cf p)[q]? = some u → w.cell? ⟨b, off + (i * k + q), none⟩ = some u
theorem RwAt.old {α : Type} {cf : α → List Value} {k : Nat} {w w' : World} {L : List α} {v : Value} (h : RwAt cf k w L v) (hb : Below w.heap.size w w') : RwAt cf k w' L v := by
  obtain ⟨a, cap, b, off, h1, h2, h3, h4⟩ := h
  exact ⟨a, cap, b, off, h1, h2, h3, fun i p hi q u hq => below_keeps hb (h4 i p hi q u hq)⟩
theorem RwAt.shape {α : Type} {cf : α → List Value} {k : Nat} {w : World} {L : List α} {v : Value} (h : RwAt cf k w L v) : ∃ a cap, v = .slice a L.length cap := by
  obtain ⟨a, cap, b, off, h1, _⟩ := h; exact ⟨a, cap, h1⟩
theorem RwAt.len {α : Type} {cf : α → List Value} {k : Nat} {w : World} {L : List α} {v : Value} (h : RwAt cf k w L v) : L.length ≤ 140737488355328 := by
  obtain ⟨a, cap, b, off, _, _, h3, _⟩ := h; exact h3
theorem RwAt.nil {α : Type} (cf : α → List Value) (k : Nat) (w : World) : RwAt cf k w [] (.slice none 0 0) :=
  ⟨none, 0, 0, 0, rfl, .inl rfl, Nat.zero_le _, fun i p hi => (by simp at hi)⟩
/-- What is in a slice of one's own. -/
theorem RwAt.own {α : Type} {cf : α → List Value} {k : Nat} (hf : ∀ x, (cf x).length = k) {w : World} {base : Nat} {e : TypeId} {L : List α} {v : Value} (hl : L.length ≤ 140737488355328) (h : w.ownsRow base e k v L.length (L.flatMap cf)) : RwAt cf k w L v := by
  rcases h.2 with ⟨h1, h2⟩ | ⟨g, cap, cur, h1, _⟩
  · have e : L = [] := List.eq_nil_of_length_eq_zero h2
    subst e; subst h1
    exact RwAt.nil cf k w
  · subst h1
    refine ⟨some ⟨g, 0, none⟩, cap, g, 0, rfl, .inr rfl, hl, fun i p hi q u hq => ?_⟩
    have hqk : q < k := by rw [← hf p]; exact (List.getElem?_eq_some_iff.1 hq).1
    have h2 := h.cells (g := g) rfl (i * k + q) u (by rw [iflat_at cf k hf L i q p hi hqk]; exact hq)
    have h3 : (⟨g, 0, none⟩ : Addr).add (i * k + q) = ⟨g, i * k + q, none⟩ := by unfold Addr.add; split <;> simp_all
    rw [h3] at h2
    rw [Nat.zero_add]; exact h2
theorem RwAt.at {α : Type} {cf : α → List Value} {k : Nat} {w : World} {L : List α} {a : Option Addr} {n cap : Nat} (h : RwAt cf k w L (.slice a n cap)) {i : Nat} {p : α} (hi : L[i]? = some p) : ∃ b off, a = some ⟨b, off, none⟩ ∧ ∀ q u, (cf p)[q]? = some u → w.cell? ⟨b, off + (i * k + q), none⟩ = some u := by
  obtain ⟨a', cap', b, off, h1, h2, h3, h4⟩ := h
  cases h1
  have hil := (List.getElem?_eq_some_iff.1 hi).1
  rcases h2 with h2 | h2
  · omega
  · exact ⟨b, off, h2, h4 i p hi⟩
def arCells (a : Ar) : List Value := [.string (strOf a.name), .int .i64 a.size]
def lnCells (x : Ln) : List Value := .string (strOf x.label) :: insCells x.ins
def lnV (x : Ln) : Value := .agg #[.string (strOf x.label), .int .i64 x.ins.op, .int .i64 x.ins.d, .int .i64 x.ins.a, .int .i64 x.ins.b, .int .i64 x.ins.n, .string (strOf x.ins.name)]
def arV (a : Ar) : Value := .agg #[.string (strOf a.name), .int .i64 a.size]
def intCells (n : Int) : List Value := [.int .i64 n]
def LnsAt (w : World) (L : List Ln) (v : Value) : Prop := RwAt lnCells 7 w L v
def ArwAt (w : World) (L : List Ar) (v : Value) : Prop := RwAt arCells 2 w L v
def InsAt (w : World) (L : List Ins) (v : Value) : Prop := RwAt insCells 6 w L v
def NumsAt (w : World) (L : List Int) (v : Value) : Prop := RwAt intCells 1 w L v
theorem LnsAt.old {w w' : World} {L : List Ln} {v : Value} (h : LnsAt w L v) (hb : Below w.heap.size w w') : LnsAt w' L v := RwAt.old h hb
theorem ArwAt.old {w w' : World} {L : List Ar} {v : Value} (h : ArwAt w L v) (hb : Below w.heap.size w w') : ArwAt w' L v := RwAt.old h hb
theorem InsAt.old {w w' : World} {L : List Ins} {v : Value} (h : InsAt w L v) (hb : Below w.heap.size w w') : InsAt w' L v := RwAt.old h hb
theorem NumsAt.old {w w' : World} {L : List Int} {v : Value} (h : NumsAt w L v) (hb : Below w.heap.size w w') : NumsAt w' L v := RwAt.old h hb
theorem LnsAt.at {w : World} {L : List Ln} {a : Option Addr} {n cap : Nat} (h : LnsAt w L (.slice a n cap)) {i : Nat} (hi : i < L.length) : ∃ b off, a = some ⟨b, off, none⟩ ∧ b < w.heap.size ∧
    w.cell? ⟨b, off + i * 7, none⟩ = some (.string (strOf L[i].label)) ∧ w.cell? ⟨b, off + i * 7 + 1, none⟩ = some (.int .i64 L[i].ins.op) ∧ w.cell? ⟨b, off + i * 7 + 2, none⟩ = some (.int .i64 L[i].ins.d) ∧
    w.cell? ⟨b, off + i * 7 + 3, none⟩ = some (.int .i64 L[i].ins.a) ∧ w.cell? ⟨b, off + i * 7 + 4, none⟩ = some (.int .i64 L[i].ins.b) ∧ w.cell? ⟨b, off + i * 7 + 5, none⟩ = some (.int .i64 L[i].ins.n) ∧
    w.cell? ⟨b, off + i * 7 + 6, none⟩ = some (.string (strOf L[i].ins.name)) := by
  obtain ⟨b, off, e, h⟩ := RwAt.at h (List.getElem?_eq_getElem hi)
  have h0 := h 0 _ rfl
  exact ⟨b, off, e, World.block_lt_of_cell? _ _ h0, h0, h 1 _ rfl, h 2 _ rfl, h 3 _ rfl, h 4 _ rfl, h 5 _ rfl, h 6 _ rfl⟩
theorem ArwAt.at {w : World} {L : List Ar} {a : Option Addr} {n cap : Nat} (h : ArwAt w L (.slice a n cap)) {i : Nat} (hi : i < L.length) : ∃ b off, a = some ⟨b, off, none⟩ ∧ b < w.heap.size ∧
    w.cell? ⟨b, off + i * 2, none⟩ = some (.string (strOf L[i].name)) ∧ w.cell? ⟨b, off + i * 2 + 1, none⟩ = some (.int .i64 L[i].size) := by
  obtain ⟨b, off, e, h⟩ := RwAt.at h (List.getElem?_eq_getElem hi)
  have h0 := h 0 _ rfl
  exact ⟨b, off, e, World.block_lt_of_cell? _ _ h0, h0, h 1 _ rfl⟩
theorem InsAt.at {w : World} {L : List Ins} {a : Option Addr} {n cap : Nat} (h : InsAt w L (.slice a n cap)) {i : Nat} (hi : i < L.length) : ∃ b off, a = some ⟨b, off, none⟩ ∧ b < w.heap.size ∧
    w.cell? ⟨b, off + i * 6, none⟩ = some (.int .i64 L[i].op) ∧ w.cell? ⟨b, off + i * 6 + 1, none⟩ = some (.int .i64 L[i].d) ∧
    w.cell? ⟨b, off + i * 6 + 2, none⟩ = some (.int .i64 L[i].a) ∧ w.cell? ⟨b, off + i * 6 + 3, none⟩ = some (.int .i64 L[i].b) ∧ w.cell? ⟨b, off + i * 6 + 4, none⟩ = some (.int .i64 L[i].n) ∧
    w.cell? ⟨b, off + i * 6 + 5, none⟩ = some (.string (strOf L[i].name)) := by
  obtain ⟨b, off, e, h⟩ := RwAt.at h (List.getElem?_eq_getElem hi)
  have h0 := h 0 _ rfl
  exact ⟨b, off, e, World.block_lt_of_cell? _ _ h0, h0, h 1 _ rfl, h 2 _ rfl, h 3 _ rfl, h 4 _ rfl, h 5 _ rfl⟩
theorem NumsAt.at {w : World} {L : List Int} {a : Option Addr} {n cap : Nat} (h : NumsAt w L (.slice a n cap)) {i : Nat} (hi : i < L.length) : ∃ b off, a = some ⟨b, off, none⟩ ∧ b < w.heap.size ∧
    w.cell? ⟨b, off + i, none⟩ = some (.int .i64 L[i]) := by
  obtain ⟨b, off, e, h⟩ := RwAt.at h (List.getElem?_eq_getElem hi)
  have h0 := h 0 _ rfl
  rw [Nat.mul_one, Nat.add_zero] at h0
  exact ⟨b, off, e, World.block_lt_of_cell? _ _ h0, h0⟩
/-- Code, as a value. -/
def CodeAt (w : World) (c : Cd) (va vl : Value) : Prop := ArwAt w c.arrs va ∧ LnsAt w c.lines vl
theorem CodeAt.old {w w' : World} {c : Cd} {va vl : Value} (h : CodeAt w c va vl) (hb : Below w.heap.size w w') : CodeAt w' c va vl := ⟨h.1.old hb, h.2.old hb⟩
/-- A label and a name no longer than memory. -/
structure ShortL (x : Ln) : Prop where
  label : x.label.length ≤ 140737488355328
  name : x.ins.name.length ≤ 140737488355328
structure ShortC (c : Cd) : Prop where
  lines : ∀ x, x ∈ c.lines → ShortL x
  arrs : ∀ a, a ∈ c.arrs → a.name.length ≤ 140737488355328
end Go.Proofs.YtlkfmnabbmceeaaGreatDoor

namespace Go.Proofs.YtlkfmnabbmceeaaGreatDoor
open Go.RowKit Go.Maps
set_option maxHeartbeats 4000000
set_option maxRecDepth 100000

theorem grown_cell {w w' : World} {B : Nat} (hg : w.grownBy w' (some B)) {b o : Nat} {u : Value} (h : b ≠ B) (hc : w.cell? ⟨b, o, none⟩ = some u) : w'.cell? ⟨b, o, none⟩ = some u := by
  have hb := World.block_lt_of_cell? w _ hc
  have e : w'.heap[b]? = w.heap[b]? := hg.block b hb (by simp; exact fun e => h e)
  unfold World.cell? at hc ⊢
  rw [show w'.heap[(⟨b, o, none⟩ : Addr).block]? = w.heap[(⟨b, o, none⟩ : Addr).block]? from e]
  exact hc
theorem OwnAt.grown {w w' : World} {b : Nat} {cs : List Value} {T : TypeId} (h : OwnAt w b cs T) {B : Nat} (hg : w.grownBy w' (some B)) (hr : b ≠ B) : OwnAt w' b cs T := (hg.block b h.lt (fun e => hr (by injection e))).trans h
theorem zbelow_own {m B : Nat} {a w w' : World} (h : Below m a w) (hg : w.grownBy w' (some B)) (hB : m ≤ B) (hm : m ≤ w.heap.size) : Below m a w' :=
  ⟨hg.os.trans h.os, hg.tape.trans h.tape, hg.output.trans h.output, Nat.le_trans h.size hg.size, fun k hk => (hg.block k (by omega) (by simp; omega)).trans (h.block k hk)⟩
theorem mkeys : Keyed Tryz.prog 9 := string_keyed Tryz.underlying9
theorem mzero (w : World) : (zeroValue 3).run Tryz.prog w = .ok (.int .i64 0) w := by kernel_rfl
/-- Block B is a map that answers as f does. -/
def MapIs (w : World) (B n : Nat) (f : Bs → Option Int) : Prop :=
  ∃ D : DataW Unit, w.ownsMap Tryz.prog 9 (plainElem Tryz.prog 3) B n D ∧ ∀ s : Bs, Maps.has D (.string s) = (f s).isSome ∧ D.atKey (.string s) (.lit (.int .i64 0)) = .lit (.int .i64 ((f s).getD 0))
theorem MapIs.made (w : World) : MapIs (w.alloc (.map #[] 0)) w.heap.size 0 (fun _ => none) :=
  ⟨.map [], World.ownsMap_made _ _ _ _, fun s => ⟨rfl, rfl⟩⟩
theorem MapIs.made1 (w : World) (o : Obj) : MapIs ((w.alloc o).alloc (.map #[] 0)) (w.heap.size + 1) 0 (fun _ => none) := by
  have := MapIs.made (w.alloc o)
  rwa [show (w.alloc o).heap.size = w.heap.size + 1 by simp] at this
theorem MapIs.lt {w : World} {B n : Nat} {f : Bs → Option Int} (h : MapIs w B n f) : B < w.heap.size := by
  obtain ⟨D, h, _⟩ := h; exact h.lt
theorem MapIs.mono {w : World} {B n m : Nat} {f : Bs → Option Int} (h : MapIs w B n f) (hm : n ≤ m) : MapIs w B m f := by
  obtain ⟨D, h, k⟩ := h; exact ⟨D, h.mono hm, k⟩
theorem MapIs.same {w w' : World} {B n : Nat} {f : Bs → Option Int} (h : MapIs w B n f) (hb : w'.heap[B]? = w.heap[B]?) : MapIs w' B n f := by
  obtain ⟨D, h, k⟩ := h
  refine ⟨D, ?_, k⟩
  unfold World.ownsMap at *
  rw [hb]; exact h
theorem MapIs.old {w w' : World} {B n : Nat} {f : Bs → Option Int} (h : MapIs w B n f) (hb : Below w.heap.size w w') : MapIs w' B n f := h.same (hb.block B h.lt)
theorem MapIs.below {w w' : World} {B n m : Nat} {f : Bs → Option Int} (h : MapIs w B n f) (hb : Below m w w') (hm : B < m) : MapIs w' B n f := h.same (hb.block B hm)
theorem MapIs.set {w : World} {B n : Nat} {f : Bs → Option Int} (h : MapIs w B n f) {k : Nat} (hk : B ≠ k) (i : Nat) (v : Value) : MapIs (w.setCell ⟨k, i, none⟩ v) B n f := h.same (Below.heap_setCell _ _ _ _ hk)
theorem MapIs.ext {w : World} {B n : Nat} {f g : Bs → Option Int} (h : MapIs w B n f) (hg : ∀ s, g s = f s) : MapIs w B n g := by
  obtain ⟨D, h, k⟩ := h; exact ⟨D, h, fun s => by rw [hg]; exact k s⟩
def putF (f : Bs → Option Int) (s : Bs) (v : Int) : Bs → Option Int := fun t => if t = s then some v else f t
theorem key_ne {s t : Bs} (h : t ≠ s) : Lit.string t ≠ Lit.string s := fun e => h (by injection e)
theorem mkey (s : Bs) (hs : s.length ≤ 9223372036854775807) : keyOf Tryz.prog 9 (.string (strOf s)) = some (.string s) := by
  have := WideMaps.keyOf_string_mk (P := Tryz.prog) (k := 9) Tryz.underlying9 (s := strOf s) (by show s.toArray.size ≤ _; unfold maxLen; simpa using hs)
  simpa using this
/-- m[k], and v, ok := m[k]: equations for the walk. -/
theorem MapIs.look {w : World} {B n : Nat} {f : Bs → Option Int} (h : MapIs w B n f) (s : Bs) (hs : s.length ≤ 9223372036854775807) : (Instr.lookup 53 (.map (some B)) (.string (strOf s)) false).run Tryz.prog w = .ok (.int .i64 ((f s).getD 0)) w := by
  obtain ⟨D, h, k⟩ := h
  obtain ⟨c, hrun, hat, _⟩ := h.lookup_int mkeys Tryz.underlying53 Tryz.underlying3 (mzero w) (mkey s hs)
  rw [hrun]
  have := (k s).2
  rw [hat] at this
  simp only [DataW.lit.injEq, Lit.int.injEq, true_and] at this
  rw [this]
theorem MapIs.lookOk {w : World} {B n : Nat} {f : Bs → Option Int} (h : MapIs w B n f) (s : Bs) (hs : s.length ≤ 9223372036854775807) : (Instr.lookup 53 (.map (some B)) (.string (strOf s)) true).run Tryz.prog w = .ok (.tuple #[.int .i64 ((f s).getD 0), .bool (f s).isSome]) w := by
  obtain ⟨D, h, k⟩ := h
  obtain ⟨v, ps, hrun, hv⟩ := h.look_ok mkeys Tryz.underlying53 (mzero w) (plainElem_int Tryz.underlying3 (by decide)) (mkey s hs)
  obtain ⟨c, rfl, hc, _⟩ := plainElem_int_inv Tryz.underlying3 hv
  have h2 := (k s).2
  have hc1 : D.atKey (.string s) (.lit (.int .i64 0)) = .lit (.int .i64 c) := congrArg Prod.fst hc
  rw [hc1] at h2
  simp only [DataW.lit.injEq, Lit.int.injEq, true_and] at h2
  rw [hrun, (k s).1, h2]
theorem MapIs.put {w : World} {B n : Nat} {f : Bs → Option Int} (h : MapIs w B n f) (hn : n < 9223372036854775807) (s : Bs) (hs : s.length ≤ 9223372036854775807) (v : Int) (hv : -9223372036854775808 ≤ v ∧ v ≤ 9223372036854775807) :
    ∃ w', (Instr.mapUpdate 53 (.map (some B)) (.string (strOf s)) (.int .i64 v)).run Tryz.prog w = .ok () w' ∧ MapIs w' B (n + 1) (putF f s v) ∧ w.grownBy w' (some B) := by
  obtain ⟨D, h, k⟩ := h
  have hw : (Lit.int .i64 v).wf = true := by simp only [Lit.wf, Bool.and_eq_true, decide_eq_true_eq]; exact hv
  obtain ⟨w', hrun, how, hg⟩ := h.update mkeys Tryz.underlying53 (by unfold maxLen; exact hn) (mkey s hs) (plainElem_int (H := Unit) Tryz.underlying3 hw)
  refine ⟨w', hrun, ⟨_, how, fun t => ?_⟩, hg⟩
  unfold putF
  by_cases ht : t = s
  · subst ht
    rw [if_pos rfl]
    exact ⟨has_put_same h.isMap (show WideAt.IsKeyLit (.string t) from trivial) _, atKey_put_same h.isMap (show WideAt.IsKeyLit (.string t) from trivial) _ _⟩
  · rw [if_neg ht]
    exact ⟨(has_put_other (key_ne ht) _).trans (k t).1, (atKey_put_other (key_ne ht) _ _).trans (k t).2⟩
theorem MapIs.alloc {w : World} {B n : Nat} {f : Bs → Option Int} (h : MapIs w B n f) (o : Obj) : MapIs (w.alloc o) B n f := h.old ((Below.refl _ _).alloc (Nat.le_refl _) _)
section
variable (w : World) {ops : Array Oper} {rest : List Oper} {o : Oper} {a : Act} {Q : Exit → Act → World → Prop}
theorem wpList_mlook (hg : o.guard = none) (m x : Operand) (hop : o.op = Op.lookup 53 m x false) {B n : Nat} {f : Bs → Option Int} (hm : a.eval m = .map (some B)) (h : MapIs w B n f) (s : Bs) (hx : a.eval x = .string (strOf s)) (hs : s.length ≤ 9223372036854775807)
    {v : Int} (hv : (f s).getD 0 = v) (hK : wpList Tryz.prog ops Q rest (a.put o.dst (.int .i64 v)) w) : wpList Tryz.prog ops Q (o :: rest) a w := by
  refine wpList_plain hg fun K' hK' => ?_
  have hrun := h.look s hs
  rw [hv] at hrun
  unfold Oper.wp
  simp [execOp, hop, hm, hx, hrun, Result.andThen]
  exact hK' _ _ hK
theorem wpList_mlookOk (hg : o.guard = none) (m x : Operand) (hop : o.op = Op.lookup 53 m x true) {B n : Nat} {f : Bs → Option Int} (hm : a.eval m = .map (some B)) (h : MapIs w B n f) (s : Bs) (hx : a.eval x = .string (strOf s)) (hs : s.length ≤ 9223372036854775807)
    {v : Int} (hv : (f s).getD 0 = v) {b : Bool} (hb : (f s).isSome = b) (hK : wpList Tryz.prog ops Q rest (a.put o.dst (.tuple #[.int .i64 v, .bool b])) w) : wpList Tryz.prog ops Q (o :: rest) a w := by
  refine wpList_plain hg fun K' hK' => ?_
  have hrun := h.lookOk s hs
  rw [hv, hb] at hrun
  unfold Oper.wp
  simp [execOp, hop, hm, hx, hrun, Result.andThen]
  exact hK' _ _ hK
theorem wpList_mput (hg : o.guard = none) (m x v : Operand) (hop : o.op = Op.mapUpdate 53 m x v) {B n : Nat} {f : Bs → Option Int} (hm : a.eval m = .map (some B)) (h : MapIs w B n f) (hn : n < 9223372036854775807) (s : Bs) (hx : a.eval x = .string (strOf s)) (hs : s.length ≤ 9223372036854775807)
    (z : Int) (hz : a.eval v = .int .i64 z) (hr : -9223372036854775808 ≤ z ∧ z ≤ 9223372036854775807)
    (hK : ∀ w', MapIs w' B (n + 1) (putF f s z) → w.grownBy w' (some B) → wpList Tryz.prog ops Q rest (a.put o.dst undef) w') : wpList Tryz.prog ops Q (o :: rest) a w := by
  refine wpList_plain hg fun K' hK' => ?_
  obtain ⟨w', hrun, h1, h2⟩ := h.put hn s hs z hr
  unfold Oper.wp
  simp [execOp, hop, hm, hx, hz, hrun, Result.andThen]
  exact hK' _ _ (hK w' h1 h2)
end
end Go.Proofs.YtlkfmnabbmceeaaGreatDoor

namespace Go.Proofs.YtlkfmnabbmceeaaGreatDoor
open Go.RowKit
set_option maxHeartbeats 4000000
set_option maxRecDepth 100000

def RwOwn {α : Type} (e : TypeId) (cf : α → List Value) (k : Nat) (w : World) (base : Nat) (L : List α) (v : Value) : Prop := w.ownsRow base e k v L.length (L.flatMap cf)
theorem RwOwn.zero {α : Type} (e : TypeId) (cf : α → List Value) (k : Nat) (w : World) (base : Nat) : RwOwn e cf k w base [] (.slice none 0 0) := World.ownsRow_nil _ _ _ _
theorem RwOwn.lt {α : Type} {e : TypeId} {cf : α → List Value} {k : Nat} {w : World} {base : Nat} {L : List α} {v : Value} (h : RwOwn e cf k w base L v) : ∀ g, v.ownBlock = some g → base ≤ g ∧ g < w.heap.size := World.ownsRow.lt h
theorem RwOwn.grown {α : Type} {e : TypeId} {cf : α → List Value} {k : Nat} {w w' : World} {base : Nat} {L : List α} {v : Value} (h : RwOwn e cf k w base L v) {row : Option Nat} (hg : w.grownBy w' row) (hne : v.ownBlock = none ∨ v.ownBlock ≠ row) : RwOwn e cf k w' base L v := World.ownsRow.kept h hg hne
theorem RwOwn.old {α : Type} {e : TypeId} {cf : α → List Value} {k : Nat} {w w' : World} {base : Nat} {L : List α} {v : Value} (h : RwOwn e cf k w base L v) (hb : Below w.heap.size w w') : RwOwn e cf k w' base L v := by
  refine World.ownsRow.kept h (row := none) ⟨hb.os, ?_, hb.output, hb.size, fun j hj _ => hb.block j hj⟩ ?_
  · exact hb.tape
  · cases hv : v.ownBlock with
    | none => exact .inl rfl
    | some g => exact .inr (by simp)
theorem RwOwn.base {α : Type} {e : TypeId} {cf : α → List Value} {k : Nat} {w : World} {base base' : Nat} {L : List α} {v : Value} (h : RwOwn e cf k w base L v) (hb : base' ≤ base) : RwOwn e cf k w base' L v := by
  refine ⟨h.1, ?_⟩
  rcases h.2 with hn | ⟨g, cap, cur, rfl, hg, r⟩
  · exact .inl hn
  · exact .inr ⟨g, cap, cur, rfl, Nat.le_trans hb hg, r⟩
theorem RwOwn.shape {α : Type} {e : TypeId} {cf : α → List Value} {k : Nat} {w : World} {base : Nat} {L : List α} {v : Value} (h : RwOwn e cf k w base L v) : ∃ a cap, v = .slice a L.length cap := by
  rcases h.2 with ⟨h1, h2⟩ | ⟨g, cap, cur, rfl, _⟩
  · exact ⟨none, 0, by rw [h1, h2]⟩
  · exact ⟨_, _, rfl⟩
theorem RwOwn.nilv {α : Type} {e : TypeId} {cf : α → List Value} {k : Nat} {w : World} {base : Nat} {L : List α} {v : Value} (h : RwOwn e cf k w base L v) (hl : L.length ≤ 140737488355328) (hf : ∀ x, (cf x).length = k) : RwAt cf k w L v := RwAt.own hf hl h
section
variable {α : Type} (w : World) {ops : Array Oper} {rest : List Oper} {o : Oper} {a : Act} {Q : Exit → Act → World → Prop}
theorem wpList_rsnoc (hgd : o.guard = none) (s x : Operand) (t : TypeId) (ho : o.op = .call { callee := .builtin .append, args := #[s, x], argTypes := #[t, t] })
    (e : TypeId) (ht : Tryz.prog.underlying t = some (.slice e)) (z : Value) (k bytes : Nat) (hinfo : (Tryz.prog.info? e).map (fun i => (i.zero, i.size, i.bytes)) = some (some z, k, bytes)) (hzs : z.cells.size = k) (hk : 0 < k)
    (cf : α → List Value) (hf : ∀ x, (cf x).length = k) (h1 : ∀ x u, u ∈ cf x → u.oneCell' = true)
    (base : Nat) (L : List α) (v : Value) (hs : a.eval s = v) (hown : RwOwn e cf k w base L v) (y : α) (b c : Nat) (hx : a.eval x = .slice (some ⟨b, 0, none⟩) 1 c) (hnew : OwnAt w b (cf y) e)
    (hlen : (L.length + 1) * bytes ≤ 140737488355328) (hl2 : L.length + 1 ≤ 140737488355328) (hbase : base ≤ w.heap.size)
    (h : ∀ g cap w', RwOwn e cf k w' base (L ++ [y]) (.slice (some ⟨g, 0, none⟩) (L.length + 1) cap) → w.grownBy w' v.ownBlock → (v.ownBlock = some g ∨ g = w.heap.size) → g < w'.heap.size → wpList Tryz.prog ops Q rest (a.put o.dst (.slice (some ⟨g, 0, none⟩) (L.length + 1) cap)) w') : wpList Tryz.prog ops Q (o :: rest) a w := by
  obtain ⟨i0, hi, hz0, hz1, hz2⟩ := info_parts hinfo
  refine wpList_append_lies (P := Tryz.prog) w hgd s x t ho base e i0 z k bytes ht hi hz0 hz1 hz2 hzs hk v L.length (L.flatMap cf) hs hown ⟨b, 0, none⟩ 1 c (cf y) hx (by rw [hf, Nat.one_mul]) ?_ (h1 y) (by decide) (by unfold maxLen; omega) hlen hbase _ rfl ?_
  · intro j u hu
    have h2 : (⟨b, 0, none⟩ : Addr).add j = ⟨b, j, none⟩ := by unfold Addr.add; split <;> simp_all
    rw [h2]; exact hnew.at j u hu
  · intro g cap w' hown' hg hat hlt
    refine h g cap w' ?_ hg hat hlt
    unfold RwOwn
    simpa using hown'
end
theorem infoIns : (Tryz.prog.info? 36).map (fun i => (i.zero, i.size, i.bytes)) = some (some (.agg #[.int .i64 0, .int .i64 0, .int .i64 0, .int .i64 0, .int .i64 0, .string ⟨#[]⟩]), 6, 56) := by kernel_rfl
theorem infoNum : (Tryz.prog.info? 3).map (fun i => (i.zero, i.size, i.bytes)) = some (some (.int .i64 0), 1, 8) := by kernel_rfl
theorem infoStr : (Tryz.prog.info? 9).map (fun i => (i.zero, i.size, i.bytes)) = some (some (.string ⟨#[]⟩), 1, 16) := by kernel_rfl
theorem infoAr : (Tryz.prog.info? 45).map (fun i => (i.zero, i.size, i.bytes)) = some (some (.agg #[.string ⟨#[]⟩, .int .i64 0]), 2, 24) := by kernel_rfl
theorem infoLn : (Tryz.prog.info? 48).map (fun i => (i.zero, i.size, i.bytes)) = some (some (.agg #[.string ⟨#[]⟩, .int .i64 0, .int .i64 0, .int .i64 0, .int .i64 0, .int .i64 0, .string ⟨#[]⟩]), 7, 72) := by kernel_rfl
theorem insCells_len (x : Ins) : (insCells x).length = 6 := rfl
theorem lnCells_len (x : Ln) : (lnCells x).length = 7 := rfl
theorem arCells_len (x : Ar) : (arCells x).length = 2 := rfl
theorem intCells_len (x : Int) : (intCells x).length = 1 := rfl
def strCells (s : Bs) : List Value := [.string (strOf s)]
theorem strCells_len (x : Bs) : (strCells x).length = 1 := rfl
theorem insCells_one (x : Ins) : ∀ u, u ∈ insCells x → u.oneCell' = true := by
  intro u hu
  simp only [insCells, List.mem_cons, List.not_mem_nil, or_false] at hu
  rcases hu with rfl | rfl | rfl | rfl | rfl | rfl <;> rfl
theorem lnCells_one (x : Ln) : ∀ u, u ∈ lnCells x → u.oneCell' = true := by
  intro u hu
  simp only [lnCells, List.mem_cons] at hu
  rcases hu with rfl | hu
  · rfl
  · exact insCells_one _ u hu
theorem arCells_one (x : Ar) : ∀ u, u ∈ arCells x → u.oneCell' = true := by
  intro u hu
  simp only [arCells, List.mem_cons, List.not_mem_nil, or_false] at hu
  rcases hu with rfl | rfl <;> rfl
theorem intCells_one (x : Int) : ∀ u, u ∈ intCells x → u.oneCell' = true := by
  intro u hu
  simp only [intCells, List.mem_cons, List.not_mem_nil, or_false] at hu
  subst hu; rfl
theorem strCells_one (x : Bs) : ∀ u, u ∈ strCells x → u.oneCell' = true := by
  intro u hu
  simp only [strCells, List.mem_cons, List.not_mem_nil, or_false] at hu
  subst hu; rfl
abbrev InsOwn (w : World) (base : Nat) (L : List Ins) (v : Value) : Prop := RwOwn 36 insCells 6 w base L v
abbrev NumsOwn (w : World) (base : Nat) (L : List Int) (v : Value) : Prop := RwOwn 3 intCells 1 w base L v
abbrev StrsOwn (w : World) (base : Nat) (L : List Bs) (v : Value) : Prop := RwOwn 9 strCells 1 w base L v
abbrev ArwOwn (w : World) (base : Nat) (L : List Ar) (v : Value) : Prop := RwOwn 45 arCells 2 w base L v
abbrev LnsOwn (w : World) (base : Nat) (L : List Ln) (v : Value) : Prop := RwOwn 48 lnCells 7 w base L v
section
variable (w : World) {ops : Array Oper} {rest : List Oper} {o : Oper} {a : Act} {Q : Exit → Act → World → Prop}
theorem wpList_insSnoc (hgd : o.guard = none) (s x : Operand) (ho : o.op = .call { callee := .builtin .append, args := #[s, x], argTypes := #[28, 28] })
    (base : Nat) (L : List Ins) (v : Value) (hs : a.eval s = v) (hown : InsOwn w base L v) (y : Ins) (b c : Nat) (hx : a.eval x = .slice (some ⟨b, 0, none⟩) 1 c) (hnew : OwnAt w b (insCells y) 36)
    (hlen : L.length ≤ 1000000) (hbase : base ≤ w.heap.size)
    (h : ∀ g cap w', InsOwn w' base (L ++ [y]) (.slice (some ⟨g, 0, none⟩) (L.length + 1) cap) → w.grownBy w' v.ownBlock → (v.ownBlock = some g ∨ g = w.heap.size) → g < w'.heap.size → wpList Tryz.prog ops Q rest (a.put o.dst (.slice (some ⟨g, 0, none⟩) (L.length + 1) cap)) w') : wpList Tryz.prog ops Q (o :: rest) a w :=
  wpList_rsnoc w hgd s x _ ho 36 Tryz.underlying28 _ 6 56 infoIns rfl (by decide) insCells insCells_len insCells_one base L v hs hown y b c hx hnew (by omega) (by omega) hbase h
theorem wpList_numSnoc (hgd : o.guard = none) (s x : Operand) (ho : o.op = .call { callee := .builtin .append, args := #[s, x], argTypes := #[29, 29] })
    (base : Nat) (L : List Int) (v : Value) (hs : a.eval s = v) (hown : NumsOwn w base L v) (y : Int) (b c : Nat) (hx : a.eval x = .slice (some ⟨b, 0, none⟩) 1 c) (hnew : OwnAt w b (intCells y) 3)
    (hlen : L.length ≤ 1000000) (hbase : base ≤ w.heap.size)
    (h : ∀ g cap w', NumsOwn w' base (L ++ [y]) (.slice (some ⟨g, 0, none⟩) (L.length + 1) cap) → w.grownBy w' v.ownBlock → (v.ownBlock = some g ∨ g = w.heap.size) → g < w'.heap.size → wpList Tryz.prog ops Q rest (a.put o.dst (.slice (some ⟨g, 0, none⟩) (L.length + 1) cap)) w') : wpList Tryz.prog ops Q (o :: rest) a w :=
  wpList_rsnoc w hgd s x _ ho 3 Tryz.underlying29 _ 1 8 infoNum rfl (by decide) intCells intCells_len intCells_one base L v hs hown y b c hx hnew (by omega) (by omega) hbase h
theorem wpList_lnSnoc (hgd : o.guard = none) (s x : Operand) (ho : o.op = .call { callee := .builtin .append, args := #[s, x], argTypes := #[22, 22] })
    (base : Nat) (L : List Ln) (v : Value) (hs : a.eval s = v) (hown : LnsOwn w base L v) (y : Ln) (b c : Nat) (hx : a.eval x = .slice (some ⟨b, 0, none⟩) 1 c) (hnew : OwnAt w b (lnCells y) 48)
    (hlen : L.length ≤ 1000000) (hbase : base ≤ w.heap.size)
    (h : ∀ g cap w', LnsOwn w' base (L ++ [y]) (.slice (some ⟨g, 0, none⟩) (L.length + 1) cap) → w.grownBy w' v.ownBlock → (v.ownBlock = some g ∨ g = w.heap.size) → g < w'.heap.size → wpList Tryz.prog ops Q rest (a.put o.dst (.slice (some ⟨g, 0, none⟩) (L.length + 1) cap)) w') : wpList Tryz.prog ops Q (o :: rest) a w :=
  wpList_rsnoc w hgd s x _ ho 48 Tryz.underlying22 _ 7 72 infoLn rfl (by decide) lnCells lnCells_len lnCells_one base L v hs hown y b c hx hnew (by omega) (by omega) hbase h
theorem wpList_arSnoc (hgd : o.guard = none) (s x : Operand) (ho : o.op = .call { callee := .builtin .append, args := #[s, x], argTypes := #[24, 24] })
    (base : Nat) (L : List Ar) (v : Value) (hs : a.eval s = v) (hown : ArwOwn w base L v) (y : Ar) (b c : Nat) (hx : a.eval x = .slice (some ⟨b, 0, none⟩) 1 c) (hnew : OwnAt w b (arCells y) 45)
    (hlen : L.length ≤ 1000000) (hbase : base ≤ w.heap.size)
    (h : ∀ g cap w', ArwOwn w' base (L ++ [y]) (.slice (some ⟨g, 0, none⟩) (L.length + 1) cap) → w.grownBy w' v.ownBlock → (v.ownBlock = some g ∨ g = w.heap.size) → g < w'.heap.size → wpList Tryz.prog ops Q rest (a.put o.dst (.slice (some ⟨g, 0, none⟩) (L.length + 1) cap)) w') : wpList Tryz.prog ops Q (o :: rest) a w :=
  wpList_rsnoc w hgd s x _ ho 45 Tryz.underlying24 _ 2 24 infoAr rfl (by decide) arCells arCells_len arCells_one base L v hs hown y b c hx hnew (by omega) (by omega) hbase h
theorem wpList_strSnoc (hgd : o.guard = none) (s x : Operand) (ho : o.op = .call { callee := .builtin .append, args := #[s, x], argTypes := #[46, 46] })
    (base : Nat) (L : List Bs) (v : Value) (hs : a.eval s = v) (hown : StrsOwn w base L v) (y : Bs) (b c : Nat) (hx : a.eval x = .slice (some ⟨b, 0, none⟩) 1 c) (hnew : OwnAt w b (strCells y) 9)
    (hlen : L.length ≤ 1000000) (hbase : base ≤ w.heap.size)
    (h : ∀ g cap w', StrsOwn w' base (L ++ [y]) (.slice (some ⟨g, 0, none⟩) (L.length + 1) cap) → w.grownBy w' v.ownBlock → (v.ownBlock = some g ∨ g = w.heap.size) → g < w'.heap.size → wpList Tryz.prog ops Q rest (a.put o.dst (.slice (some ⟨g, 0, none⟩) (L.length + 1) cap)) w') : wpList Tryz.prog ops Q (o :: rest) a w :=
  wpList_rsnoc w hgd s x _ ho 9 Tryz.underlying46 _ 1 16 infoStr rfl (by decide) strCells strCells_len strCells_one base L v hs hown y b c hx hnew (by omega) (by omega) hbase h
end
theorem own_apart {v2 v3 : Value} (h : ∀ g, v2.ownBlock = some g → v3.ownBlock ≠ some g) : v3.ownBlock = none ∨ v3.ownBlock ≠ v2.ownBlock := by
  cases h3 : v3.ownBlock with
  | none => exact .inl rfl
  | some x => exact .inr (fun e => h x e.symm h3)
theorem below_grow {B : Nat} {a w w' : World} (h : Below B a w) {row : Option Nat} (hg : w.grownBy w' row) (hr : ∀ k, row = some k → B ≤ k) (hB : B ≤ w.heap.size) : Below B a w' :=
  ⟨hg.os.trans h.os, hg.tape.trans h.tape, hg.output.trans h.output, Nat.le_trans h.size hg.size, fun k hk => (hg.block k (Nat.lt_of_lt_of_le hk hB) (fun e => by have := hr k e.symm; omega)).trans (h.block k hk)⟩
/-- Two rows, appended to one behind the other, stay apart. -/
theorem two_step {α β : Type} {e1 e2 : TypeId} {f1 : α → List Value} {f2 : β → List Value} {k1 k2 : Nat} {base : Nat} {w7 W w10 w12 : World} {o : Obj} {LI : List α} {LN : List β} {u2 u3 : Value} {y : α} {g cg n1 g3 c3 n3 : Nat}
    (hGB : Below base w7 W) (hbase : base ≤ W.heap.size) (h2 : RwOwn e1 f1 k1 W base LI u2) (h3 : RwOwn e2 f2 k2 W base LN u3) (hs : ∀ g, u2.ownBlock = some g → u3.ownBlock ≠ some g)
    (how10 : RwOwn e1 f1 k1 w10 base (LI ++ [y]) (.slice (some ⟨g, 0, none⟩) n1 cg)) (hg10 : W.grownBy w10 u2.ownBlock) (hat10 : u2.ownBlock = some g ∨ g = W.heap.size) (hlt10 : g < w10.heap.size)
    (hg12 : (w10.alloc o).grownBy w12 u3.ownBlock) (hat12 : u3.ownBlock = some g3 ∨ g3 = (w10.alloc o).heap.size) :
    RwOwn e1 f1 k1 w12 base (LI ++ [y]) (.slice (some ⟨g, 0, none⟩) n1 cg) ∧ (∀ x, (Value.slice (some ⟨g, 0, none⟩) n1 cg).ownBlock = some x → (Value.slice (some ⟨g3, 0, none⟩) n3 c3).ownBlock ≠ some x) ∧ Below base w7 w12 := by
  have hsep : u3.ownBlock ≠ some g := by
    rcases hat10 with h | h
    · exact hs g h
    · intro e
      have := (RwOwn.lt h3 g e).2
      omega
  refine ⟨?_, ?_, ?_⟩
  · refine RwOwn.grown (RwOwn.old how10 ((Below.refl _ _).alloc (Nat.le_refl _) o)) hg12 (.inr ?_)
    exact fun e => hsep e.symm
  · intro x hx e
    have h1 : g = x := by injection hx
    have h2 : g3 = x := by injection e
    rcases hat12 with h | h
    · exact hsep (by rw [h, h2, h1])
    · simp at h; omega
  · have hb10 := below_grow hGB hg10 (fun k e => (RwOwn.lt h2 k e).1) hbase
    have hs10 := hg10.size
    refine below_grow (hb10.alloc (by omega) o) hg12 (fun k e => (RwOwn.lt h3 k e).1) (by simp; omega)
end Go.Proofs.YtlkfmnabbmceeaaGreatDoor

namespace Go.Proofs.YtlkfmnabbmceeaaGreatDoor
open Go.RowKit
set_option maxHeartbeats 4000000
set_option maxRecDepth 100000

def undone : List Bool → Nat
  | [] => 0
  | b :: l => (if b then 0 else 1) + undone l
theorem undone_set : ∀ (l : List Bool) (i : Nat), l[i]? = some false → undone (l.set i true) + 1 = undone l
  | [], i, h => by simp at h
  | b :: l, 0, h => by simp at h; subst h; simp [undone]; omega
  | b :: l, i + 1, h => by
    simp at h
    have := undone_set l i h
    simp only [List.set_cons_succ, undone]; omega
theorem undone_pos : ∀ (l : List Bool) (i : Nat), l[i]? = some false → 0 < undone l
  | [], i, h => by simp at h
  | b :: l, 0, h => by simp at h; subst h; simp [undone]; omega
  | b :: l, i + 1, h => by
    simp at h
    have := undone_pos l i h
    simp only [undone]; omega
theorem mem_ready {md : Region.Mode} {ops : Array Oper} {listed : Array Bool} {i : Nat} (h : i ∈ Region.ready md ops listed) : i < ops.size ∧ listed.toList[i]? = some false ∧ ∀ o, ops[i]? = some o → ∀ e, e ∈ o.after → Region.binds md e = true → listed.getD e.on false = true := by
  unfold Region.ready at h
  rw [List.mem_filter] at h
  obtain ⟨h1, h2⟩ := h
  simp only [Bool.and_eq_true, Bool.not_eq_true'] at h2
  refine ⟨List.mem_range.1 h1, ?_, fun o ho e he hb => ?_⟩
  · have h3 := h2.1
    rw [Array.getD_eq_getD_getElem?] at h3
    rw [Array.getElem?_toList]
    cases hl : listed[i]? with
    | none => rw [hl] at h3; simp at h3
    | some b => rw [hl] at h3; simp at h3; rw [h3]
  · have h3 := h2.2
    rw [ho] at h3
    simp only [Option.map_some, Option.getD_some] at h3
    have h4 := Array.all_eq_true_iff_forall_mem.1 h3 e he
    simpa [hb] using h4
/-- THE LAW: what is done is in 'listed'; the invariant is carried by each operation that may come. -/
theorem any_inv {P : Program} {ops : Array Oper} {Q : Exit → Act → World → Prop} (I : Array Bool → Act → World → Prop)
    (step : ∀ listed a w i, I listed a w → i < ops.size → listed.toList[i]? = some false → (∀ o, ops[i]? = some o → ∀ e, e ∈ o.after → Region.binds .any e = true → listed.getD e.on false = true) → wpOp P ops Q i (I (listed.setIfInBounds i true)) a w)
    (fin : ∀ listed a w, I listed a w → Region.ready .any ops listed = [] → Q .normal a w) : ∀ (fuel : Nat) (listed : Array Bool) (a : Act) (w : World), undone listed.toList ≤ fuel → I listed a w → wpAny P .any ops Q fuel listed a w
  | 0, listed, a, w, hu, hI => by
    have hr : Region.ready .any ops listed = [] := by
      cases hl : Region.ready .any ops listed with
      | nil => rfl
      | cons i l =>
        have := undone_pos _ _ (mem_ready (show i ∈ Region.ready .any ops listed by rw [hl]; exact List.mem_cons_self)).2.1
        omega
    exact ⟨hr, fin _ _ _ hI hr⟩
  | fuel + 1, listed, a, w, hu, hI => by
    refine ⟨fin _ _ _ hI, fun i hi => ?_⟩
    obtain ⟨h1, h2, h3⟩ := mem_ready hi
    refine wpOp_mono (fun a' w' hI' => any_inv I step fin fuel _ a' w' ?_ hI') (step listed a w i hI h1 h2 h3)
    have := undone_set _ _ h2
    rw [Array.toList_setIfInBounds]; omega
theorem undone_rep : ∀ n, undone (List.replicate n false) = n
  | 0 => rfl
  | n + 1 => by rw [List.replicate_succ, undone, undone_rep n]; simp; omega
theorem region_inv {P : Program} {id : Nat} {ops : Array Oper} {Q : Exit → Act → World → Prop} {a : Act} {w : World} (hm : P.follows .mixedOrders = true) (I : Array Bool → Act → World → Prop) (h0 : I (Array.replicate ops.size false) a w.drew)
    (step : ∀ listed a w i, I listed a w → i < ops.size → listed.toList[i]? = some false → (∀ o, ops[i]? = some o → ∀ e, e ∈ o.after → Region.binds .any e = true → listed.getD e.on false = true) → wpOp P ops Q i (I (listed.setIfInBounds i true)) a w)
    (fin : ∀ listed a w, I listed a w → Region.ready .any ops listed = [] → Q .normal a w) : (Code.region id ops true).wp P Q a w :=
  wp_region_any hm (any_inv I step fin _ _ _ _ (by rw [Array.toList_replicate, undone_rep]; exact Nat.le_refl _) h0)
/-- What is done, as a function. -/
def upd (L : Nat → Bool) (i : Nat) : Nat → Bool := fun j => if j = i then true else L j
theorem upd_same (L : Nat → Bool) (i : Nat) : upd L i i = true := if_pos rfl
theorem upd_ne (L : Nat → Bool) {i j : Nat} (h : j ≠ i) : upd L i j = L j := if_neg h
def doneOf (listed : Array Bool) : Nat → Bool := fun j => listed.getD j false
theorem doneOf_set (listed : Array Bool) (i : Nat) (h : i < listed.size) : doneOf (listed.setIfInBounds i true) = upd (doneOf listed) i := by
  funext j
  unfold doneOf upd
  by_cases hj : j = i
  · subst hj; simp [Array.getD_eq_getD_getElem?, h]
  · have : ¬ i = j := fun e => hj e.symm
    simp [Array.getD_eq_getD_getElem?, Array.getElem?_setIfInBounds, hj, this]
/-- Every edge goes to what stands before. -/
def lowOk (ops : Array Oper) : Bool := (List.range ops.size).all fun i => ((ops[i]?).map (fun o => o.after.all fun e => !(Region.binds .any e) || decide (e.on < i))).getD true
theorem all_done {ops : Array Oper} {listed : Array Bool} (hlow : lowOk ops = true) (hs : listed.size = ops.size) (h : Region.ready .any ops listed = []) : ∀ i, i < ops.size → doneOf listed i = true := by
  intro i
  induction i using Nat.strongRecOn with
  | _ i ih =>
    intro hi
    cases hd : doneOf listed i with
    | true => rfl
    | false =>
      exfalso
      have hm : i ∈ Region.ready .any ops listed := by
        unfold Region.ready
        rw [List.mem_filter]
        refine ⟨List.mem_range.2 hi, ?_⟩
        rw [Bool.and_eq_true]
        constructor
        · have hli : i < listed.size := by omega
          unfold doneOf at hd
          simp only [Array.getD_eq_getD_getElem?, Array.getElem?_eq_getElem hli, Option.getD_some] at hd ⊢
          rw [hd]; rfl
        · have ho : ops[i]? = some ops[i] := Array.getElem?_eq_getElem hi
          rw [ho]
          simp only [Option.map_some, Option.getD_some]
          rw [Array.all_eq_true_iff_forall_mem]
          intro e he
          have h1 := List.all_eq_true.1 hlow i (List.mem_range.2 hi)
          rw [ho] at h1
          simp only [Option.map_some, Option.getD_some] at h1
          have h2 := Array.all_eq_true_iff_forall_mem.1 h1 e he
          cases hb : Region.binds .any e with
          | false => rfl
          | true =>
            rw [hb] at h2
            have h4 : e.on < i := by simpa using h2
            have h3 := ih e.on h4 (by omega)
            unfold doneOf at h3
            rw [h3, Bool.or_true]
      rw [h] at hm; cases hm
theorem region_by {P : Program} {id : Nat} {ops : Array Oper} {Q : Exit → Act → World → Prop} {a : Act} {w : World} (hm : P.follows .mixedOrders = true) (hlow : lowOk ops = true) (I : (Nat → Bool) → Act → World → Prop) (h0 : I (fun _ => false) a w.drew)
    (step : ∀ L a w i, I L a w → i < ops.size → L i = false → (∀ o, ops[i]? = some o → ∀ e, e ∈ o.after → Region.binds .any e = true → L e.on = true) → wpOp P ops Q i (I (upd L i)) a w)
    (fin : ∀ L a w, I L a w → (∀ i, i < ops.size → L i = true) → Q .normal a w) : (Code.region id ops true).wp P Q a w := by
  refine region_inv hm (fun listed a w => listed.size = ops.size ∧ I (doneOf listed) a w) ⟨by simp, ?_⟩ ?_ ?_
  · have : doneOf (Array.replicate ops.size false) = fun _ => false := by
      funext j; unfold doneOf
      rw [Array.getD_eq_getD_getElem?, Array.getElem?_replicate]; split <;> rfl
    rw [this]; exact h0
  · intro listed a w i hI hi hl hd
    have hli : doneOf listed i = false := by
      unfold doneOf
      rw [Array.getElem?_toList] at hl
      rw [Array.getD_eq_getD_getElem?, hl]; rfl
    refine wpOp_mono (fun a' w' h => ⟨by rw [Array.size_setIfInBounds]; exact hI.1, ?_⟩) (step (doneOf listed) a w i hI.2 hi hli hd)
    rw [doneOf_set _ _ (by rw [hI.1]; exact hi)]; exact h
  · intro listed a w hI hr
    exact fin _ _ _ hI.2 (all_done hlow hI.1 hr)
theorem op_at {P : Program} {ops : Array Oper} {Q : Exit → Act → World → Prop} {i : Nat} {K : Act → World → Prop} {a : Act} {w : World} (o : Oper) (ho : ops[i]? = some o) (hg : o.guard = none) (h : ∀ K' : Act → World → Prop, (∀ a w, K a w → K' a w) → o.wp P a w K' Q) : wpOp P ops Q i K a w := by
  unfold wpOp
  rw [ho]
  simp only [Region.wanted, hg, if_true]
  exact .inl (h K (fun _ _ q => q))
theorem kb {L : Nat → Bool} {j k : Nat} {b : Bool} (h : upd L k j = b) (hn : j ≠ k := by decide) : L j = b := by rwa [upd_ne L hn] at h
theorem kc {L : Nat → Bool} {j k : Nat} {P : Prop} (h : L j = true → P) (hn : j ≠ k := by decide) : upd L k j = true → P := fun e => h (kb e hn)
theorem kq {L : Nat → Bool} {j i k : Nat} (h : L j = true → L i = true) (hn : j ≠ k := by decide) (hm : i ≠ k := by decide) : upd L k j = true → upd L k i = true := fun e => by rw [upd_ne L hm]; exact h (kb e hn)
theorem kn {L : Nat → Bool} {j k : Nat} {P : Prop} (h : L j = true → L k = true) (hl : L k = false) (hn : j ≠ k := by decide) : upd L k j = true → P := fun e => by
  have := h (kb e hn)
  rw [hl] at this; cases this
theorem kl {L : Nat → Bool} {j k : Nat} {P : Prop} (h : L j = false) (hn : j ≠ k := by decide) : upd L k j = true → P := fun e => by
  have := kb e hn
  rw [h] at this; cases this
theorem kf {L : Nat → Bool} {n k : Nat} (h : L n = true → ∀ j, j < n → L j = true) (hl : L k = false) (hk : k < n := by decide) : L n = false := by
  cases e : L n with
  | false => rfl
  | true => have := h e k hk; rw [hl] at this; cases this
theorem ks {L : Nat → Bool} {k : Nat} {P : Prop} : upd L k k = false → P := fun e => by rw [upd_same] at e; cases e
theorem kd {L : Nat → Bool} {j i k : Nat} (h : L i = true) (hm : i ≠ k := by decide) : upd L k j = true → upd L k i = true := fun _ => by rw [upd_ne L hm]; exact h
def regOf (n : Nat) : Code → Option Code
  | .region k o b => if k == n then some (.region k o b) else none
  | .loop c => regOf n c
  | .seq a b => match regOf n a with
    | some c => some c
    | none => regOf n b
  | .block _ c => regOf n c
  | .scope c => regOf n c
  | .cond _ a b => match regOf n a with
    | some c => some c
    | none => regOf n b
  | _ => none
end Go.Proofs.YtlkfmnabbmceeaaGreatDoor
