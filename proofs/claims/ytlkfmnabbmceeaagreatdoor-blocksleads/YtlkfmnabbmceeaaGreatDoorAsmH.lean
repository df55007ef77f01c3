/-
  take: a line and its number behind the others, in whatever order they are built. Conditions: what is read lies in memory, apart.
  take: an array behind the others, in whatever order it is built. Conditions: what is read lies in memory, apart.
  take: a line of a text is taken. Conditions: the text is no longer than a hundred thousand bytes, the lists no longer than a million; the library's variables lie in memory.
-/
import Derived.Test.YtlkfmnabbmceeaaGreatDoorAsmC
import Derived.Test.YtlkfmnabbmceeaaGreatDoorAsmG
set_option linter.unusedVariables false
set_option linter.unusedSimpArgs false
namespace Go.Proofs.YtlkfmnabbmceeaaGreatDoor
open Go.RowKit
set_option maxHeartbeats 8000000
set_option maxRecDepth 100000

/-- What stays: all blocks but X's and two rows'. -/
structure Fr3 (X : Nat) (vl wv : Value) (W wx : World) : Prop where
  os : wx.os = W.os
  tape : wx.tape = W.tape
  output : wx.output = W.output
  size : W.heap.size ≤ wx.heap.size
  block : ∀ k, k < W.heap.size → k ≠ X → vl.ownBlock ≠ some k → wv.ownBlock ≠ some k → wx.heap[k]? = W.heap[k]?
theorem Fr3.refl (X : Nat) (vl wv : Value) (W : World) : Fr3 X vl wv W W := ⟨rfl, rfl, rfl, Nat.le_refl _, fun _ _ _ _ _ => rfl⟩
theorem Fr3.old {X : Nat} {vl wv : Value} {W wx w' : World} (h : Fr3 X vl wv W wx) (hb : Below wx.heap.size wx w') : Fr3 X vl wv W w' :=
  ⟨hb.os.trans h.os, hb.tape.trans h.tape, hb.output.trans h.output, Nat.le_trans h.size hb.size, fun k hk h1 h2 h3 => (hb.block k (Nat.lt_of_lt_of_le hk h.size)).trans (h.block k hk h1 h2 h3)⟩
theorem Fr3.grown {X : Nat} {vl wv : Value} {W wx w' : World} (h : Fr3 X vl wv W wx) {row : Option Nat} (hg : wx.grownBy w' row) (hr : row = vl.ownBlock ∨ row = wv.ownBlock) : Fr3 X vl wv W w' :=
  ⟨hg.os.trans h.os, hg.tape.trans h.tape, hg.output.trans h.output, Nat.le_trans h.size hg.size, fun k hk h1 h2 h3 => (hg.block k (Nat.lt_of_lt_of_le hk h.size) (fun e => by rcases hr with hr | hr; exact h2 (by rw [← hr, e]); exact h3 (by rw [← hr, e]))).trans (h.block k hk h1 h2 h3)⟩
theorem Fr3.set {X : Nat} {vl wv : Value} {W wx : World} (h : Fr3 X vl wv W wx) (hX : X < W.heap.size) (i : Nat) (v : Value) : Fr3 X vl wv W (wx.setCell ⟨X, i, none⟩ v) :=
  ⟨h.os, h.tape, h.output, by have := h.size; simpa using this, fun k hk h1 h2 h3 => (Below.heap_setCell _ _ _ _ h1).trans (h.block k hk h1 h2 h3)⟩
theorem OwnAt.grow {w w' : World} {b : Nat} {cs : List Value} {T : TypeId} (h : OwnAt w b cs T) {row : Option Nat} (hg : w.grownBy w' row) (hr : row ≠ some b) : OwnAt w' b cs T := (hg.block b h.lt (fun e => hr e.symm)).trans h
theorem RwOwn.set {α : Type} {e : TypeId} {cf : α → List Value} {k : Nat} {w : World} {base : Nat} {L : List α} {v : Value} (h : RwOwn e cf k w base L v) {b : Nat} (hb : v.ownBlock ≠ some b) (i : Nat) (x : Value) : RwOwn e cf k (w.setCell ⟨b, i, none⟩ x) base L v := by
  refine World.ownsRow.kept h (row := some b) ⟨rfl, rfl, rfl, by simp, fun j hj hne => Below.heap_setCell _ _ _ _ (fun e => hne (by rw [e]))⟩ (.inr hb)
section
variable (w : World) {o : Oper} {a : Act} {K : Act → World → Prop} {Q : Exit → Act → World → Prop}
theorem wp_rsnoc {α : Type} (s x : Operand) (t : TypeId) (ho : o.op = .call { callee := .builtin .append, args := #[s, x], argTypes := #[t, t] })
    (e : TypeId) (ht : Tryz.prog.underlying t = some (.slice e)) (z : Value) (k bytes : Nat) (hinfo : (Tryz.prog.info? e).map (fun i => (i.zero, i.size, i.bytes)) = some (some z, k, bytes)) (hzs : z.cells.size = k) (hk : 0 < k)
    (cf : α → List Value) (hf : ∀ x, (cf x).length = k) (h1 : ∀ x u, u ∈ cf x → u.oneCell' = true)
    (base : Nat) (L : List α) (v : Value) (hs : a.eval s = v) (hown : RwOwn e cf k w base L v) (y : α) (b c : Nat) (hx : a.eval x = .slice (some ⟨b, 0, none⟩) 1 c) (hnew : OwnAt w b (cf y) e)
    (hlen : (L.length + 1) * bytes ≤ 140737488355328) (hl2 : L.length + 1 ≤ 140737488355328) (hbase : base ≤ w.heap.size)
    (h : ∀ g cap w', RwOwn e cf k w' base (L ++ [y]) (.slice (some ⟨g, 0, none⟩) (L.length + 1) cap) → w.grownBy w' v.ownBlock → (v.ownBlock = some g ∨ g = w.heap.size) → g < w'.heap.size → K (a.put o.dst (.slice (some ⟨g, 0, none⟩) (L.length + 1) cap)) w') : o.wp Tryz.prog a w K Q := by
  obtain ⟨i0, hi, hz0, hz1, hz2⟩ := info_parts hinfo
  refine wp_append_lies (P := Tryz.prog) w s x t ho base e i0 z k bytes ht hi hz0 hz1 hz2 hzs hk v L.length (L.flatMap cf) hs hown ⟨b, 0, none⟩ 1 c (cf y) hx (by rw [hf, Nat.one_mul]) ?_ (h1 y) (by decide) (by unfold maxLen; omega) hlen hbase _ rfl ?_
  · intro j u hu
    have h2 : (⟨b, 0, none⟩ : Addr).add j = ⟨b, j, none⟩ := by unfold Addr.add; split <;> simp_all
    rw [h2]; exact hnew.at j u hu
  · intro g cap w' hown' hg hat hlt
    refine h g cap w' ?_ hg hat hlt
    unfold RwOwn
    simpa using hown'
theorem wp_lnSnoc (s x : Operand) (ho : o.op = .call { callee := .builtin .append, args := #[s, x], argTypes := #[22, 22] })
    (base : Nat) (L : List Ln) (v : Value) (hs : a.eval s = v) (hown : LnsOwn w base L v) (y : Ln) (b c : Nat) (hx : a.eval x = .slice (some ⟨b, 0, none⟩) 1 c) (hnew : OwnAt w b (lnCells y) 48)
    (hlen : L.length ≤ 1000000) (hbase : base ≤ w.heap.size)
    (h : ∀ g cap w', LnsOwn w' base (L ++ [y]) (.slice (some ⟨g, 0, none⟩) (L.length + 1) cap) → w.grownBy w' v.ownBlock → (v.ownBlock = some g ∨ g = w.heap.size) → g < w'.heap.size → K (a.put o.dst (.slice (some ⟨g, 0, none⟩) (L.length + 1) cap)) w') : o.wp Tryz.prog a w K Q :=
  wp_rsnoc w s x _ ho 48 Tryz.underlying22 _ 7 72 infoLn rfl (by decide) lnCells lnCells_len lnCells_one base L v hs hown y b c hx hnew (by omega) (by omega) hbase h
theorem wp_numSnoc (s x : Operand) (ho : o.op = .call { callee := .builtin .append, args := #[s, x], argTypes := #[29, 29] })
    (base : Nat) (L : List Int) (v : Value) (hs : a.eval s = v) (hown : NumsOwn w base L v) (y : Int) (b c : Nat) (hx : a.eval x = .slice (some ⟨b, 0, none⟩) 1 c) (hnew : OwnAt w b (intCells y) 3)
    (hlen : L.length ≤ 1000000) (hbase : base ≤ w.heap.size)
    (h : ∀ g cap w', NumsOwn w' base (L ++ [y]) (.slice (some ⟨g, 0, none⟩) (L.length + 1) cap) → w.grownBy w' v.ownBlock → (v.ownBlock = some g ∨ g = w.heap.size) → g < w'.heap.size → K (a.put o.dst (.slice (some ⟨g, 0, none⟩) (L.length + 1) cap)) w') : o.wp Tryz.prog a w K Q :=
  wp_rsnoc w s x _ ho 3 Tryz.underlying29 _ 1 8 infoNum rfl (by decide) intCells intCells_len intCells_one base L v hs hown y b c hx hnew (by omega) (by omega) hbase h
theorem wp_arSnoc (s x : Operand) (ho : o.op = .call { callee := .builtin .append, args := #[s, x], argTypes := #[24, 24] })
    (base : Nat) (L : List Ar) (v : Value) (hs : a.eval s = v) (hown : ArwOwn w base L v) (y : Ar) (b c : Nat) (hx : a.eval x = .slice (some ⟨b, 0, none⟩) 1 c) (hnew : OwnAt w b (arCells y) 45)
    (hlen : L.length ≤ 1000000) (hbase : base ≤ w.heap.size)
    (h : ∀ g cap w', ArwOwn w' base (L ++ [y]) (.slice (some ⟨g, 0, none⟩) (L.length + 1) cap) → w.grownBy w' v.ownBlock → (v.ownBlock = some g ∨ g = w.heap.size) → g < w'.heap.size → K (a.put o.dst (.slice (some ⟨g, 0, none⟩) (L.length + 1) cap)) w') : o.wp Tryz.prog a w K Q :=
  wp_rsnoc w s x _ ho 45 Tryz.underlying24 _ 2 24 infoAr rfl (by decide) arCells arCells_len arCells_one base L v hs hown y b c hx hnew (by omega) (by omega) hbase h
end
structure VK8 (X LB : Nat) (va vl wv : Value) (ls : List Ln) (ns : List Int) (l : Ln) (n : Int) (base : Nat) (W : World) (L : Nat → Bool) (nb : Nat) (gn : Nat) (cn : Nat) (mb : Nat) (gm : Nat) (cm : Nat) (z45 z46 z47 z48 z49 z50 z51 z52 z53 z54 z55 z56 z57 z58 z59 z60 z61 z62 z63 z64 z65 z66 : Value) (wx : World) : Prop where
  ord : L 23 = true → ∀ j, j < 23 → L j = true
  p9_6 : L 9 = true → L 6 = true
  p9_8 : L 9 = true → L 8 = true
  p16_8 : L 16 = true → L 8 = true
  p16_9 : L 16 = true → L 9 = true
  p16_13 : L 16 = true → L 13 = true
  p16_15 : L 16 = true → L 15 = true
  p20_6 : L 20 = true → L 6 = true
  p20_8 : L 20 = true → L 8 = true
  p20_9 : L 20 = true → L 9 = true
  p20_13 : L 20 = true → L 13 = true
  p20_15 : L 20 = true → L 15 = true
  p20_16 : L 20 = true → L 16 = true
  p22_21 : L 22 = true → L 21 = true
  p23_9 : L 23 = true → L 9 = true
  p23_16 : L 23 = true → L 16 = true
  c0 : L 0 = true → z45 = .pointer (some ⟨X, 0, none⟩)
  c1 : L 1 = true → z46 = .pointer (some ⟨X, 0, none⟩)
  c2 : L 2 = true → z47 = .pointer (some ⟨X, 0, none⟩)
  c3 : L 3 = true → z48 = .pointer (some ⟨X, 0, none⟩)
  c4 : L 4 = true → z49 = .pointer (some ⟨X, 0, none⟩)
  c5 : L 5 = true → z50 = .pointer (some ⟨X, 1, none⟩)
  c6 : L 6 = true → z51 = vl
  c7 : L 7 = true → z52 = .agg #[.string (strOf l.label), .int .i64 l.ins.op, .int .i64 l.ins.d, .int .i64 l.ins.a, .int .i64 l.ins.b, .int .i64 l.ins.n, .string (strOf l.ins.name)]
  c8 : L 8 = true → z53 = .slice (some ⟨nb, 0, none⟩) 1 1
  c9 : L 9 = true → z54 = .slice (some ⟨gn, 0, none⟩) (ls.length + 1) cn
  c10 : L 10 = true → z55 = .pointer (some ⟨X, 0, none⟩)
  c11 : L 11 = true → z56 = .pointer (some ⟨X, 0, none⟩)
  c12 : L 12 = true → z57 = .pointer (some ⟨X, 2, none⟩)
  c13 : L 13 = true → z58 = wv
  c14 : L 14 = true → z59 = .int .i64 n
  c15 : L 15 = true → z60 = .slice (some ⟨mb, 0, none⟩) 1 1
  c16 : L 16 = true → z61 = .slice (some ⟨gm, 0, none⟩) (ns.length + 1) cm
  c17 : L 17 = true → z62 = .pointer (some ⟨X, 0, none⟩)
  c18 : L 18 = true → z63 = .pointer (some ⟨X, 0, none⟩)
  c19 : L 19 = true → z64 = .pointer (some ⟨X, 1, none⟩)
  c21 : L 21 = true → z65 = .pointer (some ⟨X, 0, none⟩)
  c22 : L 22 = true → z66 = .pointer (some ⟨X, 2, none⟩)
  fr : Fr3 X vl wv W wx
  x : L 20 = false → OwnAt wx X [va, vl, wv] 61
  x2 : L 20 = true → L 23 = false → OwnAt wx X [va, .slice (some ⟨gn, 0, none⟩) (ls.length + 1) cn, wv] 61
  x3 : L 23 = true → OwnAt wx X [va, .slice (some ⟨gn, 0, none⟩) (ls.length + 1) cn, .slice (some ⟨gm, 0, none⟩) (ns.length + 1) cm] 61
  lb : OwnAt wx LB (lnCells l) 48
  lo : L 9 = false → LnsOwn wx base ls vl
  wo : L 16 = false → NumsOwn wx base ns wv
  r8 : L 8 = true → L 9 = false → OwnAt wx nb (lnCells l) 48 ∧ W.heap.size ≤ nb
  r9 : L 9 = true → LnsOwn wx base (ls ++ [l]) (.slice (some ⟨gn, 0, none⟩) (ls.length + 1) cn) ∧ (vl.ownBlock = some gn ∨ W.heap.size ≤ gn)
  r15 : L 15 = true → L 16 = false → OwnAt wx mb (intCells n) 3 ∧ W.heap.size ≤ mb
  r16 : L 16 = true → NumsOwn wx base (ns ++ [n]) (.slice (some ⟨gm, 0, none⟩) (ns.length + 1) cm) ∧ (wv.ownBlock = some gm ∨ W.heap.size ≤ gm) ∧ gm ≠ gn
def IK8 (X LB : Nat) (va vl wv : Value) (ls : List Ln) (ns : List Int) (l : Ln) (n : Int) (base : Nat) (W : World) (q1 q3 q4 q5 q6 q7 q8 q10 q11 q12 q13 q14 q15 q16 q17 q18 q19 q20 q21 q22 q23 q24 q25 q26 q27 q28 q29 q30 q31 q32 q33 q34 q35 q36 q37 q38 q39 q40 q41 q42 q43 q44 q67 : Value) (L : Nat → Bool) (a' : Act) (w' : World) : Prop :=
  ∃ nb : Nat, ∃ gn : Nat, ∃ cn : Nat, ∃ mb : Nat, ∃ gm : Nat, ∃ cm : Nat, ∃ z45 z46 z47 z48 z49 z50 z51 z52 z53 z54 z55 z56 z57 z58 z59 z60 z61 z62 z63 z64 z65 z66 : Value, VK8 X LB va vl wv ls ns l n base W L nb gn cn mb gm cm z45 z46 z47 z48 z49 z50 z51 z52 z53 z54 z55 z56 z57 z58 z59 z60 z61 z62 z63 z64 z65 z66 w' ∧ a' = ⟨[.pointer (some ⟨X, 0, none⟩), q1, .int .i64 n, q3, q4, q5, q6, q7, q8, .pointer (some ⟨LB, 0, none⟩), q10, q11, q12, q13, q14, q15, q16, q17, q18, q19, q20, q21, q22, q23, q24, q25, q26, q27, q28, q29, q30, q31, q32, q33, q34, q35, q36, q37, q38, q39, q40, q41, q42, q43, q44, z45, z46, z47, z48, z49, z50, z51, z52, z53, z54, z55, z56, z57, z58, z59, z60, z61, z62, z63, z64, z65, z66, q67].toArray, []⟩
def RK8 (X LB : Nat) (va vl wv : Value) (ls : List Ln) (ns : List Int) (l : Ln) (n : Int) (base : Nat) (W : World) (q1 q3 q4 q5 q6 q7 q8 q10 q11 q12 q13 q14 q15 q16 q17 q18 q19 q20 q21 q22 q23 q24 q25 q26 q27 q28 q29 q30 q31 q32 q33 q34 q35 q36 q37 q38 q39 q40 q41 q42 q43 q44 q67 : Value) (a' : Act) (w' : World) : Prop :=
  ∃ nb : Nat, ∃ gn : Nat, ∃ cn : Nat, ∃ mb : Nat, ∃ gm : Nat, ∃ cm : Nat, ((Fr3 X vl wv W w') ∧ (OwnAt w' X [va, .slice (some ⟨gn, 0, none⟩) (ls.length + 1) cn, .slice (some ⟨gm, 0, none⟩) (ns.length + 1) cm] 61) ∧ (OwnAt w' LB (lnCells l) 48) ∧ (LnsOwn w' base (ls ++ [l]) (.slice (some ⟨gn, 0, none⟩) (ls.length + 1) cn) ∧ (vl.ownBlock = some gn ∨ W.heap.size ≤ gn)) ∧ (NumsOwn w' base (ns ++ [n]) (.slice (some ⟨gm, 0, none⟩) (ns.length + 1) cm) ∧ (wv.ownBlock = some gm ∨ W.heap.size ≤ gm) ∧ gm ≠ gn)) ∧ a' = ⟨[.pointer (some ⟨X, 0, none⟩), q1, .int .i64 n, q3, q4, q5, q6, q7, q8, .pointer (some ⟨LB, 0, none⟩), q10, q11, q12, q13, q14, q15, q16, q17, q18, q19, q20, q21, q22, q23, q24, q25, q26, q27, q28, q29, q30, q31, q32, q33, q34, q35, q36, q37, q38, q39, q40, q41, q42, q43, q44, .pointer (some ⟨X, 0, none⟩), .pointer (some ⟨X, 0, none⟩), .pointer (some ⟨X, 0, none⟩), .pointer (some ⟨X, 0, none⟩), .pointer (some ⟨X, 0, none⟩), .pointer (some ⟨X, 1, none⟩), vl, .agg #[.string (strOf l.label), .int .i64 l.ins.op, .int .i64 l.ins.d, .int .i64 l.ins.a, .int .i64 l.ins.b, .int .i64 l.ins.n, .string (strOf l.ins.name)], .slice (some ⟨nb, 0, none⟩) 1 1, .slice (some ⟨gn, 0, none⟩) (ls.length + 1) cn, .pointer (some ⟨X, 0, none⟩), .pointer (some ⟨X, 0, none⟩), .pointer (some ⟨X, 2, none⟩), wv, .int .i64 n, .slice (some ⟨mb, 0, none⟩) 1 1, .slice (some ⟨gm, 0, none⟩) (ns.length + 1) cm, .pointer (some ⟨X, 0, none⟩), .pointer (some ⟨X, 0, none⟩), .pointer (some ⟨X, 1, none⟩), .pointer (some ⟨X, 0, none⟩), .pointer (some ⟨X, 2, none⟩), q67].toArray, []⟩
theorem reg_K8 (X LB : Nat) (va vl wv : Value) (ls : List Ln) (ns : List Int) (l : Ln) (n : Int) (base : Nat) (W : World) (hx0 : OwnAt W X [va, vl, wv] 61) (hlb : OwnAt W LB (lnCells l) 48) (hXL : X ≠ LB) (hlo : LnsOwn W base ls vl) (hwo : NumsOwn W base ns wv) (hvX : vl.ownBlock ≠ some X) (hwX : wv.ownBlock ≠ some X) (hvL : vl.ownBlock ≠ some LB) (hwL : wv.ownBlock ≠ some LB) (hsep : ∀ g, vl.ownBlock = some g → wv.ownBlock ≠ some g) (hll : ls.length ≤ 1000000) (hnl : ns.length ≤ 1000000) (hbase : base ≤ W.heap.size) (q1 q3 q4 q5 q6 q7 q8 q10 q11 q12 q13 q14 q15 q16 q17 q18 q19 q20 q21 q22 q23 q24 q25 q26 q27 q28 q29 q30 q31 q32 q33 q34 q35 q36 q37 q38 q39 q40 q41 q42 q43 q44 q45 q46 q47 q48 q49 q50 q51 q52 q53 q54 q55 q56 q57 q58 q59 q60 q61 q62 q63 q64 q65 q66 q67 : Value) (J K' : Act → World → Prop) (hJ : ∀ a' w', RK8 X LB va vl wv ls ns l n base W q1 q3 q4 q5 q6 q7 q8 q10 q11 q12 q13 q14 q15 q16 q17 q18 q19 q20 q21 q22 q23 q24 q25 q26 q27 q28 q29 q30 q31 q32 q33 q34 q35 q36 q37 q38 q39 q40 q41 q42 q43 q44 q67 a' w' → J a' w') (hM : ∀ a' w', Met J a' w' → K' a' w') :
    Code.wp Tryz.prog ((Tryz.f21.body.bind (regOf 8)).getD .skip) (Exit.then K' (fun _ _ _ => False)) ⟨[.pointer (some ⟨X, 0, none⟩), q1, .int .i64 n, q3, q4, q5, q6, q7, q8, .pointer (some ⟨LB, 0, none⟩), q10, q11, q12, q13, q14, q15, q16, q17, q18, q19, q20, q21, q22, q23, q24, q25, q26, q27, q28, q29, q30, q31, q32, q33, q34, q35, q36, q37, q38, q39, q40, q41, q42, q43, q44, q45, q46, q47, q48, q49, q50, q51, q52, q53, q54, q55, q56, q57, q58, q59, q60, q61, q62, q63, q64, q65, q66, q67].toArray, []⟩ W := by
  have hXl : X < W.heap.size := hx0.lt
  have hLl : LB < W.heap.size := hlb.lt
  have hvl : ∀ g, vl.ownBlock = some g → g < W.heap.size := fun g h => (RwOwn.lt hlo g h).2
  have hwl : ∀ g, wv.ownBlock = some g → g < W.heap.size := fun g h => (RwOwn.lt hwo g h).2
  have HX0 := Lib.hid hx0; have HLB := Lib.hid hlb; have HLO := Lib.hid hlo; have HWO := Lib.hid hwo
  have HVX := Lib.hid hvX; have HWX := Lib.hid hwX; have HVL := Lib.hid hvL; have HWL := Lib.hid hwL; have HSEP := Lib.hid hsep
  have HVLT := Lib.hid hvl; have HWLT := Lib.hid hwl
  clear hx0 hlb hlo hwo hvX hwX hvL hwL hsep hvl hwl
  conv => arg 2; whnf
  dsimp only
  refine region_by (by kernel_rfl) (by kernel_rfl) (IK8 X LB va vl wv ls ns l n base W q1 q3 q4 q5 q6 q7 q8 q10 q11 q12 q13 q14 q15 q16 q17 q18 q19 q20 q21 q22 q23 q24 q25 q26 q27 q28 q29 q30 q31 q32 q33 q34 q35 q36 q37 q38 q39 q40 q41 q42 q43 q44 q67) ?_ ?_ ?_
  · exact ⟨0, 0, 0, 0, 0, 0, q45, q46, q47, q48, q49, q50, q51, q52, q53, q54, q55, q56, q57, q58, q59, q60, q61, q62, q63, q64, q65, q66, ⟨(fun h => by cases h), (fun h => by cases h), (fun h => by cases h), (fun h => by cases h), (fun h => by cases h), (fun h => by cases h), (fun h => by cases h), (fun h => by cases h), (fun h => by cases h), (fun h => by cases h), (fun h => by cases h), (fun h => by cases h), (fun h => by cases h), (fun h => by cases h), (fun h => by cases h), (fun h => by cases h), (fun h => by cases h), (fun h => by cases h), (fun h => by cases h), (fun h => by cases h), (fun h => by cases h), (fun h => by cases h), (fun h => by cases h), (fun h => by cases h), (fun h => by cases h), (fun h => by cases h), (fun h => by cases h), (fun h => by cases h), (fun h => by cases h), (fun h => by cases h), (fun h => by cases h), (fun h => by cases h), (fun h => by cases h), (fun h => by cases h), (fun h => by cases h), (fun h => by cases h), (fun h => by cases h), (fun h => by cases h), (Fr3.old (Fr3.refl _ _ _ _) (Below.refl _ _).drew), (fun _ => HX0.out.old (Below.refl _ _).drew), (fun h => fun _ => by cases h), (fun h => by cases h), (HLB.out.old (Below.refl _ _).drew), (fun _ => RwOwn.old HLO.out (Below.refl _ _).drew), (fun _ => RwOwn.old HWO.out (Below.refl _ _).drew), (fun h => fun _ => by cases h), (fun h => by cases h), (fun h => fun _ => by cases h), (fun h => by cases h)⟩, rfl⟩
  · intro L act wx k hI hk hl hd
    obtain ⟨nb, gn, cn, mb, gm, cm, z45, z46, z47, z48, z49, z50, z51, z52, z53, z54, z55, z56, z57, z58, z59, z60, z61, z62, z63, z64, z65, z66, hV, rfl⟩ := hI
    have hk : k = 0 ∨ k = 1 ∨ k = 2 ∨ k = 3 ∨ k = 4 ∨ k = 5 ∨ k = 6 ∨ k = 7 ∨ k = 8 ∨ k = 9 ∨ k = 10 ∨ k = 11 ∨ k = 12 ∨ k = 13 ∨ k = 14 ∨ k = 15 ∨ k = 16 ∨ k = 17 ∨ k = 18 ∨ k = 19 ∨ k = 20 ∨ k = 21 ∨ k = 22 ∨ k = 23 := by
      have : k < 24 := hk
      omega
    rcases hk with rfl | rfl | rfl | rfl | rfl | rfl | rfl | rfl | rfl | rfl | rfl | rfl | rfl | rfl | rfl | rfl | rfl | rfl | rfl | rfl | rfl | rfl | rfl | rfl
    · have nl := kf hV.ord hl
      refine op_at _ rfl rfl (fun K' hK => ?_)
      conv => arg 2; whnf
      go_wp2_with fail
      exact ⟨nb, gn, cn, mb, gm, cm, .pointer (some ⟨X, 0, none⟩), z46, z47, z48, z49, z50, z51, z52, z53, z54, z55, z56, z57, z58, z59, z60, z61, z62, z63, z64, z65, z66, ⟨(kl nl), (kq hV.p9_6), (kq hV.p9_8), (kq hV.p16_8), (kq hV.p16_9), (kq hV.p16_13), (kq hV.p16_15), (kq hV.p20_6), (kq hV.p20_8), (kq hV.p20_9), (kq hV.p20_13), (kq hV.p20_15), (kq hV.p20_16), (kq hV.p22_21), (kq hV.p23_9), (kq hV.p23_16), (fun _ => rfl), (kc hV.c1), (kc hV.c2), (kc hV.c3), (kc hV.c4), (kc hV.c5), (kc hV.c6), (kc hV.c7), (kc hV.c8), (kc hV.c9), (kc hV.c10), (kc hV.c11), (kc hV.c12), (kc hV.c13), (kc hV.c14), (kc hV.c15), (kc hV.c16), (kc hV.c17), (kc hV.c18), (kc hV.c19), (kc hV.c21), (kc hV.c22), hV.fr, (fun h0 => hV.x (kb h0)), (fun h0 => fun h1 => hV.x2 (kb h0) (kb h1)), (kl nl), hV.lb, (fun h0 => hV.lo (kb h0)), (fun h0 => hV.wo (kb h0)), (fun h0 => fun h1 => hV.r8 (kb h0) (kb h1)), (kc hV.r9), (fun h0 => fun h1 => hV.r15 (kb h0) (kb h1)), (kc hV.r16)⟩, rfl⟩
    · have nl := kf hV.ord hl
      refine op_at _ rfl rfl (fun K' hK => ?_)
      conv => arg 2; whnf
      go_wp2_with fail
      exact ⟨nb, gn, cn, mb, gm, cm, z45, .pointer (some ⟨X, 0, none⟩), z47, z48, z49, z50, z51, z52, z53, z54, z55, z56, z57, z58, z59, z60, z61, z62, z63, z64, z65, z66, ⟨(kl nl), (kq hV.p9_6), (kq hV.p9_8), (kq hV.p16_8), (kq hV.p16_9), (kq hV.p16_13), (kq hV.p16_15), (kq hV.p20_6), (kq hV.p20_8), (kq hV.p20_9), (kq hV.p20_13), (kq hV.p20_15), (kq hV.p20_16), (kq hV.p22_21), (kq hV.p23_9), (kq hV.p23_16), (kc hV.c0), (fun _ => rfl), (kc hV.c2), (kc hV.c3), (kc hV.c4), (kc hV.c5), (kc hV.c6), (kc hV.c7), (kc hV.c8), (kc hV.c9), (kc hV.c10), (kc hV.c11), (kc hV.c12), (kc hV.c13), (kc hV.c14), (kc hV.c15), (kc hV.c16), (kc hV.c17), (kc hV.c18), (kc hV.c19), (kc hV.c21), (kc hV.c22), hV.fr, (fun h0 => hV.x (kb h0)), (fun h0 => fun h1 => hV.x2 (kb h0) (kb h1)), (kl nl), hV.lb, (fun h0 => hV.lo (kb h0)), (fun h0 => hV.wo (kb h0)), (fun h0 => fun h1 => hV.r8 (kb h0) (kb h1)), (kc hV.r9), (fun h0 => fun h1 => hV.r15 (kb h0) (kb h1)), (kc hV.r16)⟩, rfl⟩
    · have nl := kf hV.ord hl
      refine op_at _ rfl rfl (fun K' hK => ?_)
      conv => arg 2; whnf
      go_wp2_with fail
      exact ⟨nb, gn, cn, mb, gm, cm, z45, z46, .pointer (some ⟨X, 0, none⟩), z48, z49, z50, z51, z52, z53, z54, z55, z56, z57, z58, z59, z60, z61, z62, z63, z64, z65, z66, ⟨(kl nl), (kq hV.p9_6), (kq hV.p9_8), (kq hV.p16_8), (kq hV.p16_9), (kq hV.p16_13), (kq hV.p16_15), (kq hV.p20_6), (kq hV.p20_8), (kq hV.p20_9), (kq hV.p20_13), (kq hV.p20_15), (kq hV.p20_16), (kq hV.p22_21), (kq hV.p23_9), (kq hV.p23_16), (kc hV.c0), (kc hV.c1), (fun _ => rfl), (kc hV.c3), (kc hV.c4), (kc hV.c5), (kc hV.c6), (kc hV.c7), (kc hV.c8), (kc hV.c9), (kc hV.c10), (kc hV.c11), (kc hV.c12), (kc hV.c13), (kc hV.c14), (kc hV.c15), (kc hV.c16), (kc hV.c17), (kc hV.c18), (kc hV.c19), (kc hV.c21), (kc hV.c22), hV.fr, (fun h0 => hV.x (kb h0)), (fun h0 => fun h1 => hV.x2 (kb h0) (kb h1)), (kl nl), hV.lb, (fun h0 => hV.lo (kb h0)), (fun h0 => hV.wo (kb h0)), (fun h0 => fun h1 => hV.r8 (kb h0) (kb h1)), (kc hV.r9), (fun h0 => fun h1 => hV.r15 (kb h0) (kb h1)), (kc hV.r16)⟩, rfl⟩
    · have nl := kf hV.ord hl
      have d2 : L 2 = true := hd _ rfl ⟨2, .data⟩ (by simp) rfl
      obtain rfl := (hV.c2 d2).symm
      refine op_at _ rfl rfl (fun K' hK => ?_)
      conv => arg 2; whnf
      go_wp2_with fail
      exact ⟨nb, gn, cn, mb, gm, cm, z45, z46, .pointer (some ⟨X, 0, none⟩), .pointer (some ⟨X, 0, none⟩), z49, z50, z51, z52, z53, z54, z55, z56, z57, z58, z59, z60, z61, z62, z63, z64, z65, z66, ⟨(kl nl), (kq hV.p9_6), (kq hV.p9_8), (kq hV.p16_8), (kq hV.p16_9), (kq hV.p16_13), (kq hV.p16_15), (kq hV.p20_6), (kq hV.p20_8), (kq hV.p20_9), (kq hV.p20_13), (kq hV.p20_15), (kq hV.p20_16), (kq hV.p22_21), (kq hV.p23_9), (kq hV.p23_16), (kc hV.c0), (kc hV.c1), (kc hV.c2), (fun _ => rfl), (kc hV.c4), (kc hV.c5), (kc hV.c6), (kc hV.c7), (kc hV.c8), (kc hV.c9), (kc hV.c10), (kc hV.c11), (kc hV.c12), (kc hV.c13), (kc hV.c14), (kc hV.c15), (kc hV.c16), (kc hV.c17), (kc hV.c18), (kc hV.c19), (kc hV.c21), (kc hV.c22), hV.fr, (fun h0 => hV.x (kb h0)), (fun h0 => fun h1 => hV.x2 (kb h0) (kb h1)), (kl nl), hV.lb, (fun h0 => hV.lo (kb h0)), (fun h0 => hV.wo (kb h0)), (fun h0 => fun h1 => hV.r8 (kb h0) (kb h1)), (kc hV.r9), (fun h0 => fun h1 => hV.r15 (kb h0) (kb h1)), (kc hV.r16)⟩, rfl⟩
    · have nl := kf hV.ord hl
      have d3 : L 3 = true := hd _ rfl ⟨3, .data⟩ (by simp) rfl
      obtain rfl := (hV.c3 d3).symm
      refine op_at _ rfl rfl (fun K' hK => ?_)
      conv => arg 2; whnf
      go_wp2_with fail
      exact ⟨nb, gn, cn, mb, gm, cm, z45, z46, z47, .pointer (some ⟨X, 0, none⟩), .pointer (some ⟨X, 0, none⟩), z50, z51, z52, z53, z54, z55, z56, z57, z58, z59, z60, z61, z62, z63, z64, z65, z66, ⟨(kl nl), (kq hV.p9_6), (kq hV.p9_8), (kq hV.p16_8), (kq hV.p16_9), (kq hV.p16_13), (kq hV.p16_15), (kq hV.p20_6), (kq hV.p20_8), (kq hV.p20_9), (kq hV.p20_13), (kq hV.p20_15), (kq hV.p20_16), (kq hV.p22_21), (kq hV.p23_9), (kq hV.p23_16), (kc hV.c0), (kc hV.c1), (kc hV.c2), (kc hV.c3), (fun _ => rfl), (kc hV.c5), (kc hV.c6), (kc hV.c7), (kc hV.c8), (kc hV.c9), (kc hV.c10), (kc hV.c11), (kc hV.c12), (kc hV.c13), (kc hV.c14), (kc hV.c15), (kc hV.c16), (kc hV.c17), (kc hV.c18), (kc hV.c19), (kc hV.c21), (kc hV.c22), hV.fr, (fun h0 => hV.x (kb h0)), (fun h0 => fun h1 => hV.x2 (kb h0) (kb h1)), (kl nl), hV.lb, (fun h0 => hV.lo (kb h0)), (fun h0 => hV.wo (kb h0)), (fun h0 => fun h1 => hV.r8 (kb h0) (kb h1)), (kc hV.r9), (fun h0 => fun h1 => hV.r15 (kb h0) (kb h1)), (kc hV.r16)⟩, rfl⟩
    · have nl := kf hV.ord hl
      have d4 : L 4 = true := hd _ rfl ⟨4, .data⟩ (by simp) rfl
      obtain rfl := (hV.c4 d4).symm
      refine op_at _ rfl rfl (fun K' hK => ?_)
      conv => arg 2; whnf
      go_wp2_with fail
      exact ⟨nb, gn, cn, mb, gm, cm, z45, z46, z47, z48, .pointer (some ⟨X, 0, none⟩), .pointer (some ⟨X, 1, none⟩), z51, z52, z53, z54, z55, z56, z57, z58, z59, z60, z61, z62, z63, z64, z65, z66, ⟨(kl nl), (kq hV.p9_6), (kq hV.p9_8), (kq hV.p16_8), (kq hV.p16_9), (kq hV.p16_13), (kq hV.p16_15), (kq hV.p20_6), (kq hV.p20_8), (kq hV.p20_9), (kq hV.p20_13), (kq hV.p20_15), (kq hV.p20_16), (kq hV.p22_21), (kq hV.p23_9), (kq hV.p23_16), (kc hV.c0), (kc hV.c1), (kc hV.c2), (kc hV.c3), (kc hV.c4), (fun _ => rfl), (kc hV.c6), (kc hV.c7), (kc hV.c8), (kc hV.c9), (kc hV.c10), (kc hV.c11), (kc hV.c12), (kc hV.c13), (kc hV.c14), (kc hV.c15), (kc hV.c16), (kc hV.c17), (kc hV.c18), (kc hV.c19), (kc hV.c21), (kc hV.c22), hV.fr, (fun h0 => hV.x (kb h0)), (fun h0 => fun h1 => hV.x2 (kb h0) (kb h1)), (kl nl), hV.lb, (fun h0 => hV.lo (kb h0)), (fun h0 => hV.wo (kb h0)), (fun h0 => fun h1 => hV.r8 (kb h0) (kb h1)), (kc hV.r9), (fun h0 => fun h1 => hV.r15 (kb h0) (kb h1)), (kc hV.r16)⟩, rfl⟩
    · have nl := kf hV.ord hl
      have d5 : L 5 = true := hd _ rfl ⟨5, .data⟩ (by simp) rfl
      obtain rfl := (hV.c5 d5).symm
      have n20 : L 20 = false := by
        cases h : L 20 with
        | false => rfl
        | true => have := hV.p20_6 h; rw [hl] at this; cases this
      have ho := hV.x n20
      have x1 := ho.at 1 _ rfl
      refine op_at _ rfl rfl (fun K' hK => ?_)
      conv => arg 2; whnf
      go_wp2_with fail
      exact ⟨nb, gn, cn, mb, gm, cm, z45, z46, z47, z48, z49, .pointer (some ⟨X, 1, none⟩), vl, z52, z53, z54, z55, z56, z57, z58, z59, z60, z61, z62, z63, z64, z65, z66, ⟨(kl nl), (fun _ => upd_same L 6), (kq hV.p9_8), (kq hV.p16_8), (kq hV.p16_9), (kq hV.p16_13), (kq hV.p16_15), (fun _ => upd_same L 6), (kq hV.p20_8), (kq hV.p20_9), (kq hV.p20_13), (kq hV.p20_15), (kq hV.p20_16), (kq hV.p22_21), (kq hV.p23_9), (kq hV.p23_16), (kc hV.c0), (kc hV.c1), (kc hV.c2), (kc hV.c3), (kc hV.c4), (kc hV.c5), (fun _ => rfl), (kc hV.c7), (kc hV.c8), (kc hV.c9), (kc hV.c10), (kc hV.c11), (kc hV.c12), (kc hV.c13), (kc hV.c14), (kc hV.c15), (kc hV.c16), (kc hV.c17), (kc hV.c18), (kc hV.c19), (kc hV.c21), (kc hV.c22), hV.fr, (fun h0 => hV.x (kb h0)), (fun h0 => fun h1 => hV.x2 (kb h0) (kb h1)), (kl nl), hV.lb, (fun h0 => hV.lo (kb h0)), (fun h0 => hV.wo (kb h0)), (fun h0 => fun h1 => hV.r8 (kb h0) (kb h1)), (kc hV.r9), (fun h0 => fun h1 => hV.r15 (kb h0) (kb h1)), (kc hV.r16)⟩, rfl⟩
    · have nl := kf hV.ord hl
      have ho := hV.lb
      have y0 := ho.at 0 _ rfl
      have y1 := ho.at 1 _ rfl
      have y2 := ho.at 2 _ rfl
      have y3 := ho.at 3 _ rfl
      have y4 := ho.at 4 _ rfl
      have y5 := ho.at 5 _ rfl
      have y6 := ho.at 6 _ rfl
      refine op_at _ rfl rfl (fun K' hK => ?_)
      conv => arg 2; whnf
      go_wp2_with fail
      exact ⟨nb, gn, cn, mb, gm, cm, z45, z46, z47, z48, z49, z50, z51, .agg #[.string (strOf l.label), .int .i64 l.ins.op, .int .i64 l.ins.d, .int .i64 l.ins.a, .int .i64 l.ins.b, .int .i64 l.ins.n, .string (strOf l.ins.name)], z53, z54, z55, z56, z57, z58, z59, z60, z61, z62, z63, z64, z65, z66, ⟨(kl nl), (kq hV.p9_6), (kq hV.p9_8), (kq hV.p16_8), (kq hV.p16_9), (kq hV.p16_13), (kq hV.p16_15), (kq hV.p20_6), (kq hV.p20_8), (kq hV.p20_9), (kq hV.p20_13), (kq hV.p20_15), (kq hV.p20_16), (kq hV.p22_21), (kq hV.p23_9), (kq hV.p23_16), (kc hV.c0), (kc hV.c1), (kc hV.c2), (kc hV.c3), (kc hV.c4), (kc hV.c5), (kc hV.c6), (fun _ => rfl), (kc hV.c8), (kc hV.c9), (kc hV.c10), (kc hV.c11), (kc hV.c12), (kc hV.c13), (kc hV.c14), (kc hV.c15), (kc hV.c16), (kc hV.c17), (kc hV.c18), (kc hV.c19), (kc hV.c21), (kc hV.c22), hV.fr, (fun h0 => hV.x (kb h0)), (fun h0 => fun h1 => hV.x2 (kb h0) (kb h1)), (kl nl), hV.lb, (fun h0 => hV.lo (kb h0)), (fun h0 => hV.wo (kb h0)), (fun h0 => fun h1 => hV.r8 (kb h0) (kb h1)), (kc hV.r9), (fun h0 => fun h1 => hV.r15 (kb h0) (kb h1)), (kc hV.r16)⟩, rfl⟩
    · have nl := kf hV.ord hl
      have d7 : L 7 = true := hd _ rfl ⟨7, .data⟩ (by simp) rfl
      obtain rfl := (hV.c7 d7).symm
      have hal : Below wx.heap.size wx (wx.alloc (.cells #[.string (strOf l.label), .int .i64 l.ins.op, .int .i64 l.ins.d, .int .i64 l.ins.a, .int .i64 l.ins.b, .int .i64 l.ins.n, .string (strOf l.ins.name)] 48)) := (Below.refl _ _).alloc (Nat.le_refl _) _
      have hfs := hV.fr.size
      refine op_at _ rfl rfl (fun K' hK => ?_)
      conv => arg 2; whnf
      go_wp2_with fail
      exact ⟨wx.heap.size, gn, cn, mb, gm, cm, z45, z46, z47, z48, z49, z50, z51, .agg #[.string (strOf l.label), .int .i64 l.ins.op, .int .i64 l.ins.d, .int .i64 l.ins.a, .int .i64 l.ins.b, .int .i64 l.ins.n, .string (strOf l.ins.name)], .slice (some ⟨(wx.heap.size), 0, none⟩) 1 1, z54, z55, z56, z57, z58, z59, z60, z61, z62, z63, z64, z65, z66, ⟨(kl nl), (kq hV.p9_6), (fun _ => upd_same L 8), (fun _ => upd_same L 8), (kq hV.p16_9), (kq hV.p16_13), (kq hV.p16_15), (kq hV.p20_6), (fun _ => upd_same L 8), (kq hV.p20_9), (kq hV.p20_13), (kq hV.p20_15), (kq hV.p20_16), (kq hV.p22_21), (kq hV.p23_9), (kq hV.p23_16), (kc hV.c0), (kc hV.c1), (kc hV.c2), (kc hV.c3), (kc hV.c4), (kc hV.c5), (kc hV.c6), (kc hV.c7), (fun _ => rfl), (kc hV.c9), (kc hV.c10), (kc hV.c11), (kc hV.c12), (kc hV.c13), (kc hV.c14), (kc hV.c15), (kc hV.c16), (kc hV.c17), (kc hV.c18), (kc hV.c19), (kc hV.c21), (kc hV.c22), (Fr3.old (hV.fr) hal), (fun h0 => OwnAt.old (hV.x (kb h0)) hal), (kn hV.p20_8 hl), (kl nl), (OwnAt.old (hV.lb) hal), (fun h0 => RwOwn.old (hV.lo (kb h0)) hal), (fun h0 => RwOwn.old (hV.wo (kb h0)) hal), (fun _ _ => ⟨OwnAt.new wx (lnCells l) 48, hfs⟩), (kn hV.p9_8 hl), (fun h0 => fun h1 => ⟨OwnAt.old (And.left (hV.r15 (kb h0) (kb h1))) hal, And.right (hV.r15 (kb h0) (kb h1))⟩), (kn hV.p16_8 hl)⟩, rfl⟩
    · have nl := kf hV.ord hl
      have d6 : L 6 = true := hd _ rfl ⟨6, .data⟩ (by simp) rfl
      obtain rfl := (hV.c6 d6).symm
      have d8 : L 8 = true := hd _ rfl ⟨8, .data⟩ (by simp) rfl
      obtain rfl := (hV.c8 d8).symm
      have n20 : L 20 = false := by
        cases h : L 20 with
        | false => rfl
        | true => have := hV.p20_9 h; rw [hl] at this; cases this
      have hr8 := hV.r8 d8 hl
      have hlo := hV.lo hl
      have hfs := hV.fr.size
      refine op_at _ rfl rfl (fun K' hK => ?_)
      conv => arg 2; whnf
      refine wp_lnSnoc wx _ _ rfl base ls vl rfl hlo l nb 1 rfl hr8.1 hll (Nat.le_trans hbase hfs) ?_
      intro g2 cap2 w2 hr2 hg2 ha2 hl2
      go_wp2_with fail
      exact ⟨nb, g2, cap2, mb, gm, cm, z45, z46, z47, z48, z49, z50, vl, z52, .slice (some ⟨nb, 0, none⟩) 1 1, .slice (some ⟨(g2), 0, none⟩) (ls.length + 1) (cap2), z55, z56, z57, z58, z59, z60, z61, z62, z63, z64, z65, z66, ⟨(kl nl), (kd (d6)), (kd (d8)), (kq hV.p16_8), (fun _ => upd_same L 9), (kq hV.p16_13), (kq hV.p16_15), (kq hV.p20_6), (kq hV.p20_8), (fun _ => upd_same L 9), (kq hV.p20_13), (kq hV.p20_15), (kq hV.p20_16), (kq hV.p22_21), (fun _ => upd_same L 9), (kq hV.p23_16), (kc hV.c0), (kc hV.c1), (kc hV.c2), (kc hV.c3), (kc hV.c4), (kc hV.c5), (kc hV.c6), (kc hV.c7), (kc hV.c8), (fun _ => rfl), (kc hV.c10), (kc hV.c11), (kc hV.c12), (kc hV.c13), (kc hV.c14), (kc hV.c15), (kc hV.c16), (kc hV.c17), (kc hV.c18), (kc hV.c19), (kc hV.c21), (kc hV.c22), (hV.fr.grown hg2 (.inl rfl)), (fun _ => (hV.x n20).grow hg2 HVX.out), (kn hV.p20_9 hl), (kl nl), (hV.lb.grow hg2 HVL.out), (ks), (fun h => RwOwn.grown (hV.wo (kb h)) hg2 (own_apart HSEP.out)), (fun _ => ks), (fun _ => ⟨hr2, by rcases ha2 with h | h; exact .inl h; exact .inr (by rw [h]; exact hfs)⟩), (fun h h2 => by obtain ⟨q1, q2⟩ := hV.r15 (kb h) (kb h2); exact ⟨q1.grow hg2 (fun e => by have := HVLT.out _ e; omega), q2⟩), (kn hV.p16_9 hl)⟩, rfl⟩
    · have nl := kf hV.ord hl
      refine op_at _ rfl rfl (fun K' hK => ?_)
      conv => arg 2; whnf
      go_wp2_with fail
      exact ⟨nb, gn, cn, mb, gm, cm, z45, z46, z47, z48, z49, z50, z51, z52, z53, z54, .pointer (some ⟨X, 0, none⟩), z56, z57, z58, z59, z60, z61, z62, z63, z64, z65, z66, ⟨(kl nl), (kq hV.p9_6), (kq hV.p9_8), (kq hV.p16_8), (kq hV.p16_9), (kq hV.p16_13), (kq hV.p16_15), (kq hV.p20_6), (kq hV.p20_8), (kq hV.p20_9), (kq hV.p20_13), (kq hV.p20_15), (kq hV.p20_16), (kq hV.p22_21), (kq hV.p23_9), (kq hV.p23_16), (kc hV.c0), (kc hV.c1), (kc hV.c2), (kc hV.c3), (kc hV.c4), (kc hV.c5), (kc hV.c6), (kc hV.c7), (kc hV.c8), (kc hV.c9), (fun _ => rfl), (kc hV.c11), (kc hV.c12), (kc hV.c13), (kc hV.c14), (kc hV.c15), (kc hV.c16), (kc hV.c17), (kc hV.c18), (kc hV.c19), (kc hV.c21), (kc hV.c22), hV.fr, (fun h0 => hV.x (kb h0)), (fun h0 => fun h1 => hV.x2 (kb h0) (kb h1)), (kl nl), hV.lb, (fun h0 => hV.lo (kb h0)), (fun h0 => hV.wo (kb h0)), (fun h0 => fun h1 => hV.r8 (kb h0) (kb h1)), (kc hV.r9), (fun h0 => fun h1 => hV.r15 (kb h0) (kb h1)), (kc hV.r16)⟩, rfl⟩
    · have nl := kf hV.ord hl
      have d10 : L 10 = true := hd _ rfl ⟨10, .data⟩ (by simp) rfl
      obtain rfl := (hV.c10 d10).symm
      refine op_at _ rfl rfl (fun K' hK => ?_)
      conv => arg 2; whnf
      go_wp2_with fail
      exact ⟨nb, gn, cn, mb, gm, cm, z45, z46, z47, z48, z49, z50, z51, z52, z53, z54, .pointer (some ⟨X, 0, none⟩), .pointer (some ⟨X, 0, none⟩), z57, z58, z59, z60, z61, z62, z63, z64, z65, z66, ⟨(kl nl), (kq hV.p9_6), (kq hV.p9_8), (kq hV.p16_8), (kq hV.p16_9), (kq hV.p16_13), (kq hV.p16_15), (kq hV.p20_6), (kq hV.p20_8), (kq hV.p20_9), (kq hV.p20_13), (kq hV.p20_15), (kq hV.p20_16), (kq hV.p22_21), (kq hV.p23_9), (kq hV.p23_16), (kc hV.c0), (kc hV.c1), (kc hV.c2), (kc hV.c3), (kc hV.c4), (kc hV.c5), (kc hV.c6), (kc hV.c7), (kc hV.c8), (kc hV.c9), (kc hV.c10), (fun _ => rfl), (kc hV.c12), (kc hV.c13), (kc hV.c14), (kc hV.c15), (kc hV.c16), (kc hV.c17), (kc hV.c18), (kc hV.c19), (kc hV.c21), (kc hV.c22), hV.fr, (fun h0 => hV.x (kb h0)), (fun h0 => fun h1 => hV.x2 (kb h0) (kb h1)), (kl nl), hV.lb, (fun h0 => hV.lo (kb h0)), (fun h0 => hV.wo (kb h0)), (fun h0 => fun h1 => hV.r8 (kb h0) (kb h1)), (kc hV.r9), (fun h0 => fun h1 => hV.r15 (kb h0) (kb h1)), (kc hV.r16)⟩, rfl⟩
    · have nl := kf hV.ord hl
      have d11 : L 11 = true := hd _ rfl ⟨11, .data⟩ (by simp) rfl
      obtain rfl := (hV.c11 d11).symm
      refine op_at _ rfl rfl (fun K' hK => ?_)
      conv => arg 2; whnf
      go_wp2_with fail
      exact ⟨nb, gn, cn, mb, gm, cm, z45, z46, z47, z48, z49, z50, z51, z52, z53, z54, z55, .pointer (some ⟨X, 0, none⟩), .pointer (some ⟨X, 2, none⟩), z58, z59, z60, z61, z62, z63, z64, z65, z66, ⟨(kl nl), (kq hV.p9_6), (kq hV.p9_8), (kq hV.p16_8), (kq hV.p16_9), (kq hV.p16_13), (kq hV.p16_15), (kq hV.p20_6), (kq hV.p20_8), (kq hV.p20_9), (kq hV.p20_13), (kq hV.p20_15), (kq hV.p20_16), (kq hV.p22_21), (kq hV.p23_9), (kq hV.p23_16), (kc hV.c0), (kc hV.c1), (kc hV.c2), (kc hV.c3), (kc hV.c4), (kc hV.c5), (kc hV.c6), (kc hV.c7), (kc hV.c8), (kc hV.c9), (kc hV.c10), (kc hV.c11), (fun _ => rfl), (kc hV.c13), (kc hV.c14), (kc hV.c15), (kc hV.c16), (kc hV.c17), (kc hV.c18), (kc hV.c19), (kc hV.c21), (kc hV.c22), hV.fr, (fun h0 => hV.x (kb h0)), (fun h0 => fun h1 => hV.x2 (kb h0) (kb h1)), (kl nl), hV.lb, (fun h0 => hV.lo (kb h0)), (fun h0 => hV.wo (kb h0)), (fun h0 => fun h1 => hV.r8 (kb h0) (kb h1)), (kc hV.r9), (fun h0 => fun h1 => hV.r15 (kb h0) (kb h1)), (kc hV.r16)⟩, rfl⟩
    · have nl := kf hV.ord hl
      have d12 : L 12 = true := hd _ rfl ⟨12, .data⟩ (by simp) rfl
      obtain rfl := (hV.c12 d12).symm
      have n20 : L 20 = false := by
        cases h : L 20 with
        | false => rfl
        | true => have := hV.p20_13 h; rw [hl] at this; cases this
      have ho := hV.x n20
      have x2 := ho.at 2 _ rfl
      refine op_at _ rfl rfl (fun K' hK => ?_)
      conv => arg 2; whnf
      go_wp2_with fail
      exact ⟨nb, gn, cn, mb, gm, cm, z45, z46, z47, z48, z49, z50, z51, z52, z53, z54, z55, z56, .pointer (some ⟨X, 2, none⟩), wv, z59, z60, z61, z62, z63, z64, z65, z66, ⟨(kl nl), (kq hV.p9_6), (kq hV.p9_8), (kq hV.p16_8), (kq hV.p16_9), (fun _ => upd_same L 13), (kq hV.p16_15), (kq hV.p20_6), (kq hV.p20_8), (kq hV.p20_9), (fun _ => upd_same L 13), (kq hV.p20_15), (kq hV.p20_16), (kq hV.p22_21), (kq hV.p23_9), (kq hV.p23_16), (kc hV.c0), (kc hV.c1), (kc hV.c2), (kc hV.c3), (kc hV.c4), (kc hV.c5), (kc hV.c6), (kc hV.c7), (kc hV.c8), (kc hV.c9), (kc hV.c10), (kc hV.c11), (kc hV.c12), (fun _ => rfl), (kc hV.c14), (kc hV.c15), (kc hV.c16), (kc hV.c17), (kc hV.c18), (kc hV.c19), (kc hV.c21), (kc hV.c22), hV.fr, (fun h0 => hV.x (kb h0)), (fun h0 => fun h1 => hV.x2 (kb h0) (kb h1)), (kl nl), hV.lb, (fun h0 => hV.lo (kb h0)), (fun h0 => hV.wo (kb h0)), (fun h0 => fun h1 => hV.r8 (kb h0) (kb h1)), (kc hV.r9), (fun h0 => fun h1 => hV.r15 (kb h0) (kb h1)), (kc hV.r16)⟩, rfl⟩
    · have nl := kf hV.ord hl
      refine op_at _ rfl rfl (fun K' hK => ?_)
      conv => arg 2; whnf
      go_wp2_with fail
      exact ⟨nb, gn, cn, mb, gm, cm, z45, z46, z47, z48, z49, z50, z51, z52, z53, z54, z55, z56, z57, z58, .int .i64 n, z60, z61, z62, z63, z64, z65, z66, ⟨(kl nl), (kq hV.p9_6), (kq hV.p9_8), (kq hV.p16_8), (kq hV.p16_9), (kq hV.p16_13), (kq hV.p16_15), (kq hV.p20_6), (kq hV.p20_8), (kq hV.p20_9), (kq hV.p20_13), (kq hV.p20_15), (kq hV.p20_16), (kq hV.p22_21), (kq hV.p23_9), (kq hV.p23_16), (kc hV.c0), (kc hV.c1), (kc hV.c2), (kc hV.c3), (kc hV.c4), (kc hV.c5), (kc hV.c6), (kc hV.c7), (kc hV.c8), (kc hV.c9), (kc hV.c10), (kc hV.c11), (kc hV.c12), (kc hV.c13), (fun _ => rfl), (kc hV.c15), (kc hV.c16), (kc hV.c17), (kc hV.c18), (kc hV.c19), (kc hV.c21), (kc hV.c22), hV.fr, (fun h0 => hV.x (kb h0)), (fun h0 => fun h1 => hV.x2 (kb h0) (kb h1)), (kl nl), hV.lb, (fun h0 => hV.lo (kb h0)), (fun h0 => hV.wo (kb h0)), (fun h0 => fun h1 => hV.r8 (kb h0) (kb h1)), (kc hV.r9), (fun h0 => fun h1 => hV.r15 (kb h0) (kb h1)), (kc hV.r16)⟩, rfl⟩
    · have nl := kf hV.ord hl
      have d14 : L 14 = true := hd _ rfl ⟨14, .data⟩ (by simp) rfl
      obtain rfl := (hV.c14 d14).symm
      have hal : Below wx.heap.size wx (wx.alloc (.cells #[.int .i64 n] 3)) := (Below.refl _ _).alloc (Nat.le_refl _) _
      have hfs := hV.fr.size
      refine op_at _ rfl rfl (fun K' hK => ?_)
      conv => arg 2; whnf
      go_wp2_with fail
      exact ⟨nb, gn, cn, wx.heap.size, gm, cm, z45, z46, z47, z48, z49, z50, z51, z52, z53, z54, z55, z56, z57, z58, .int .i64 n, .slice (some ⟨(wx.heap.size), 0, none⟩) 1 1, z61, z62, z63, z64, z65, z66, ⟨(kl nl), (kq hV.p9_6), (kq hV.p9_8), (kq hV.p16_8), (kq hV.p16_9), (kq hV.p16_13), (fun _ => upd_same L 15), (kq hV.p20_6), (kq hV.p20_8), (kq hV.p20_9), (kq hV.p20_13), (fun _ => upd_same L 15), (kq hV.p20_16), (kq hV.p22_21), (kq hV.p23_9), (kq hV.p23_16), (kc hV.c0), (kc hV.c1), (kc hV.c2), (kc hV.c3), (kc hV.c4), (kc hV.c5), (kc hV.c6), (kc hV.c7), (kc hV.c8), (kc hV.c9), (kc hV.c10), (kc hV.c11), (kc hV.c12), (kc hV.c13), (kc hV.c14), (fun _ => rfl), (kc hV.c16), (kc hV.c17), (kc hV.c18), (kc hV.c19), (kc hV.c21), (kc hV.c22), (Fr3.old (hV.fr) hal), (fun h0 => OwnAt.old (hV.x (kb h0)) hal), (kn hV.p20_15 hl), (kl nl), (OwnAt.old (hV.lb) hal), (fun h0 => RwOwn.old (hV.lo (kb h0)) hal), (fun h0 => RwOwn.old (hV.wo (kb h0)) hal), (fun h0 => fun h1 => ⟨OwnAt.old (And.left (hV.r8 (kb h0) (kb h1))) hal, And.right (hV.r8 (kb h0) (kb h1))⟩), (fun h0 => ⟨RwOwn.old (And.left (hV.r9 (kb h0))) hal, And.right (hV.r9 (kb h0))⟩), (fun _ _ => ⟨OwnAt.new wx (intCells n) 3, hfs⟩), (kn hV.p16_15 hl)⟩, rfl⟩
    · have nl := kf hV.ord hl
      have d9 : L 9 = true := hd _ rfl ⟨9, .chain⟩ (by simp) rfl
      have d13 : L 13 = true := hd _ rfl ⟨13, .data⟩ (by simp) rfl
      obtain rfl := (hV.c13 d13).symm
      have d15 : L 15 = true := hd _ rfl ⟨15, .data⟩ (by simp) rfl
      obtain rfl := (hV.c15 d15).symm
      have n20 : L 20 = false := by
        cases h : L 20 with
        | false => rfl
        | true => have := hV.p20_16 h; rw [hl] at this; cases this
      have hr15 := hV.r15 d15 hl
      have hwo := hV.wo hl
      have hfs := hV.fr.size
      have hr9 := hV.r9 d9
      refine op_at _ rfl rfl (fun K' hK => ?_)
      conv => arg 2; whnf
      refine wp_numSnoc wx _ _ rfl base ns wv rfl hwo n mb 1 rfl hr15.1 hnl (Nat.le_trans hbase hfs) ?_
      intro g3 cap3 w3 hr3 hg3 ha3 hl3
      go_wp2_with fail
      exact ⟨nb, gn, cn, mb, g3, cap3, z45, z46, z47, z48, z49, z50, z51, z52, z53, z54, z55, z56, z57, wv, z59, .slice (some ⟨mb, 0, none⟩) 1 1, .slice (some ⟨(g3), 0, none⟩) (ns.length + 1) (cap3), z62, z63, z64, z65, z66, ⟨(kl nl), (kq hV.p9_6), (kq hV.p9_8), (kd (hV.p9_8 d9)), (kd (d9)), (kd (d13)), (kd (d15)), (kq hV.p20_6), (kq hV.p20_8), (kq hV.p20_9), (kq hV.p20_13), (kq hV.p20_15), (fun _ => upd_same L 16), (kq hV.p22_21), (kq hV.p23_9), (fun _ => upd_same L 16), (kc hV.c0), (kc hV.c1), (kc hV.c2), (kc hV.c3), (kc hV.c4), (kc hV.c5), (kc hV.c6), (kc hV.c7), (kc hV.c8), (kc hV.c9), (kc hV.c10), (kc hV.c11), (kc hV.c12), (kc hV.c13), (kc hV.c14), (kc hV.c15), (fun _ => rfl), (kc hV.c17), (kc hV.c18), (kc hV.c19), (kc hV.c21), (kc hV.c22), (hV.fr.grown hg3 (.inr rfl)), (fun _ => (hV.x n20).grow hg3 HWX.out), (kn hV.p20_16 hl), (kl nl), (hV.lb.grow hg3 HWL.out), (fun h => by rw [upd_ne L (show 9 ≠ 16 by decide), d9] at h; cases h), (ks), (fun _ h => by rw [upd_ne L (show 9 ≠ 16 by decide), d9] at h; cases h), (fun _ => ⟨RwOwn.grown hr9.1 hg3 (.inr (fun e => by rcases hr9.2 with h | h; exact HSEP.out _ h e.symm; have := HWLT.out gn e.symm; omega)), hr9.2⟩), (fun _ => ks), (fun _ => ⟨hr3, (by rcases ha3 with h | h; exact .inl h; exact .inr (by rw [h]; exact hfs)), (fun e => by subst e; rcases ha3 with h | h; (rcases hr9.2 with h2 | h2; exact HSEP.out _ h2 h; have := HWLT.out _ h; omega); have := (RwOwn.lt hr9.1 g3 rfl).2; omega)⟩)⟩, rfl⟩
    · have nl := kf hV.ord hl
      have d0 : L 0 = true := hd _ rfl ⟨0, .data⟩ (by simp) rfl
      obtain rfl := (hV.c0 d0).symm
      refine op_at _ rfl rfl (fun K' hK => ?_)
      conv => arg 2; whnf
      go_wp2_with fail
      exact ⟨nb, gn, cn, mb, gm, cm, .pointer (some ⟨X, 0, none⟩), z46, z47, z48, z49, z50, z51, z52, z53, z54, z55, z56, z57, z58, z59, z60, z61, .pointer (some ⟨X, 0, none⟩), z63, z64, z65, z66, ⟨(kl nl), (kq hV.p9_6), (kq hV.p9_8), (kq hV.p16_8), (kq hV.p16_9), (kq hV.p16_13), (kq hV.p16_15), (kq hV.p20_6), (kq hV.p20_8), (kq hV.p20_9), (kq hV.p20_13), (kq hV.p20_15), (kq hV.p20_16), (kq hV.p22_21), (kq hV.p23_9), (kq hV.p23_16), (kc hV.c0), (kc hV.c1), (kc hV.c2), (kc hV.c3), (kc hV.c4), (kc hV.c5), (kc hV.c6), (kc hV.c7), (kc hV.c8), (kc hV.c9), (kc hV.c10), (kc hV.c11), (kc hV.c12), (kc hV.c13), (kc hV.c14), (kc hV.c15), (kc hV.c16), (fun _ => rfl), (kc hV.c18), (kc hV.c19), (kc hV.c21), (kc hV.c22), hV.fr, (fun h0 => hV.x (kb h0)), (fun h0 => fun h1 => hV.x2 (kb h0) (kb h1)), (kl nl), hV.lb, (fun h0 => hV.lo (kb h0)), (fun h0 => hV.wo (kb h0)), (fun h0 => fun h1 => hV.r8 (kb h0) (kb h1)), (kc hV.r9), (fun h0 => fun h1 => hV.r15 (kb h0) (kb h1)), (kc hV.r16)⟩, rfl⟩
    · have nl := kf hV.ord hl
      have d17 : L 17 = true := hd _ rfl ⟨17, .data⟩ (by simp) rfl
      obtain rfl := (hV.c17 d17).symm
      refine op_at _ rfl rfl (fun K' hK => ?_)
      conv => arg 2; whnf
      go_wp2_with fail
      exact ⟨nb, gn, cn, mb, gm, cm, z45, z46, z47, z48, z49, z50, z51, z52, z53, z54, z55, z56, z57, z58, z59, z60, z61, .pointer (some ⟨X, 0, none⟩), .pointer (some ⟨X, 0, none⟩), z64, z65, z66, ⟨(kl nl), (kq hV.p9_6), (kq hV.p9_8), (kq hV.p16_8), (kq hV.p16_9), (kq hV.p16_13), (kq hV.p16_15), (kq hV.p20_6), (kq hV.p20_8), (kq hV.p20_9), (kq hV.p20_13), (kq hV.p20_15), (kq hV.p20_16), (kq hV.p22_21), (kq hV.p23_9), (kq hV.p23_16), (kc hV.c0), (kc hV.c1), (kc hV.c2), (kc hV.c3), (kc hV.c4), (kc hV.c5), (kc hV.c6), (kc hV.c7), (kc hV.c8), (kc hV.c9), (kc hV.c10), (kc hV.c11), (kc hV.c12), (kc hV.c13), (kc hV.c14), (kc hV.c15), (kc hV.c16), (kc hV.c17), (fun _ => rfl), (kc hV.c19), (kc hV.c21), (kc hV.c22), hV.fr, (fun h0 => hV.x (kb h0)), (fun h0 => fun h1 => hV.x2 (kb h0) (kb h1)), (kl nl), hV.lb, (fun h0 => hV.lo (kb h0)), (fun h0 => hV.wo (kb h0)), (fun h0 => fun h1 => hV.r8 (kb h0) (kb h1)), (kc hV.r9), (fun h0 => fun h1 => hV.r15 (kb h0) (kb h1)), (kc hV.r16)⟩, rfl⟩
    · have nl := kf hV.ord hl
      have d18 : L 18 = true := hd _ rfl ⟨18, .data⟩ (by simp) rfl
      obtain rfl := (hV.c18 d18).symm
      refine op_at _ rfl rfl (fun K' hK => ?_)
      conv => arg 2; whnf
      go_wp2_with fail
      exact ⟨nb, gn, cn, mb, gm, cm, z45, z46, z47, z48, z49, z50, z51, z52, z53, z54, z55, z56, z57, z58, z59, z60, z61, z62, .pointer (some ⟨X, 0, none⟩), .pointer (some ⟨X, 1, none⟩), z65, z66, ⟨(kl nl), (kq hV.p9_6), (kq hV.p9_8), (kq hV.p16_8), (kq hV.p16_9), (kq hV.p16_13), (kq hV.p16_15), (kq hV.p20_6), (kq hV.p20_8), (kq hV.p20_9), (kq hV.p20_13), (kq hV.p20_15), (kq hV.p20_16), (kq hV.p22_21), (kq hV.p23_9), (kq hV.p23_16), (kc hV.c0), (kc hV.c1), (kc hV.c2), (kc hV.c3), (kc hV.c4), (kc hV.c5), (kc hV.c6), (kc hV.c7), (kc hV.c8), (kc hV.c9), (kc hV.c10), (kc hV.c11), (kc hV.c12), (kc hV.c13), (kc hV.c14), (kc hV.c15), (kc hV.c16), (kc hV.c17), (kc hV.c18), (fun _ => rfl), (kc hV.c21), (kc hV.c22), hV.fr, (fun h0 => hV.x (kb h0)), (fun h0 => fun h1 => hV.x2 (kb h0) (kb h1)), (kl nl), hV.lb, (fun h0 => hV.lo (kb h0)), (fun h0 => hV.wo (kb h0)), (fun h0 => fun h1 => hV.r8 (kb h0) (kb h1)), (kc hV.r9), (fun h0 => fun h1 => hV.r15 (kb h0) (kb h1)), (kc hV.r16)⟩, rfl⟩
    · have nl := kf hV.ord hl
      have d9 : L 9 = true := hd _ rfl ⟨9, .data⟩ (by simp) rfl
      obtain rfl := (hV.c9 d9).symm
      have d16 : L 16 = true := hd _ rfl ⟨16, .chain⟩ (by simp) rfl
      have d19 : L 19 = true := hd _ rfl ⟨19, .data⟩ (by simp) rfl
      obtain rfl := (hV.c19 d19).symm
      have hx := hV.x hl
      have x1 := hx.at 1 _ rfl
      have fx := hx.fz 1
      have hxl := hx.lt
      have hr9 := hV.r9 d9
      have hr16 := hV.r16 d16
      refine op_at _ rfl rfl (fun K' hK => ?_)
      conv => arg 2; whnf
      go_wp2_with fail
      exact ⟨nb, gn, cn, mb, gm, cm, z45, z46, z47, z48, z49, z50, z51, z52, z53, .slice (some ⟨gn, 0, none⟩) (ls.length + 1) cn, z55, z56, z57, z58, z59, z60, z61, z62, z63, .pointer (some ⟨X, 1, none⟩), z65, z66, ⟨(kl nl), (kq hV.p9_6), (kq hV.p9_8), (kq hV.p16_8), (kq hV.p16_9), (kq hV.p16_13), (kq hV.p16_15), (kd (hV.p9_6 d9)), (kd (hV.p9_8 d9)), (kd (d9)), (kd (hV.p16_13 d16)), (kd (hV.p16_15 d16)), (kd (d16)), (kq hV.p22_21), (kq hV.p23_9), (kq hV.p23_16), (kc hV.c0), (kc hV.c1), (kc hV.c2), (kc hV.c3), (kc hV.c4), (kc hV.c5), (kc hV.c6), (kc hV.c7), (kc hV.c8), (kc hV.c9), (kc hV.c10), (kc hV.c11), (kc hV.c12), (kc hV.c13), (kc hV.c14), (kc hV.c15), (kc hV.c16), (kc hV.c17), (kc hV.c18), (kc hV.c19), (kc hV.c21), (kc hV.c22), (hV.fr.set hXl 1 (.slice (some ⟨gn, 0, none⟩) (ls.length + 1) cn)), (ks), (fun _ _ => hx.set 1 (.slice (some ⟨gn, 0, none⟩) (ls.length + 1) cn)), (kl nl), (hV.lb.other (fun e => hXL e.symm) 1 (.slice (some ⟨gn, 0, none⟩) (ls.length + 1) cn)), (fun h => by rw [upd_ne L (show 9 ≠ 20 by decide), d9] at h; cases h), (fun h => by rw [upd_ne L (show 16 ≠ 20 by decide), d16] at h; cases h), (fun _ h => by rw [upd_ne L (show 9 ≠ 20 by decide), d9] at h; cases h), (fun _ => ⟨RwOwn.set hr9.1 (fun e => by have e : gn = X := (by injection e); rcases hr9.2 with h | h; exact HVX.out (by rw [h, e]); omega) 1 (.slice (some ⟨gn, 0, none⟩) (ls.length + 1) cn), hr9.2⟩), (fun _ h => by rw [upd_ne L (show 16 ≠ 20 by decide), d16] at h; cases h), (fun _ => ⟨RwOwn.set hr16.1 (fun e => by have e : gm = X := (by injection e); rcases hr16.2.1 with h | h; exact HWX.out (by rw [h, e]); omega) 1 (.slice (some ⟨gn, 0, none⟩) (ls.length + 1) cn), hr16.2⟩)⟩, rfl⟩
    · have nl := kf hV.ord hl
      have d1 : L 1 = true := hd _ rfl ⟨1, .data⟩ (by simp) rfl
      obtain rfl := (hV.c1 d1).symm
      refine op_at _ rfl rfl (fun K' hK => ?_)
      conv => arg 2; whnf
      go_wp2_with fail
      exact ⟨nb, gn, cn, mb, gm, cm, z45, .pointer (some ⟨X, 0, none⟩), z47, z48, z49, z50, z51, z52, z53, z54, z55, z56, z57, z58, z59, z60, z61, z62, z63, z64, .pointer (some ⟨X, 0, none⟩), z66, ⟨(kl nl), (kq hV.p9_6), (kq hV.p9_8), (kq hV.p16_8), (kq hV.p16_9), (kq hV.p16_13), (kq hV.p16_15), (kq hV.p20_6), (kq hV.p20_8), (kq hV.p20_9), (kq hV.p20_13), (kq hV.p20_15), (kq hV.p20_16), (fun _ => upd_same L 21), (kq hV.p23_9), (kq hV.p23_16), (kc hV.c0), (kc hV.c1), (kc hV.c2), (kc hV.c3), (kc hV.c4), (kc hV.c5), (kc hV.c6), (kc hV.c7), (kc hV.c8), (kc hV.c9), (kc hV.c10), (kc hV.c11), (kc hV.c12), (kc hV.c13), (kc hV.c14), (kc hV.c15), (kc hV.c16), (kc hV.c17), (kc hV.c18), (kc hV.c19), (fun _ => rfl), (kc hV.c22), hV.fr, (fun h0 => hV.x (kb h0)), (fun h0 => fun h1 => hV.x2 (kb h0) (kb h1)), (kl nl), hV.lb, (fun h0 => hV.lo (kb h0)), (fun h0 => hV.wo (kb h0)), (fun h0 => fun h1 => hV.r8 (kb h0) (kb h1)), (kc hV.r9), (fun h0 => fun h1 => hV.r15 (kb h0) (kb h1)), (kc hV.r16)⟩, rfl⟩
    · have nl := kf hV.ord hl
      have d21 : L 21 = true := hd _ rfl ⟨21, .data⟩ (by simp) rfl
      obtain rfl := (hV.c21 d21).symm
      refine op_at _ rfl rfl (fun K' hK => ?_)
      conv => arg 2; whnf
      go_wp2_with fail
      exact ⟨nb, gn, cn, mb, gm, cm, z45, z46, z47, z48, z49, z50, z51, z52, z53, z54, z55, z56, z57, z58, z59, z60, z61, z62, z63, z64, .pointer (some ⟨X, 0, none⟩), .pointer (some ⟨X, 2, none⟩), ⟨(kl nl), (kq hV.p9_6), (kq hV.p9_8), (kq hV.p16_8), (kq hV.p16_9), (kq hV.p16_13), (kq hV.p16_15), (kq hV.p20_6), (kq hV.p20_8), (kq hV.p20_9), (kq hV.p20_13), (kq hV.p20_15), (kq hV.p20_16), (kd (d21)), (kq hV.p23_9), (kq hV.p23_16), (kc hV.c0), (kc hV.c1), (kc hV.c2), (kc hV.c3), (kc hV.c4), (kc hV.c5), (kc hV.c6), (kc hV.c7), (kc hV.c8), (kc hV.c9), (kc hV.c10), (kc hV.c11), (kc hV.c12), (kc hV.c13), (kc hV.c14), (kc hV.c15), (kc hV.c16), (kc hV.c17), (kc hV.c18), (kc hV.c19), (kc hV.c21), (fun _ => rfl), hV.fr, (fun h0 => hV.x (kb h0)), (fun h0 => fun h1 => hV.x2 (kb h0) (kb h1)), (kl nl), hV.lb, (fun h0 => hV.lo (kb h0)), (fun h0 => hV.wo (kb h0)), (fun h0 => fun h1 => hV.r8 (kb h0) (kb h1)), (kc hV.r9), (fun h0 => fun h1 => hV.r15 (kb h0) (kb h1)), (kc hV.r16)⟩, rfl⟩
    · have before : ∀ j, j < 23 → L j = true := fun j hj => by
        have hj : j = 0 ∨ j = 1 ∨ j = 2 ∨ j = 3 ∨ j = 4 ∨ j = 5 ∨ j = 6 ∨ j = 7 ∨ j = 8 ∨ j = 9 ∨ j = 10 ∨ j = 11 ∨ j = 12 ∨ j = 13 ∨ j = 14 ∨ j = 15 ∨ j = 16 ∨ j = 17 ∨ j = 18 ∨ j = 19 ∨ j = 20 ∨ j = 21 ∨ j = 22 := by omega
        rcases hj with rfl | rfl | rfl | rfl | rfl | rfl | rfl | rfl | rfl | rfl | rfl | rfl | rfl | rfl | rfl | rfl | rfl | rfl | rfl | rfl | rfl | rfl | rfl
        · exact hd _ rfl ⟨0, .phase⟩ (by simp) rfl
        · exact hd _ rfl ⟨1, .phase⟩ (by simp) rfl
        · exact hd _ rfl ⟨2, .phase⟩ (by simp) rfl
        · exact hd _ rfl ⟨3, .phase⟩ (by simp) rfl
        · exact hd _ rfl ⟨4, .phase⟩ (by simp) rfl
        · exact hd _ rfl ⟨5, .phase⟩ (by simp) rfl
        · exact hd _ rfl ⟨6, .phase⟩ (by simp) rfl
        · exact hd _ rfl ⟨7, .phase⟩ (by simp) rfl
        · exact hd _ rfl ⟨8, .phase⟩ (by simp) rfl
        · exact hd _ rfl ⟨9, .phase⟩ (by simp) rfl
        · exact hd _ rfl ⟨10, .phase⟩ (by simp) rfl
        · exact hd _ rfl ⟨11, .phase⟩ (by simp) rfl
        · exact hd _ rfl ⟨12, .phase⟩ (by simp) rfl
        · exact hd _ rfl ⟨13, .phase⟩ (by simp) rfl
        · exact hd _ rfl ⟨14, .phase⟩ (by simp) rfl
        · exact hd _ rfl ⟨15, .phase⟩ (by simp) rfl
        · exact hd _ rfl ⟨16, .data⟩ (by simp) rfl
        · exact hd _ rfl ⟨17, .phase⟩ (by simp) rfl
        · exact hd _ rfl ⟨18, .phase⟩ (by simp) rfl
        · exact hd _ rfl ⟨19, .phase⟩ (by simp) rfl
        · exact hd _ rfl ⟨20, .chain⟩ (by simp) rfl
        · exact hV.p22_21 (hd _ rfl ⟨22, .data⟩ (by simp) rfl)
        · exact hd _ rfl ⟨22, .data⟩ (by simp) rfl
      have d16 : L 16 = true := hd _ rfl ⟨16, .data⟩ (by simp) rfl
      obtain rfl := (hV.c16 d16).symm
      have d20 : L 20 = true := hd _ rfl ⟨20, .chain⟩ (by simp) rfl
      have d22 : L 22 = true := hd _ rfl ⟨22, .data⟩ (by simp) rfl
      obtain rfl := (hV.c22 d22).symm
      have hx := hV.x2 (before 20 (by decide)) hl
      have x2 := hx.at 2 _ rfl
      have fx := hx.fz 2
      have hxl := hx.lt
      have hr9 := hV.r9 (before 9 (by decide))
      have hr16 := hV.r16 (before 16 (by decide))
      refine op_at _ rfl rfl (fun K' hK => ?_)
      conv => arg 2; whnf
      go_wp2_with fail
      exact ⟨nb, gn, cn, mb, gm, cm, z45, z46, z47, z48, z49, z50, z51, z52, z53, z54, z55, z56, z57, z58, z59, z60, .slice (some ⟨gm, 0, none⟩) (ns.length + 1) cm, z62, z63, z64, z65, .pointer (some ⟨X, 2, none⟩), ⟨(fun _ j hj => by rw [upd_ne L (show j ≠ 23 by omega)]; exact before j hj), (kq hV.p9_6), (kq hV.p9_8), (kq hV.p16_8), (kq hV.p16_9), (kq hV.p16_13), (kq hV.p16_15), (kq hV.p20_6), (kq hV.p20_8), (kq hV.p20_9), (kq hV.p20_13), (kq hV.p20_15), (kq hV.p20_16), (kq hV.p22_21), (kd (before 9 (by decide))), (kd (before 16 (by decide))), (kc hV.c0), (kc hV.c1), (kc hV.c2), (kc hV.c3), (kc hV.c4), (kc hV.c5), (kc hV.c6), (kc hV.c7), (kc hV.c8), (kc hV.c9), (kc hV.c10), (kc hV.c11), (kc hV.c12), (kc hV.c13), (kc hV.c14), (kc hV.c15), (kc hV.c16), (kc hV.c17), (kc hV.c18), (kc hV.c19), (kc hV.c21), (kc hV.c22), (hV.fr.set hXl 2 (.slice (some ⟨gm, 0, none⟩) (ns.length + 1) cm)), (fun h => by rw [upd_ne L (show 20 ≠ 23 by decide), before 20 (by decide)] at h; cases h), (fun _ => ks), (fun _ => hx.set 2 (.slice (some ⟨gm, 0, none⟩) (ns.length + 1) cm)), (hV.lb.other (fun e => hXL e.symm) 2 (.slice (some ⟨gm, 0, none⟩) (ns.length + 1) cm)), (fun h => by rw [upd_ne L (show 9 ≠ 23 by decide), before 9 (by decide)] at h; cases h), (fun h => by rw [upd_ne L (show 16 ≠ 23 by decide), before 16 (by decide)] at h; cases h), (fun _ h => by rw [upd_ne L (show 9 ≠ 23 by decide), before 9 (by decide)] at h; cases h), (fun _ => ⟨RwOwn.set hr9.1 (fun e => by have e : gn = X := (by injection e); rcases hr9.2 with h | h; exact HVX.out (by rw [h, e]); omega) 2 (.slice (some ⟨gm, 0, none⟩) (ns.length + 1) cm), hr9.2⟩), (fun _ h => by rw [upd_ne L (show 16 ≠ 23 by decide), before 16 (by decide)] at h; cases h), (fun _ => ⟨RwOwn.set hr16.1 (fun e => by have e : gm = X := (by injection e); rcases hr16.2.1 with h | h; exact HWX.out (by rw [h, e]); omega) 2 (.slice (some ⟨gm, 0, none⟩) (ns.length + 1) cm), hr16.2⟩)⟩, rfl⟩
  · intro L act wx hI hall
    obtain ⟨nb, gn, cn, mb, gm, cm, z45, z46, z47, z48, z49, z50, z51, z52, z53, z54, z55, z56, z57, z58, z59, z60, z61, z62, z63, z64, z65, z66, hV, rfl⟩ := hI
    obtain rfl := (hV.c0 (hall 0 (by decide))).symm
    obtain rfl := (hV.c1 (hall 1 (by decide))).symm
    obtain rfl := (hV.c2 (hall 2 (by decide))).symm
    obtain rfl := (hV.c3 (hall 3 (by decide))).symm
    obtain rfl := (hV.c4 (hall 4 (by decide))).symm
    obtain rfl := (hV.c5 (hall 5 (by decide))).symm
    obtain rfl := (hV.c6 (hall 6 (by decide))).symm
    obtain rfl := (hV.c7 (hall 7 (by decide))).symm
    obtain rfl := (hV.c8 (hall 8 (by decide))).symm
    obtain rfl := (hV.c9 (hall 9 (by decide))).symm
    obtain rfl := (hV.c10 (hall 10 (by decide))).symm
    obtain rfl := (hV.c11 (hall 11 (by decide))).symm
    obtain rfl := (hV.c12 (hall 12 (by decide))).symm
    obtain rfl := (hV.c13 (hall 13 (by decide))).symm
    obtain rfl := (hV.c14 (hall 14 (by decide))).symm
    obtain rfl := (hV.c15 (hall 15 (by decide))).symm
    obtain rfl := (hV.c16 (hall 16 (by decide))).symm
    obtain rfl := (hV.c17 (hall 17 (by decide))).symm
    obtain rfl := (hV.c18 (hall 18 (by decide))).symm
    obtain rfl := (hV.c19 (hall 19 (by decide))).symm
    obtain rfl := (hV.c21 (hall 21 (by decide))).symm
    obtain rfl := (hV.c22 (hall 22 (by decide))).symm
    exact hM _ _ (Met.intro (hJ _ _ ⟨nb, gn, cn, mb, gm, cm, ⟨hV.fr, hV.x3 (hall 23 (by decide)), hV.lb, hV.r9 (hall 9 (by decide)), hV.r16 (hall 16 (by decide))⟩, rfl⟩))
end Go.Proofs.YtlkfmnabbmceeaaGreatDoor

namespace Go.Proofs.YtlkfmnabbmceeaaGreatDoor
open Go.RowKit
set_option maxHeartbeats 8000000
set_option maxRecDepth 100000

structure VK5 (X AB : Nat) (va vl wv : Value) (rs : List Ar) (y : Ar) (base : Nat) (W : World) (L : Nat → Bool) (nb : Nat) (gn : Nat) (cn : Nat) (z28 z29 z30 z31 z32 z33 z34 z35 z36 z37 z38 z39 : Value) (wx : World) : Prop where
  ord : L 12 = true → ∀ j, j < 12 → L j = true
  p8_7 : L 8 = true → L 7 = true
  p10_9 : L 10 = true → L 9 = true
  p11_9 : L 11 = true → L 9 = true
  p11_10 : L 11 = true → L 10 = true
  p12_8 : L 12 = true → L 8 = true
  c0 : L 0 = true → z28 = .pointer (some ⟨X, 0, none⟩)
  c1 : L 1 = true → z29 = .pointer (some ⟨X, 0, none⟩)
  c2 : L 2 = true → z30 = .pointer (some ⟨X, 0, none⟩)
  c3 : L 3 = true → z31 = .pointer (some ⟨X, 0, none⟩)
  c4 : L 4 = true → z32 = .pointer (some ⟨X, 0, none⟩)
  c5 : L 5 = true → z33 = va
  c6 : L 6 = true → z34 = .agg #[.string (strOf y.name), .int .i64 y.size]
  c7 : L 7 = true → z35 = .slice (some ⟨nb, 0, none⟩) 1 1
  c8 : L 8 = true → z36 = .slice (some ⟨gn, 0, none⟩) (rs.length + 1) cn
  c9 : L 9 = true → z37 = .pointer (some ⟨X, 0, none⟩)
  c10 : L 10 = true → z38 = .pointer (some ⟨X, 0, none⟩)
  c11 : L 11 = true → z39 = .pointer (some ⟨X, 0, none⟩)
  fr : Fr3 X va va W wx
  x : L 12 = false → OwnAt wx X [va, vl, wv] 61
  x3 : L 12 = true → OwnAt wx X [.slice (some ⟨gn, 0, none⟩) (rs.length + 1) cn, vl, wv] 61
  lb : OwnAt wx AB (arCells y) 45
  lo : L 8 = false → ArwOwn wx base rs va
  r8 : L 7 = true → L 8 = false → OwnAt wx nb (arCells y) 45 ∧ W.heap.size ≤ nb
  r9 : L 8 = true → ArwOwn wx base (rs ++ [y]) (.slice (some ⟨gn, 0, none⟩) (rs.length + 1) cn) ∧ (va.ownBlock = some gn ∨ W.heap.size ≤ gn)
def IK5 (X AB : Nat) (va vl wv : Value) (rs : List Ar) (y : Ar) (base : Nat) (W : World) (q1 q2 q3 q4 q5 q6 q8 q9 q10 q11 q12 q13 q14 q15 q16 q17 q18 q19 q20 q21 q22 q23 q24 q25 q26 q27 q40 q41 q42 q43 q44 q45 q46 q47 q48 q49 q50 q51 q52 q53 q54 q55 q56 q57 q58 q59 q60 q61 q62 q63 q64 q65 q66 q67 : Value) (L : Nat → Bool) (a' : Act) (w' : World) : Prop :=
  ∃ nb : Nat, ∃ gn : Nat, ∃ cn : Nat, ∃ z28 z29 z30 z31 z32 z33 z34 z35 z36 z37 z38 z39 : Value, VK5 X AB va vl wv rs y base W L nb gn cn z28 z29 z30 z31 z32 z33 z34 z35 z36 z37 z38 z39 w' ∧ a' = ⟨[.pointer (some ⟨X, 0, none⟩), q1, q2, q3, q4, q5, q6, .pointer (some ⟨AB, 0, none⟩), q8, q9, q10, q11, q12, q13, q14, q15, q16, q17, q18, q19, q20, q21, q22, q23, q24, q25, q26, q27, z28, z29, z30, z31, z32, z33, z34, z35, z36, z37, z38, z39, q40, q41, q42, q43, q44, q45, q46, q47, q48, q49, q50, q51, q52, q53, q54, q55, q56, q57, q58, q59, q60, q61, q62, q63, q64, q65, q66, q67].toArray, []⟩
def RK5 (X AB : Nat) (va vl wv : Value) (rs : List Ar) (y : Ar) (base : Nat) (W : World) (q1 q2 q3 q4 q5 q6 q8 q9 q10 q11 q12 q13 q14 q15 q16 q17 q18 q19 q20 q21 q22 q23 q24 q25 q26 q27 q40 q41 q42 q43 q44 q45 q46 q47 q48 q49 q50 q51 q52 q53 q54 q55 q56 q57 q58 q59 q60 q61 q62 q63 q64 q65 q66 q67 : Value) (a' : Act) (w' : World) : Prop :=
  ∃ nb : Nat, ∃ gn : Nat, ∃ cn : Nat, ((Fr3 X va va W w') ∧ (OwnAt w' X [.slice (some ⟨gn, 0, none⟩) (rs.length + 1) cn, vl, wv] 61) ∧ (OwnAt w' AB (arCells y) 45) ∧ (ArwOwn w' base (rs ++ [y]) (.slice (some ⟨gn, 0, none⟩) (rs.length + 1) cn) ∧ (va.ownBlock = some gn ∨ W.heap.size ≤ gn))) ∧ a' = ⟨[.pointer (some ⟨X, 0, none⟩), q1, q2, q3, q4, q5, q6, .pointer (some ⟨AB, 0, none⟩), q8, q9, q10, q11, q12, q13, q14, q15, q16, q17, q18, q19, q20, q21, q22, q23, q24, q25, q26, q27, .pointer (some ⟨X, 0, none⟩), .pointer (some ⟨X, 0, none⟩), .pointer (some ⟨X, 0, none⟩), .pointer (some ⟨X, 0, none⟩), .pointer (some ⟨X, 0, none⟩), va, .agg #[.string (strOf y.name), .int .i64 y.size], .slice (some ⟨nb, 0, none⟩) 1 1, .slice (some ⟨gn, 0, none⟩) (rs.length + 1) cn, .pointer (some ⟨X, 0, none⟩), .pointer (some ⟨X, 0, none⟩), .pointer (some ⟨X, 0, none⟩), q40, q41, q42, q43, q44, q45, q46, q47, q48, q49, q50, q51, q52, q53, q54, q55, q56, q57, q58, q59, q60, q61, q62, q63, q64, q65, q66, q67].toArray, []⟩
theorem reg_K5 (X AB : Nat) (va vl wv : Value) (rs : List Ar) (y : Ar) (base : Nat) (W : World) (hx0 : OwnAt W X [va, vl, wv] 61) (hlb : OwnAt W AB (arCells y) 45) (hXL : X ≠ AB) (hlo : ArwOwn W base rs va) (hvX : va.ownBlock ≠ some X) (hvL : va.ownBlock ≠ some AB) (hll : rs.length ≤ 1000000) (hbase : base ≤ W.heap.size) (q1 q2 q3 q4 q5 q6 q8 q9 q10 q11 q12 q13 q14 q15 q16 q17 q18 q19 q20 q21 q22 q23 q24 q25 q26 q27 q28 q29 q30 q31 q32 q33 q34 q35 q36 q37 q38 q39 q40 q41 q42 q43 q44 q45 q46 q47 q48 q49 q50 q51 q52 q53 q54 q55 q56 q57 q58 q59 q60 q61 q62 q63 q64 q65 q66 q67 : Value) (J K' : Act → World → Prop) (hJ : ∀ a' w', RK5 X AB va vl wv rs y base W q1 q2 q3 q4 q5 q6 q8 q9 q10 q11 q12 q13 q14 q15 q16 q17 q18 q19 q20 q21 q22 q23 q24 q25 q26 q27 q40 q41 q42 q43 q44 q45 q46 q47 q48 q49 q50 q51 q52 q53 q54 q55 q56 q57 q58 q59 q60 q61 q62 q63 q64 q65 q66 q67 a' w' → J a' w') (hM : ∀ a' w', Met J a' w' → K' a' w') :
    Code.wp Tryz.prog ((Tryz.f21.body.bind (regOf 5)).getD .skip) (Exit.then K' (fun _ _ _ => False)) ⟨[.pointer (some ⟨X, 0, none⟩), q1, q2, q3, q4, q5, q6, .pointer (some ⟨AB, 0, none⟩), q8, q9, q10, q11, q12, q13, q14, q15, q16, q17, q18, q19, q20, q21, q22, q23, q24, q25, q26, q27, q28, q29, q30, q31, q32, q33, q34, q35, q36, q37, q38, q39, q40, q41, q42, q43, q44, q45, q46, q47, q48, q49, q50, q51, q52, q53, q54, q55, q56, q57, q58, q59, q60, q61, q62, q63, q64, q65, q66, q67].toArray, []⟩ W := by
  have hXl : X < W.heap.size := hx0.lt
  have hLl : AB < W.heap.size := hlb.lt
  have hvl : ∀ g, va.ownBlock = some g → g < W.heap.size := fun g h => (RwOwn.lt hlo g h).2
  have HX0 := Lib.hid hx0; have HLB := Lib.hid hlb; have HLO := Lib.hid hlo
  have HVX := Lib.hid hvX; have HVL := Lib.hid hvL
  have HVLT := Lib.hid hvl
  clear hx0 hlb hlo hvX hvL hvl
  conv => arg 2; whnf
  dsimp only
  refine region_by (by kernel_rfl) (by kernel_rfl) (IK5 X AB va vl wv rs y base W q1 q2 q3 q4 q5 q6 q8 q9 q10 q11 q12 q13 q14 q15 q16 q17 q18 q19 q20 q21 q22 q23 q24 q25 q26 q27 q40 q41 q42 q43 q44 q45 q46 q47 q48 q49 q50 q51 q52 q53 q54 q55 q56 q57 q58 q59 q60 q61 q62 q63 q64 q65 q66 q67) ?_ ?_ ?_
  · exact ⟨0, 0, 0, q28, q29, q30, q31, q32, q33, q34, q35, q36, q37, q38, q39, ⟨(fun h => by cases h), (fun h => by cases h), (fun h => by cases h), (fun h => by cases h), (fun h => by cases h), (fun h => by cases h), (fun h => by cases h), (fun h => by cases h), (fun h => by cases h), (fun h => by cases h), (fun h => by cases h), (fun h => by cases h), (fun h => by cases h), (fun h => by cases h), (fun h => by cases h), (fun h => by cases h), (fun h => by cases h), (fun h => by cases h), (Fr3.old (Fr3.refl _ _ _ _) (Below.refl _ _).drew), (fun _ => HX0.out.old (Below.refl _ _).drew), (fun h => by cases h), (HLB.out.old (Below.refl _ _).drew), (fun _ => RwOwn.old HLO.out (Below.refl _ _).drew), (fun h => fun _ => by cases h), (fun h => by cases h)⟩, rfl⟩
  · intro L act wx k hI hk hl hd
    obtain ⟨nb, gn, cn, z28, z29, z30, z31, z32, z33, z34, z35, z36, z37, z38, z39, hV, rfl⟩ := hI
    have hk : k = 0 ∨ k = 1 ∨ k = 2 ∨ k = 3 ∨ k = 4 ∨ k = 5 ∨ k = 6 ∨ k = 7 ∨ k = 8 ∨ k = 9 ∨ k = 10 ∨ k = 11 ∨ k = 12 := by
      have : k < 13 := hk
      omega
    rcases hk with rfl | rfl | rfl | rfl | rfl | rfl | rfl | rfl | rfl | rfl | rfl | rfl | rfl
    · have nl := kf hV.ord hl
      refine op_at _ rfl rfl (fun K' hK => ?_)
      conv => arg 2; whnf
      go_wp2_with fail
      exact ⟨nb, gn, cn, .pointer (some ⟨X, 0, none⟩), z29, z30, z31, z32, z33, z34, z35, z36, z37, z38, z39, ⟨(kl nl), (kq hV.p8_7), (kq hV.p10_9), (kq hV.p11_9), (kq hV.p11_10), (kq hV.p12_8), (fun _ => rfl), (kc hV.c1), (kc hV.c2), (kc hV.c3), (kc hV.c4), (kc hV.c5), (kc hV.c6), (kc hV.c7), (kc hV.c8), (kc hV.c9), (kc hV.c10), (kc hV.c11), hV.fr, (fun h0 => hV.x (kb h0)), (kl nl), hV.lb, (fun h0 => hV.lo (kb h0)), (fun h0 => fun h1 => hV.r8 (kb h0) (kb h1)), (kc hV.r9)⟩, rfl⟩
    · have nl := kf hV.ord hl
      refine op_at _ rfl rfl (fun K' hK => ?_)
      conv => arg 2; whnf
      go_wp2_with fail
      exact ⟨nb, gn, cn, z28, .pointer (some ⟨X, 0, none⟩), z30, z31, z32, z33, z34, z35, z36, z37, z38, z39, ⟨(kl nl), (kq hV.p8_7), (kq hV.p10_9), (kq hV.p11_9), (kq hV.p11_10), (kq hV.p12_8), (kc hV.c0), (fun _ => rfl), (kc hV.c2), (kc hV.c3), (kc hV.c4), (kc hV.c5), (kc hV.c6), (kc hV.c7), (kc hV.c8), (kc hV.c9), (kc hV.c10), (kc hV.c11), hV.fr, (fun h0 => hV.x (kb h0)), (kl nl), hV.lb, (fun h0 => hV.lo (kb h0)), (fun h0 => fun h1 => hV.r8 (kb h0) (kb h1)), (kc hV.r9)⟩, rfl⟩
    · have nl := kf hV.ord hl
      have d1 : L 1 = true := hd _ rfl ⟨1, .data⟩ (by simp) rfl
      obtain rfl := (hV.c1 d1).symm
      refine op_at _ rfl rfl (fun K' hK => ?_)
      conv => arg 2; whnf
      go_wp2_with fail
      exact ⟨nb, gn, cn, z28, .pointer (some ⟨X, 0, none⟩), .pointer (some ⟨X, 0, none⟩), z31, z32, z33, z34, z35, z36, z37, z38, z39, ⟨(kl nl), (kq hV.p8_7), (kq hV.p10_9), (kq hV.p11_9), (kq hV.p11_10), (kq hV.p12_8), (kc hV.c0), (kc hV.c1), (fun _ => rfl), (kc hV.c3), (kc hV.c4), (kc hV.c5), (kc hV.c6), (kc hV.c7), (kc hV.c8), (kc hV.c9), (kc hV.c10), (kc hV.c11), hV.fr, (fun h0 => hV.x (kb h0)), (kl nl), hV.lb, (fun h0 => hV.lo (kb h0)), (fun h0 => fun h1 => hV.r8 (kb h0) (kb h1)), (kc hV.r9)⟩, rfl⟩
    · have nl := kf hV.ord hl
      have d2 : L 2 = true := hd _ rfl ⟨2, .data⟩ (by simp) rfl
      obtain rfl := (hV.c2 d2).symm
      refine op_at _ rfl rfl (fun K' hK => ?_)
      conv => arg 2; whnf
      go_wp2_with fail
      exact ⟨nb, gn, cn, z28, z29, .pointer (some ⟨X, 0, none⟩), .pointer (some ⟨X, 0, none⟩), z32, z33, z34, z35, z36, z37, z38, z39, ⟨(kl nl), (kq hV.p8_7), (kq hV.p10_9), (kq hV.p11_9), (kq hV.p11_10), (kq hV.p12_8), (kc hV.c0), (kc hV.c1), (kc hV.c2), (fun _ => rfl), (kc hV.c4), (kc hV.c5), (kc hV.c6), (kc hV.c7), (kc hV.c8), (kc hV.c9), (kc hV.c10), (kc hV.c11), hV.fr, (fun h0 => hV.x (kb h0)), (kl nl), hV.lb, (fun h0 => hV.lo (kb h0)), (fun h0 => fun h1 => hV.r8 (kb h0) (kb h1)), (kc hV.r9)⟩, rfl⟩
    · have nl := kf hV.ord hl
      have d3 : L 3 = true := hd _ rfl ⟨3, .data⟩ (by simp) rfl
      obtain rfl := (hV.c3 d3).symm
      refine op_at _ rfl rfl (fun K' hK => ?_)
      conv => arg 2; whnf
      go_wp2_with fail
      exact ⟨nb, gn, cn, z28, z29, z30, .pointer (some ⟨X, 0, none⟩), .pointer (some ⟨X, 0, none⟩), z33, z34, z35, z36, z37, z38, z39, ⟨(kl nl), (kq hV.p8_7), (kq hV.p10_9), (kq hV.p11_9), (kq hV.p11_10), (kq hV.p12_8), (kc hV.c0), (kc hV.c1), (kc hV.c2), (kc hV.c3), (fun _ => rfl), (kc hV.c5), (kc hV.c6), (kc hV.c7), (kc hV.c8), (kc hV.c9), (kc hV.c10), (kc hV.c11), hV.fr, (fun h0 => hV.x (kb h0)), (kl nl), hV.lb, (fun h0 => hV.lo (kb h0)), (fun h0 => fun h1 => hV.r8 (kb h0) (kb h1)), (kc hV.r9)⟩, rfl⟩
    · have nl := kf hV.ord hl
      have d4 : L 4 = true := hd _ rfl ⟨4, .data⟩ (by simp) rfl
      obtain rfl := (hV.c4 d4).symm
      have ho := hV.x nl
      have x0 := ho.at 0 _ rfl
      refine op_at _ rfl rfl (fun K' hK => ?_)
      conv => arg 2; whnf
      go_wp2_with fail
      exact ⟨nb, gn, cn, z28, z29, z30, z31, .pointer (some ⟨X, 0, none⟩), va, z34, z35, z36, z37, z38, z39, ⟨(kl nl), (kq hV.p8_7), (kq hV.p10_9), (kq hV.p11_9), (kq hV.p11_10), (kq hV.p12_8), (kc hV.c0), (kc hV.c1), (kc hV.c2), (kc hV.c3), (kc hV.c4), (fun _ => rfl), (kc hV.c6), (kc hV.c7), (kc hV.c8), (kc hV.c9), (kc hV.c10), (kc hV.c11), hV.fr, (fun h0 => hV.x (kb h0)), (kl nl), hV.lb, (fun h0 => hV.lo (kb h0)), (fun h0 => fun h1 => hV.r8 (kb h0) (kb h1)), (kc hV.r9)⟩, rfl⟩
    · have nl := kf hV.ord hl
      have ho := hV.lb
      have y0 := ho.at 0 _ rfl
      have y1 := ho.at 1 _ rfl
      refine op_at _ rfl rfl (fun K' hK => ?_)
      conv => arg 2; whnf
      go_wp2_with fail
      exact ⟨nb, gn, cn, z28, z29, z30, z31, z32, z33, .agg #[.string (strOf y.name), .int .i64 y.size], z35, z36, z37, z38, z39, ⟨(kl nl), (kq hV.p8_7), (kq hV.p10_9), (kq hV.p11_9), (kq hV.p11_10), (kq hV.p12_8), (kc hV.c0), (kc hV.c1), (kc hV.c2), (kc hV.c3), (kc hV.c4), (kc hV.c5), (fun _ => rfl), (kc hV.c7), (kc hV.c8), (kc hV.c9), (kc hV.c10), (kc hV.c11), hV.fr, (fun h0 => hV.x (kb h0)), (kl nl), hV.lb, (fun h0 => hV.lo (kb h0)), (fun h0 => fun h1 => hV.r8 (kb h0) (kb h1)), (kc hV.r9)⟩, rfl⟩
    · have nl := kf hV.ord hl
      have d6 : L 6 = true := hd _ rfl ⟨6, .data⟩ (by simp) rfl
      obtain rfl := (hV.c6 d6).symm
      have hal : Below wx.heap.size wx (wx.alloc (.cells #[.string (strOf y.name), .int .i64 y.size] 45)) := (Below.refl _ _).alloc (Nat.le_refl _) _
      have hfs := hV.fr.size
      refine op_at _ rfl rfl (fun K' hK => ?_)
      conv => arg 2; whnf
      go_wp2_with fail
      exact ⟨wx.heap.size, gn, cn, z28, z29, z30, z31, z32, z33, .agg #[.string (strOf y.name), .int .i64 y.size], .slice (some ⟨(wx.heap.size), 0, none⟩) 1 1, z36, z37, z38, z39, ⟨(kl nl), (fun _ => upd_same L 7), (kq hV.p10_9), (kq hV.p11_9), (kq hV.p11_10), (kq hV.p12_8), (kc hV.c0), (kc hV.c1), (kc hV.c2), (kc hV.c3), (kc hV.c4), (kc hV.c5), (kc hV.c6), (fun _ => rfl), (kc hV.c8), (kc hV.c9), (kc hV.c10), (kc hV.c11), (Fr3.old (hV.fr) hal), (fun h0 => OwnAt.old (hV.x (kb h0)) hal), (kl nl), (OwnAt.old (hV.lb) hal), (fun h0 => RwOwn.old (hV.lo (kb h0)) hal), (fun _ _ => ⟨OwnAt.new wx (arCells y) 45, hfs⟩), (kn hV.p8_7 hl)⟩, rfl⟩
    · have nl := kf hV.ord hl
      have d5 : L 5 = true := hd _ rfl ⟨5, .data⟩ (by simp) rfl
      obtain rfl := (hV.c5 d5).symm
      have d7 : L 7 = true := hd _ rfl ⟨7, .data⟩ (by simp) rfl
      obtain rfl := (hV.c7 d7).symm
      have hr8 := hV.r8 d7 hl
      have hlo := hV.lo hl
      have hfs := hV.fr.size
      refine op_at _ rfl rfl (fun K' hK => ?_)
      conv => arg 2; whnf
      refine wp_arSnoc wx _ _ rfl base rs va rfl hlo y nb 1 rfl hr8.1 hll (Nat.le_trans hbase hfs) ?_
      intro g2 cap2 w2 hr2 hg2 ha2 hl2
      go_wp2_with fail
      exact ⟨nb, g2, cap2, z28, z29, z30, z31, z32, va, z34, .slice (some ⟨nb, 0, none⟩) 1 1, .slice (some ⟨(g2), 0, none⟩) (rs.length + 1) (cap2), z37, z38, z39, ⟨(kl nl), (kd (d7)), (kq hV.p10_9), (kq hV.p11_9), (kq hV.p11_10), (fun _ => upd_same L 8), (kc hV.c0), (kc hV.c1), (kc hV.c2), (kc hV.c3), (kc hV.c4), (kc hV.c5), (kc hV.c6), (kc hV.c7), (fun _ => rfl), (kc hV.c9), (kc hV.c10), (kc hV.c11), (hV.fr.grown hg2 (.inl rfl)), (fun _ => (hV.x nl).grow hg2 HVX.out), (kl nl), (hV.lb.grow hg2 HVL.out), (ks), (fun _ => ks), (fun _ => ⟨hr2, by rcases ha2 with h | h; exact .inl h; exact .inr (by rw [h]; exact hfs)⟩)⟩, rfl⟩
    · have nl := kf hV.ord hl
      have d0 : L 0 = true := hd _ rfl ⟨0, .data⟩ (by simp) rfl
      obtain rfl := (hV.c0 d0).symm
      refine op_at _ rfl rfl (fun K' hK => ?_)
      conv => arg 2; whnf
      go_wp2_with fail
      exact ⟨nb, gn, cn, .pointer (some ⟨X, 0, none⟩), z29, z30, z31, z32, z33, z34, z35, z36, .pointer (some ⟨X, 0, none⟩), z38, z39, ⟨(kl nl), (kq hV.p8_7), (fun _ => upd_same L 9), (fun _ => upd_same L 9), (kq hV.p11_10), (kq hV.p12_8), (kc hV.c0), (kc hV.c1), (kc hV.c2), (kc hV.c3), (kc hV.c4), (kc hV.c5), (kc hV.c6), (kc hV.c7), (kc hV.c8), (fun _ => rfl), (kc hV.c10), (kc hV.c11), hV.fr, (fun h0 => hV.x (kb h0)), (kl nl), hV.lb, (fun h0 => hV.lo (kb h0)), (fun h0 => fun h1 => hV.r8 (kb h0) (kb h1)), (kc hV.r9)⟩, rfl⟩
    · have nl := kf hV.ord hl
      have d9 : L 9 = true := hd _ rfl ⟨9, .data⟩ (by simp) rfl
      obtain rfl := (hV.c9 d9).symm
      refine op_at _ rfl rfl (fun K' hK => ?_)
      conv => arg 2; whnf
      go_wp2_with fail
      exact ⟨nb, gn, cn, z28, z29, z30, z31, z32, z33, z34, z35, z36, .pointer (some ⟨X, 0, none⟩), .pointer (some ⟨X, 0, none⟩), z39, ⟨(kl nl), (kq hV.p8_7), (kd (d9)), (kq hV.p11_9), (fun _ => upd_same L 10), (kq hV.p12_8), (kc hV.c0), (kc hV.c1), (kc hV.c2), (kc hV.c3), (kc hV.c4), (kc hV.c5), (kc hV.c6), (kc hV.c7), (kc hV.c8), (kc hV.c9), (fun _ => rfl), (kc hV.c11), hV.fr, (fun h0 => hV.x (kb h0)), (kl nl), hV.lb, (fun h0 => hV.lo (kb h0)), (fun h0 => fun h1 => hV.r8 (kb h0) (kb h1)), (kc hV.r9)⟩, rfl⟩
    · have nl := kf hV.ord hl
      have d10 : L 10 = true := hd _ rfl ⟨10, .data⟩ (by simp) rfl
      obtain rfl := (hV.c10 d10).symm
      refine op_at _ rfl rfl (fun K' hK => ?_)
      conv => arg 2; whnf
      go_wp2_with fail
      exact ⟨nb, gn, cn, z28, z29, z30, z31, z32, z33, z34, z35, z36, z37, .pointer (some ⟨X, 0, none⟩), .pointer (some ⟨X, 0, none⟩), ⟨(kl nl), (kq hV.p8_7), (kq hV.p10_9), (kd (hV.p10_9 d10)), (kd (d10)), (kq hV.p12_8), (kc hV.c0), (kc hV.c1), (kc hV.c2), (kc hV.c3), (kc hV.c4), (kc hV.c5), (kc hV.c6), (kc hV.c7), (kc hV.c8), (kc hV.c9), (kc hV.c10), (fun _ => rfl), hV.fr, (fun h0 => hV.x (kb h0)), (kl nl), hV.lb, (fun h0 => hV.lo (kb h0)), (fun h0 => fun h1 => hV.r8 (kb h0) (kb h1)), (kc hV.r9)⟩, rfl⟩
    · have before : ∀ j, j < 12 → L j = true := fun j hj => by
        have hj : j = 0 ∨ j = 1 ∨ j = 2 ∨ j = 3 ∨ j = 4 ∨ j = 5 ∨ j = 6 ∨ j = 7 ∨ j = 8 ∨ j = 9 ∨ j = 10 ∨ j = 11 := by omega
        rcases hj with rfl | rfl | rfl | rfl | rfl | rfl | rfl | rfl | rfl | rfl | rfl | rfl
        · exact hd _ rfl ⟨0, .phase⟩ (by simp) rfl
        · exact hd _ rfl ⟨1, .phase⟩ (by simp) rfl
        · exact hd _ rfl ⟨2, .phase⟩ (by simp) rfl
        · exact hd _ rfl ⟨3, .phase⟩ (by simp) rfl
        · exact hd _ rfl ⟨4, .phase⟩ (by simp) rfl
        · exact hd _ rfl ⟨5, .phase⟩ (by simp) rfl
        · exact hd _ rfl ⟨6, .phase⟩ (by simp) rfl
        · exact hd _ rfl ⟨7, .phase⟩ (by simp) rfl
        · exact hd _ rfl ⟨8, .data⟩ (by simp) rfl
        · exact hV.p11_9 (hd _ rfl ⟨11, .data⟩ (by simp) rfl)
        · exact hV.p11_10 (hd _ rfl ⟨11, .data⟩ (by simp) rfl)
        · exact hd _ rfl ⟨11, .data⟩ (by simp) rfl
      have d8 : L 8 = true := hd _ rfl ⟨8, .data⟩ (by simp) rfl
      obtain rfl := (hV.c8 d8).symm
      have d11 : L 11 = true := hd _ rfl ⟨11, .data⟩ (by simp) rfl
      obtain rfl := (hV.c11 d11).symm
      have hx := hV.x hl
      have x0 := hx.at 0 _ rfl
      have fx := hx.fz 0
      have hxl := hx.lt
      have hr9 := hV.r9 (before 8 (by decide))
      refine op_at _ rfl rfl (fun K' hK => ?_)
      conv => arg 2; whnf
      go_wp2_with fail
      exact ⟨nb, gn, cn, z28, z29, z30, z31, z32, z33, z34, z35, .slice (some ⟨gn, 0, none⟩) (rs.length + 1) cn, z37, z38, .pointer (some ⟨X, 0, none⟩), ⟨(fun _ j hj => by rw [upd_ne L (show j ≠ 12 by omega)]; exact before j hj), (kq hV.p8_7), (kq hV.p10_9), (kq hV.p11_9), (kq hV.p11_10), (kd (before 8 (by decide))), (kc hV.c0), (kc hV.c1), (kc hV.c2), (kc hV.c3), (kc hV.c4), (kc hV.c5), (kc hV.c6), (kc hV.c7), (kc hV.c8), (kc hV.c9), (kc hV.c10), (kc hV.c11), (hV.fr.set hXl 0 (.slice (some ⟨gn, 0, none⟩) (rs.length + 1) cn)), (ks), (fun _ => hx.set 0 (.slice (some ⟨gn, 0, none⟩) (rs.length + 1) cn)), (hV.lb.other (fun e => hXL e.symm) 0 (.slice (some ⟨gn, 0, none⟩) (rs.length + 1) cn)), (fun h => by rw [upd_ne L (show 8 ≠ 12 by decide), before 8 (by decide)] at h; cases h), (fun _ h => by rw [upd_ne L (show 8 ≠ 12 by decide), before 8 (by decide)] at h; cases h), (fun _ => ⟨RwOwn.set hr9.1 (fun e => by have e : gn = X := (by injection e); rcases hr9.2 with h | h; exact HVX.out (by rw [h, e]); omega) 0 (.slice (some ⟨gn, 0, none⟩) (rs.length + 1) cn), hr9.2⟩)⟩, rfl⟩
  · intro L act wx hI hall
    obtain ⟨nb, gn, cn, z28, z29, z30, z31, z32, z33, z34, z35, z36, z37, z38, z39, hV, rfl⟩ := hI
    obtain rfl := (hV.c0 (hall 0 (by decide))).symm
    obtain rfl := (hV.c1 (hall 1 (by decide))).symm
    obtain rfl := (hV.c2 (hall 2 (by decide))).symm
    obtain rfl := (hV.c3 (hall 3 (by decide))).symm
    obtain rfl := (hV.c4 (hall 4 (by decide))).symm
    obtain rfl := (hV.c5 (hall 5 (by decide))).symm
    obtain rfl := (hV.c6 (hall 6 (by decide))).symm
    obtain rfl := (hV.c7 (hall 7 (by decide))).symm
    obtain rfl := (hV.c8 (hall 8 (by decide))).symm
    obtain rfl := (hV.c9 (hall 9 (by decide))).symm
    obtain rfl := (hV.c10 (hall 10 (by decide))).symm
    obtain rfl := (hV.c11 (hall 11 (by decide))).symm
    exact hM _ _ (Met.intro (hJ _ _ ⟨nb, gn, cn, ⟨hV.fr, hV.x3 (hall 12 (by decide)), hV.lb, hV.r9 (hall 8 (by decide))⟩, rfl⟩))
end Go.Proofs.YtlkfmnabbmceeaaGreatDoor

namespace Go.Proofs.YtlkfmnabbmceeaaGreatDoor
open Go.RowKit
set_option maxHeartbeats 4000000
set_option maxRecDepth 100000

theorem then_any {P : Program} {c : Code} {K : Act → World → Prop} {Q : Exit → Act → World → Prop} {a : Act} {w : World} (h : c.wp P (Exit.then K (fun _ _ _ => False)) a w) : c.wp P (Exit.then K Q) a w :=
  wp_mono h (fun e a w q => by cases e with
    | normal => exact q
    | _ => exact False.elim q)
/-- A source in memory: its struct in block X, its rows in blocks from base on, apart. -/
structure SrcIn (w : World) (X base : Nat) (s : Src) (va vl wv : Value) : Prop where
  x : OwnAt w X [va, vl, wv] 61
  ar : ArwOwn w base s.arrs va
  ln : LnsOwn w base s.lines vl
  nm : NumsOwn w base s.wh wv
  lt : X < base
  le : base ≤ w.heap.size
  alv : ∀ g, va.ownBlock = some g → vl.ownBlock ≠ some g
  awv : ∀ g, va.ownBlock = some g → wv.ownBlock ≠ some g
  lwv : ∀ g, vl.ownBlock = some g → wv.ownBlock ≠ some g
theorem SrcIn.old {w w' : World} {X base : Nat} {s : Src} {va vl wv : Value} (h : SrcIn w X base s va vl wv) (hb : Below w.heap.size w w') : SrcIn w' X base s va vl wv :=
  ⟨h.x.old hb, RwOwn.old h.ar hb, RwOwn.old h.ln hb, RwOwn.old h.nm hb, h.lt, Nat.le_trans h.le hb.size, h.alv, h.awv, h.lwv⟩
theorem Fr3.below {X base : Nat} {vl wv : Value} {W wx : World} (h : Fr3 X vl wv W wx) (hX : X < base) (h1 : ∀ g, vl.ownBlock = some g → base ≤ g) (h2 : ∀ g, wv.ownBlock = some g → base ≤ g) (hW : base ≤ W.heap.size) : Below X W wx :=
  ⟨h.os, h.tape, h.output, h.size, fun k hk => h.block k (by omega) (by omega) (fun e => by have := h1 k e; omega) (fun e => by have := h2 k e; omega)⟩
theorem Fr3.row {X : Nat} {vl wv : Value} {W wx : World} (h : Fr3 X vl wv W wx) {α : Type} {e : TypeId} {cf : α → List Value} {k : Nat} {base : Nat} {L : List α} {v : Value} (hv : RwOwn e cf k W base L v) (h0 : v.ownBlock ≠ some X) (h1 : ∀ g, v.ownBlock = some g → vl.ownBlock ≠ some g) (h2 : ∀ g, v.ownBlock = some g → wv.ownBlock ≠ some g) : RwOwn e cf k wx base L v := by
  refine ⟨hv.1, ?_⟩
  rcases hv.2 with hn | ⟨g, cap, cur, rfl, hg, hh, r⟩
  · exact .inl hn
  · have hlt := (RwOwn.lt hv g rfl).2
    refine .inr ⟨g, cap, cur, rfl, hg, ?_, r⟩
    rw [h.block g hlt (fun e => h0 (by rw [← e]; rfl)) (h1 g rfl) (h2 g rfl)]; exact hh
theorem src_arr {W w' : World} {X base : Nat} {s : Src} {va vl wv : Value} (h : SrcIn W X base s va vl wv) (hf : Fr3 X va va W w') {y : Ar} {gn n1 cn : Nat} (hx : OwnAt w' X [.slice (some ⟨gn, 0, none⟩) n1 cn, vl, wv] 61)
    (hr : ArwOwn w' base (s.arrs ++ [y]) (.slice (some ⟨gn, 0, none⟩) n1 cn)) (hg : va.ownBlock = some gn ∨ W.heap.size ≤ gn) : SrcIn w' X base { s with arrs := s.arrs ++ [y] } (.slice (some ⟨gn, 0, none⟩) n1 cn) vl wv := by
  have hlt := h.lt
  have hle := h.le
  have hl := RwOwn.lt h.ln
  have hn := RwOwn.lt h.nm
  have inj : ∀ {g : Nat}, (Value.slice (some ⟨gn, 0, none⟩) n1 cn).ownBlock = some g → gn = g := fun e => by injection e
  refine ⟨hx, hr, hf.row h.ln ?_ ?_ ?_, hf.row h.nm ?_ ?_ ?_, h.lt, Nat.le_trans h.le hf.size, ?_, ?_, h.lwv⟩
  · exact fun e => by have := (hl X e).1; omega
  · exact fun g e e2 => h.alv g e2 e
  · exact fun g e e2 => h.alv g e2 e
  · exact fun e => by have := (hn X e).1; omega
  · exact fun g e e2 => h.awv g e2 e
  · exact fun g e e2 => h.awv g e2 e
  · intro g e e2
    have := inj e
    subst this
    rcases hg with hg | hg
    · exact h.alv _ hg e2
    · have := (hl _ e2).2; omega
  · intro g e e2
    have := inj e
    subst this
    rcases hg with hg | hg
    · exact h.awv _ hg e2
    · have := (hn _ e2).2; omega
theorem src_line {W w' : World} {X base : Nat} {s : Src} {va vl wv : Value} (h : SrcIn W X base s va vl wv) (hf : Fr3 X vl wv W w') {l : Ln} {n : Int} {gn n1 cn gm n2 cm : Nat} (hx : OwnAt w' X [va, .slice (some ⟨gn, 0, none⟩) n1 cn, .slice (some ⟨gm, 0, none⟩) n2 cm] 61)
    (hr : LnsOwn w' base (s.lines ++ [l]) (.slice (some ⟨gn, 0, none⟩) n1 cn)) (hg : vl.ownBlock = some gn ∨ W.heap.size ≤ gn)
    (hr2 : NumsOwn w' base (s.wh ++ [n]) (.slice (some ⟨gm, 0, none⟩) n2 cm)) (hg2 : wv.ownBlock = some gm ∨ W.heap.size ≤ gm) (hne : gm ≠ gn) : SrcIn w' X base { s with lines := s.lines ++ [l], wh := s.wh ++ [n] } va (.slice (some ⟨gn, 0, none⟩) n1 cn) (.slice (some ⟨gm, 0, none⟩) n2 cm) := by
  have hlt := h.lt
  have hle := h.le
  have ha := RwOwn.lt h.ar
  have inj : ∀ {g a b c : Nat}, (Value.slice (some ⟨a, 0, none⟩) b c).ownBlock = some g → a = g := fun e => by injection e
  refine ⟨hx, hf.row h.ar ?_ h.alv h.awv, hr, hr2, h.lt, Nat.le_trans h.le hf.size, ?_, ?_, ?_⟩
  · exact fun e => by have := (ha X e).1; omega
  · intro g e e2
    have := inj e2
    subst this
    rcases hg with hg | hg
    · exact h.alv _ e hg
    · have := (ha _ e).2; omega
  · intro g e e2
    have := inj e2
    subst this
    rcases hg2 with hg | hg
    · exact h.awv _ e hg
    · have := (ha _ e).2; omega
  · intro g e e2
    have h1 := inj e
    have h2 := inj e2
    exact hne (h2.trans h1.symm)
/-- What stays: all blocks below base but X's. -/
structure KeepX (X base : Nat) (w w' : World) : Prop where
  os : w'.os = w.os
  tape : w'.tape = w.tape
  output : w'.output = w.output
  size : w.heap.size ≤ w'.heap.size
  block : ∀ k, k < base → k ≠ X → w'.heap[k]? = w.heap[k]?
theorem KeepX.refl (X base : Nat) (w : World) : KeepX X base w w := ⟨rfl, rfl, rfl, Nat.le_refl _, fun _ _ _ => rfl⟩
theorem KeepX.trans {X base : Nat} {a b c : World} (h : KeepX X base a b) (k : KeepX X base b c) : KeepX X base a c := ⟨k.os.trans h.os, k.tape.trans h.tape, k.output.trans h.output, Nat.le_trans h.size k.size, fun j h1 h2 => (k.block j h1 h2).trans (h.block j h1 h2)⟩
theorem KeepX.of_below {X base : Nat} {w w' : World} (h : Below w.heap.size w w') (hb : base ≤ w.heap.size) : KeepX X base w w' := ⟨h.os, h.tape, h.output, h.size, fun j h1 _ => h.block j (by omega)⟩
theorem KeepX.of_fr3 {X base : Nat} {vl wv : Value} {W wx : World} (h : Fr3 X vl wv W wx) (h1 : ∀ g, vl.ownBlock = some g → base ≤ g) (h2 : ∀ g, wv.ownBlock = some g → base ≤ g) (hW : base ≤ W.heap.size) : KeepX X base W wx :=
  ⟨h.os, h.tape, h.output, h.size, fun k hk hX => h.block k (by omega) hX (fun e => by have := h1 k e; omega) (fun e => by have := h2 k e; omega)⟩
theorem KeepX.below {X base : Nat} {w w' : World} (h : KeepX X base w w') (hX : X < base) : Below X w w' := ⟨h.os, h.tape, h.output, h.size, fun k hk => h.block k (by omega) (by omega)⟩
def srcLe (s : Src) : Prop := s.arrs.length ≤ 1000000 ∧ s.lines.length ≤ 1000000 ∧ s.wh.length ≤ 1000000
theorem take_any (X base : Nat) (s : Src) (va vl wv : Value) (t : Bs) (n : Int) (w : World) (h : SrcIn w X base s va vl wv) (hz : t.length ≤ 100000) (hle : srcLe s) (hl : ILib w) :
    Calls Tryz.prog 21 #[.pointer (some ⟨X, 0, none⟩), .string (strOf t), .int .i64 n] w fun e w' => e = .returned (.bool (takeA s t n).isSome) ∧ (∀ s', takeA s t n = some s' → ∃ va' vl' wv', SrcIn w' X base s' va' vl' wv') ∧ KeepX X base w w' := by
  have HI := Lib.hid h; have HLE := Lib.hid hle; have HL := Lib.hid hl
  have hXl := h.x.lt
  have hX0 := h.x.at 0 _ rfl
  clear h hle hl
  cases t with
  | nil =>
    have HR : Hid (takeA s [] n = some s) := rfl
    rw [HR.out]
    go_enter Tryz.func21, Tryz.ntmps21
    go_wp2_with fail
    go_ret
    exact ⟨rfl, fun s' hs => by cases hs; exact ⟨_, _, _, HI.out⟩, KeepX.refl _ _ _⟩
  | cons ch t =>
    have HA := Lib.hid (fun w' h => array_any (ch :: t) hz w' h)
    have HN := Lib.hid (fun w' h => line_any (ch :: t) hz w' h)
    unfold arV at HA
    unfold lnV at HN
    have HT : Hid (takeA s (ch :: t) n = (if (arrayA (ch :: t)).isSome = true ∧ s.lines = [] then (arrayA (ch :: t)).map fun a => { s with arrs := s.arrs ++ [a] } else if (lineA (ch :: t)).2 = true then some { s with lines := s.lines ++ [(lineA (ch :: t)).1], wh := s.wh ++ [n] } else none)) := by
      show _ = _
      unfold takeA
      rw [if_neg (List.cons_ne_nil _ _)]
    go_enter Tryz.func21, Tryz.ntmps21
    obtain ⟨l2, c2, hvl⟩ := RwOwn.shape HI.out.ln
    obtain ⟨lv, hlv⟩ : ∃ lv, (lineA (ch :: t)).1 = lv := ⟨_, rfl⟩
    obtain ⟨lbv, hlbv⟩ : ∃ lbv, (lineA (ch :: t)).2 = lbv := ⟨_, rfl⟩
    rw [hlv, hlbv] at HN HT
    clear hlv hlbv
    cases har : arrayA (ch :: t) with
    | some y =>
      rw [har] at HA HT
      by_cases hno : s.lines = []
      · have HR : Hid (takeA s (ch :: t) n = some { s with arrs := s.arrs ++ [y] }) := by show _ = _; rw [HT.out, if_pos ⟨rfl, hno⟩]; rfl
        rw [HR.out]
        have hlz : s.lines.length = 0 := by rw [hno]; rfl
        rw [hlz] at hvl
        subst hvl
        go_upto_region 5 with (go_at_call 33; refine (HA.out _ HL.out).mono ?_; rintro e w5 ⟨⟨a5, rfl, ha5⟩, hb5⟩; obtain rfl := ha5 y rfl; have HI5 := Lib.hid (HI.out.old hb5); have HB5 := Lib.hid hb5; have x1 := HI5.out.x.at 1 _ rfl; have hXl5 := HI5.out.x.lt; clear hb5 ha5)
        have hAB := OwnAt.new w5 (arCells a5) 45
        have hb6 : Below w5.heap.size w5 (w5.alloc (.cells #[.string (strOf a5.name), .int .i64 a5.size] 45)) := (Below.refl _ _).alloc (Nat.le_refl _) _
        have HI6 := Lib.hid (HI5.out.old hb6)
        have HB6 := Lib.hid (HB5.out.trans (hb6.mono HB5.out.size))
        have hAl : ∀ g, va.ownBlock = some g → g < w5.heap.size := fun g e => (RwOwn.lt HI5.out.ar g e).2
        generalize hW6 : (w5.alloc (.cells #[.string (strOf a5.name), .int .i64 a5.size] 45)) = W6 at *
        have hAB6 : OwnAt W6 w5.heap.size (arCells a5) 45 := by rw [← hW6]; exact hAB
        have hge : ∀ g, va.ownBlock = some g → base ≤ g := fun g e => (RwOwn.lt HI5.out.ar g e).1
        have hXb := HI6.out.lt
        refine wp_cut (fun a' w' => RK5 X w5.heap.size va (.slice l2 0 c2) wv s.arrs a5 base W6 _ _ _ _ _ _ _ _ _ _ _ _ _ _ _ _ _ _ _ _ _ _ _ _ _ _ _ _ _ _ _ _ _ _ _ _ _ _ _ _ _ _ _ _ _ _ _ _ _ _ _ _ _ _ a' w') ?rest (fun J K' hJ hM => then_any (reg_K5 X w5.heap.size va (.slice l2 0 c2) wv s.arrs a5 base W6 HI6.out.x hAB6 (by omega) HI6.out.ar (fun e => by have := hge X e; omega) (fun e => by have := hAl _ e; omega) HLE.out.1 HI6.out.le _ _ _ _ _ _ _ _ _ _ _ _ _ _ _ _ _ _ _ _ _ _ _ _ _ _ _ _ _ _ _ _ _ _ _ _ _ _ _ _ _ _ _ _ _ _ _ _ _ _ _ _ _ _ _ _ _ _ _ _ _ _ _ _ _ _ J K' hJ hM))
        case rest =>
          rintro a' w' ⟨nb, gn, cn, ⟨hfr, hx, _, hr9⟩, rfl⟩
          have HF := Lib.hid hfr; have HX := Lib.hid hx; have HR9 := Lib.hid hr9
          clear hfr hx hr9
          go_wp2_with fail
          go_ret
          have hbX : KeepX X base W6 w' := KeepX.of_fr3 HF.out hge hge HI6.out.le
          refine ⟨rfl, fun s' hs => ?_, (KeepX.of_below HB6.out HI.out.le).trans hbX⟩
          cases hs
          exact ⟨_, _, _, src_arr HI6.out HF.out HX.out HR9.out.1 HR9.out.2⟩
      · have hlz : 0 < s.lines.length := List.length_pos_iff.2 hno
        have hlzI : (0 : Int) < (s.lines.length : Int) := by omega
        have hlz2 : ((s.lines.length : Int) == 0) = false := by simp; omega
        subst hvl
        rw [if_neg (fun hc => hno hc.2)] at HT
        go_upto_region 8 with (first | (go_at_call 33; refine (HA.out _ HL.out).mono ?_; rintro e w5 ⟨⟨a5, rfl, h9⟩, hb5⟩; clear h9; have HI5 := Lib.hid (HI.out.old (hb5.alloc hb5.size (.cells #[.string (strOf a5.name), .int .i64 a5.size] 45))); have HB5 := Lib.hid (hb5.alloc hb5.size (.cells #[.string (strOf a5.name), .int .i64 a5.size] 45)); have HL5 := Lib.hid (HL.out.old HB5.out); have x1 := HI5.out.x.at 1 _ rfl; have hXl5 := HI5.out.x.lt; clear hb5) | (go_at_call 34; refine (HN.out _ HL5.out).mono ?_; rintro e w6 ⟨rfl, hb6⟩; have HI6 := Lib.hid (HI5.out.old hb6); have HB6 := Lib.hid (HB5.out.trans (hb6.mono HB5.out.size)); clear hb6))
        have hLB := OwnAt.new w6 (lnCells lv) 48
        have hb7 : Below w6.heap.size w6 (w6.alloc (.cells #[.string (strOf lv.label), .int .i64 lv.ins.op, .int .i64 lv.ins.d, .int .i64 lv.ins.a, .int .i64 lv.ins.b, .int .i64 lv.ins.n, .string (strOf lv.ins.name)] 48)) := (Below.refl _ _).alloc (Nat.le_refl _) _
        have HI7 := Lib.hid (HI6.out.old hb7)
        have HB7 := Lib.hid (HB6.out.trans (hb7.mono HB6.out.size))
        have hvlt : ∀ g, (Value.slice l2 s.lines.length c2).ownBlock = some g → base ≤ g ∧ g < w6.heap.size := fun g e => RwOwn.lt HI6.out.ln g e
        have hwlt : ∀ g, wv.ownBlock = some g → base ≤ g ∧ g < w6.heap.size := fun g e => RwOwn.lt HI6.out.nm g e
        have hXb := HI6.out.lt
        have hXlt := HI6.out.x.lt
        generalize hW7 : (w6.alloc (.cells #[.string (strOf lv.label), .int .i64 lv.ins.op, .int .i64 lv.ins.d, .int .i64 lv.ins.a, .int .i64 lv.ins.b, .int .i64 lv.ins.n, .string (strOf lv.ins.name)] 48)) = W7 at *
        have hLB7 : OwnAt W7 w6.heap.size (lnCells lv) 48 := by rw [← hW7]; exact hLB
        refine wp_cut (fun a' w' => RK8 X w6.heap.size va (.slice l2 s.lines.length c2) wv s.lines s.wh lv n base W7 _ _ _ _ _ _ _ _ _ _ _ _ _ _ _ _ _ _ _ _ _ _ _ _ _ _ _ _ _ _ _ _ _ _ _ _ _ _ _ _ _ _ _ a' w') ?rest (fun J K' hJ hM => then_any (reg_K8 X w6.heap.size va (.slice l2 s.lines.length c2) wv s.lines s.wh lv n base W7 HI7.out.x hLB7 (by omega) HI7.out.ln HI7.out.nm (fun e => by have := hvlt X e; omega) (fun e => by have := hwlt X e; omega) (fun e => by have := hvlt _ e; omega) (fun e => by have := hwlt _ e; omega) HI7.out.lwv HLE.out.2.1 HLE.out.2.2 HI7.out.le _ _ _ _ _ _ _ _ _ _ _ _ _ _ _ _ _ _ _ _ _ _ _ _ _ _ _ _ _ _ _ _ _ _ _ _ _ _ _ _ _ _ _ _ _ _ _ _ _ _ _ _ _ _ _ _ _ _ _ _ _ _ _ _ _ J K' hJ hM))
        case rest =>
          rintro a' w' ⟨nb, gn, cn, mb, gm, cm, ⟨hfr, hx, _, ⟨hr9, hg9⟩, hr16, hg16, hne⟩, rfl⟩
          have HF := Lib.hid hfr; have HX := Lib.hid hx; have HR9 := Lib.hid hr9; have HG9 := Lib.hid hg9; have HR16 := Lib.hid hr16; have HG16 := Lib.hid hg16; have HNE := Lib.hid hne
          clear hfr hx hr9 hg9 hr16 hg16 hne
          go_wp2_with fail
          go_ret
          have hbX : KeepX X base W7 w' := KeepX.of_fr3 HF.out (fun g e => (hvlt g e).1) (fun g e => (hwlt g e).1) HI7.out.le
          have hsr := src_line HI7.out HF.out HX.out HR9.out HG9.out HR16.out HG16.out HNE.out
          rw [HT.out]
          cases hlb : lbv with
          | true => exact ⟨rfl, fun s' hs => by cases hs; exact ⟨_, _, _, hsr⟩, (KeepX.of_below HB7.out HI.out.le).trans hbX⟩
          | false => exact ⟨rfl, (fun s' hs => by cases hs), (KeepX.of_below HB7.out HI.out.le).trans hbX⟩
    | none =>
      rw [har] at HA HT
      rw [if_neg (fun hc => by cases hc.1)] at HT
      subst hvl
      go_upto_region 8 with (first | (go_at_call 33; refine (HA.out _ HL.out).mono ?_; rintro e w5 ⟨⟨a5, rfl, h9⟩, hb5⟩; clear h9; have HI5 := Lib.hid (HI.out.old (hb5.alloc hb5.size (.cells #[.string (strOf a5.name), .int .i64 a5.size] 45))); have HB5 := Lib.hid (hb5.alloc hb5.size (.cells #[.string (strOf a5.name), .int .i64 a5.size] 45)); have HL5 := Lib.hid (HL.out.old HB5.out); have x1 := HI5.out.x.at 1 _ rfl; have hXl5 := HI5.out.x.lt; clear hb5) | (go_at_call 34; refine (HN.out _ HL5.out).mono ?_; rintro e w6 ⟨rfl, hb6⟩; have HI6 := Lib.hid (HI5.out.old hb6); have HB6 := Lib.hid (HB5.out.trans (hb6.mono HB5.out.size)); clear hb6))
      have hLB := OwnAt.new w6 (lnCells lv) 48
      have hb7 : Below w6.heap.size w6 (w6.alloc (.cells #[.string (strOf lv.label), .int .i64 lv.ins.op, .int .i64 lv.ins.d, .int .i64 lv.ins.a, .int .i64 lv.ins.b, .int .i64 lv.ins.n, .string (strOf lv.ins.name)] 48)) := (Below.refl _ _).alloc (Nat.le_refl _) _
      have HI7 := Lib.hid (HI6.out.old hb7)
      have HB7 := Lib.hid (HB6.out.trans (hb7.mono HB6.out.size))
      have hvlt : ∀ g, (Value.slice l2 s.lines.length c2).ownBlock = some g → base ≤ g ∧ g < w6.heap.size := fun g e => RwOwn.lt HI6.out.ln g e
      have hwlt : ∀ g, wv.ownBlock = some g → base ≤ g ∧ g < w6.heap.size := fun g e => RwOwn.lt HI6.out.nm g e
      have hXb := HI6.out.lt
      have hXlt := HI6.out.x.lt
      generalize hW7 : (w6.alloc (.cells #[.string (strOf lv.label), .int .i64 lv.ins.op, .int .i64 lv.ins.d, .int .i64 lv.ins.a, .int .i64 lv.ins.b, .int .i64 lv.ins.n, .string (strOf lv.ins.name)] 48)) = W7 at *
      have hLB7 : OwnAt W7 w6.heap.size (lnCells lv) 48 := by rw [← hW7]; exact hLB
      refine wp_cut (fun a' w' => RK8 X w6.heap.size va (.slice l2 s.lines.length c2) wv s.lines s.wh lv n base W7 _ _ _ _ _ _ _ _ _ _ _ _ _ _ _ _ _ _ _ _ _ _ _ _ _ _ _ _ _ _ _ _ _ _ _ _ _ _ _ _ _ _ _ a' w') ?rest (fun J K' hJ hM => then_any (reg_K8 X w6.heap.size va (.slice l2 s.lines.length c2) wv s.lines s.wh lv n base W7 HI7.out.x hLB7 (by omega) HI7.out.ln HI7.out.nm (fun e => by have := hvlt X e; omega) (fun e => by have := hwlt X e; omega) (fun e => by have := hvlt _ e; omega) (fun e => by have := hwlt _ e; omega) HI7.out.lwv HLE.out.2.1 HLE.out.2.2 HI7.out.le _ _ _ _ _ _ _ _ _ _ _ _ _ _ _ _ _ _ _ _ _ _ _ _ _ _ _ _ _ _ _ _ _ _ _ _ _ _ _ _ _ _ _ _ _ _ _ _ _ _ _ _ _ _ _ _ _ _ _ _ _ _ _ _ _ J K' hJ hM))
      case rest =>
        rintro a' w' ⟨nb, gn, cn, mb, gm, cm, ⟨hfr, hx, _, ⟨hr9, hg9⟩, hr16, hg16, hne⟩, rfl⟩
        have HF := Lib.hid hfr; have HX := Lib.hid hx; have HR9 := Lib.hid hr9; have HG9 := Lib.hid hg9; have HR16 := Lib.hid hr16; have HG16 := Lib.hid hg16; have HNE := Lib.hid hne
        clear hfr hx hr9 hg9 hr16 hg16 hne
        go_wp2_with fail
        go_ret
        have hbX : KeepX X base W7 w' := KeepX.of_fr3 HF.out (fun g e => (hvlt g e).1) (fun g e => (hwlt g e).1) HI7.out.le
        have hsr := src_line HI7.out HF.out HX.out HR9.out HG9.out HR16.out HG16.out HNE.out
        rw [HT.out]
        cases hlb : lbv with
        | true => exact ⟨rfl, fun s' hs => by cases hs; exact ⟨_, _, _, hsr⟩, (KeepX.of_below HB7.out HI.out.le).trans hbX⟩
        | false => exact ⟨rfl, (fun s' hs => by cases hs), (KeepX.of_below HB7.out HI.out.le).trans hbX⟩
end Go.Proofs.YtlkfmnabbmceeaaGreatDoor
