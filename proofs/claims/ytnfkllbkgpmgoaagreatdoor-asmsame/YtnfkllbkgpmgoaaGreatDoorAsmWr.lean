/-
  AsmWrong: a line put into the others, in whatever order it is built. Conditions: the code is the law's own.
-/
import Derived.Test.YtnfkllbkgpmgoaaGreatDoorAsmTw
set_option linter.unusedVariables false
set_option linter.unusedSimpArgs false
namespace Go.Proofs.YtnfkllbkgpmgoaaGreatDoor
open Go.RowKit
set_option maxHeartbeats 8000000
set_option maxRecDepth 100000

theorem Fr3.newer {X : Nat} {vl wv : Value} {W wx w' : World} (h : Fr3 X vl wv W wx) {row : Option Nat} (hg : wx.grownBy w' row) (hr : ∀ k, row = some k → W.heap.size ≤ k) : Fr3 X vl wv W w' :=
  ⟨hg.os.trans h.os, hg.tape.trans h.tape, hg.output.trans h.output, Nat.le_trans h.size hg.size, fun k hk h1 h2 h3 => (hg.block k (Nat.lt_of_lt_of_le hk h.size) (fun e => by have := hr k e.symm; omega)).trans (h.block k hk h1 h2 h3)⟩
/-- Lines appended to lines, of any number. -/
theorem wp_rapp (w : World) {o : Oper} {a : Act} {K : Act → World → Prop} {Q : Exit → Act → World → Prop} (s x : Operand) (ho : o.op = .call { callee := .builtin .append, args := #[s, x], argTypes := #[22, 22] })
    (base : Nat) (L : List Ln) (v : Value) (hs : a.eval s = v) (hown : LnsOwn w base L v) (M : List Ln) (ad : Addr) (m c : Nat) (hx : a.eval x = .slice (some ad) m c) (hm : M.length = m) (hnews : ∀ j u, (M.flatMap lnCells)[j]? = some u → w.cell? (ad.add j) = some u)
    (hlen : L.length + m ≤ 1000000) (hbase : base ≤ w.heap.size)
    (h : ∀ v' w', LnsOwn w' base (L ++ M) v' → w.grownBy w' v.ownBlock → (v'.ownBlock = v.ownBlock ∨ v'.ownBlock = some w.heap.size) → K (a.put o.dst v') w') : o.wp Tryz.prog a w K Q := by
  obtain ⟨i0, hi, hz0, hz1, hz2⟩ := info_parts infoLn
  have hfl : ∀ M : List Ln, (M.flatMap lnCells).length = M.length * 7 := fun M => by
    induction M with
    | nil => rfl
    | cons y M ih => rw [List.flatMap_cons, List.length_append, ih, lnCells_len, List.length_cons]; omega
  obtain ⟨v', w', hr, h2, h3, h4, h5⟩ := run_append_own_at (P := Tryz.prog) w base 22 o.type 44 i0 _ 7 72 Tryz.underlying22 hi hz0 hz1 hz2 rfl (by decide) v L.length (L.flatMap lnCells) hown ad m c (M.flatMap lnCells) (by rw [hfl, hm]) hnews (fun u hu => by obtain ⟨y, _, hy⟩ := List.mem_flatMap.1 hu; exact lnCells_one y u hy) (by unfold maxLen; omega) (by omega) hbase
  unfold Oper.wp execOp
  simp only [ho, resolve, invoke, builtin, Sem.run_bind, Sem.run_pure, Result.andThen_ok, List.map_toArray, List.map_cons, List.map_nil, hs, hx, hr]
  refine h v' w' ?_ h3 h5
  unfold LnsOwn RwOwn
  rw [List.length_append, List.flatMap_append, hm]
  exact h2
theorem row_cells {w : World} {base : Nat} {L : List Ln} {g n cap : Nat} (h : LnsOwn w base L (.slice (some ⟨g, 0, none⟩) n cap)) : ∀ j u, (L.flatMap lnCells)[j]? = some u → w.cell? ⟨g, j, none⟩ = some u := by
  intro j u hu
  have h2 := World.ownsRow.cells h (g := g) rfl j u hu
  have h3 : (⟨g, 0, none⟩ : Addr).add j = ⟨g, j, none⟩ := by unfold Addr.add; split <;> simp_all
  rwa [h3] at h2
theorem pre_cells {w : World} {base : Nat} {L : List Ln} {g n cap : Nat} (h : LnsOwn w base L (.slice (some ⟨g, 0, none⟩) n cap)) (k : Nat) : ∀ j u, ((L.take k).flatMap lnCells)[j]? = some u → w.cell? ((⟨g, 0, none⟩ : Addr).add j) = some u := by
  intro j u hu
  have h3 : (⟨g, 0, none⟩ : Addr).add j = ⟨g, j, none⟩ := by unfold Addr.add; split <;> simp_all
  rw [h3]
  refine row_cells h j u ?_
  rw [← List.take_append_drop k L, List.flatMap_append, List.getElem?_append_left (List.getElem?_eq_some_iff.1 hu).1]
  exact hu
theorem post_cells {w : World} {base : Nat} {L : List Ln} {g n cap : Nat} (h : LnsOwn w base L (.slice (some ⟨g, 0, none⟩) n cap)) {k : Nat} (hk : k ≤ L.length) {ad : Addr} (ha : ad = ⟨g, k * 7, none⟩ ∨ (L.length ≤ k ∧ ad = ad)) : ∀ j u, ((L.drop k).flatMap lnCells)[j]? = some u → w.cell? (ad.add j) = some u := by
  intro j u hu
  rcases ha with rfl | ⟨hk2, _⟩
  · have h3 : (⟨g, k * 7, none⟩ : Addr).add j = ⟨g, k * 7 + j, none⟩ := by unfold Addr.add; split <;> simp_all
    rw [h3]
    refine row_cells h _ u ?_
    have hfl : ∀ M : List Ln, (M.flatMap lnCells).length = M.length * 7 := fun M => by
      induction M with
      | nil => rfl
      | cons y M ih => rw [List.flatMap_cons, List.length_append, ih, lnCells_len, List.length_cons]; omega
    have hlt : ((L.take k).flatMap lnCells).length = k * 7 := by rw [hfl, List.length_take]; congr 1; omega
    rw [← List.take_append_drop k L, List.flatMap_append, List.getElem?_append_right (by omega), hlt, Nat.add_sub_cancel_left]
    exact hu
  · rw [List.drop_of_length_le hk2] at hu
    simp at hu
theorem bad_cells {w : World} {b : Nat} {L : List Ln} (h : OwnAt w b (L.flatMap lnCells) 44) {q : Nat} {y : Ln} (hy : L[q]? = some y) : w.cell? ⟨b, q * 7, none⟩ = some (.string (strOf y.label)) ∧ w.cell? ⟨b, q * 7 + 1, none⟩ = some (.int .i64 y.ins.op) ∧ w.cell? ⟨b, q * 7 + 2, none⟩ = some (.int .i64 y.ins.d) ∧ w.cell? ⟨b, q * 7 + 3, none⟩ = some (.int .i64 y.ins.a) ∧ w.cell? ⟨b, q * 7 + 4, none⟩ = some (.int .i64 y.ins.b) ∧ w.cell? ⟨b, q * 7 + 5, none⟩ = some (.int .i64 y.ins.n) ∧ w.cell? ⟨b, q * 7 + 6, none⟩ = some (.string (strOf y.ins.name)) := by
  have hc : ∀ p u, p < 7 → (lnCells y)[p]? = some u → w.cell? ⟨b, q * 7 + p, none⟩ = some u := fun p u hp hu => h.at (q * 7 + p) u (by rw [iflat_at lnCells 7 lnCells_len L q p y hy hp]; exact hu)
  exact ⟨hc 0 _ (by decide) rfl, hc 1 _ (by decide) rfl, hc 2 _ (by decide) rfl, hc 3 _ (by decide) rfl, hc 4 _ (by decide) rfl, hc 5 _ (by decide) rfl, hc 6 _ (by decide) rfl⟩
structure VW9a (X : Nat) (va : Value) (g0 vc BB : Nat) (ls bad tk dk : List Ln) (yl : Ln) (kk qq lz : Nat) (base : Nat) (W : World) (L : Nat → Bool) (v4 : Value) (nb : Nat) (gq1 : Nat) (cq1 : Nat) (az : Option Addr) (cz : Nat) (z44 z45 z46 z47 z48 z49 z50 z51 z52 z53 z54 z55 z56 z57 z58 z59 z60 : Value) (wx : World) : Prop where
  ord : L 17 = true → ∀ j, j < 17 → L j = true
  p10_4 : L 10 = true → L 4 = true
  p10_9 : L 10 = true → L 9 = true
  p15_4 : L 15 = true → L 4 = true
  p15_9 : L 15 = true → L 9 = true
  p15_10 : L 15 = true → L 10 = true
  p17_15 : L 17 = true → L 15 = true
  c0 : L 0 = true → z44 = .pointer (some ⟨X, 1, none⟩)
  c1 : L 1 = true → z45 = .slice (some ⟨g0, 0, none⟩) ls.length vc
  c2 : L 2 = true → z46 = .int .i64 kk
  c3 : L 3 = true → z47 = .slice (some ⟨g0, 0, none⟩) kk vc
  c4 : L 4 = true → z48 = v4
  c5 : L 5 = true → z49 = .slice (some ⟨BB, 0, none⟩) 6 6
  c6 : L 6 = true → z50 = .int .i64 qq
  c7 : L 7 = true → z51 = .pointer (some ⟨BB, qq * 7, none⟩)
  c8 : L 8 = true → z52 = .agg #[.string (strOf yl.label), .int .i64 yl.ins.op, .int .i64 yl.ins.d, .int .i64 yl.ins.a, .int .i64 yl.ins.b, .int .i64 yl.ins.n, .string (strOf yl.ins.name)]
  c9 : L 9 = true → z53 = .slice (some ⟨nb, 0, none⟩) 1 1
  c10 : L 10 = true → z54 = .slice (some ⟨gq1, 0, none⟩) (tk.length + 1) cq1
  c11 : L 11 = true → z55 = .pointer (some ⟨X, 1, none⟩)
  c12 : L 12 = true → z56 = .slice (some ⟨g0, 0, none⟩) ls.length vc
  c13 : L 13 = true → z57 = .int .i64 kk
  c14 : L 14 = true → z58 = .slice (some ⟨g0, kk * 7, none⟩) (ls.length - kk) (vc - kk)
  c15 : L 15 = true → z59 = .slice az lz cz
  c16 : L 16 = true → z60 = .pointer (some ⟨X, 1, none⟩)
  fr : Fr3 X (.slice none 0 0) (.slice none 0 0) W wx
  x : L 17 = false → OwnAt wx X [va, .slice (some ⟨g0, 0, none⟩) ls.length vc] 27
  x3 : L 17 = true → OwnAt wx X [va, .slice az lz cz] 27
  r4 : L 4 = true → L 10 = false → LnsOwn wx W.heap.size tk v4
  r9 : L 9 = true → L 10 = false → OwnAt wx nb (lnCells yl) 44
  r10 : L 10 = true → L 15 = false → LnsOwn wx W.heap.size (tk ++ [yl]) (.slice (some ⟨gq1, 0, none⟩) (tk.length + 1) cq1)
  r15 : L 15 = true → LnsOwn wx W.heap.size (tk ++ [yl] ++ dk) (.slice az lz cz)
def IW9a (X : Nat) (va : Value) (g0 vc BB : Nat) (ls bad tk dk : List Ln) (yl : Ln) (kk qq lz : Nat) (base : Nat) (W : World) (q0 q1 q2 q3 q4 q5 q6 q7 q12 q13 q14 q15 q16 q17 q18 q19 q20 q21 q22 q23 q24 q25 q26 q27 q28 q29 q30 q31 q32 q33 q34 q35 q36 q37 q38 q39 q40 q41 q42 q43 q61 q62 q63 q64 q65 q66 q67 q68 q69 q70 q71 q72 q73 q74 q75 q76 q77 q78 q79 q80 q81 q82 q83 q84 q85 q86 q87 q88 q89 q90 q91 q92 q93 q94 q95 q96 q97 q98 q99 q100 q101 q102 : Value) (L : Nat → Bool) (a' : Act) (w' : World) : Prop :=
  ∃ v4 : Value, ∃ nb : Nat, ∃ gq1 : Nat, ∃ cq1 : Nat, ∃ az : Option Addr, ∃ cz : Nat, ∃ z44 z45 z46 z47 z48 z49 z50 z51 z52 z53 z54 z55 z56 z57 z58 z59 z60 : Value, VW9a X va g0 vc BB ls bad tk dk yl kk qq lz base W L v4 nb gq1 cq1 az cz z44 z45 z46 z47 z48 z49 z50 z51 z52 z53 z54 z55 z56 z57 z58 z59 z60 w' ∧ a' = ⟨[q0, q1, q2, q3, q4, q5, q6, q7, .pointer (some ⟨X, 0, none⟩), .int .i64 kk, .slice (some ⟨BB, 0, none⟩) 6 6, .int .i64 qq, q12, q13, q14, q15, q16, q17, q18, q19, q20, q21, q22, q23, q24, q25, q26, q27, q28, q29, q30, q31, q32, q33, q34, q35, q36, q37, q38, q39, q40, q41, q42, q43, z44, z45, z46, z47, z48, z49, z50, z51, z52, z53, z54, z55, z56, z57, z58, z59, z60, q61, q62, q63, q64, q65, q66, q67, q68, q69, q70, q71, q72, q73, q74, q75, q76, q77, q78, q79, q80, q81, q82, q83, q84, q85, q86, q87, q88, q89, q90, q91, q92, q93, q94, q95, q96, q97, q98, q99, q100, q101, q102].toArray, []⟩
def RW9a (X : Nat) (va : Value) (g0 vc BB : Nat) (ls bad tk dk : List Ln) (yl : Ln) (kk qq lz : Nat) (base : Nat) (W : World) (q0 q1 q2 q3 q4 q5 q6 q7 q12 q13 q14 q15 q16 q17 q18 q19 q20 q21 q22 q23 q24 q25 q26 q27 q28 q29 q30 q31 q32 q33 q34 q35 q36 q37 q38 q39 q40 q41 q42 q43 q61 q62 q63 q64 q65 q66 q67 q68 q69 q70 q71 q72 q73 q74 q75 q76 q77 q78 q79 q80 q81 q82 q83 q84 q85 q86 q87 q88 q89 q90 q91 q92 q93 q94 q95 q96 q97 q98 q99 q100 q101 q102 : Value) (a' : Act) (w' : World) : Prop :=
  ∃ v4 : Value, ∃ nb : Nat, ∃ gq1 : Nat, ∃ cq1 : Nat, ∃ az : Option Addr, ∃ cz : Nat, ((Fr3 X (.slice none 0 0) (.slice none 0 0) W w') ∧ (OwnAt w' X [va, .slice az lz cz] 27) ∧ (LnsOwn w' W.heap.size (tk ++ [yl] ++ dk) (.slice az lz cz))) ∧ a' = ⟨[q0, q1, q2, q3, q4, q5, q6, q7, .pointer (some ⟨X, 0, none⟩), .int .i64 kk, .slice (some ⟨BB, 0, none⟩) 6 6, .int .i64 qq, q12, q13, q14, q15, q16, q17, q18, q19, q20, q21, q22, q23, q24, q25, q26, q27, q28, q29, q30, q31, q32, q33, q34, q35, q36, q37, q38, q39, q40, q41, q42, q43, .pointer (some ⟨X, 1, none⟩), .slice (some ⟨g0, 0, none⟩) ls.length vc, .int .i64 kk, .slice (some ⟨g0, 0, none⟩) kk vc, v4, .slice (some ⟨BB, 0, none⟩) 6 6, .int .i64 qq, .pointer (some ⟨BB, qq * 7, none⟩), .agg #[.string (strOf yl.label), .int .i64 yl.ins.op, .int .i64 yl.ins.d, .int .i64 yl.ins.a, .int .i64 yl.ins.b, .int .i64 yl.ins.n, .string (strOf yl.ins.name)], .slice (some ⟨nb, 0, none⟩) 1 1, .slice (some ⟨gq1, 0, none⟩) (tk.length + 1) cq1, .pointer (some ⟨X, 1, none⟩), .slice (some ⟨g0, 0, none⟩) ls.length vc, .int .i64 kk, .slice (some ⟨g0, kk * 7, none⟩) (ls.length - kk) (vc - kk), .slice az lz cz, .pointer (some ⟨X, 1, none⟩), q61, q62, q63, q64, q65, q66, q67, q68, q69, q70, q71, q72, q73, q74, q75, q76, q77, q78, q79, q80, q81, q82, q83, q84, q85, q86, q87, q88, q89, q90, q91, q92, q93, q94, q95, q96, q97, q98, q99, q100, q101, q102].toArray, []⟩
theorem reg_W9a (X : Nat) (va : Value) (g0 vc BB : Nat) (ls bad tk dk : List Ln) (yl : Ln) (kk qq lz : Nat) (base : Nat) (W : World) (hx0 : OwnAt W X [va, .slice (some ⟨g0, 0, none⟩) ls.length vc] 27) (hlo : LnsOwn W base ls (.slice (some ⟨g0, 0, none⟩) ls.length vc)) (hbad : OwnAt W BB (bad.flatMap lnCells) 44) (hb6 : bad.length = 6) (hq : qq < 6) (hyl : bad[qq]? = some yl) (hvX : g0 ≠ X) (hBX : BB ≠ X) (hll : ls.length ≤ 1000) (hkl : kk ≤ ls.length) (hvc : ls.length ≤ vc) (hvc1 : vc ≤ 9223372036854775807) (hl0 : 0 < ls.length) (htk : ls.take kk = tk) (hdk : ls.drop kk = dk) (hlz : (tk ++ [yl] ++ dk).length = lz) (hvk : ¬ vc = kk) (q0 q1 q2 q3 q4 q5 q6 q7 q12 q13 q14 q15 q16 q17 q18 q19 q20 q21 q22 q23 q24 q25 q26 q27 q28 q29 q30 q31 q32 q33 q34 q35 q36 q37 q38 q39 q40 q41 q42 q43 q44 q45 q46 q47 q48 q49 q50 q51 q52 q53 q54 q55 q56 q57 q58 q59 q60 q61 q62 q63 q64 q65 q66 q67 q68 q69 q70 q71 q72 q73 q74 q75 q76 q77 q78 q79 q80 q81 q82 q83 q84 q85 q86 q87 q88 q89 q90 q91 q92 q93 q94 q95 q96 q97 q98 q99 q100 q101 q102 : Value) (J K' : Act → World → Prop) (hJ : ∀ a' w', RW9a X va g0 vc BB ls bad tk dk yl kk qq lz base W q0 q1 q2 q3 q4 q5 q6 q7 q12 q13 q14 q15 q16 q17 q18 q19 q20 q21 q22 q23 q24 q25 q26 q27 q28 q29 q30 q31 q32 q33 q34 q35 q36 q37 q38 q39 q40 q41 q42 q43 q61 q62 q63 q64 q65 q66 q67 q68 q69 q70 q71 q72 q73 q74 q75 q76 q77 q78 q79 q80 q81 q82 q83 q84 q85 q86 q87 q88 q89 q90 q91 q92 q93 q94 q95 q96 q97 q98 q99 q100 q101 q102 a' w' → J a' w') (hM : ∀ a' w', Met J a' w' → K' a' w') :
    Code.wp Tryz.prog ((Tryz.f5.body.bind (regOf 9)).getD .skip) (Exit.then K' (fun _ _ _ => False)) ⟨[q0, q1, q2, q3, q4, q5, q6, q7, .pointer (some ⟨X, 0, none⟩), .int .i64 kk, .slice (some ⟨BB, 0, none⟩) 6 6, .int .i64 qq, q12, q13, q14, q15, q16, q17, q18, q19, q20, q21, q22, q23, q24, q25, q26, q27, q28, q29, q30, q31, q32, q33, q34, q35, q36, q37, q38, q39, q40, q41, q42, q43, q44, q45, q46, q47, q48, q49, q50, q51, q52, q53, q54, q55, q56, q57, q58, q59, q60, q61, q62, q63, q64, q65, q66, q67, q68, q69, q70, q71, q72, q73, q74, q75, q76, q77, q78, q79, q80, q81, q82, q83, q84, q85, q86, q87, q88, q89, q90, q91, q92, q93, q94, q95, q96, q97, q98, q99, q100, q101, q102].toArray, []⟩ W := by
  have hXl : X < W.heap.size := hx0.lt
  have hg0 : base ≤ g0 ∧ g0 < W.heap.size := RwOwn.lt hlo g0 rfl
  have hBBl := hbad.lt
  have HX0 := Lib.hid hx0; have HLO := Lib.hid hlo; have HBAD := Lib.hid hbad; have HYL := Lib.hid hyl; have HB6 := Lib.hid hb6
  have hllI : (ls.length : Int) ≤ 1000 := by omega
  have hkI : (kk : Int) ≤ (ls.length : Int) := by omega
  have hvcI : (ls.length : Int) ≤ (vc : Int) := by omega
  have hvcI1 : (vc : Int) ≤ 9223372036854775807 := by omega
  have hkvI : (kk : Int) ≤ (vc : Int) := by omega
  have hqI : (qq : Int) < 6 := by omega
  have hvc0 : ¬ vc = 0 := by omega
  have hvc00 : ¬ (vc : Int) = 0 := by omega
  have hvk1 : ¬ (vc : Int) = (kk : Int) := by omega
  have hvk2 : 0 < vc - kk := by omega
  have hvk3 : ¬ vc - kk = 0 := by omega
  have htl : tk.length = kk := by rw [← htk, List.length_take]; omega
  have hdl : dk.length = ls.length - kk := by rw [← hdk, List.length_drop]
  have HTK := Lib.hid htk; have HDK := Lib.hid hdk; have HLZ := Lib.hid hlz; have HTL := Lib.hid htl; have HDL := Lib.hid hdl
  clear hx0 hlo hbad hyl hb6 htk hdk hlz htl hdl
  conv => arg 2; whnf
  dsimp only
  refine region_by (by kernel_rfl) (by kernel_rfl) (IW9a X va g0 vc BB ls bad tk dk yl kk qq lz base W q0 q1 q2 q3 q4 q5 q6 q7 q12 q13 q14 q15 q16 q17 q18 q19 q20 q21 q22 q23 q24 q25 q26 q27 q28 q29 q30 q31 q32 q33 q34 q35 q36 q37 q38 q39 q40 q41 q42 q43 q61 q62 q63 q64 q65 q66 q67 q68 q69 q70 q71 q72 q73 q74 q75 q76 q77 q78 q79 q80 q81 q82 q83 q84 q85 q86 q87 q88 q89 q90 q91 q92 q93 q94 q95 q96 q97 q98 q99 q100 q101 q102) ?_ ?_ ?_
  · exact ⟨undef, 0, 0, 0, none, 0, q44, q45, q46, q47, q48, q49, q50, q51, q52, q53, q54, q55, q56, q57, q58, q59, q60, ⟨(fun h => by cases h), (fun h => by cases h), (fun h => by cases h), (fun h => by cases h), (fun h => by cases h), (fun h => by cases h), (fun h => by cases h), (fun h => by cases h), (fun h => by cases h), (fun h => by cases h), (fun h => by cases h), (fun h => by cases h), (fun h => by cases h), (fun h => by cases h), (fun h => by cases h), (fun h => by cases h), (fun h => by cases h), (fun h => by cases h), (fun h => by cases h), (fun h => by cases h), (fun h => by cases h), (fun h => by cases h), (fun h => by cases h), (fun h => by cases h), (Fr3.old (Fr3.refl _ _ _ _) (Below.refl _ _).drew), (fun _ => HX0.out.old (Below.refl _ _).drew), (fun h => by cases h), (fun h => fun _ => by cases h), (fun h => fun _ => by cases h), (fun h => fun _ => by cases h), (fun h => by cases h)⟩, rfl⟩
  · intro L act wx k hI hk hl hd
    obtain ⟨v4, nb, gq1, cq1, az, cz, z44, z45, z46, z47, z48, z49, z50, z51, z52, z53, z54, z55, z56, z57, z58, z59, z60, hV, rfl⟩ := hI
    have hk : k = 0 ∨ k = 1 ∨ k = 2 ∨ k = 3 ∨ k = 4 ∨ k = 5 ∨ k = 6 ∨ k = 7 ∨ k = 8 ∨ k = 9 ∨ k = 10 ∨ k = 11 ∨ k = 12 ∨ k = 13 ∨ k = 14 ∨ k = 15 ∨ k = 16 ∨ k = 17 := by
      have : k < 18 := hk
      omega
    rcases hk with rfl | rfl | rfl | rfl | rfl | rfl | rfl | rfl | rfl | rfl | rfl | rfl | rfl | rfl | rfl | rfl | rfl | rfl
    · have nl := kf hV.ord hl
      refine op_at _ rfl rfl (fun K' hK => ?_)
      conv => arg 2; whnf
      go_wp2_with fail
      exact ⟨v4, nb, gq1, cq1, az, cz, .pointer (some ⟨X, 1, none⟩), z45, z46, z47, z48, z49, z50, z51, z52, z53, z54, z55, z56, z57, z58, z59, z60, ⟨(kl nl), (kq hV.p10_4), (kq hV.p10_9), (kq hV.p15_4), (kq hV.p15_9), (kq hV.p15_10), (kq hV.p17_15), (fun _ => rfl), (kc hV.c1), (kc hV.c2), (kc hV.c3), (kc hV.c4), (kc hV.c5), (kc hV.c6), (kc hV.c7), (kc hV.c8), (kc hV.c9), (kc hV.c10), (kc hV.c11), (kc hV.c12), (kc hV.c13), (kc hV.c14), (kc hV.c15), (kc hV.c16), hV.fr, (fun h0 => hV.x (kb h0)), (kl nl), (fun h0 => fun h1 => hV.r4 (kb h0) (kb h1)), (fun h0 => fun h1 => hV.r9 (kb h0) (kb h1)), (fun h0 => fun h1 => hV.r10 (kb h0) (kb h1)), (kc hV.r15)⟩, rfl⟩
    · have nl := kf hV.ord hl
      have d0 : L 0 = true := hd _ rfl ⟨0, .data⟩ (by simp) rfl
      obtain rfl := (hV.c0 d0).symm
      have ho := hV.x nl
      have x1 := ho.at 1 _ rfl
      refine op_at _ rfl rfl (fun K' hK => ?_)
      conv => arg 2; whnf
      go_wp2_with fail
      exact ⟨v4, nb, gq1, cq1, az, cz, .pointer (some ⟨X, 1, none⟩), .slice (some ⟨g0, 0, none⟩) ls.length vc, z46, z47, z48, z49, z50, z51, z52, z53, z54, z55, z56, z57, z58, z59, z60, ⟨(kl nl), (kq hV.p10_4), (kq hV.p10_9), (kq hV.p15_4), (kq hV.p15_9), (kq hV.p15_10), (kq hV.p17_15), (kc hV.c0), (fun _ => rfl), (kc hV.c2), (kc hV.c3), (kc hV.c4), (kc hV.c5), (kc hV.c6), (kc hV.c7), (kc hV.c8), (kc hV.c9), (kc hV.c10), (kc hV.c11), (kc hV.c12), (kc hV.c13), (kc hV.c14), (kc hV.c15), (kc hV.c16), hV.fr, (fun h0 => hV.x (kb h0)), (kl nl), (fun h0 => fun h1 => hV.r4 (kb h0) (kb h1)), (fun h0 => fun h1 => hV.r9 (kb h0) (kb h1)), (fun h0 => fun h1 => hV.r10 (kb h0) (kb h1)), (kc hV.r15)⟩, rfl⟩
    · have nl := kf hV.ord hl
      refine op_at _ rfl rfl (fun K' hK => ?_)
      conv => arg 2; whnf
      go_wp2_with fail
      exact ⟨v4, nb, gq1, cq1, az, cz, z44, z45, .int .i64 kk, z47, z48, z49, z50, z51, z52, z53, z54, z55, z56, z57, z58, z59, z60, ⟨(kl nl), (kq hV.p10_4), (kq hV.p10_9), (kq hV.p15_4), (kq hV.p15_9), (kq hV.p15_10), (kq hV.p17_15), (kc hV.c0), (kc hV.c1), (fun _ => rfl), (kc hV.c3), (kc hV.c4), (kc hV.c5), (kc hV.c6), (kc hV.c7), (kc hV.c8), (kc hV.c9), (kc hV.c10), (kc hV.c11), (kc hV.c12), (kc hV.c13), (kc hV.c14), (kc hV.c15), (kc hV.c16), hV.fr, (fun h0 => hV.x (kb h0)), (kl nl), (fun h0 => fun h1 => hV.r4 (kb h0) (kb h1)), (fun h0 => fun h1 => hV.r9 (kb h0) (kb h1)), (fun h0 => fun h1 => hV.r10 (kb h0) (kb h1)), (kc hV.r15)⟩, rfl⟩
    · have nl := kf hV.ord hl
      have d1 : L 1 = true := hd _ rfl ⟨1, .data⟩ (by simp) rfl
      obtain rfl := (hV.c1 d1).symm
      have d2 : L 2 = true := hd _ rfl ⟨2, .data⟩ (by simp) rfl
      obtain rfl := (hV.c2 d2).symm
      refine op_at _ rfl rfl (fun K' hK => ?_)
      conv => arg 2; whnf
      go_wp2_with fail
      exact ⟨v4, nb, gq1, cq1, az, cz, z44, .slice (some ⟨g0, 0, none⟩) ls.length vc, .int .i64 kk, .slice (some ⟨g0, 0, none⟩) kk vc, z48, z49, z50, z51, z52, z53, z54, z55, z56, z57, z58, z59, z60, ⟨(kl nl), (kq hV.p10_4), (kq hV.p10_9), (kq hV.p15_4), (kq hV.p15_9), (kq hV.p15_10), (kq hV.p17_15), (kc hV.c0), (kc hV.c1), (kc hV.c2), (fun _ => rfl), (kc hV.c4), (kc hV.c5), (kc hV.c6), (kc hV.c7), (kc hV.c8), (kc hV.c9), (kc hV.c10), (kc hV.c11), (kc hV.c12), (kc hV.c13), (kc hV.c14), (kc hV.c15), (kc hV.c16), hV.fr, (fun h0 => hV.x (kb h0)), (kl nl), (fun h0 => fun h1 => hV.r4 (kb h0) (kb h1)), (fun h0 => fun h1 => hV.r9 (kb h0) (kb h1)), (fun h0 => fun h1 => hV.r10 (kb h0) (kb h1)), (kc hV.r15)⟩, rfl⟩
    · have nl := kf hV.ord hl
      have d3 : L 3 = true := hd _ rfl ⟨3, .data⟩ (by simp) rfl
      obtain rfl := (hV.c3 d3).symm
      have hrow : LnsOwn wx base ls (.slice (some ⟨g0, 0, none⟩) ls.length vc) := hV.fr.row HLO.out (fun e => hvX (by injection e)) (fun _ _ e => by cases e) (fun _ _ e => by cases e)
      have hfs := hV.fr.size
      refine op_at _ rfl rfl (fun K' hK => ?_)
      conv => arg 2; whnf
      refine wp_rapp wx _ _ rfl W.heap.size [] _ rfl (RwOwn.zero _ _ _ _ _) tk ⟨g0, 0, none⟩ kk vc rfl HTL.out (fun j u hu => (pre_cells hrow kk j u (by rw [HTK.out]; exact hu))) (by rw [List.length_nil]; omega) hfs ?_
      intro v2 w2 hr2 hg2 ha2
      go_wp2_with fail
      exact ⟨v2, nb, gq1, cq1, az, cz, z44, z45, z46, .slice (some ⟨g0, 0, none⟩) kk vc, (v2), z49, z50, z51, z52, z53, z54, z55, z56, z57, z58, z59, z60, ⟨(kl nl), (fun _ => upd_same L 4), (kq hV.p10_9), (fun _ => upd_same L 4), (kq hV.p15_9), (kq hV.p15_10), (kq hV.p17_15), (kc hV.c0), (kc hV.c1), (kc hV.c2), (kc hV.c3), (fun _ => rfl), (kc hV.c5), (kc hV.c6), (kc hV.c7), (kc hV.c8), (kc hV.c9), (kc hV.c10), (kc hV.c11), (kc hV.c12), (kc hV.c13), (kc hV.c14), (kc hV.c15), (kc hV.c16), (hV.fr.newer hg2 (fun k e => by cases e)), (fun _ => (hV.x nl).grow hg2 (fun e => by cases e)), (kl nl), (fun _ _ => hr2), (fun h h2 => (hV.r9 (kb h) (kb h2)).grow hg2 (fun e => by cases e)), (kn hV.p10_4 hl), (kn hV.p15_4 hl)⟩, rfl⟩
    · have nl := kf hV.ord hl
      refine op_at _ rfl rfl (fun K' hK => ?_)
      conv => arg 2; whnf
      go_wp2_with fail
      exact ⟨v4, nb, gq1, cq1, az, cz, z44, z45, z46, z47, z48, .slice (some ⟨BB, 0, none⟩) 6 6, z50, z51, z52, z53, z54, z55, z56, z57, z58, z59, z60, ⟨(kl nl), (kq hV.p10_4), (kq hV.p10_9), (kq hV.p15_4), (kq hV.p15_9), (kq hV.p15_10), (kq hV.p17_15), (kc hV.c0), (kc hV.c1), (kc hV.c2), (kc hV.c3), (kc hV.c4), (fun _ => rfl), (kc hV.c6), (kc hV.c7), (kc hV.c8), (kc hV.c9), (kc hV.c10), (kc hV.c11), (kc hV.c12), (kc hV.c13), (kc hV.c14), (kc hV.c15), (kc hV.c16), hV.fr, (fun h0 => hV.x (kb h0)), (kl nl), (fun h0 => fun h1 => hV.r4 (kb h0) (kb h1)), (fun h0 => fun h1 => hV.r9 (kb h0) (kb h1)), (fun h0 => fun h1 => hV.r10 (kb h0) (kb h1)), (kc hV.r15)⟩, rfl⟩
    · have nl := kf hV.ord hl
      refine op_at _ rfl rfl (fun K' hK => ?_)
      conv => arg 2; whnf
      go_wp2_with fail
      exact ⟨v4, nb, gq1, cq1, az, cz, z44, z45, z46, z47, z48, z49, .int .i64 qq, z51, z52, z53, z54, z55, z56, z57, z58, z59, z60, ⟨(kl nl), (kq hV.p10_4), (kq hV.p10_9), (kq hV.p15_4), (kq hV.p15_9), (kq hV.p15_10), (kq hV.p17_15), (kc hV.c0), (kc hV.c1), (kc hV.c2), (kc hV.c3), (kc hV.c4), (kc hV.c5), (fun _ => rfl), (kc hV.c7), (kc hV.c8), (kc hV.c9), (kc hV.c10), (kc hV.c11), (kc hV.c12), (kc hV.c13), (kc hV.c14), (kc hV.c15), (kc hV.c16), hV.fr, (fun h0 => hV.x (kb h0)), (kl nl), (fun h0 => fun h1 => hV.r4 (kb h0) (kb h1)), (fun h0 => fun h1 => hV.r9 (kb h0) (kb h1)), (fun h0 => fun h1 => hV.r10 (kb h0) (kb h1)), (kc hV.r15)⟩, rfl⟩
    · have nl := kf hV.ord hl
      have d5 : L 5 = true := hd _ rfl ⟨5, .data⟩ (by simp) rfl
      obtain rfl := (hV.c5 d5).symm
      have d6 : L 6 = true := hd _ rfl ⟨6, .data⟩ (by simp) rfl
      obtain rfl := (hV.c6 d6).symm
      refine op_at _ rfl rfl (fun K' hK => ?_)
      conv => arg 2; whnf
      go_wp2_with fail
      exact ⟨v4, nb, gq1, cq1, az, cz, z44, z45, z46, z47, z48, .slice (some ⟨BB, 0, none⟩) 6 6, .int .i64 qq, .pointer (some ⟨BB, qq * 7, none⟩), z52, z53, z54, z55, z56, z57, z58, z59, z60, ⟨(kl nl), (kq hV.p10_4), (kq hV.p10_9), (kq hV.p15_4), (kq hV.p15_9), (kq hV.p15_10), (kq hV.p17_15), (kc hV.c0), (kc hV.c1), (kc hV.c2), (kc hV.c3), (kc hV.c4), (kc hV.c5), (kc hV.c6), (fun _ => rfl), (kc hV.c8), (kc hV.c9), (kc hV.c10), (kc hV.c11), (kc hV.c12), (kc hV.c13), (kc hV.c14), (kc hV.c15), (kc hV.c16), hV.fr, (fun h0 => hV.x (kb h0)), (kl nl), (fun h0 => fun h1 => hV.r4 (kb h0) (kb h1)), (fun h0 => fun h1 => hV.r9 (kb h0) (kb h1)), (fun h0 => fun h1 => hV.r10 (kb h0) (kb h1)), (kc hV.r15)⟩, rfl⟩
    · have nl := kf hV.ord hl
      have d7 : L 7 = true := hd _ rfl ⟨7, .data⟩ (by simp) rfl
      obtain rfl := (hV.c7 d7).symm
      have hbb : OwnAt wx BB (bad.flatMap lnCells) 44 := (hV.fr.block BB hBBl hBX (fun e => by cases e) (fun e => by cases e)).trans HBAD.out
      obtain ⟨y0, y1, y2, y3, y4, y5, y6⟩ := bad_cells hbb HYL.out
      have hbl := hbb.lt
      refine op_at _ rfl rfl (fun K' hK => ?_)
      conv => arg 2; whnf
      go_wp2_with fail
      exact ⟨v4, nb, gq1, cq1, az, cz, z44, z45, z46, z47, z48, z49, z50, .pointer (some ⟨BB, qq * 7, none⟩), .agg #[.string (strOf yl.label), .int .i64 yl.ins.op, .int .i64 yl.ins.d, .int .i64 yl.ins.a, .int .i64 yl.ins.b, .int .i64 yl.ins.n, .string (strOf yl.ins.name)], z53, z54, z55, z56, z57, z58, z59, z60, ⟨(kl nl), (kq hV.p10_4), (kq hV.p10_9), (kq hV.p15_4), (kq hV.p15_9), (kq hV.p15_10), (kq hV.p17_15), (kc hV.c0), (kc hV.c1), (kc hV.c2), (kc hV.c3), (kc hV.c4), (kc hV.c5), (kc hV.c6), (kc hV.c7), (fun _ => rfl), (kc hV.c9), (kc hV.c10), (kc hV.c11), (kc hV.c12), (kc hV.c13), (kc hV.c14), (kc hV.c15), (kc hV.c16), hV.fr, (fun h0 => hV.x (kb h0)), (kl nl), (fun h0 => fun h1 => hV.r4 (kb h0) (kb h1)), (fun h0 => fun h1 => hV.r9 (kb h0) (kb h1)), (fun h0 => fun h1 => hV.r10 (kb h0) (kb h1)), (kc hV.r15)⟩, rfl⟩
    · have nl := kf hV.ord hl
      have d8 : L 8 = true := hd _ rfl ⟨8, .data⟩ (by simp) rfl
      obtain rfl := (hV.c8 d8).symm
      have hal : Below wx.heap.size wx (wx.alloc (.cells #[.string (strOf yl.label), .int .i64 yl.ins.op, .int .i64 yl.ins.d, .int .i64 yl.ins.a, .int .i64 yl.ins.b, .int .i64 yl.ins.n, .string (strOf yl.ins.name)] 44)) := (Below.refl _ _).alloc (Nat.le_refl _) _
      have hfs := hV.fr.size
      refine op_at _ rfl rfl (fun K' hK => ?_)
      conv => arg 2; whnf
      go_wp2_with fail
      exact ⟨v4, wx.heap.size, gq1, cq1, az, cz, z44, z45, z46, z47, z48, z49, z50, z51, .agg #[.string (strOf yl.label), .int .i64 yl.ins.op, .int .i64 yl.ins.d, .int .i64 yl.ins.a, .int .i64 yl.ins.b, .int .i64 yl.ins.n, .string (strOf yl.ins.name)], .slice (some ⟨(wx.heap.size), 0, none⟩) 1 1, z54, z55, z56, z57, z58, z59, z60, ⟨(kl nl), (kq hV.p10_4), (fun _ => upd_same L 9), (kq hV.p15_4), (fun _ => upd_same L 9), (kq hV.p15_10), (kq hV.p17_15), (kc hV.c0), (kc hV.c1), (kc hV.c2), (kc hV.c3), (kc hV.c4), (kc hV.c5), (kc hV.c6), (kc hV.c7), (kc hV.c8), (fun _ => rfl), (kc hV.c10), (kc hV.c11), (kc hV.c12), (kc hV.c13), (kc hV.c14), (kc hV.c15), (kc hV.c16), (Fr3.old (hV.fr) hal), (fun h0 => OwnAt.old (hV.x (kb h0)) hal), (kl nl), (fun h0 => fun h1 => RwOwn.old (hV.r4 (kb h0) (kb h1)) hal), (fun _ _ => OwnAt.new wx (lnCells yl) 44), (kn hV.p10_9 hl), (kn hV.p15_9 hl)⟩, rfl⟩
    · have nl := kf hV.ord hl
      have d4 : L 4 = true := hd _ rfl ⟨4, .data⟩ (by simp) rfl
      obtain rfl := (hV.c4 d4).symm
      have d9 : L 9 = true := hd _ rfl ⟨9, .data⟩ (by simp) rfl
      obtain rfl := (hV.c9 d9).symm
      have hr4 := hV.r4 d4 hl
      have hr9 := hV.r9 d9 hl
      have hfs := hV.fr.size
      refine op_at _ rfl rfl (fun K' hK => ?_)
      conv => arg 2; whnf
      refine wp_lnSnoc wx _ _ rfl W.heap.size tk _ rfl hr4 yl nb 1 rfl hr9 (by rw [HTL.out]; omega) hfs ?_
      intro g2 cap2 w2 hr2 hg2 ha2 hl2
      go_wp2_with fail
      exact ⟨v4, nb, g2, cap2, az, cz, z44, z45, z46, z47, v4, z49, z50, z51, z52, .slice (some ⟨nb, 0, none⟩) 1 1, .slice (some ⟨(g2), 0, none⟩) (tk.length + 1) (cap2), z55, z56, z57, z58, z59, z60, ⟨(kl nl), (kd (d4)), (kd (d9)), (kq hV.p15_4), (kq hV.p15_9), (fun _ => upd_same L 10), (kq hV.p17_15), (kc hV.c0), (kc hV.c1), (kc hV.c2), (kc hV.c3), (kc hV.c4), (kc hV.c5), (kc hV.c6), (kc hV.c7), (kc hV.c8), (kc hV.c9), (fun _ => rfl), (kc hV.c11), (kc hV.c12), (kc hV.c13), (kc hV.c14), (kc hV.c15), (kc hV.c16), (hV.fr.newer hg2 (fun k e => (RwOwn.lt hr4 k e).1)), (fun _ => (hV.x nl).grow hg2 (fun e => by have := (RwOwn.lt hr4 X e).1; omega)), (kl nl), (fun _ => ks), (fun _ => ks), (fun _ _ => hr2), (kn hV.p15_10 hl)⟩, rfl⟩
    · have nl := kf hV.ord hl
      refine op_at _ rfl rfl (fun K' hK => ?_)
      conv => arg 2; whnf
      go_wp2_with fail
      exact ⟨v4, nb, gq1, cq1, az, cz, z44, z45, z46, z47, z48, z49, z50, z51, z52, z53, z54, .pointer (some ⟨X, 1, none⟩), z56, z57, z58, z59, z60, ⟨(kl nl), (kq hV.p10_4), (kq hV.p10_9), (kq hV.p15_4), (kq hV.p15_9), (kq hV.p15_10), (kq hV.p17_15), (kc hV.c0), (kc hV.c1), (kc hV.c2), (kc hV.c3), (kc hV.c4), (kc hV.c5), (kc hV.c6), (kc hV.c7), (kc hV.c8), (kc hV.c9), (kc hV.c10), (fun _ => rfl), (kc hV.c12), (kc hV.c13), (kc hV.c14), (kc hV.c15), (kc hV.c16), hV.fr, (fun h0 => hV.x (kb h0)), (kl nl), (fun h0 => fun h1 => hV.r4 (kb h0) (kb h1)), (fun h0 => fun h1 => hV.r9 (kb h0) (kb h1)), (fun h0 => fun h1 => hV.r10 (kb h0) (kb h1)), (kc hV.r15)⟩, rfl⟩
    · have nl := kf hV.ord hl
      have d11 : L 11 = true := hd _ rfl ⟨11, .data⟩ (by simp) rfl
      obtain rfl := (hV.c11 d11).symm
      have ho := hV.x nl
      have x1 := ho.at 1 _ rfl
      refine op_at _ rfl rfl (fun K' hK => ?_)
      conv => arg 2; whnf
      go_wp2_with fail
      exact ⟨v4, nb, gq1, cq1, az, cz, z44, z45, z46, z47, z48, z49, z50, z51, z52, z53, z54, .pointer (some ⟨X, 1, none⟩), .slice (some ⟨g0, 0, none⟩) ls.length vc, z57, z58, z59, z60, ⟨(kl nl), (kq hV.p10_4), (kq hV.p10_9), (kq hV.p15_4), (kq hV.p15_9), (kq hV.p15_10), (kq hV.p17_15), (kc hV.c0), (kc hV.c1), (kc hV.c2), (kc hV.c3), (kc hV.c4), (kc hV.c5), (kc hV.c6), (kc hV.c7), (kc hV.c8), (kc hV.c9), (kc hV.c10), (kc hV.c11), (fun _ => rfl), (kc hV.c13), (kc hV.c14), (kc hV.c15), (kc hV.c16), hV.fr, (fun h0 => hV.x (kb h0)), (kl nl), (fun h0 => fun h1 => hV.r4 (kb h0) (kb h1)), (fun h0 => fun h1 => hV.r9 (kb h0) (kb h1)), (fun h0 => fun h1 => hV.r10 (kb h0) (kb h1)), (kc hV.r15)⟩, rfl⟩
    · have nl := kf hV.ord hl
      refine op_at _ rfl rfl (fun K' hK => ?_)
      conv => arg 2; whnf
      go_wp2_with fail
      exact ⟨v4, nb, gq1, cq1, az, cz, z44, z45, z46, z47, z48, z49, z50, z51, z52, z53, z54, z55, z56, .int .i64 kk, z58, z59, z60, ⟨(kl nl), (kq hV.p10_4), (kq hV.p10_9), (kq hV.p15_4), (kq hV.p15_9), (kq hV.p15_10), (kq hV.p17_15), (kc hV.c0), (kc hV.c1), (kc hV.c2), (kc hV.c3), (kc hV.c4), (kc hV.c5), (kc hV.c6), (kc hV.c7), (kc hV.c8), (kc hV.c9), (kc hV.c10), (kc hV.c11), (kc hV.c12), (fun _ => rfl), (kc hV.c14), (kc hV.c15), (kc hV.c16), hV.fr, (fun h0 => hV.x (kb h0)), (kl nl), (fun h0 => fun h1 => hV.r4 (kb h0) (kb h1)), (fun h0 => fun h1 => hV.r9 (kb h0) (kb h1)), (fun h0 => fun h1 => hV.r10 (kb h0) (kb h1)), (kc hV.r15)⟩, rfl⟩
    · have nl := kf hV.ord hl
      have d12 : L 12 = true := hd _ rfl ⟨12, .data⟩ (by simp) rfl
      obtain rfl := (hV.c12 d12).symm
      have d13 : L 13 = true := hd _ rfl ⟨13, .data⟩ (by simp) rfl
      obtain rfl := (hV.c13 d13).symm
      refine op_at _ rfl rfl (fun K' hK => ?_)
      conv => arg 2; whnf
      go_wp2_with fail
      exact ⟨v4, nb, gq1, cq1, az, cz, z44, z45, z46, z47, z48, z49, z50, z51, z52, z53, z54, z55, .slice (some ⟨g0, 0, none⟩) ls.length vc, .int .i64 kk, .slice (some ⟨g0, kk * 7, none⟩) (ls.length - kk) (vc - kk), z59, z60, ⟨(kl nl), (kq hV.p10_4), (kq hV.p10_9), (kq hV.p15_4), (kq hV.p15_9), (kq hV.p15_10), (kq hV.p17_15), (kc hV.c0), (kc hV.c1), (kc hV.c2), (kc hV.c3), (kc hV.c4), (kc hV.c5), (kc hV.c6), (kc hV.c7), (kc hV.c8), (kc hV.c9), (kc hV.c10), (kc hV.c11), (kc hV.c12), (kc hV.c13), (fun _ => rfl), (kc hV.c15), (kc hV.c16), hV.fr, (fun h0 => hV.x (kb h0)), (kl nl), (fun h0 => fun h1 => hV.r4 (kb h0) (kb h1)), (fun h0 => fun h1 => hV.r9 (kb h0) (kb h1)), (fun h0 => fun h1 => hV.r10 (kb h0) (kb h1)), (kc hV.r15)⟩, rfl⟩
    · have nl := kf hV.ord hl
      have d10 : L 10 = true := hd _ rfl ⟨10, .data⟩ (by simp) rfl
      obtain rfl := (hV.c10 d10).symm
      have d14 : L 14 = true := hd _ rfl ⟨14, .data⟩ (by simp) rfl
      obtain rfl := (hV.c14 d14).symm
      have hrow : LnsOwn wx base ls (.slice (some ⟨g0, 0, none⟩) ls.length vc) := hV.fr.row HLO.out (fun e => hvX (by injection e)) (fun _ _ e => by cases e) (fun _ _ e => by cases e)
      have hr10 := hV.r10 d10 hl
      have hfs := hV.fr.size
      refine op_at _ rfl rfl (fun K' hK => ?_)
      conv => arg 2; whnf
      refine wp_rapp wx _ _ rfl W.heap.size (tk ++ [yl]) _ rfl hr10 dk ⟨g0, kk * 7, none⟩ (ls.length - kk) (vc - kk) rfl HDL.out (fun j u hu => (post_cells hrow hkl (by first | exact .inl rfl | exact .inr ⟨by omega, rfl⟩) j u (by rw [HDK.out]; exact hu))) (by rw [List.length_append, HTL.out, List.length_singleton]; omega) hfs ?_
      intro v2 w2 hr2 hg2 ha2
      obtain ⟨a2, cp2, e2⟩ := RwOwn.shape hr2
      rw [HLZ.out] at e2
      subst e2
      go_wp2_with fail
      exact ⟨v4, nb, gq1, cq1, a2, cp2, z44, z45, z46, z47, z48, z49, z50, z51, z52, z53, .slice (some ⟨gq1, 0, none⟩) (tk.length + 1) cq1, z55, z56, z57, .slice (some ⟨g0, kk * 7, none⟩) (ls.length - kk) (vc - kk), .slice (a2) lz (cp2), z60, ⟨(kl nl), (kq hV.p10_4), (kq hV.p10_9), (kd (hV.p10_4 d10)), (kd (hV.p10_9 d10)), (kd (d10)), (fun _ => upd_same L 15), (kc hV.c0), (kc hV.c1), (kc hV.c2), (kc hV.c3), (kc hV.c4), (kc hV.c5), (kc hV.c6), (kc hV.c7), (kc hV.c8), (kc hV.c9), (kc hV.c10), (kc hV.c11), (kc hV.c12), (kc hV.c13), (kc hV.c14), (fun _ => rfl), (kc hV.c16), (hV.fr.newer hg2 (fun k e => (RwOwn.lt hr10 k e).1)), (fun _ => (hV.x nl).grow hg2 (fun e => by have := (RwOwn.lt hr10 X e).1; omega)), (kl nl), (fun _ h => by rw [upd_ne L (show 10 ≠ 15 by decide), d10] at h; cases h), (fun _ h => by rw [upd_ne L (show 10 ≠ 15 by decide), d10] at h; cases h), (fun _ => ks), (fun _ => hr2)⟩, rfl⟩
    · have nl := kf hV.ord hl
      refine op_at _ rfl rfl (fun K' hK => ?_)
      conv => arg 2; whnf
      go_wp2_with fail
      exact ⟨v4, nb, gq1, cq1, az, cz, z44, z45, z46, z47, z48, z49, z50, z51, z52, z53, z54, z55, z56, z57, z58, z59, .pointer (some ⟨X, 1, none⟩), ⟨(kl nl), (kq hV.p10_4), (kq hV.p10_9), (kq hV.p15_4), (kq hV.p15_9), (kq hV.p15_10), (kq hV.p17_15), (kc hV.c0), (kc hV.c1), (kc hV.c2), (kc hV.c3), (kc hV.c4), (kc hV.c5), (kc hV.c6), (kc hV.c7), (kc hV.c8), (kc hV.c9), (kc hV.c10), (kc hV.c11), (kc hV.c12), (kc hV.c13), (kc hV.c14), (kc hV.c15), (fun _ => rfl), hV.fr, (fun h0 => hV.x (kb h0)), (kl nl), (fun h0 => fun h1 => hV.r4 (kb h0) (kb h1)), (fun h0 => fun h1 => hV.r9 (kb h0) (kb h1)), (fun h0 => fun h1 => hV.r10 (kb h0) (kb h1)), (kc hV.r15)⟩, rfl⟩
    · have before : ∀ j, j < 17 → L j = true := fun j hj => by
        have hj : j = 0 ∨ j = 1 ∨ j = 2 ∨ j = 3 ∨ j = 4 ∨ j = 5 ∨ j = 6 ∨ j = 7 ∨ j = 8 ∨ j = 9 ∨ j = 10 ∨ j = 11 ∨ j = 12 ∨ j = 13 ∨ j = 14 ∨ j = 15 ∨ j = 16 := by omega
        rcases hj with rfl | rfl | rfl | rfl | rfl | rfl | rfl | rfl | rfl | rfl | rfl | rfl | rfl | rfl | rfl | rfl | rfl
        · exact hd _ rfl ⟨0, .phase⟩ (by simp) rfl
        · exact hd _ rfl ⟨1, .phase⟩ (by simp) rfl
        · exact hd _ rfl ⟨2, .phase⟩ (by simp) rfl
        · exact hd _ rfl ⟨3, .phase⟩ (by simp) rfl
        · exact hd _ rfl ⟨4, .phase⟩ (by simp) rfl
        · exact hd _ rfl ⟨5, .phase⟩ (by simp) rfl
        · exact hd _ rfl ⟨6, .phase⟩ (by simp) rfl
        · exact hd _ rfl ⟨7, .phase⟩ (by simp) rfl
        · exact hd _ rfl ⟨8, .phase⟩ (by simp) rfl
        · exact hd _ rfl ⟨9, .phase⟩ (by simp) rfl
        · exact hd _ rfl ⟨10, .phase⟩ (by simp) rfl
        · exact hd _ rfl ⟨11, .phase⟩ (by simp) rfl
        · exact hd _ rfl ⟨12, .phase⟩ (by simp) rfl
        · exact hd _ rfl ⟨13, .phase⟩ (by simp) rfl
        · exact hd _ rfl ⟨14, .phase⟩ (by simp) rfl
        · exact hd _ rfl ⟨15, .data⟩ (by simp) rfl
        · exact hd _ rfl ⟨16, .data⟩ (by simp) rfl
      have d15 : L 15 = true := hd _ rfl ⟨15, .data⟩ (by simp) rfl
      obtain rfl := (hV.c15 d15).symm
      have d16 : L 16 = true := hd _ rfl ⟨16, .data⟩ (by simp) rfl
      obtain rfl := (hV.c16 d16).symm
      have hx := hV.x hl
      have x1 := hx.at 1 _ rfl
      have fx := hx.fz 1
      have hxl := hx.lt
      have hr15 := hV.r15 (before 15 (by decide))
      refine op_at _ rfl rfl (fun K' hK => ?_)
      conv => arg 2; whnf
      go_wp2_with fail
      exact ⟨v4, nb, gq1, cq1, az, cz, z44, z45, z46, z47, z48, z49, z50, z51, z52, z53, z54, z55, z56, z57, z58, .slice az lz cz, .pointer (some ⟨X, 1, none⟩), ⟨(fun _ j hj => by rw [upd_ne L (show j ≠ 17 by omega)]; exact before j hj), (kq hV.p10_4), (kq hV.p10_9), (kq hV.p15_4), (kq hV.p15_9), (kq hV.p15_10), (kd (before 15 (by decide))), (kc hV.c0), (kc hV.c1), (kc hV.c2), (kc hV.c3), (kc hV.c4), (kc hV.c5), (kc hV.c6), (kc hV.c7), (kc hV.c8), (kc hV.c9), (kc hV.c10), (kc hV.c11), (kc hV.c12), (kc hV.c13), (kc hV.c14), (kc hV.c15), (kc hV.c16), (hV.fr.set hXl 1 _), (ks), (fun _ => hx.set 1 _), (fun _ h => by rw [upd_ne L (show 10 ≠ 17 by decide), before 10 (by decide)] at h; cases h), (fun _ h => by rw [upd_ne L (show 10 ≠ 17 by decide), before 10 (by decide)] at h; cases h), (fun _ h => by rw [upd_ne L (show 15 ≠ 17 by decide), before 15 (by decide)] at h; cases h), (fun _ => RwOwn.set hr15 (fun e => by have := (RwOwn.lt hr15 X e).1; omega) 1 _)⟩, rfl⟩
  · intro L act wx hI hall
    obtain ⟨v4, nb, gq1, cq1, az, cz, z44, z45, z46, z47, z48, z49, z50, z51, z52, z53, z54, z55, z56, z57, z58, z59, z60, hV, rfl⟩ := hI
    obtain rfl := (hV.c0 (hall 0 (by decide))).symm
    obtain rfl := (hV.c1 (hall 1 (by decide))).symm
    obtain rfl := (hV.c2 (hall 2 (by decide))).symm
    obtain rfl := (hV.c3 (hall 3 (by decide))).symm
    obtain rfl := (hV.c4 (hall 4 (by decide))).symm
    obtain rfl := (hV.c5 (hall 5 (by decide))).symm
    obtain rfl := (hV.c6 (hall 6 (by decide))).symm
    obtain rfl := (hV.c7 (hall 7 (by decide))).symm
    obtain rfl := (hV.c8 (hall 8 (by decide))).symm
    obtain rfl := (hV.c9 (hall 9 (by decide))).symm
    obtain rfl := (hV.c10 (hall 10 (by decide))).symm
    obtain rfl := (hV.c11 (hall 11 (by decide))).symm
    obtain rfl := (hV.c12 (hall 12 (by decide))).symm
    obtain rfl := (hV.c13 (hall 13 (by decide))).symm
    obtain rfl := (hV.c14 (hall 14 (by decide))).symm
    obtain rfl := (hV.c15 (hall 15 (by decide))).symm
    obtain rfl := (hV.c16 (hall 16 (by decide))).symm
    exact hM _ _ (Met.intro (hJ _ _ ⟨v4, nb, gq1, cq1, az, cz, ⟨hV.fr, hV.x3 (hall 17 (by decide)), hV.r15 (hall 15 (by decide))⟩, rfl⟩))
structure VW9b (X : Nat) (va : Value) (g0 vq BB : Nat) (ls bad tk dk : List Ln) (yl : Ln) (kk qq lz : Nat) (base : Nat) (W : World) (L : Nat → Bool) (v4 : Value) (nb : Nat) (gq1 : Nat) (cq1 : Nat) (az : Option Addr) (cz : Nat) (z44 z45 z46 z47 z48 z49 z50 z51 z52 z53 z54 z55 z56 z57 z58 z59 z60 : Value) (wx : World) : Prop where
  ord : L 17 = true → ∀ j, j < 17 → L j = true
  p10_4 : L 10 = true → L 4 = true
  p10_9 : L 10 = true → L 9 = true
  p15_4 : L 15 = true → L 4 = true
  p15_9 : L 15 = true → L 9 = true
  p15_10 : L 15 = true → L 10 = true
  p17_15 : L 17 = true → L 15 = true
  c0 : L 0 = true → z44 = .pointer (some ⟨X, 1, none⟩)
  c1 : L 1 = true → z45 = .slice (some ⟨g0, 0, none⟩) ls.length kk
  c2 : L 2 = true → z46 = .int .i64 kk
  c3 : L 3 = true → z47 = .slice (some ⟨g0, 0, none⟩) kk kk
  c4 : L 4 = true → z48 = v4
  c5 : L 5 = true → z49 = .slice (some ⟨BB, 0, none⟩) 6 6
  c6 : L 6 = true → z50 = .int .i64 qq
  c7 : L 7 = true → z51 = .pointer (some ⟨BB, qq * 7, none⟩)
  c8 : L 8 = true → z52 = .agg #[.string (strOf yl.label), .int .i64 yl.ins.op, .int .i64 yl.ins.d, .int .i64 yl.ins.a, .int .i64 yl.ins.b, .int .i64 yl.ins.n, .string (strOf yl.ins.name)]
  c9 : L 9 = true → z53 = .slice (some ⟨nb, 0, none⟩) 1 1
  c10 : L 10 = true → z54 = .slice (some ⟨gq1, 0, none⟩) (tk.length + 1) cq1
  c11 : L 11 = true → z55 = .pointer (some ⟨X, 1, none⟩)
  c12 : L 12 = true → z56 = .slice (some ⟨g0, 0, none⟩) ls.length kk
  c13 : L 13 = true → z57 = .int .i64 kk
  c14 : L 14 = true → z58 = .slice (some ⟨g0, 0, none⟩) 0 0
  c15 : L 15 = true → z59 = .slice az lz cz
  c16 : L 16 = true → z60 = .pointer (some ⟨X, 1, none⟩)
  fr : Fr3 X (.slice none 0 0) (.slice none 0 0) W wx
  x : L 17 = false → OwnAt wx X [va, .slice (some ⟨g0, 0, none⟩) ls.length kk] 27
  x3 : L 17 = true → OwnAt wx X [va, .slice az lz cz] 27
  r4 : L 4 = true → L 10 = false → LnsOwn wx W.heap.size tk v4
  r9 : L 9 = true → L 10 = false → OwnAt wx nb (lnCells yl) 44
  r10 : L 10 = true → L 15 = false → LnsOwn wx W.heap.size (tk ++ [yl]) (.slice (some ⟨gq1, 0, none⟩) (tk.length + 1) cq1)
  r15 : L 15 = true → LnsOwn wx W.heap.size (tk ++ [yl] ++ dk) (.slice az lz cz)
def IW9b (X : Nat) (va : Value) (g0 vq BB : Nat) (ls bad tk dk : List Ln) (yl : Ln) (kk qq lz : Nat) (base : Nat) (W : World) (q0 q1 q2 q3 q4 q5 q6 q7 q12 q13 q14 q15 q16 q17 q18 q19 q20 q21 q22 q23 q24 q25 q26 q27 q28 q29 q30 q31 q32 q33 q34 q35 q36 q37 q38 q39 q40 q41 q42 q43 q61 q62 q63 q64 q65 q66 q67 q68 q69 q70 q71 q72 q73 q74 q75 q76 q77 q78 q79 q80 q81 q82 q83 q84 q85 q86 q87 q88 q89 q90 q91 q92 q93 q94 q95 q96 q97 q98 q99 q100 q101 q102 : Value) (L : Nat → Bool) (a' : Act) (w' : World) : Prop :=
  ∃ v4 : Value, ∃ nb : Nat, ∃ gq1 : Nat, ∃ cq1 : Nat, ∃ az : Option Addr, ∃ cz : Nat, ∃ z44 z45 z46 z47 z48 z49 z50 z51 z52 z53 z54 z55 z56 z57 z58 z59 z60 : Value, VW9b X va g0 vq BB ls bad tk dk yl kk qq lz base W L v4 nb gq1 cq1 az cz z44 z45 z46 z47 z48 z49 z50 z51 z52 z53 z54 z55 z56 z57 z58 z59 z60 w' ∧ a' = ⟨[q0, q1, q2, q3, q4, q5, q6, q7, .pointer (some ⟨X, 0, none⟩), .int .i64 kk, .slice (some ⟨BB, 0, none⟩) 6 6, .int .i64 qq, q12, q13, q14, q15, q16, q17, q18, q19, q20, q21, q22, q23, q24, q25, q26, q27, q28, q29, q30, q31, q32, q33, q34, q35, q36, q37, q38, q39, q40, q41, q42, q43, z44, z45, z46, z47, z48, z49, z50, z51, z52, z53, z54, z55, z56, z57, z58, z59, z60, q61, q62, q63, q64, q65, q66, q67, q68, q69, q70, q71, q72, q73, q74, q75, q76, q77, q78, q79, q80, q81, q82, q83, q84, q85, q86, q87, q88, q89, q90, q91, q92, q93, q94, q95, q96, q97, q98, q99, q100, q101, q102].toArray, []⟩
def RW9b (X : Nat) (va : Value) (g0 vq BB : Nat) (ls bad tk dk : List Ln) (yl : Ln) (kk qq lz : Nat) (base : Nat) (W : World) (q0 q1 q2 q3 q4 q5 q6 q7 q12 q13 q14 q15 q16 q17 q18 q19 q20 q21 q22 q23 q24 q25 q26 q27 q28 q29 q30 q31 q32 q33 q34 q35 q36 q37 q38 q39 q40 q41 q42 q43 q61 q62 q63 q64 q65 q66 q67 q68 q69 q70 q71 q72 q73 q74 q75 q76 q77 q78 q79 q80 q81 q82 q83 q84 q85 q86 q87 q88 q89 q90 q91 q92 q93 q94 q95 q96 q97 q98 q99 q100 q101 q102 : Value) (a' : Act) (w' : World) : Prop :=
  ∃ v4 : Value, ∃ nb : Nat, ∃ gq1 : Nat, ∃ cq1 : Nat, ∃ az : Option Addr, ∃ cz : Nat, ((Fr3 X (.slice none 0 0) (.slice none 0 0) W w') ∧ (OwnAt w' X [va, .slice az lz cz] 27) ∧ (LnsOwn w' W.heap.size (tk ++ [yl] ++ dk) (.slice az lz cz))) ∧ a' = ⟨[q0, q1, q2, q3, q4, q5, q6, q7, .pointer (some ⟨X, 0, none⟩), .int .i64 kk, .slice (some ⟨BB, 0, none⟩) 6 6, .int .i64 qq, q12, q13, q14, q15, q16, q17, q18, q19, q20, q21, q22, q23, q24, q25, q26, q27, q28, q29, q30, q31, q32, q33, q34, q35, q36, q37, q38, q39, q40, q41, q42, q43, .pointer (some ⟨X, 1, none⟩), .slice (some ⟨g0, 0, none⟩) ls.length kk, .int .i64 kk, .slice (some ⟨g0, 0, none⟩) kk kk, v4, .slice (some ⟨BB, 0, none⟩) 6 6, .int .i64 qq, .pointer (some ⟨BB, qq * 7, none⟩), .agg #[.string (strOf yl.label), .int .i64 yl.ins.op, .int .i64 yl.ins.d, .int .i64 yl.ins.a, .int .i64 yl.ins.b, .int .i64 yl.ins.n, .string (strOf yl.ins.name)], .slice (some ⟨nb, 0, none⟩) 1 1, .slice (some ⟨gq1, 0, none⟩) (tk.length + 1) cq1, .pointer (some ⟨X, 1, none⟩), .slice (some ⟨g0, 0, none⟩) ls.length kk, .int .i64 kk, .slice (some ⟨g0, 0, none⟩) 0 0, .slice az lz cz, .pointer (some ⟨X, 1, none⟩), q61, q62, q63, q64, q65, q66, q67, q68, q69, q70, q71, q72, q73, q74, q75, q76, q77, q78, q79, q80, q81, q82, q83, q84, q85, q86, q87, q88, q89, q90, q91, q92, q93, q94, q95, q96, q97, q98, q99, q100, q101, q102].toArray, []⟩
theorem reg_W9b (X : Nat) (va : Value) (g0 vq BB : Nat) (ls bad tk dk : List Ln) (yl : Ln) (kk qq lz : Nat) (base : Nat) (W : World) (hx0 : OwnAt W X [va, .slice (some ⟨g0, 0, none⟩) ls.length kk] 27) (hlo : LnsOwn W base ls (.slice (some ⟨g0, 0, none⟩) ls.length kk)) (hbad : OwnAt W BB (bad.flatMap lnCells) 44) (hb6 : bad.length = 6) (hq : qq < 6) (hyl : bad[qq]? = some yl) (hvX : g0 ≠ X) (hBX : BB ≠ X) (hll : ls.length ≤ 1000) (hkl : kk ≤ ls.length) (hvc : ls.length ≤ kk) (hvc1 : kk ≤ 9223372036854775807) (hl0 : 0 < ls.length) (htk : ls.take kk = tk) (hdk : ls.drop kk = dk) (hlz : (tk ++ [yl] ++ dk).length = lz)  (q0 q1 q2 q3 q4 q5 q6 q7 q12 q13 q14 q15 q16 q17 q18 q19 q20 q21 q22 q23 q24 q25 q26 q27 q28 q29 q30 q31 q32 q33 q34 q35 q36 q37 q38 q39 q40 q41 q42 q43 q44 q45 q46 q47 q48 q49 q50 q51 q52 q53 q54 q55 q56 q57 q58 q59 q60 q61 q62 q63 q64 q65 q66 q67 q68 q69 q70 q71 q72 q73 q74 q75 q76 q77 q78 q79 q80 q81 q82 q83 q84 q85 q86 q87 q88 q89 q90 q91 q92 q93 q94 q95 q96 q97 q98 q99 q100 q101 q102 : Value) (J K' : Act → World → Prop) (hJ : ∀ a' w', RW9b X va g0 vq BB ls bad tk dk yl kk qq lz base W q0 q1 q2 q3 q4 q5 q6 q7 q12 q13 q14 q15 q16 q17 q18 q19 q20 q21 q22 q23 q24 q25 q26 q27 q28 q29 q30 q31 q32 q33 q34 q35 q36 q37 q38 q39 q40 q41 q42 q43 q61 q62 q63 q64 q65 q66 q67 q68 q69 q70 q71 q72 q73 q74 q75 q76 q77 q78 q79 q80 q81 q82 q83 q84 q85 q86 q87 q88 q89 q90 q91 q92 q93 q94 q95 q96 q97 q98 q99 q100 q101 q102 a' w' → J a' w') (hM : ∀ a' w', Met J a' w' → K' a' w') :
    Code.wp Tryz.prog ((Tryz.f5.body.bind (regOf 9)).getD .skip) (Exit.then K' (fun _ _ _ => False)) ⟨[q0, q1, q2, q3, q4, q5, q6, q7, .pointer (some ⟨X, 0, none⟩), .int .i64 kk, .slice (some ⟨BB, 0, none⟩) 6 6, .int .i64 qq, q12, q13, q14, q15, q16, q17, q18, q19, q20, q21, q22, q23, q24, q25, q26, q27, q28, q29, q30, q31, q32, q33, q34, q35, q36, q37, q38, q39, q40, q41, q42, q43, q44, q45, q46, q47, q48, q49, q50, q51, q52, q53, q54, q55, q56, q57, q58, q59, q60, q61, q62, q63, q64, q65, q66, q67, q68, q69, q70, q71, q72, q73, q74, q75, q76, q77, q78, q79, q80, q81, q82, q83, q84, q85, q86, q87, q88, q89, q90, q91, q92, q93, q94, q95, q96, q97, q98, q99, q100, q101, q102].toArray, []⟩ W := by
  have hXl : X < W.heap.size := hx0.lt
  have hg0 : base ≤ g0 ∧ g0 < W.heap.size := RwOwn.lt hlo g0 rfl
  have hBBl := hbad.lt
  have HX0 := Lib.hid hx0; have HLO := Lib.hid hlo; have HBAD := Lib.hid hbad; have HYL := Lib.hid hyl; have HB6 := Lib.hid hb6
  have hllI : (ls.length : Int) ≤ 1000 := by omega
  have hkI : (kk : Int) ≤ (ls.length : Int) := by omega
  have hvcI : (ls.length : Int) ≤ (kk : Int) := by omega
  have hvcI1 : (kk : Int) ≤ 9223372036854775807 := by omega
  have hkvI : (kk : Int) ≤ (kk : Int) := by omega
  have hqI : (qq : Int) < 6 := by omega
  have hvc0 : ¬ kk = 0 := by omega
  have hvc00 : ¬ (kk : Int) = 0 := by omega
  have hkl2 : ls.length ≤ kk := by omega
  have htl : tk.length = kk := by rw [← htk, List.length_take]; omega
  have hdl : dk.length = ls.length - kk := by rw [← hdk, List.length_drop]
  have HTK := Lib.hid htk; have HDK := Lib.hid hdk; have HLZ := Lib.hid hlz; have HTL := Lib.hid htl; have HDL := Lib.hid hdl
  clear hx0 hlo hbad hyl hb6 htk hdk hlz htl hdl
  conv => arg 2; whnf
  dsimp only
  refine region_by (by kernel_rfl) (by kernel_rfl) (IW9b X va g0 vq BB ls bad tk dk yl kk qq lz base W q0 q1 q2 q3 q4 q5 q6 q7 q12 q13 q14 q15 q16 q17 q18 q19 q20 q21 q22 q23 q24 q25 q26 q27 q28 q29 q30 q31 q32 q33 q34 q35 q36 q37 q38 q39 q40 q41 q42 q43 q61 q62 q63 q64 q65 q66 q67 q68 q69 q70 q71 q72 q73 q74 q75 q76 q77 q78 q79 q80 q81 q82 q83 q84 q85 q86 q87 q88 q89 q90 q91 q92 q93 q94 q95 q96 q97 q98 q99 q100 q101 q102) ?_ ?_ ?_
  · exact ⟨undef, 0, 0, 0, none, 0, q44, q45, q46, q47, q48, q49, q50, q51, q52, q53, q54, q55, q56, q57, q58, q59, q60, ⟨(fun h => by cases h), (fun h => by cases h), (fun h => by cases h), (fun h => by cases h), (fun h => by cases h), (fun h => by cases h), (fun h => by cases h), (fun h => by cases h), (fun h => by cases h), (fun h => by cases h), (fun h => by cases h), (fun h => by cases h), (fun h => by cases h), (fun h => by cases h), (fun h => by cases h), (fun h => by cases h), (fun h => by cases h), (fun h => by cases h), (fun h => by cases h), (fun h => by cases h), (fun h => by cases h), (fun h => by cases h), (fun h => by cases h), (fun h => by cases h), (Fr3.old (Fr3.refl _ _ _ _) (Below.refl _ _).drew), (fun _ => HX0.out.old (Below.refl _ _).drew), (fun h => by cases h), (fun h => fun _ => by cases h), (fun h => fun _ => by cases h), (fun h => fun _ => by cases h), (fun h => by cases h)⟩, rfl⟩
  · intro L act wx k hI hk hl hd
    obtain ⟨v4, nb, gq1, cq1, az, cz, z44, z45, z46, z47, z48, z49, z50, z51, z52, z53, z54, z55, z56, z57, z58, z59, z60, hV, rfl⟩ := hI
    have hk : k = 0 ∨ k = 1 ∨ k = 2 ∨ k = 3 ∨ k = 4 ∨ k = 5 ∨ k = 6 ∨ k = 7 ∨ k = 8 ∨ k = 9 ∨ k = 10 ∨ k = 11 ∨ k = 12 ∨ k = 13 ∨ k = 14 ∨ k = 15 ∨ k = 16 ∨ k = 17 := by
      have : k < 18 := hk
      omega
    rcases hk with rfl | rfl | rfl | rfl | rfl | rfl | rfl | rfl | rfl | rfl | rfl | rfl | rfl | rfl | rfl | rfl | rfl | rfl
    · have nl := kf hV.ord hl
      refine op_at _ rfl rfl (fun K' hK => ?_)
      conv => arg 2; whnf
      go_wp2_with fail
      exact ⟨v4, nb, gq1, cq1, az, cz, .pointer (some ⟨X, 1, none⟩), z45, z46, z47, z48, z49, z50, z51, z52, z53, z54, z55, z56, z57, z58, z59, z60, ⟨(kl nl), (kq hV.p10_4), (kq hV.p10_9), (kq hV.p15_4), (kq hV.p15_9), (kq hV.p15_10), (kq hV.p17_15), (fun _ => rfl), (kc hV.c1), (kc hV.c2), (kc hV.c3), (kc hV.c4), (kc hV.c5), (kc hV.c6), (kc hV.c7), (kc hV.c8), (kc hV.c9), (kc hV.c10), (kc hV.c11), (kc hV.c12), (kc hV.c13), (kc hV.c14), (kc hV.c15), (kc hV.c16), hV.fr, (fun h0 => hV.x (kb h0)), (kl nl), (fun h0 => fun h1 => hV.r4 (kb h0) (kb h1)), (fun h0 => fun h1 => hV.r9 (kb h0) (kb h1)), (fun h0 => fun h1 => hV.r10 (kb h0) (kb h1)), (kc hV.r15)⟩, rfl⟩
    · have nl := kf hV.ord hl
      have d0 : L 0 = true := hd _ rfl ⟨0, .data⟩ (by simp) rfl
      obtain rfl := (hV.c0 d0).symm
      have ho := hV.x nl
      have x1 := ho.at 1 _ rfl
      refine op_at _ rfl rfl (fun K' hK => ?_)
      conv => arg 2; whnf
      go_wp2_with fail
      exact ⟨v4, nb, gq1, cq1, az, cz, .pointer (some ⟨X, 1, none⟩), .slice (some ⟨g0, 0, none⟩) ls.length kk, z46, z47, z48, z49, z50, z51, z52, z53, z54, z55, z56, z57, z58, z59, z60, ⟨(kl nl), (kq hV.p10_4), (kq hV.p10_9), (kq hV.p15_4), (kq hV.p15_9), (kq hV.p15_10), (kq hV.p17_15), (kc hV.c0), (fun _ => rfl), (kc hV.c2), (kc hV.c3), (kc hV.c4), (kc hV.c5), (kc hV.c6), (kc hV.c7), (kc hV.c8), (kc hV.c9), (kc hV.c10), (kc hV.c11), (kc hV.c12), (kc hV.c13), (kc hV.c14), (kc hV.c15), (kc hV.c16), hV.fr, (fun h0 => hV.x (kb h0)), (kl nl), (fun h0 => fun h1 => hV.r4 (kb h0) (kb h1)), (fun h0 => fun h1 => hV.r9 (kb h0) (kb h1)), (fun h0 => fun h1 => hV.r10 (kb h0) (kb h1)), (kc hV.r15)⟩, rfl⟩
    · have nl := kf hV.ord hl
      refine op_at _ rfl rfl (fun K' hK => ?_)
      conv => arg 2; whnf
      go_wp2_with fail
      exact ⟨v4, nb, gq1, cq1, az, cz, z44, z45, .int .i64 kk, z47, z48, z49, z50, z51, z52, z53, z54, z55, z56, z57, z58, z59, z60, ⟨(kl nl), (kq hV.p10_4), (kq hV.p10_9), (kq hV.p15_4), (kq hV.p15_9), (kq hV.p15_10), (kq hV.p17_15), (kc hV.c0), (kc hV.c1), (fun _ => rfl), (kc hV.c3), (kc hV.c4), (kc hV.c5), (kc hV.c6), (kc hV.c7), (kc hV.c8), (kc hV.c9), (kc hV.c10), (kc hV.c11), (kc hV.c12), (kc hV.c13), (kc hV.c14), (kc hV.c15), (kc hV.c16), hV.fr, (fun h0 => hV.x (kb h0)), (kl nl), (fun h0 => fun h1 => hV.r4 (kb h0) (kb h1)), (fun h0 => fun h1 => hV.r9 (kb h0) (kb h1)), (fun h0 => fun h1 => hV.r10 (kb h0) (kb h1)), (kc hV.r15)⟩, rfl⟩
    · have nl := kf hV.ord hl
      have d1 : L 1 = true := hd _ rfl ⟨1, .data⟩ (by simp) rfl
      obtain rfl := (hV.c1 d1).symm
      have d2 : L 2 = true := hd _ rfl ⟨2, .data⟩ (by simp) rfl
      obtain rfl := (hV.c2 d2).symm
      refine op_at _ rfl rfl (fun K' hK => ?_)
      conv => arg 2; whnf
      go_wp2_with fail
      exact ⟨v4, nb, gq1, cq1, az, cz, z44, .slice (some ⟨g0, 0, none⟩) ls.length kk, .int .i64 kk, .slice (some ⟨g0, 0, none⟩) kk kk, z48, z49, z50, z51, z52, z53, z54, z55, z56, z57, z58, z59, z60, ⟨(kl nl), (kq hV.p10_4), (kq hV.p10_9), (kq hV.p15_4), (kq hV.p15_9), (kq hV.p15_10), (kq hV.p17_15), (kc hV.c0), (kc hV.c1), (kc hV.c2), (fun _ => rfl), (kc hV.c4), (kc hV.c5), (kc hV.c6), (kc hV.c7), (kc hV.c8), (kc hV.c9), (kc hV.c10), (kc hV.c11), (kc hV.c12), (kc hV.c13), (kc hV.c14), (kc hV.c15), (kc hV.c16), hV.fr, (fun h0 => hV.x (kb h0)), (kl nl), (fun h0 => fun h1 => hV.r4 (kb h0) (kb h1)), (fun h0 => fun h1 => hV.r9 (kb h0) (kb h1)), (fun h0 => fun h1 => hV.r10 (kb h0) (kb h1)), (kc hV.r15)⟩, rfl⟩
    · have nl := kf hV.ord hl
      have d3 : L 3 = true := hd _ rfl ⟨3, .data⟩ (by simp) rfl
      obtain rfl := (hV.c3 d3).symm
      have hrow : LnsOwn wx base ls (.slice (some ⟨g0, 0, none⟩) ls.length kk) := hV.fr.row HLO.out (fun e => hvX (by injection e)) (fun _ _ e => by cases e) (fun _ _ e => by cases e)
      have hfs := hV.fr.size
      refine op_at _ rfl rfl (fun K' hK => ?_)
      conv => arg 2; whnf
      refine wp_rapp wx _ _ rfl W.heap.size [] _ rfl (RwOwn.zero _ _ _ _ _) tk ⟨g0, 0, none⟩ kk kk rfl HTL.out (fun j u hu => (pre_cells hrow kk j u (by rw [HTK.out]; exact hu))) (by rw [List.length_nil]; omega) hfs ?_
      intro v2 w2 hr2 hg2 ha2
      go_wp2_with fail
      exact ⟨v2, nb, gq1, cq1, az, cz, z44, z45, z46, .slice (some ⟨g0, 0, none⟩) kk kk, (v2), z49, z50, z51, z52, z53, z54, z55, z56, z57, z58, z59, z60, ⟨(kl nl), (fun _ => upd_same L 4), (kq hV.p10_9), (fun _ => upd_same L 4), (kq hV.p15_9), (kq hV.p15_10), (kq hV.p17_15), (kc hV.c0), (kc hV.c1), (kc hV.c2), (kc hV.c3), (fun _ => rfl), (kc hV.c5), (kc hV.c6), (kc hV.c7), (kc hV.c8), (kc hV.c9), (kc hV.c10), (kc hV.c11), (kc hV.c12), (kc hV.c13), (kc hV.c14), (kc hV.c15), (kc hV.c16), (hV.fr.newer hg2 (fun k e => by cases e)), (fun _ => (hV.x nl).grow hg2 (fun e => by cases e)), (kl nl), (fun _ _ => hr2), (fun h h2 => (hV.r9 (kb h) (kb h2)).grow hg2 (fun e => by cases e)), (kn hV.p10_4 hl), (kn hV.p15_4 hl)⟩, rfl⟩
    · have nl := kf hV.ord hl
      refine op_at _ rfl rfl (fun K' hK => ?_)
      conv => arg 2; whnf
      go_wp2_with fail
      exact ⟨v4, nb, gq1, cq1, az, cz, z44, z45, z46, z47, z48, .slice (some ⟨BB, 0, none⟩) 6 6, z50, z51, z52, z53, z54, z55, z56, z57, z58, z59, z60, ⟨(kl nl), (kq hV.p10_4), (kq hV.p10_9), (kq hV.p15_4), (kq hV.p15_9), (kq hV.p15_10), (kq hV.p17_15), (kc hV.c0), (kc hV.c1), (kc hV.c2), (kc hV.c3), (kc hV.c4), (fun _ => rfl), (kc hV.c6), (kc hV.c7), (kc hV.c8), (kc hV.c9), (kc hV.c10), (kc hV.c11), (kc hV.c12), (kc hV.c13), (kc hV.c14), (kc hV.c15), (kc hV.c16), hV.fr, (fun h0 => hV.x (kb h0)), (kl nl), (fun h0 => fun h1 => hV.r4 (kb h0) (kb h1)), (fun h0 => fun h1 => hV.r9 (kb h0) (kb h1)), (fun h0 => fun h1 => hV.r10 (kb h0) (kb h1)), (kc hV.r15)⟩, rfl⟩
    · have nl := kf hV.ord hl
      refine op_at _ rfl rfl (fun K' hK => ?_)
      conv => arg 2; whnf
      go_wp2_with fail
      exact ⟨v4, nb, gq1, cq1, az, cz, z44, z45, z46, z47, z48, z49, .int .i64 qq, z51, z52, z53, z54, z55, z56, z57, z58, z59, z60, ⟨(kl nl), (kq hV.p10_4), (kq hV.p10_9), (kq hV.p15_4), (kq hV.p15_9), (kq hV.p15_10), (kq hV.p17_15), (kc hV.c0), (kc hV.c1), (kc hV.c2), (kc hV.c3), (kc hV.c4), (kc hV.c5), (fun _ => rfl), (kc hV.c7), (kc hV.c8), (kc hV.c9), (kc hV.c10), (kc hV.c11), (kc hV.c12), (kc hV.c13), (kc hV.c14), (kc hV.c15), (kc hV.c16), hV.fr, (fun h0 => hV.x (kb h0)), (kl nl), (fun h0 => fun h1 => hV.r4 (kb h0) (kb h1)), (fun h0 => fun h1 => hV.r9 (kb h0) (kb h1)), (fun h0 => fun h1 => hV.r10 (kb h0) (kb h1)), (kc hV.r15)⟩, rfl⟩
    · have nl := kf hV.ord hl
      have d5 : L 5 = true := hd _ rfl ⟨5, .data⟩ (by simp) rfl
      obtain rfl := (hV.c5 d5).symm
      have d6 : L 6 = true := hd _ rfl ⟨6, .data⟩ (by simp) rfl
      obtain rfl := (hV.c6 d6).symm
      refine op_at _ rfl rfl (fun K' hK => ?_)
      conv => arg 2; whnf
      go_wp2_with fail
      exact ⟨v4, nb, gq1, cq1, az, cz, z44, z45, z46, z47, z48, .slice (some ⟨BB, 0, none⟩) 6 6, .int .i64 qq, .pointer (some ⟨BB, qq * 7, none⟩), z52, z53, z54, z55, z56, z57, z58, z59, z60, ⟨(kl nl), (kq hV.p10_4), (kq hV.p10_9), (kq hV.p15_4), (kq hV.p15_9), (kq hV.p15_10), (kq hV.p17_15), (kc hV.c0), (kc hV.c1), (kc hV.c2), (kc hV.c3), (kc hV.c4), (kc hV.c5), (kc hV.c6), (fun _ => rfl), (kc hV.c8), (kc hV.c9), (kc hV.c10), (kc hV.c11), (kc hV.c12), (kc hV.c13), (kc hV.c14), (kc hV.c15), (kc hV.c16), hV.fr, (fun h0 => hV.x (kb h0)), (kl nl), (fun h0 => fun h1 => hV.r4 (kb h0) (kb h1)), (fun h0 => fun h1 => hV.r9 (kb h0) (kb h1)), (fun h0 => fun h1 => hV.r10 (kb h0) (kb h1)), (kc hV.r15)⟩, rfl⟩
    · have nl := kf hV.ord hl
      have d7 : L 7 = true := hd _ rfl ⟨7, .data⟩ (by simp) rfl
      obtain rfl := (hV.c7 d7).symm
      have hbb : OwnAt wx BB (bad.flatMap lnCells) 44 := (hV.fr.block BB hBBl hBX (fun e => by cases e) (fun e => by cases e)).trans HBAD.out
      obtain ⟨y0, y1, y2, y3, y4, y5, y6⟩ := bad_cells hbb HYL.out
      have hbl := hbb.lt
      refine op_at _ rfl rfl (fun K' hK => ?_)
      conv => arg 2; whnf
      go_wp2_with fail
      exact ⟨v4, nb, gq1, cq1, az, cz, z44, z45, z46, z47, z48, z49, z50, .pointer (some ⟨BB, qq * 7, none⟩), .agg #[.string (strOf yl.label), .int .i64 yl.ins.op, .int .i64 yl.ins.d, .int .i64 yl.ins.a, .int .i64 yl.ins.b, .int .i64 yl.ins.n, .string (strOf yl.ins.name)], z53, z54, z55, z56, z57, z58, z59, z60, ⟨(kl nl), (kq hV.p10_4), (kq hV.p10_9), (kq hV.p15_4), (kq hV.p15_9), (kq hV.p15_10), (kq hV.p17_15), (kc hV.c0), (kc hV.c1), (kc hV.c2), (kc hV.c3), (kc hV.c4), (kc hV.c5), (kc hV.c6), (kc hV.c7), (fun _ => rfl), (kc hV.c9), (kc hV.c10), (kc hV.c11), (kc hV.c12), (kc hV.c13), (kc hV.c14), (kc hV.c15), (kc hV.c16), hV.fr, (fun h0 => hV.x (kb h0)), (kl nl), (fun h0 => fun h1 => hV.r4 (kb h0) (kb h1)), (fun h0 => fun h1 => hV.r9 (kb h0) (kb h1)), (fun h0 => fun h1 => hV.r10 (kb h0) (kb h1)), (kc hV.r15)⟩, rfl⟩
    · have nl := kf hV.ord hl
      have d8 : L 8 = true := hd _ rfl ⟨8, .data⟩ (by simp) rfl
      obtain rfl := (hV.c8 d8).symm
      have hal : Below wx.heap.size wx (wx.alloc (.cells #[.string (strOf yl.label), .int .i64 yl.ins.op, .int .i64 yl.ins.d, .int .i64 yl.ins.a, .int .i64 yl.ins.b, .int .i64 yl.ins.n, .string (strOf yl.ins.name)] 44)) := (Below.refl _ _).alloc (Nat.le_refl _) _
      have hfs := hV.fr.size
      refine op_at _ rfl rfl (fun K' hK => ?_)
      conv => arg 2; whnf
      go_wp2_with fail
      exact ⟨v4, wx.heap.size, gq1, cq1, az, cz, z44, z45, z46, z47, z48, z49, z50, z51, .agg #[.string (strOf yl.label), .int .i64 yl.ins.op, .int .i64 yl.ins.d, .int .i64 yl.ins.a, .int .i64 yl.ins.b, .int .i64 yl.ins.n, .string (strOf yl.ins.name)], .slice (some ⟨(wx.heap.size), 0, none⟩) 1 1, z54, z55, z56, z57, z58, z59, z60, ⟨(kl nl), (kq hV.p10_4), (fun _ => upd_same L 9), (kq hV.p15_4), (fun _ => upd_same L 9), (kq hV.p15_10), (kq hV.p17_15), (kc hV.c0), (kc hV.c1), (kc hV.c2), (kc hV.c3), (kc hV.c4), (kc hV.c5), (kc hV.c6), (kc hV.c7), (kc hV.c8), (fun _ => rfl), (kc hV.c10), (kc hV.c11), (kc hV.c12), (kc hV.c13), (kc hV.c14), (kc hV.c15), (kc hV.c16), (Fr3.old (hV.fr) hal), (fun h0 => OwnAt.old (hV.x (kb h0)) hal), (kl nl), (fun h0 => fun h1 => RwOwn.old (hV.r4 (kb h0) (kb h1)) hal), (fun _ _ => OwnAt.new wx (lnCells yl) 44), (kn hV.p10_9 hl), (kn hV.p15_9 hl)⟩, rfl⟩
    · have nl := kf hV.ord hl
      have d4 : L 4 = true := hd _ rfl ⟨4, .data⟩ (by simp) rfl
      obtain rfl := (hV.c4 d4).symm
      have d9 : L 9 = true := hd _ rfl ⟨9, .data⟩ (by simp) rfl
      obtain rfl := (hV.c9 d9).symm
      have hr4 := hV.r4 d4 hl
      have hr9 := hV.r9 d9 hl
      have hfs := hV.fr.size
      refine op_at _ rfl rfl (fun K' hK => ?_)
      conv => arg 2; whnf
      refine wp_lnSnoc wx _ _ rfl W.heap.size tk _ rfl hr4 yl nb 1 rfl hr9 (by rw [HTL.out]; omega) hfs ?_
      intro g2 cap2 w2 hr2 hg2 ha2 hl2
      go_wp2_with fail
      exact ⟨v4, nb, g2, cap2, az, cz, z44, z45, z46, z47, v4, z49, z50, z51, z52, .slice (some ⟨nb, 0, none⟩) 1 1, .slice (some ⟨(g2), 0, none⟩) (tk.length + 1) (cap2), z55, z56, z57, z58, z59, z60, ⟨(kl nl), (kd (d4)), (kd (d9)), (kq hV.p15_4), (kq hV.p15_9), (fun _ => upd_same L 10), (kq hV.p17_15), (kc hV.c0), (kc hV.c1), (kc hV.c2), (kc hV.c3), (kc hV.c4), (kc hV.c5), (kc hV.c6), (kc hV.c7), (kc hV.c8), (kc hV.c9), (fun _ => rfl), (kc hV.c11), (kc hV.c12), (kc hV.c13), (kc hV.c14), (kc hV.c15), (kc hV.c16), (hV.fr.newer hg2 (fun k e => (RwOwn.lt hr4 k e).1)), (fun _ => (hV.x nl).grow hg2 (fun e => by have := (RwOwn.lt hr4 X e).1; omega)), (kl nl), (fun _ => ks), (fun _ => ks), (fun _ _ => hr2), (kn hV.p15_10 hl)⟩, rfl⟩
    · have nl := kf hV.ord hl
      refine op_at _ rfl rfl (fun K' hK => ?_)
      conv => arg 2; whnf
      go_wp2_with fail
      exact ⟨v4, nb, gq1, cq1, az, cz, z44, z45, z46, z47, z48, z49, z50, z51, z52, z53, z54, .pointer (some ⟨X, 1, none⟩), z56, z57, z58, z59, z60, ⟨(kl nl), (kq hV.p10_4), (kq hV.p10_9), (kq hV.p15_4), (kq hV.p15_9), (kq hV.p15_10), (kq hV.p17_15), (kc hV.c0), (kc hV.c1), (kc hV.c2), (kc hV.c3), (kc hV.c4), (kc hV.c5), (kc hV.c6), (kc hV.c7), (kc hV.c8), (kc hV.c9), (kc hV.c10), (fun _ => rfl), (kc hV.c12), (kc hV.c13), (kc hV.c14), (kc hV.c15), (kc hV.c16), hV.fr, (fun h0 => hV.x (kb h0)), (kl nl), (fun h0 => fun h1 => hV.r4 (kb h0) (kb h1)), (fun h0 => fun h1 => hV.r9 (kb h0) (kb h1)), (fun h0 => fun h1 => hV.r10 (kb h0) (kb h1)), (kc hV.r15)⟩, rfl⟩
    · have nl := kf hV.ord hl
      have d11 : L 11 = true := hd _ rfl ⟨11, .data⟩ (by simp) rfl
      obtain rfl := (hV.c11 d11).symm
      have ho := hV.x nl
      have x1 := ho.at 1 _ rfl
      refine op_at _ rfl rfl (fun K' hK => ?_)
      conv => arg 2; whnf
      go_wp2_with fail
      exact ⟨v4, nb, gq1, cq1, az, cz, z44, z45, z46, z47, z48, z49, z50, z51, z52, z53, z54, .pointer (some ⟨X, 1, none⟩), .slice (some ⟨g0, 0, none⟩) ls.length kk, z57, z58, z59, z60, ⟨(kl nl), (kq hV.p10_4), (kq hV.p10_9), (kq hV.p15_4), (kq hV.p15_9), (kq hV.p15_10), (kq hV.p17_15), (kc hV.c0), (kc hV.c1), (kc hV.c2), (kc hV.c3), (kc hV.c4), (kc hV.c5), (kc hV.c6), (kc hV.c7), (kc hV.c8), (kc hV.c9), (kc hV.c10), (kc hV.c11), (fun _ => rfl), (kc hV.c13), (kc hV.c14), (kc hV.c15), (kc hV.c16), hV.fr, (fun h0 => hV.x (kb h0)), (kl nl), (fun h0 => fun h1 => hV.r4 (kb h0) (kb h1)), (fun h0 => fun h1 => hV.r9 (kb h0) (kb h1)), (fun h0 => fun h1 => hV.r10 (kb h0) (kb h1)), (kc hV.r15)⟩, rfl⟩
    · have nl := kf hV.ord hl
      refine op_at _ rfl rfl (fun K' hK => ?_)
      conv => arg 2; whnf
      go_wp2_with fail
      exact ⟨v4, nb, gq1, cq1, az, cz, z44, z45, z46, z47, z48, z49, z50, z51, z52, z53, z54, z55, z56, .int .i64 kk, z58, z59, z60, ⟨(kl nl), (kq hV.p10_4), (kq hV.p10_9), (kq hV.p15_4), (kq hV.p15_9), (kq hV.p15_10), (kq hV.p17_15), (kc hV.c0), (kc hV.c1), (kc hV.c2), (kc hV.c3), (kc hV.c4), (kc hV.c5), (kc hV.c6), (kc hV.c7), (kc hV.c8), (kc hV.c9), (kc hV.c10), (kc hV.c11), (kc hV.c12), (fun _ => rfl), (kc hV.c14), (kc hV.c15), (kc hV.c16), hV.fr, (fun h0 => hV.x (kb h0)), (kl nl), (fun h0 => fun h1 => hV.r4 (kb h0) (kb h1)), (fun h0 => fun h1 => hV.r9 (kb h0) (kb h1)), (fun h0 => fun h1 => hV.r10 (kb h0) (kb h1)), (kc hV.r15)⟩, rfl⟩
    · have nl := kf hV.ord hl
      have d12 : L 12 = true := hd _ rfl ⟨12, .data⟩ (by simp) rfl
      obtain rfl := (hV.c12 d12).symm
      have d13 : L 13 = true := hd _ rfl ⟨13, .data⟩ (by simp) rfl
      obtain rfl := (hV.c13 d13).symm
      refine op_at _ rfl rfl (fun K' hK => ?_)
      conv => arg 2; whnf
      go_wp2_with fail
      exact ⟨v4, nb, gq1, cq1, az, cz, z44, z45, z46, z47, z48, z49, z50, z51, z52, z53, z54, z55, .slice (some ⟨g0, 0, none⟩) ls.length kk, .int .i64 kk, .slice (some ⟨g0, 0, none⟩) 0 0, z59, z60, ⟨(kl nl), (kq hV.p10_4), (kq hV.p10_9), (kq hV.p15_4), (kq hV.p15_9), (kq hV.p15_10), (kq hV.p17_15), (kc hV.c0), (kc hV.c1), (kc hV.c2), (kc hV.c3), (kc hV.c4), (kc hV.c5), (kc hV.c6), (kc hV.c7), (kc hV.c8), (kc hV.c9), (kc hV.c10), (kc hV.c11), (kc hV.c12), (kc hV.c13), (fun _ => rfl), (kc hV.c15), (kc hV.c16), hV.fr, (fun h0 => hV.x (kb h0)), (kl nl), (fun h0 => fun h1 => hV.r4 (kb h0) (kb h1)), (fun h0 => fun h1 => hV.r9 (kb h0) (kb h1)), (fun h0 => fun h1 => hV.r10 (kb h0) (kb h1)), (kc hV.r15)⟩, rfl⟩
    · have nl := kf hV.ord hl
      have d10 : L 10 = true := hd _ rfl ⟨10, .data⟩ (by simp) rfl
      obtain rfl := (hV.c10 d10).symm
      have d14 : L 14 = true := hd _ rfl ⟨14, .data⟩ (by simp) rfl
      obtain rfl := (hV.c14 d14).symm
      have hrow : LnsOwn wx base ls (.slice (some ⟨g0, 0, none⟩) ls.length kk) := hV.fr.row HLO.out (fun e => hvX (by injection e)) (fun _ _ e => by cases e) (fun _ _ e => by cases e)
      have hr10 := hV.r10 d10 hl
      have hfs := hV.fr.size
      refine op_at _ rfl rfl (fun K' hK => ?_)
      conv => arg 2; whnf
      refine wp_rapp wx _ _ rfl W.heap.size (tk ++ [yl]) _ rfl hr10 dk ⟨g0, 0, none⟩ 0 0 rfl (by have := HDL.out; omega) (fun j u hu => (post_cells hrow hkl (by first | exact .inl rfl | exact .inr ⟨by omega, rfl⟩) j u (by rw [HDK.out]; exact hu))) (by rw [List.length_append, HTL.out, List.length_singleton]; omega) hfs ?_
      intro v2 w2 hr2 hg2 ha2
      obtain ⟨a2, cp2, e2⟩ := RwOwn.shape hr2
      rw [HLZ.out] at e2
      subst e2
      go_wp2_with fail
      exact ⟨v4, nb, gq1, cq1, a2, cp2, z44, z45, z46, z47, z48, z49, z50, z51, z52, z53, .slice (some ⟨gq1, 0, none⟩) (tk.length + 1) cq1, z55, z56, z57, .slice (some ⟨g0, 0, none⟩) 0 0, .slice (a2) lz (cp2), z60, ⟨(kl nl), (kq hV.p10_4), (kq hV.p10_9), (kd (hV.p10_4 d10)), (kd (hV.p10_9 d10)), (kd (d10)), (fun _ => upd_same L 15), (kc hV.c0), (kc hV.c1), (kc hV.c2), (kc hV.c3), (kc hV.c4), (kc hV.c5), (kc hV.c6), (kc hV.c7), (kc hV.c8), (kc hV.c9), (kc hV.c10), (kc hV.c11), (kc hV.c12), (kc hV.c13), (kc hV.c14), (fun _ => rfl), (kc hV.c16), (hV.fr.newer hg2 (fun k e => (RwOwn.lt hr10 k e).1)), (fun _ => (hV.x nl).grow hg2 (fun e => by have := (RwOwn.lt hr10 X e).1; omega)), (kl nl), (fun _ h => by rw [upd_ne L (show 10 ≠ 15 by decide), d10] at h; cases h), (fun _ h => by rw [upd_ne L (show 10 ≠ 15 by decide), d10] at h; cases h), (fun _ => ks), (fun _ => hr2)⟩, rfl⟩
    · have nl := kf hV.ord hl
      refine op_at _ rfl rfl (fun K' hK => ?_)
      conv => arg 2; whnf
      go_wp2_with fail
      exact ⟨v4, nb, gq1, cq1, az, cz, z44, z45, z46, z47, z48, z49, z50, z51, z52, z53, z54, z55, z56, z57, z58, z59, .pointer (some ⟨X, 1, none⟩), ⟨(kl nl), (kq hV.p10_4), (kq hV.p10_9), (kq hV.p15_4), (kq hV.p15_9), (kq hV.p15_10), (kq hV.p17_15), (kc hV.c0), (kc hV.c1), (kc hV.c2), (kc hV.c3), (kc hV.c4), (kc hV.c5), (kc hV.c6), (kc hV.c7), (kc hV.c8), (kc hV.c9), (kc hV.c10), (kc hV.c11), (kc hV.c12), (kc hV.c13), (kc hV.c14), (kc hV.c15), (fun _ => rfl), hV.fr, (fun h0 => hV.x (kb h0)), (kl nl), (fun h0 => fun h1 => hV.r4 (kb h0) (kb h1)), (fun h0 => fun h1 => hV.r9 (kb h0) (kb h1)), (fun h0 => fun h1 => hV.r10 (kb h0) (kb h1)), (kc hV.r15)⟩, rfl⟩
    · have before : ∀ j, j < 17 → L j = true := fun j hj => by
        have hj : j = 0 ∨ j = 1 ∨ j = 2 ∨ j = 3 ∨ j = 4 ∨ j = 5 ∨ j = 6 ∨ j = 7 ∨ j = 8 ∨ j = 9 ∨ j = 10 ∨ j = 11 ∨ j = 12 ∨ j = 13 ∨ j = 14 ∨ j = 15 ∨ j = 16 := by omega
        rcases hj with rfl | rfl | rfl | rfl | rfl | rfl | rfl | rfl | rfl | rfl | rfl | rfl | rfl | rfl | rfl | rfl | rfl
        · exact hd _ rfl ⟨0, .phase⟩ (by simp) rfl
        · exact hd _ rfl ⟨1, .phase⟩ (by simp) rfl
        · exact hd _ rfl ⟨2, .phase⟩ (by simp) rfl
        · exact hd _ rfl ⟨3, .phase⟩ (by simp) rfl
        · exact hd _ rfl ⟨4, .phase⟩ (by simp) rfl
        · exact hd _ rfl ⟨5, .phase⟩ (by simp) rfl
        · exact hd _ rfl ⟨6, .phase⟩ (by simp) rfl
        · exact hd _ rfl ⟨7, .phase⟩ (by simp) rfl
        · exact hd _ rfl ⟨8, .phase⟩ (by simp) rfl
        · exact hd _ rfl ⟨9, .phase⟩ (by simp) rfl
        · exact hd _ rfl ⟨10, .phase⟩ (by simp) rfl
        · exact hd _ rfl ⟨11, .phase⟩ (by simp) rfl
        · exact hd _ rfl ⟨12, .phase⟩ (by simp) rfl
        · exact hd _ rfl ⟨13, .phase⟩ (by simp) rfl
        · exact hd _ rfl ⟨14, .phase⟩ (by simp) rfl
        · exact hd _ rfl ⟨15, .data⟩ (by simp) rfl
        · exact hd _ rfl ⟨16, .data⟩ (by simp) rfl
      have d15 : L 15 = true := hd _ rfl ⟨15, .data⟩ (by simp) rfl
      obtain rfl := (hV.c15 d15).symm
      have d16 : L 16 = true := hd _ rfl ⟨16, .data⟩ (by simp) rfl
      obtain rfl := (hV.c16 d16).symm
      have hx := hV.x hl
      have x1 := hx.at 1 _ rfl
      have fx := hx.fz 1
      have hxl := hx.lt
      have hr15 := hV.r15 (before 15 (by decide))
      refine op_at _ rfl rfl (fun K' hK => ?_)
      conv => arg 2; whnf
      go_wp2_with fail
      exact ⟨v4, nb, gq1, cq1, az, cz, z44, z45, z46, z47, z48, z49, z50, z51, z52, z53, z54, z55, z56, z57, z58, .slice az lz cz, .pointer (some ⟨X, 1, none⟩), ⟨(fun _ j hj => by rw [upd_ne L (show j ≠ 17 by omega)]; exact before j hj), (kq hV.p10_4), (kq hV.p10_9), (kq hV.p15_4), (kq hV.p15_9), (kq hV.p15_10), (kd (before 15 (by decide))), (kc hV.c0), (kc hV.c1), (kc hV.c2), (kc hV.c3), (kc hV.c4), (kc hV.c5), (kc hV.c6), (kc hV.c7), (kc hV.c8), (kc hV.c9), (kc hV.c10), (kc hV.c11), (kc hV.c12), (kc hV.c13), (kc hV.c14), (kc hV.c15), (kc hV.c16), (hV.fr.set hXl 1 _), (ks), (fun _ => hx.set 1 _), (fun _ h => by rw [upd_ne L (show 10 ≠ 17 by decide), before 10 (by decide)] at h; cases h), (fun _ h => by rw [upd_ne L (show 10 ≠ 17 by decide), before 10 (by decide)] at h; cases h), (fun _ h => by rw [upd_ne L (show 15 ≠ 17 by decide), before 15 (by decide)] at h; cases h), (fun _ => RwOwn.set hr15 (fun e => by have := (RwOwn.lt hr15 X e).1; omega) 1 _)⟩, rfl⟩
  · intro L act wx hI hall
    obtain ⟨v4, nb, gq1, cq1, az, cz, z44, z45, z46, z47, z48, z49, z50, z51, z52, z53, z54, z55, z56, z57, z58, z59, z60, hV, rfl⟩ := hI
    obtain rfl := (hV.c0 (hall 0 (by decide))).symm
    obtain rfl := (hV.c1 (hall 1 (by decide))).symm
    obtain rfl := (hV.c2 (hall 2 (by decide))).symm
    obtain rfl := (hV.c3 (hall 3 (by decide))).symm
    obtain rfl := (hV.c4 (hall 4 (by decide))).symm
    obtain rfl := (hV.c5 (hall 5 (by decide))).symm
    obtain rfl := (hV.c6 (hall 6 (by decide))).symm
    obtain rfl := (hV.c7 (hall 7 (by decide))).symm
    obtain rfl := (hV.c8 (hall 8 (by decide))).symm
    obtain rfl := (hV.c9 (hall 9 (by decide))).symm
    obtain rfl := (hV.c10 (hall 10 (by decide))).symm
    obtain rfl := (hV.c11 (hall 11 (by decide))).symm
    obtain rfl := (hV.c12 (hall 12 (by decide))).symm
    obtain rfl := (hV.c13 (hall 13 (by decide))).symm
    obtain rfl := (hV.c14 (hall 14 (by decide))).symm
    obtain rfl := (hV.c15 (hall 15 (by decide))).symm
    obtain rfl := (hV.c16 (hall 16 (by decide))).symm
    exact hM _ _ (Met.intro (hJ _ _ ⟨v4, nb, gq1, cq1, az, cz, ⟨hV.fr, hV.x3 (hall 17 (by decide)), hV.r15 (hall 15 (by decide))⟩, rfl⟩))
end Go.Proofs.YtnfkllbkgpmgoaaGreatDoor
