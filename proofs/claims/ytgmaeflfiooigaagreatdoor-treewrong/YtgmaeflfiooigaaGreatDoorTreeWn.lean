/-
  Small laws on what is done of a region that draws its order. No condition.
  Statements appended to a slice that holds none; a cell of a row of functions that is stored; parts of lists. No condition.
  TreeWrong: the statement behind the others. Conditions: what is read lies in memory.
  TreeWrong, plainly: what is wrong may not be. Plain functions alone.
  TreeWrong: the expressions that may not be. Conditions: what is read lies in memory.
  TreeWrong: the statements that may not be. Conditions: what is read lies in memory.
  TreeWrong: what is there when the program is put together. No condition.
  TreeWrong: the law is true. Conditions: the raw numbers and the library's table lie in memory.
-/
import Derived.Test.YtgmaeflfiooigaaGreatDoorTreeX
import Derived.Test.YtgmaeflfiooigaaGreatDoorTreePO
import Derived.Laws.OwnMore
import Derived.Test.YtgmaeflfiooigaaGreatDoorTreeA
import Derived.Test.YtgmaeflfiooigaaGreatDoorTreeI
import Derived.Test.YtgmaeflfiooigaaGreatDoorTreeF
set_option linter.unusedVariables false
set_option linter.unusedSimpArgs false
namespace Go.Proofs.YtgmaeflfiooigaaGreatDoor
theorem kb {L : Nat → Bool} {j k : Nat} {b : Bool} (h : upd L k j = b) (hn : j ≠ k := by decide) : L j = b := by rwa [upd_ne L hn] at h
theorem kc {L : Nat → Bool} {j k : Nat} {P : Prop} (h : L j = true → P) (hn : j ≠ k := by decide) : upd L k j = true → P := fun e => h (kb e hn)
theorem kq {L : Nat → Bool} {j i k : Nat} (h : L j = true → L i = true) (hn : j ≠ k := by decide) (hm : i ≠ k := by decide) : upd L k j = true → upd L k i = true := fun e => by rw [upd_ne L hm]; exact h (kb e hn)
theorem kn {L : Nat → Bool} {j k : Nat} {P : Prop} (h : L j = true → L k = true) (hl : L k = false) (hn : j ≠ k := by decide) : upd L k j = true → P := fun e => by
  have := h (kb e hn)
  rw [hl] at this; cases this
theorem kl {L : Nat → Bool} {j k : Nat} {P : Prop} (h : L j = false) (hn : j ≠ k := by decide) : upd L k j = true → P := fun e => by
  have := kb e hn
  rw [h] at this; cases this
theorem kf {L : Nat → Bool} {n k : Nat} (h : L n = true → ∀ j, j < n → L j = true) (hl : L k = false) (hk : k < n := by decide) : L n = false := by
  cases e : L n with
  | false => rfl
  | true => have := h e k hk; rw [hl] at this; cases this
theorem ks {L : Nat → Bool} {k : Nat} {P : Prop} : upd L k k = false → P := fun e => by rw [upd_same] at e; cases e
theorem kd {L : Nat → Bool} {j i k : Nat} (h : L i = true) (hm : i ≠ k := by decide) : upd L k j = true → upd L k i = true := fun _ => by rw [upd_ne L hm]; exact h
end Go.Proofs.YtgmaeflfiooigaaGreatDoor

namespace Go.Proofs.YtgmaeflfiooigaaGreatDoor
open Go.RowKit
set_option maxHeartbeats 8000000
set_option maxRecDepth 100000

theorem sts_one {D : Nat → Prop} {w : World} {ls : List StV} {v : Value} (h : StsOwnD w D ls v) : ∀ u, u ∈ stFlat ls → u.oneCell' = true := by
  intro u hu
  unfold stFlat at hu
  obtain ⟨p, hp, hu⟩ := List.mem_flatMap.1 hu
  obtain ⟨x, a, b, c⟩ := p
  obtain ⟨h1, h2, h3⟩ := h.2.2 _ hp
  obtain ⟨a1, a2, ha⟩ := h1.shape
  obtain ⟨b1, b2, hb⟩ := h2.shape
  obtain ⟨c1, c2, hc⟩ := h3.shape
  dsimp only at ha hb hc
  subst ha; subst hb; subst hc
  exact st_one _ _ _ _ _ _ _ _ _ _ u hu
/-- Statements behind nil. -/
theorem run_append_sts (w : World) (base : Nat) (ty : TypeId) {D : Nat → Prop} (ls : List StV) (bv : Value) (hs : StsOwnD w D ls bv) (hn : ls.length ≤ 1000) (hbase : base ≤ w.heap.size) :
    ∃ v' w', (Builtin.append_ #[47, 47] ty #[.slice none 0 0, bv]).run Tryz.prog w = .ok v' w' ∧ w'.ownsRow base 49 5 v' ls.length (stFlat ls) ∧ w.grownBy w' none ∧ (v'.ownBlock = none ∨ v'.ownBlock = some w.heap.size) := by
  obtain ⟨i0, hi0, hz0, hz1, hz2⟩ := info_parts infoSt
  have h1 := sts_one hs
  rcases hs.1.2 with ⟨rfl, h0⟩ | ⟨g, cap, cur, rfl, hb, hg, hc, hm, hsz, ht⟩
  · obtain rfl : ls = [] := List.length_eq_zero_iff.1 h0
    refine ⟨.slice none 0 0, w, ?_, ⟨rfl, .inl ⟨rfl, rfl⟩⟩, World.grownBy.refl w _, .inl rfl⟩
    simp [Builtin.append_, run_underlying Tryz.underlying47, sizeOf, typeInfo, hi0, Builtin.lenOf, Builtin.firstCells]
  · obtain ⟨v', w', hr, h5, h6, _, h7⟩ := run_append_own_at (P := Tryz.prog) w base 47 ty 49 i0 _ 5 96 Tryz.underlying47 hi0 hz0 hz1 hz2 rfl (by decide) (.slice none 0 0) 0 [] ⟨rfl, .inl ⟨rfl, rfl⟩⟩ ⟨g, 0, none⟩ ls.length cap (stFlat ls) (stFlat_len ls) (fun j u hu => World.ownsRow.cells hs.1 (g := g) rfl j u hu) h1 (by unfold maxLen; omega) (by omega) hbase
    rw [Nat.zero_add, List.nil_append] at h5
    exact ⟨v', w', hr, h5, h6, h7⟩
theorem wp_append_sts {o : Oper} {a : Act} {w : World} {K : Act → World → Prop} {Q : Exit → Act → World → Prop} (s x : Operand) (ho : o.op = .call { callee := .builtin .append, args := #[s, x], argTypes := #[47, 47] })
    (base : Nat) (hs : a.eval s = .slice none 0 0) {D : Nat → Prop} (ls : List StV) (bv : Value) (hx : a.eval x = bv) (hl : StsOwnD w D ls bv) (hn : ls.length ≤ 1000) (hbase : base ≤ w.heap.size)
    (h : ∀ v' w', w'.ownsRow base 49 5 v' ls.length (stFlat ls) → w.grownBy w' none → (v'.ownBlock = none ∨ v'.ownBlock = some w.heap.size) → K (a.put o.dst v') w') : o.wp Tryz.prog a w K Q := by
  obtain ⟨v', w', hr, h1, h2, h3⟩ := run_append_sts w base o.type ls bv hl hn hbase
  unfold Oper.wp execOp
  simp only [ho, resolve, invoke, builtin, Sem.run_bind, Sem.run_pure, Result.andThen_ok, List.map_toArray, List.map_cons, List.map_nil, hs, hx, hr]
  exact h v' w' h1 h2 h3
/-- One statement more in a function's body, its slice stored: the functions read so. -/
def withB (p : FuV) (x : St) (v : Value) : FuV := ⟨⟨p.x.name, p.x.params, p.x.locals, p.x.body ++ [x]⟩, p.p, p.l, v⟩
theorem fv_set (ds : List FuV) (i : Nat) (p : FuV) (hp : ds[i]? = some p) (x : St) (v : Value) : (ds.flatMap fvCells).set (i * 4 + 3) v = (ds.set i (withB p x v)).flatMap fvCells := by
  induction ds generalizing i with
  | nil => simp at hp
  | cons d l ih =>
    cases i with
    | zero =>
      simp at hp; subst hp
      simp [List.flatMap_cons, fvCells, withB]
    | succ i =>
      simp at hp
      have := ih i hp
      rw [List.flatMap_cons, List.set_cons_succ, List.flatMap_cons, ← this]
      rw [List.set_append_right _ _ (by simp [fvCells]; omega)]
      congr 1
      congr 1
      simp [fvCells]; omega
end Go.Proofs.YtgmaeflfiooigaaGreatDoor

namespace Go.Proofs.YtgmaeflfiooigaaGreatDoor
open Go.RowKit
set_option maxHeartbeats 8000000
set_option maxRecDepth 100000

noncomputable def wrReg (n : Nat) : Code := ((Tryz.f5.body.bind (regOf n)).getD .skip)
theorem RowAt.grown {w w' : World} {b : Nat} {cs : List Value} {row : Option Nat} (h : RowAt w b 0 cs) (hg : w.grownBy w' row) (hr : ∀ k, row = some k → k ≠ b) : RowAt w' b 0 cs := fun i hi => hg.cell (h i hi) (fun e => hr _ e.symm rfl)
structure VW19 (b8 b15 gf nf cf last : Nat) (va bv s0 s1 s2 s3 s4 : Value) (ls : List StV) (W : World) (L : Nat → Bool) (va9 : Value) (nb : Nat) (gn : Nat) (cn : Nat) (z96 z97 z98 z99 z100 z101 z102 z103 z104 z105 z106 z107 z108 z109 z110 : Value) (wx : World) : Prop where
  ord : L 15 = true → ∀ j, j < 15 → L j = true
  p12_9 : L 12 = true → L 9 = true
  p12_11 : L 12 = true → L 11 = true
  p14_13 : L 14 = true → L 13 = true
  p15_12 : L 15 = true → L 12 = true
  c0 : L 0 = true → z96 = .pointer (some ⟨b8, 1, none⟩)
  c1 : L 1 = true → z97 = .slice (some ⟨gf, 0, none⟩) nf cf
  c2 : L 2 = true → z98 = .int .i64 (last : Int)
  c3 : L 3 = true → z99 = .pointer (some ⟨b8, 1, none⟩)
  c4 : L 4 = true → z100 = .slice (some ⟨gf, 0, none⟩) nf cf
  c5 : L 5 = true → z101 = .int .i64 (last : Int)
  c6 : L 6 = true → z102 = .pointer (some ⟨gf, last * 4, none⟩)
  c7 : L 7 = true → z103 = .pointer (some ⟨gf, last * 4 + 3, none⟩)
  c8 : L 8 = true → z104 = bv
  c9 : L 9 = true → z105 = va9
  c10 : L 10 = true → z106 = .agg #[s0, s1, s2, s3, s4]
  c11 : L 11 = true → z107 = .slice (some ⟨nb, 0, none⟩) 1 1
  c12 : L 12 = true → z108 = .slice (some ⟨gn, 0, none⟩) (ls.length + 1) cn
  c13 : L 13 = true → z109 = .pointer (some ⟨gf, last * 4, none⟩)
  c14 : L 14 = true → z110 = .pointer (some ⟨gf, last * 4 + 3, none⟩)
  bel : L 15 = false → Below W.heap.size W wx
  r9 : L 9 = true → L 12 = false → wx.ownsRow W.heap.size 49 5 va9 ls.length (stFlat ls)
  r11 : L 11 = true → L 12 = false → RowAt wx nb 0 [s0, s1, s2, s3, s4]
  r12 : L 12 = true → wx.ownsRow W.heap.size 49 5 (.slice (some ⟨gn, 0, none⟩) (ls.length + 1) cn) (ls.length + 1) (stFlat ls ++ [s0, s1, s2, s3, s4])
  fin : L 15 = true → ∃ w1, Below W.heap.size W w1 ∧ wx = w1.setCell ⟨gf, last * 4 + 3, none⟩ (.slice (some ⟨gn, 0, none⟩) (ls.length + 1) cn)
def IW19 (b8 b15 gf nf cf last : Nat) (va bv s0 s1 s2 s3 s4 : Value) (ls : List StV) (W : World) (q0 q1 q2 q3 q4 q5 q6 q7 q9 q10 q11 q12 q13 q14 q17 q18 q19 q20 q21 q22 q23 q24 q25 q26 q27 q28 q29 q30 q31 q32 q33 q34 q35 q36 q37 q38 q39 q40 q41 q42 q43 q44 q45 q46 q47 q48 q49 q50 q51 q52 q53 q54 q55 q56 q57 q58 q59 q60 q61 q62 q63 q64 q65 q66 q67 q68 q69 q70 q71 q72 q73 q74 q75 q76 q77 q78 q79 q80 q81 q82 q83 q84 q85 q86 q87 q88 q89 q90 q91 q92 q93 q94 q95 q111 q112 q113 q114 q115 q116 q117 q118 q119 q120 q121 q122 q123 q124 q125 q126 q127 q128 q129 : Value) (L : Nat → Bool) (a' : Act) (w' : World) : Prop :=
  ∃ va9 : Value, ∃ nb : Nat, ∃ gn : Nat, ∃ cn : Nat, ∃ z96 z97 z98 z99 z100 z101 z102 z103 z104 z105 z106 z107 z108 z109 z110 : Value, VW19 b8 b15 gf nf cf last va bv s0 s1 s2 s3 s4 ls W L va9 nb gn cn z96 z97 z98 z99 z100 z101 z102 z103 z104 z105 z106 z107 z108 z109 z110 w' ∧ a' = ⟨[q0, q1, q2, q3, q4, q5, q6, q7, .pointer (some ⟨b8, 0, none⟩), q9, q10, q11, q12, q13, q14, .pointer (some ⟨b15, 0, none⟩), .int .i64 (last : Int), q17, q18, q19, q20, q21, q22, q23, q24, q25, q26, q27, q28, q29, q30, q31, q32, q33, q34, q35, q36, q37, q38, q39, q40, q41, q42, q43, q44, q45, q46, q47, q48, q49, q50, q51, q52, q53, q54, q55, q56, q57, q58, q59, q60, q61, q62, q63, q64, q65, q66, q67, q68, q69, q70, q71, q72, q73, q74, q75, q76, q77, q78, q79, q80, q81, q82, q83, q84, q85, q86, q87, q88, q89, q90, q91, q92, q93, q94, q95, z96, z97, z98, z99, z100, z101, z102, z103, z104, z105, z106, z107, z108, z109, z110, q111, q112, q113, q114, q115, q116, q117, q118, q119, q120, q121, q122, q123, q124, q125, q126, q127, q128, q129].toArray, []⟩
def RW19 (b8 b15 gf nf cf last : Nat) (va bv s0 s1 s2 s3 s4 : Value) (ls : List StV) (W : World) (q0 q1 q2 q3 q4 q5 q6 q7 q9 q10 q11 q12 q13 q14 q17 q18 q19 q20 q21 q22 q23 q24 q25 q26 q27 q28 q29 q30 q31 q32 q33 q34 q35 q36 q37 q38 q39 q40 q41 q42 q43 q44 q45 q46 q47 q48 q49 q50 q51 q52 q53 q54 q55 q56 q57 q58 q59 q60 q61 q62 q63 q64 q65 q66 q67 q68 q69 q70 q71 q72 q73 q74 q75 q76 q77 q78 q79 q80 q81 q82 q83 q84 q85 q86 q87 q88 q89 q90 q91 q92 q93 q94 q95 q111 q112 q113 q114 q115 q116 q117 q118 q119 q120 q121 q122 q123 q124 q125 q126 q127 q128 q129 : Value) (a' : Act) (w' : World) : Prop :=
  ∃ va9 : Value, ∃ nb : Nat, ∃ gn : Nat, ∃ cn : Nat, ((∃ w1, Below W.heap.size W w1 ∧ w' = w1.setCell ⟨gf, last * 4 + 3, none⟩ (.slice (some ⟨gn, 0, none⟩) (ls.length + 1) cn)) ∧ w'.ownsRow W.heap.size 49 5 (.slice (some ⟨gn, 0, none⟩) (ls.length + 1) cn) (ls.length + 1) (stFlat ls ++ [s0, s1, s2, s3, s4])) ∧ a' = ⟨[q0, q1, q2, q3, q4, q5, q6, q7, .pointer (some ⟨b8, 0, none⟩), q9, q10, q11, q12, q13, q14, .pointer (some ⟨b15, 0, none⟩), .int .i64 (last : Int), q17, q18, q19, q20, q21, q22, q23, q24, q25, q26, q27, q28, q29, q30, q31, q32, q33, q34, q35, q36, q37, q38, q39, q40, q41, q42, q43, q44, q45, q46, q47, q48, q49, q50, q51, q52, q53, q54, q55, q56, q57, q58, q59, q60, q61, q62, q63, q64, q65, q66, q67, q68, q69, q70, q71, q72, q73, q74, q75, q76, q77, q78, q79, q80, q81, q82, q83, q84, q85, q86, q87, q88, q89, q90, q91, q92, q93, q94, q95, .pointer (some ⟨b8, 1, none⟩), .slice (some ⟨gf, 0, none⟩) nf cf, .int .i64 (last : Int), .pointer (some ⟨b8, 1, none⟩), .slice (some ⟨gf, 0, none⟩) nf cf, .int .i64 (last : Int), .pointer (some ⟨gf, last * 4, none⟩), .pointer (some ⟨gf, last * 4 + 3, none⟩), bv, va9, .agg #[s0, s1, s2, s3, s4], .slice (some ⟨nb, 0, none⟩) 1 1, .slice (some ⟨gn, 0, none⟩) (ls.length + 1) cn, .pointer (some ⟨gf, last * 4, none⟩), .pointer (some ⟨gf, last * 4 + 3, none⟩), q111, q112, q113, q114, q115, q116, q117, q118, q119, q120, q121, q122, q123, q124, q125, q126, q127, q128, q129].toArray, []⟩
theorem reg_W19 (b8 b15 gf nf cf last : Nat) (va bv s0 s1 s2 s3 s4 : Value) (ls : List StV) (W : World) (h8 : OwnAt W b8 [va, .slice (some ⟨gf, 0, none⟩) nf cf] 27) (h15 : OwnAt W b15 [s0, s1, s2, s3, s4] 49) (hlast : last < nf) (hnf : nf ≤ 3) (hcell : W.cell? ⟨gf, last * 4 + 3, none⟩ = some bv) (hfz : W.frozen? ⟨gf, last * 4 + 3, none⟩ = false) (D : Nat → Prop) (hls : StsOwnD W D ls bv) (hl4 : ls.length ≤ 4) (hone : ∀ u, u ∈ [s0, s1, s2, s3, s4] → u.oneCell' = true) (q0 q1 q2 q3 q4 q5 q6 q7 q9 q10 q11 q12 q13 q14 q17 q18 q19 q20 q21 q22 q23 q24 q25 q26 q27 q28 q29 q30 q31 q32 q33 q34 q35 q36 q37 q38 q39 q40 q41 q42 q43 q44 q45 q46 q47 q48 q49 q50 q51 q52 q53 q54 q55 q56 q57 q58 q59 q60 q61 q62 q63 q64 q65 q66 q67 q68 q69 q70 q71 q72 q73 q74 q75 q76 q77 q78 q79 q80 q81 q82 q83 q84 q85 q86 q87 q88 q89 q90 q91 q92 q93 q94 q95 q96 q97 q98 q99 q100 q101 q102 q103 q104 q105 q106 q107 q108 q109 q110 q111 q112 q113 q114 q115 q116 q117 q118 q119 q120 q121 q122 q123 q124 q125 q126 q127 q128 q129 : Value) (J K' : Act → World → Prop) (hJ : ∀ a' w', RW19 b8 b15 gf nf cf last va bv s0 s1 s2 s3 s4 ls W q0 q1 q2 q3 q4 q5 q6 q7 q9 q10 q11 q12 q13 q14 q17 q18 q19 q20 q21 q22 q23 q24 q25 q26 q27 q28 q29 q30 q31 q32 q33 q34 q35 q36 q37 q38 q39 q40 q41 q42 q43 q44 q45 q46 q47 q48 q49 q50 q51 q52 q53 q54 q55 q56 q57 q58 q59 q60 q61 q62 q63 q64 q65 q66 q67 q68 q69 q70 q71 q72 q73 q74 q75 q76 q77 q78 q79 q80 q81 q82 q83 q84 q85 q86 q87 q88 q89 q90 q91 q92 q93 q94 q95 q111 q112 q113 q114 q115 q116 q117 q118 q119 q120 q121 q122 q123 q124 q125 q126 q127 q128 q129 a' w' → J a' w') (hM : ∀ a' w', Met J a' w' → K' a' w') :
    Code.wp Tryz.prog (wrReg 19) (Exit.then K' (fun _ _ _ => False)) ⟨[q0, q1, q2, q3, q4, q5, q6, q7, .pointer (some ⟨b8, 0, none⟩), q9, q10, q11, q12, q13, q14, .pointer (some ⟨b15, 0, none⟩), .int .i64 (last : Int), q17, q18, q19, q20, q21, q22, q23, q24, q25, q26, q27, q28, q29, q30, q31, q32, q33, q34, q35, q36, q37, q38, q39, q40, q41, q42, q43, q44, q45, q46, q47, q48, q49, q50, q51, q52, q53, q54, q55, q56, q57, q58, q59, q60, q61, q62, q63, q64, q65, q66, q67, q68, q69, q70, q71, q72, q73, q74, q75, q76, q77, q78, q79, q80, q81, q82, q83, q84, q85, q86, q87, q88, q89, q90, q91, q92, q93, q94, q95, q96, q97, q98, q99, q100, q101, q102, q103, q104, q105, q106, q107, q108, q109, q110, q111, q112, q113, q114, q115, q116, q117, q118, q119, q120, q121, q122, q123, q124, q125, q126, q127, q128, q129].toArray, []⟩ W := by
  obtain ⟨i0, hi0, hz0, hz1, hz2⟩ := info_parts infoSt
  have HI0 := Lib.hid hi0; have HZ0 := Lib.hid hz0; have HZ1 := Lib.hid hz1; have HZ2 := Lib.hid hz2
  have HLS := Lib.hid hls; have HONE := Lib.hid hone
  have hgf : gf < W.heap.size := World.block_lt_of_cell? _ _ hcell
  have hI0 : (0 : Int) ≤ (last : Int) := by omega
  have hI1 : (last : Int) < (nf : Int) := by omega
  have HC := Lib.hid hcell; have HFZ := Lib.hid hfz
  clear hi0 hz0 hz1 hz2 hls hone hcell hfz
  conv => arg 2; whnf
  dsimp only
  refine region_by (by kernel_rfl) (by kernel_rfl) (IW19 b8 b15 gf nf cf last va bv s0 s1 s2 s3 s4 ls W q0 q1 q2 q3 q4 q5 q6 q7 q9 q10 q11 q12 q13 q14 q17 q18 q19 q20 q21 q22 q23 q24 q25 q26 q27 q28 q29 q30 q31 q32 q33 q34 q35 q36 q37 q38 q39 q40 q41 q42 q43 q44 q45 q46 q47 q48 q49 q50 q51 q52 q53 q54 q55 q56 q57 q58 q59 q60 q61 q62 q63 q64 q65 q66 q67 q68 q69 q70 q71 q72 q73 q74 q75 q76 q77 q78 q79 q80 q81 q82 q83 q84 q85 q86 q87 q88 q89 q90 q91 q92 q93 q94 q95 q111 q112 q113 q114 q115 q116 q117 q118 q119 q120 q121 q122 q123 q124 q125 q126 q127 q128 q129) ?_ ?_ ?_
  · exact ⟨undef, 0, 0, 0, q96, q97, q98, q99, q100, q101, q102, q103, q104, q105, q106, q107, q108, q109, q110, ⟨(fun h => by cases h), (fun h => by cases h), (fun h => by cases h), (fun h => by cases h), (fun h => by cases h), (fun h => by cases h), (fun h => by cases h), (fun h => by cases h), (fun h => by cases h), (fun h => by cases h), (fun h => by cases h), (fun h => by cases h), (fun h => by cases h), (fun h => by cases h), (fun h => by cases h), (fun h => by cases h), (fun h => by cases h), (fun h => by cases h), (fun h => by cases h), (fun h => by cases h), (fun _ => (Below.refl _ _).drew), (fun h => fun _ => by cases h), (fun h => fun _ => by cases h), (fun h => by cases h), (fun h => by cases h)⟩, rfl⟩
  · intro L act wx k hI hk hl hd
    obtain ⟨va9, nb, gn, cn, z96, z97, z98, z99, z100, z101, z102, z103, z104, z105, z106, z107, z108, z109, z110, hV, rfl⟩ := hI
    have hk : k = 0 ∨ k = 1 ∨ k = 2 ∨ k = 3 ∨ k = 4 ∨ k = 5 ∨ k = 6 ∨ k = 7 ∨ k = 8 ∨ k = 9 ∨ k = 10 ∨ k = 11 ∨ k = 12 ∨ k = 13 ∨ k = 14 ∨ k = 15 := by
      have : k < 16 := hk
      omega
    rcases hk with rfl | rfl | rfl | rfl | rfl | rfl | rfl | rfl | rfl | rfl | rfl | rfl | rfl | rfl | rfl | rfl
    · have nl := kf hV.ord hl
      refine op_at _ rfl rfl (fun K' hK => ?_)
      conv => arg 2; whnf
      go_wp2_with fail
      exact ⟨va9, nb, gn, cn, .pointer (some ⟨b8, 1, none⟩), z97, z98, z99, z100, z101, z102, z103, z104, z105, z106, z107, z108, z109, z110, ⟨(kl nl), (kq hV.p12_9), (kq hV.p12_11), (kq hV.p14_13), (kq hV.p15_12), (fun _ => rfl), (kc hV.c1), (kc hV.c2), (kc hV.c3), (kc hV.c4), (kc hV.c5), (kc hV.c6), (kc hV.c7), (kc hV.c8), (kc hV.c9), (kc hV.c10), (kc hV.c11), (kc hV.c12), (kc hV.c13), (kc hV.c14), (fun h0 => hV.bel (kb h0)), (fun h0 => fun h1 => hV.r9 (kb h0) (kb h1)), (fun h0 => fun h1 => hV.r11 (kb h0) (kb h1)), (kc hV.r12), (kl nl)⟩, rfl⟩
    · have nl := kf hV.ord hl
      have d0 : L 0 = true := hd _ rfl ⟨0, .data⟩ (by simp) rfl
      obtain rfl := (hV.c0 d0).symm
      have ho8 := h8.old (hV.bel nl)
      have x80 := ho8.at 0 _ rfl
      have x81 := ho8.at 1 _ rfl
      refine op_at _ rfl rfl (fun K' hK => ?_)
      conv => arg 2; whnf
      go_wp2_with fail
      exact ⟨va9, nb, gn, cn, .pointer (some ⟨b8, 1, none⟩), .slice (some ⟨gf, 0, none⟩) nf cf, z98, z99, z100, z101, z102, z103, z104, z105, z106, z107, z108, z109, z110, ⟨(kl nl), (kq hV.p12_9), (kq hV.p12_11), (kq hV.p14_13), (kq hV.p15_12), (kc hV.c0), (fun _ => rfl), (kc hV.c2), (kc hV.c3), (kc hV.c4), (kc hV.c5), (kc hV.c6), (kc hV.c7), (kc hV.c8), (kc hV.c9), (kc hV.c10), (kc hV.c11), (kc hV.c12), (kc hV.c13), (kc hV.c14), (fun h0 => hV.bel (kb h0)), (fun h0 => fun h1 => hV.r9 (kb h0) (kb h1)), (fun h0 => fun h1 => hV.r11 (kb h0) (kb h1)), (kc hV.r12), (kl nl)⟩, rfl⟩
    · have nl := kf hV.ord hl
      refine op_at _ rfl rfl (fun K' hK => ?_)
      conv => arg 2; whnf
      go_wp2_with fail
      exact ⟨va9, nb, gn, cn, z96, z97, .int .i64 (last : Int), z99, z100, z101, z102, z103, z104, z105, z106, z107, z108, z109, z110, ⟨(kl nl), (kq hV.p12_9), (kq hV.p12_11), (kq hV.p14_13), (kq hV.p15_12), (kc hV.c0), (kc hV.c1), (fun _ => rfl), (kc hV.c3), (kc hV.c4), (kc hV.c5), (kc hV.c6), (kc hV.c7), (kc hV.c8), (kc hV.c9), (kc hV.c10), (kc hV.c11), (kc hV.c12), (kc hV.c13), (kc hV.c14), (fun h0 => hV.bel (kb h0)), (fun h0 => fun h1 => hV.r9 (kb h0) (kb h1)), (fun h0 => fun h1 => hV.r11 (kb h0) (kb h1)), (kc hV.r12), (kl nl)⟩, rfl⟩
    · have nl := kf hV.ord hl
      refine op_at _ rfl rfl (fun K' hK => ?_)
      conv => arg 2; whnf
      go_wp2_with fail
      exact ⟨va9, nb, gn, cn, z96, z97, z98, .pointer (some ⟨b8, 1, none⟩), z100, z101, z102, z103, z104, z105, z106, z107, z108, z109, z110, ⟨(kl nl), (kq hV.p12_9), (kq hV.p12_11), (kq hV.p14_13), (kq hV.p15_12), (kc hV.c0), (kc hV.c1), (kc hV.c2), (fun _ => rfl), (kc hV.c4), (kc hV.c5), (kc hV.c6), (kc hV.c7), (kc hV.c8), (kc hV.c9), (kc hV.c10), (kc hV.c11), (kc hV.c12), (kc hV.c13), (kc hV.c14), (fun h0 => hV.bel (kb h0)), (fun h0 => fun h1 => hV.r9 (kb h0) (kb h1)), (fun h0 => fun h1 => hV.r11 (kb h0) (kb h1)), (kc hV.r12), (kl nl)⟩, rfl⟩
    · have nl := kf hV.ord hl
      have d3 : L 3 = true := hd _ rfl ⟨3, .data⟩ (by simp) rfl
      obtain rfl := (hV.c3 d3).symm
      have ho8 := h8.old (hV.bel nl)
      have x80 := ho8.at 0 _ rfl
      have x81 := ho8.at 1 _ rfl
      refine op_at _ rfl rfl (fun K' hK => ?_)
      conv => arg 2; whnf
      go_wp2_with fail
      exact ⟨va9, nb, gn, cn, z96, z97, z98, .pointer (some ⟨b8, 1, none⟩), .slice (some ⟨gf, 0, none⟩) nf cf, z101, z102, z103, z104, z105, z106, z107, z108, z109, z110, ⟨(kl nl), (kq hV.p12_9), (kq hV.p12_11), (kq hV.p14_13), (kq hV.p15_12), (kc hV.c0), (kc hV.c1), (kc hV.c2), (kc hV.c3), (fun _ => rfl), (kc hV.c5), (kc hV.c6), (kc hV.c7), (kc hV.c8), (kc hV.c9), (kc hV.c10), (kc hV.c11), (kc hV.c12), (kc hV.c13), (kc hV.c14), (fun h0 => hV.bel (kb h0)), (fun h0 => fun h1 => hV.r9 (kb h0) (kb h1)), (fun h0 => fun h1 => hV.r11 (kb h0) (kb h1)), (kc hV.r12), (kl nl)⟩, rfl⟩
    · have nl := kf hV.ord hl
      refine op_at _ rfl rfl (fun K' hK => ?_)
      conv => arg 2; whnf
      go_wp2_with fail
      exact ⟨va9, nb, gn, cn, z96, z97, z98, z99, z100, .int .i64 (last : Int), z102, z103, z104, z105, z106, z107, z108, z109, z110, ⟨(kl nl), (kq hV.p12_9), (kq hV.p12_11), (kq hV.p14_13), (kq hV.p15_12), (kc hV.c0), (kc hV.c1), (kc hV.c2), (kc hV.c3), (kc hV.c4), (fun _ => rfl), (kc hV.c6), (kc hV.c7), (kc hV.c8), (kc hV.c9), (kc hV.c10), (kc hV.c11), (kc hV.c12), (kc hV.c13), (kc hV.c14), (fun h0 => hV.bel (kb h0)), (fun h0 => fun h1 => hV.r9 (kb h0) (kb h1)), (fun h0 => fun h1 => hV.r11 (kb h0) (kb h1)), (kc hV.r12), (kl nl)⟩, rfl⟩
    · have nl := kf hV.ord hl
      have d4 : L 4 = true := hd _ rfl ⟨4, .data⟩ (by simp) rfl
      obtain rfl := (hV.c4 d4).symm
      have d5 : L 5 = true := hd _ rfl ⟨5, .data⟩ (by simp) rfl
      obtain rfl := (hV.c5 d5).symm
      refine op_at _ rfl rfl (fun K' hK => ?_)
      conv => arg 2; whnf
      go_wp2_with fail
      exact ⟨va9, nb, gn, cn, z96, z97, z98, z99, .slice (some ⟨gf, 0, none⟩) nf cf, .int .i64 (last : Int), .pointer (some ⟨gf, last * 4, none⟩), z103, z104, z105, z106, z107, z108, z109, z110, ⟨(kl nl), (kq hV.p12_9), (kq hV.p12_11), (kq hV.p14_13), (kq hV.p15_12), (kc hV.c0), (kc hV.c1), (kc hV.c2), (kc hV.c3), (kc hV.c4), (kc hV.c5), (fun _ => rfl), (kc hV.c7), (kc hV.c8), (kc hV.c9), (kc hV.c10), (kc hV.c11), (kc hV.c12), (kc hV.c13), (kc hV.c14), (fun h0 => hV.bel (kb h0)), (fun h0 => fun h1 => hV.r9 (kb h0) (kb h1)), (fun h0 => fun h1 => hV.r11 (kb h0) (kb h1)), (kc hV.r12), (kl nl)⟩, rfl⟩
    · have nl := kf hV.ord hl
      have d6 : L 6 = true := hd _ rfl ⟨6, .data⟩ (by simp) rfl
      obtain rfl := (hV.c6 d6).symm
      refine op_at _ rfl rfl (fun K' hK => ?_)
      conv => arg 2; whnf
      go_wp2_with fail
      exact ⟨va9, nb, gn, cn, z96, z97, z98, z99, z100, z101, .pointer (some ⟨gf, last * 4, none⟩), .pointer (some ⟨gf, last * 4 + 3, none⟩), z104, z105, z106, z107, z108, z109, z110, ⟨(kl nl), (kq hV.p12_9), (kq hV.p12_11), (kq hV.p14_13), (kq hV.p15_12), (kc hV.c0), (kc hV.c1), (kc hV.c2), (kc hV.c3), (kc hV.c4), (kc hV.c5), (kc hV.c6), (fun _ => rfl), (kc hV.c8), (kc hV.c9), (kc hV.c10), (kc hV.c11), (kc hV.c12), (kc hV.c13), (kc hV.c14), (fun h0 => hV.bel (kb h0)), (fun h0 => fun h1 => hV.r9 (kb h0) (kb h1)), (fun h0 => fun h1 => hV.r11 (kb h0) (kb h1)), (kc hV.r12), (kl nl)⟩, rfl⟩
    · have nl := kf hV.ord hl
      have d7 : L 7 = true := hd _ rfl ⟨7, .data⟩ (by simp) rfl
      obtain rfl := (hV.c7 d7).symm
      have hcx := below_keeps (hV.bel nl) HC.out
      refine op_at _ rfl rfl (fun K' hK => ?_)
      conv => arg 2; whnf
      go_wp2_with fail
      exact ⟨va9, nb, gn, cn, z96, z97, z98, z99, z100, z101, z102, .pointer (some ⟨gf, last * 4 + 3, none⟩), bv, z105, z106, z107, z108, z109, z110, ⟨(kl nl), (kq hV.p12_9), (kq hV.p12_11), (kq hV.p14_13), (kq hV.p15_12), (kc hV.c0), (kc hV.c1), (kc hV.c2), (kc hV.c3), (kc hV.c4), (kc hV.c5), (kc hV.c6), (kc hV.c7), (fun _ => rfl), (kc hV.c9), (kc hV.c10), (kc hV.c11), (kc hV.c12), (kc hV.c13), (kc hV.c14), (fun h0 => hV.bel (kb h0)), (fun h0 => fun h1 => hV.r9 (kb h0) (kb h1)), (fun h0 => fun h1 => hV.r11 (kb h0) (kb h1)), (kc hV.r12), (kl nl)⟩, rfl⟩
    · have nl := kf hV.ord hl
      have d8 : L 8 = true := hd _ rfl ⟨8, .data⟩ (by simp) rfl
      obtain rfl := (hV.c8 d8).symm
      have hlx := HLS.out.keep (BKeeps.below (hV.bel nl)) (hV.bel nl).size
      refine op_at _ rfl rfl (fun K' hK => ?_)
      conv => arg 2; whnf
      refine wp_append_sts _ _ rfl W.heap.size rfl ls bv rfl hlx (by omega) (hV.bel nl).size ?_
      intro v9 w2 hr2 hg2 hat
      have hbel : Below W.heap.size W w2 := (hV.bel nl).grown hg2 (hV.bel nl).size (fun k e => by cases e)
      go_wp2_with fail
      exact ⟨v9, nb, gn, cn, z96, z97, z98, z99, z100, z101, z102, z103, bv, (v9), z106, z107, z108, z109, z110, ⟨(kl nl), (fun _ => upd_same L 9), (kq hV.p12_11), (kq hV.p14_13), (kq hV.p15_12), (kc hV.c0), (kc hV.c1), (kc hV.c2), (kc hV.c3), (kc hV.c4), (kc hV.c5), (kc hV.c6), (kc hV.c7), (kc hV.c8), (fun _ => rfl), (kc hV.c10), (kc hV.c11), (kc hV.c12), (kc hV.c13), (kc hV.c14), (fun _ => hbel), (fun _ _ => hr2), (fun h0 h1 => (hV.r11 (by rwa [upd_ne L (show 11 ≠ 9 by decide)] at h0) (by rwa [upd_ne L (show 12 ≠ 9 by decide)] at h1)).grown hg2 (fun k e => by cases e)), (kn hV.p12_9 hl), (kl nl)⟩, rfl⟩
    · have nl := kf hV.ord hl
      have ho15 := h15.old (hV.bel nl)
      have y0 := ho15.at 0 _ rfl
      have y1 := ho15.at 1 _ rfl
      have y2 := ho15.at 2 _ rfl
      have y3 := ho15.at 3 _ rfl
      have y4 := ho15.at 4 _ rfl
      refine op_at _ rfl rfl (fun K' hK => ?_)
      conv => arg 2; whnf
      go_wp2_with fail
      exact ⟨va9, nb, gn, cn, z96, z97, z98, z99, z100, z101, z102, z103, z104, z105, .agg #[s0, s1, s2, s3, s4], z107, z108, z109, z110, ⟨(kl nl), (kq hV.p12_9), (kq hV.p12_11), (kq hV.p14_13), (kq hV.p15_12), (kc hV.c0), (kc hV.c1), (kc hV.c2), (kc hV.c3), (kc hV.c4), (kc hV.c5), (kc hV.c6), (kc hV.c7), (kc hV.c8), (kc hV.c9), (fun _ => rfl), (kc hV.c11), (kc hV.c12), (kc hV.c13), (kc hV.c14), (fun h0 => hV.bel (kb h0)), (fun h0 => fun h1 => hV.r9 (kb h0) (kb h1)), (fun h0 => fun h1 => hV.r11 (kb h0) (kb h1)), (kc hV.r12), (kl nl)⟩, rfl⟩
    · have nl := kf hV.ord hl
      have d10 : L 10 = true := hd _ rfl ⟨10, .data⟩ (by simp) rfl
      obtain rfl := (hV.c10 d10).symm
      have hal : Below wx.heap.size wx (wx.alloc (.cells #[s0, s1, s2, s3, s4] 49)) := (Below.refl _ _).alloc (Nat.le_refl _) _
      refine op_at _ rfl rfl (fun K' hK => ?_)
      conv => arg 2; whnf
      go_wp2_with fail
      exact ⟨va9, wx.heap.size, gn, cn, z96, z97, z98, z99, z100, z101, z102, z103, z104, z105, .agg #[s0, s1, s2, s3, s4], .slice (some ⟨(wx.heap.size), 0, none⟩) 1 1, z108, z109, z110, ⟨(kl nl), (kq hV.p12_9), (fun _ => upd_same L 11), (kq hV.p14_13), (kq hV.p15_12), (kc hV.c0), (kc hV.c1), (kc hV.c2), (kc hV.c3), (kc hV.c4), (kc hV.c5), (kc hV.c6), (kc hV.c7), (kc hV.c8), (kc hV.c9), (kc hV.c10), (fun _ => rfl), (kc hV.c12), (kc hV.c13), (kc hV.c14), (fun h0 => Below.trans (hV.bel (kb h0)) (hal.mono (Below.size (hV.bel (kb h0))))), (fun h0 => fun h1 => row_keep (hV.r9 (kb h0) (kb h1)) (D := fun _ => True) (fun _ _ => trivial) (BKeeps.below hal)), (fun _ _ => RowAt.new wx [s0, s1, s2, s3, s4] 49), (kn hV.p12_11 hl), (kl nl)⟩, rfl⟩
    · have nl := kf hV.ord hl
      have d9 : L 9 = true := hd _ rfl ⟨9, .data⟩ (by simp) rfl
      obtain rfl := (hV.c9 d9).symm
      have d11 : L 11 = true := hd _ rfl ⟨11, .data⟩ (by simp) rfl
      obtain rfl := (hV.c11 d11).symm
      have hr9 := hV.r9 d9 hl
      have hr11 := hV.r11 d11 hl
      have hbe := hV.bel nl
      refine op_at _ rfl rfl (fun K' hK => ?_)
      conv => arg 2; whnf
      refine wp_append_lies (P := Tryz.prog) wx _ _ 47 rfl W.heap.size 49 i0 _ 5 96 Tryz.underlying47 HI0.out HZ0.out HZ1.out HZ2.out rfl (by decide) va9 ls.length (stFlat ls) rfl hr9 ⟨nb, 0, none⟩ 1 _ [s0, s1, s2, s3, s4] rfl rfl (news_at hr11) HONE.out (by decide) (by unfold maxLen; omega) (by omega) hbe.size _ rfl ?_
      intro g2 cap2 w2 hr2 hg2 ha2 hl2
      have hbel : Below W.heap.size W w2 := hbe.grown hg2 hbe.size (fun k e => (World.ownsRow.lt hr9 k e).1)
      go_wp2_with fail
      exact ⟨va9, nb, g2, cap2, z96, z97, z98, z99, z100, z101, z102, z103, z104, va9, z106, .slice (some ⟨nb, 0, none⟩) 1 1, .slice (some ⟨(g2), 0, none⟩) (ls.length + 1) (cap2), z109, z110, ⟨(kl nl), (kd (d9)), (kd (d11)), (kq hV.p14_13), (fun _ => upd_same L 12), (kc hV.c0), (kc hV.c1), (kc hV.c2), (kc hV.c3), (kc hV.c4), (kc hV.c5), (kc hV.c6), (kc hV.c7), (kc hV.c8), (kc hV.c9), (kc hV.c10), (kc hV.c11), (fun _ => rfl), (kc hV.c13), (kc hV.c14), (fun _ => hbel), (fun _ => ks), (fun _ => ks), (fun _ => hr2), (kl nl)⟩, rfl⟩
    · have nl := kf hV.ord hl
      have d1 : L 1 = true := hd _ rfl ⟨1, .data⟩ (by simp) rfl
      obtain rfl := (hV.c1 d1).symm
      have d2 : L 2 = true := hd _ rfl ⟨2, .data⟩ (by simp) rfl
      obtain rfl := (hV.c2 d2).symm
      refine op_at _ rfl rfl (fun K' hK => ?_)
      conv => arg 2; whnf
      go_wp2_with fail
      exact ⟨va9, nb, gn, cn, z96, .slice (some ⟨gf, 0, none⟩) nf cf, .int .i64 (last : Int), z99, z100, z101, z102, z103, z104, z105, z106, z107, z108, .pointer (some ⟨gf, last * 4, none⟩), z110, ⟨(kl nl), (kq hV.p12_9), (kq hV.p12_11), (fun _ => upd_same L 13), (kq hV.p15_12), (kc hV.c0), (kc hV.c1), (kc hV.c2), (kc hV.c3), (kc hV.c4), (kc hV.c5), (kc hV.c6), (kc hV.c7), (kc hV.c8), (kc hV.c9), (kc hV.c10), (kc hV.c11), (kc hV.c12), (fun _ => rfl), (kc hV.c14), (fun h0 => hV.bel (kb h0)), (fun h0 => fun h1 => hV.r9 (kb h0) (kb h1)), (fun h0 => fun h1 => hV.r11 (kb h0) (kb h1)), (kc hV.r12), (kl nl)⟩, rfl⟩
    · have nl := kf hV.ord hl
      have d13 : L 13 = true := hd _ rfl ⟨13, .data⟩ (by simp) rfl
      obtain rfl := (hV.c13 d13).symm
      refine op_at _ rfl rfl (fun K' hK => ?_)
      conv => arg 2; whnf
      go_wp2_with fail
      exact ⟨va9, nb, gn, cn, z96, z97, z98, z99, z100, z101, z102, z103, z104, z105, z106, z107, z108, .pointer (some ⟨gf, last * 4, none⟩), .pointer (some ⟨gf, last * 4 + 3, none⟩), ⟨(kl nl), (kq hV.p12_9), (kq hV.p12_11), (kd (d13)), (kq hV.p15_12), (kc hV.c0), (kc hV.c1), (kc hV.c2), (kc hV.c3), (kc hV.c4), (kc hV.c5), (kc hV.c6), (kc hV.c7), (kc hV.c8), (kc hV.c9), (kc hV.c10), (kc hV.c11), (kc hV.c12), (kc hV.c13), (fun _ => rfl), (fun h0 => hV.bel (kb h0)), (fun h0 => fun h1 => hV.r9 (kb h0) (kb h1)), (fun h0 => fun h1 => hV.r11 (kb h0) (kb h1)), (kc hV.r12), (kl nl)⟩, rfl⟩
    · have before : ∀ j, j < 15 → L j = true := fun j hj => by
        have hj : j = 0 ∨ j = 1 ∨ j = 2 ∨ j = 3 ∨ j = 4 ∨ j = 5 ∨ j = 6 ∨ j = 7 ∨ j = 8 ∨ j = 9 ∨ j = 10 ∨ j = 11 ∨ j = 12 ∨ j = 13 ∨ j = 14 := by omega
        rcases hj with rfl | rfl | rfl | rfl | rfl | rfl | rfl | rfl | rfl | rfl | rfl | rfl | rfl | rfl | rfl
        · exact hd _ rfl ⟨0, .phase⟩ (by simp) rfl
        · exact hd _ rfl ⟨1, .phase⟩ (by simp) rfl
        · exact hd _ rfl ⟨2, .phase⟩ (by simp) rfl
        · exact hd _ rfl ⟨3, .phase⟩ (by simp) rfl
        · exact hd _ rfl ⟨4, .phase⟩ (by simp) rfl
        · exact hd _ rfl ⟨5, .phase⟩ (by simp) rfl
        · exact hd _ rfl ⟨6, .phase⟩ (by simp) rfl
        · exact hd _ rfl ⟨7, .phase⟩ (by simp) rfl
        · exact hd _ rfl ⟨8, .phase⟩ (by simp) rfl
        · exact hd _ rfl ⟨9, .phase⟩ (by simp) rfl
        · exact hd _ rfl ⟨10, .phase⟩ (by simp) rfl
        · exact hd _ rfl ⟨11, .phase⟩ (by simp) rfl
        · exact hd _ rfl ⟨12, .data⟩ (by simp) rfl
        · exact hV.p14_13 (hd _ rfl ⟨14, .data⟩ (by simp) rfl)
        · exact hd _ rfl ⟨14, .data⟩ (by simp) rfl
      have d12 : L 12 = true := hd _ rfl ⟨12, .data⟩ (by simp) rfl
      obtain rfl := (hV.c12 d12).symm
      have d14 : L 14 = true := hd _ rfl ⟨14, .data⟩ (by simp) rfl
      obtain rfl := (hV.c14 d14).symm
      have hbe := hV.bel hl
      have hcx := below_keeps hbe HC.out
      have hfx := hbe.frozen (p := ⟨gf, last * 4 + 3, none⟩) hgf
      rw [HFZ.out] at hfx
      have hgx : gf < wx.heap.size := Nat.lt_of_lt_of_le hgf hbe.size
      refine op_at _ rfl rfl (fun K' hK => ?_)
      conv => arg 2; whnf
      go_wp2_with fail
      exact ⟨va9, nb, gn, cn, z96, z97, z98, z99, z100, z101, z102, z103, z104, z105, z106, z107, .slice (some ⟨gn, 0, none⟩) (ls.length + 1) cn, z109, .pointer (some ⟨gf, last * 4 + 3, none⟩), ⟨(fun _ j hj => by rw [upd_ne L (show j ≠ 15 by omega)]; exact before j hj), (kq hV.p12_9), (kq hV.p12_11), (kq hV.p14_13), (kd (before 12 (by decide))), (kc hV.c0), (kc hV.c1), (kc hV.c2), (kc hV.c3), (kc hV.c4), (kc hV.c5), (kc hV.c6), (kc hV.c7), (kc hV.c8), (kc hV.c9), (kc hV.c10), (kc hV.c11), (kc hV.c12), (kc hV.c13), (kc hV.c14), (ks), (fun _ h => by rw [upd_ne L (show 12 ≠ 15 by decide), before 12 (by decide)] at h; cases h), (fun _ h => by rw [upd_ne L (show 12 ≠ 15 by decide), before 12 (by decide)] at h; cases h), (fun _ => row_keep (hV.r12 (before 12 (by decide))) (D := (W.heap.size ≤ ·)) (fun k e => (World.ownsRow.lt (hV.r12 (before 12 (by decide))) k e).1) (BKeeps.set wx (by omega) (last * 4 + 3) _)), (fun _ => ⟨wx, hbe, rfl⟩)⟩, rfl⟩
  · intro L act wx hI hall
    obtain ⟨va9, nb, gn, cn, z96, z97, z98, z99, z100, z101, z102, z103, z104, z105, z106, z107, z108, z109, z110, hV, rfl⟩ := hI
    obtain rfl := (hV.c0 (hall 0 (by decide))).symm
    obtain rfl := (hV.c1 (hall 1 (by decide))).symm
    obtain rfl := (hV.c2 (hall 2 (by decide))).symm
    obtain rfl := (hV.c3 (hall 3 (by decide))).symm
    obtain rfl := (hV.c4 (hall 4 (by decide))).symm
    obtain rfl := (hV.c5 (hall 5 (by decide))).symm
    obtain rfl := (hV.c6 (hall 6 (by decide))).symm
    obtain rfl := (hV.c7 (hall 7 (by decide))).symm
    obtain rfl := (hV.c8 (hall 8 (by decide))).symm
    obtain rfl := (hV.c9 (hall 9 (by decide))).symm
    obtain rfl := (hV.c10 (hall 10 (by decide))).symm
    obtain rfl := (hV.c11 (hall 11 (by decide))).symm
    obtain rfl := (hV.c12 (hall 12 (by decide))).symm
    obtain rfl := (hV.c13 (hall 13 (by decide))).symm
    obtain rfl := (hV.c14 (hall 14 (by decide))).symm
    exact hM _ _ (Met.intro (hJ _ _ ⟨va9, nb, gn, cn, ⟨hV.fin (hall 15 (by decide)), hV.r12 (hall 12 (by decide))⟩, rfl⟩))
end Go.Proofs.YtgmaeflfiooigaaGreatDoor

namespace Go.Proofs.YtgmaeflfiooigaaGreatDoor

def exRead : Ex := .mk 7 0 0 [] []
def reads (n : Nat) : List Ex := List.replicate n exRead
/-- An expression so deep. -/
def nest : Nat → Ex
  | 0 => exRead
  | k + 1 => .mk 3 17 0 [] [nest k]
def bads (b : Nat) : List Ex := [.mk 0 0 0 [] [], .mk 1 0 (-(b : Int)) [] [], .mk 2 0 0 [] [], .mk 2 0 0 [105, 110, 116] [], .mk 3 1 0 [] ((reads b).take 1), .mk 4 17 0 [] ((reads b).take 2), .mk 5 0 0 [102] (reads b), .mk 6 0 0 [97] [], .mk 7 0 b [] [], nest (34 + b), .mk (b + 1) 0 0 [] []]
def badSts (b : Nat) : List St := [.mk 0 [] [] [] [], .mk 5 [120] [] [] [], .mk 1 [] ((reads b).take 1) [] [], .mk 10 [] ((reads b).take 1) [] []]
theorem nest_deep : ∀ m k, m ≤ k → deepOk m (nest k) = false
  | 0, _, _ => rfl
  | m + 1, 0, h => by omega
  | m + 1, k + 1, h => by
    show [nest k].all (deepOk m) = false
    simp [nest_deep m k (by omega)]
theorem well_not {e : Ex} (h : wellHere e = false) : rightEx e = false := by
  unfold rightEx; rw [wellOk_eq, h]; simp
theorem reads_len (b : Nat) : (reads b).length = b := List.length_replicate
theorem bads_wrong (b : Nat) (hb : 7 ≤ b) : ∀ e, e ∈ bads b → rightEx e = false := by
  intro e he
  simp only [bads, List.mem_cons, List.not_mem_nil, or_false] at he
  rcases he with rfl | rfl | rfl | rfl | rfl | rfl | rfl | rfl | rfl | rfl | rfl
  · exact well_not (by simp [wellHere, onlyOk, Ex.kind])
  · exact well_not (by simp [wellHere, onlyOk, Ex.kind, Ex.n]; omega)
  · exact well_not (by simp [wellHere, onlyOk, Ex.kind, Ex.name, isName])
  · exact well_not (by simp [wellHere, onlyOk, Ex.kind, Ex.name, isName, isWord, wordList])
  · exact well_not (by simp [wellHere, onlyOk, Ex.kind, Ex.op])
  · exact well_not (by simp [wellHere, onlyOk, Ex.kind, Ex.op, levelOf])
  · exact well_not (by
      have : ¬ ((b : Int) ≤ 6) := by omega
      simp [wellHere, onlyOk, Ex.kind, Ex.args, reads_len, this])
  · exact well_not (by simp [wellHere, onlyOk, onlyArgs, Ex.kind, Ex.args])
  · exact well_not (by
      have : ¬ ((0 : Int) = (b : Int)) := by omega
      simp [wellHere, onlyOk, onlyN, Ex.kind, Ex.n, this])
  · unfold rightEx; rw [nest_deep 40 (34 + b) (by omega)]; rfl
  · exact well_not (by
      have h1 : ¬ ((b : Int) + 1 = 1) := by omega
      have h2 : ¬ ((b : Int) + 1 = 2) := by omega
      have h3 : ¬ ((b : Int) + 1 = 3) := by omega
      have h4 : ¬ ((b : Int) + 1 = 4) := by omega
      have h5 : ¬ ((b : Int) + 1 = 5) := by omega
      have h6 : ¬ ((b : Int) + 1 = 6) := by omega
      have h7 : ¬ ((b : Int) + 1 = 7) := by omega
      simp [wellHere, onlyOk, Ex.kind, h1, h2, h3, h4, h5, h6, h7])
/-- A statement that prints what is wrong. -/
def printBad (e : Ex) : St := .mk 8 [] [e] [] []
theorem printBad_wrong {e : Ex} (h : rightEx e = false) : stOk 40 (printBad e) = false := by
  unfold stOk printBad
  simp [St.args, h]
theorem badSts_wrong (b : Nat) (hb : 7 ≤ b) : ∀ x, x ∈ badSts b → stOk 40 x = false := by
  intro x hx
  have ht : (reads b).take 1 = [exRead] := by
    obtain ⟨c, rfl⟩ : ∃ c, b = c + 1 := ⟨b - 1, by omega⟩
    unfold reads; rw [List.replicate_succ]; rfl
  simp only [badSts, List.mem_cons, List.not_mem_nil, or_false] at hx
  rcases hx with rfl | rfl | rfl | rfl
  · simp [stOk, stBad1, St.kind, fOk]
  · simp [stOk, stBad2, St.kind, St.name, fNamed, isName, isWord, wordList, isNameAt, isLetter]
  · simp [stOk, stBad2, St.kind, St.name, fNamed, isName]
  · rw [ht]; simp [stOk, stBad2, St.kind, St.name, St.args, fNamed, isName, exRead, Ex.kind]
/-- A program whose last function has such a statement at its end. -/
def lastWith (l : List Fu) (x : St) : List Fu := l.set (l.length - 1) (⟨(l.getD (l.length - 1) ⟨[], [], [], []⟩).name, (l.getD (l.length - 1) ⟨[], [], [], []⟩).params, (l.getD (l.length - 1) ⟨[], [], [], []⟩).locals, (l.getD (l.length - 1) ⟨[], [], [], []⟩).body ++ [x]⟩)
theorem lastWith_wrong (a : List Ar) (l : List Fu) (x : St) (hl : 0 < l.length) (hx : stOk 40 x = false) : rightPr ⟨a, lastWith l x⟩ = false := by
  have h : (lastWith l x).all rightFu = false := by
    rw [List.all_eq_false]
    refine ⟨_, List.mem_of_getElem? (i := l.length - 1) (by unfold lastWith; rw [List.getElem?_set_self (by omega)]), ?_⟩
    unfold rightFu
    simp [List.all_append, hx]
  unfold rightPr
  simp only [h, Bool.and_false]
end Go.Proofs.YtgmaeflfiooigaaGreatDoor

namespace Go.Proofs.YtgmaeflfiooigaaGreatDoor
open Go.RowKit
set_option maxHeartbeats 8000000
set_option maxRecDepth 100000

def badCells (b ga ca : Nat) (e0 e1 e2 e3 e4 : Value) : List Value := [.int .i64 0, .int .i64 0, .int .i64 0, .string ⟨#[]⟩, .slice none 0 0, .int .i64 1, .int .i64 0, .int .i64 (-(b : Int)), .string ⟨#[]⟩, .slice none 0 0, .int .i64 2, .int .i64 0, .int .i64 0, .string ⟨#[]⟩, .slice none 0 0, .int .i64 2, .int .i64 0, .int .i64 0, .string ⟨#[105, 110, 116]⟩, .slice none 0 0, .int .i64 3, .int .i64 1, .int .i64 0, .string ⟨#[]⟩, .slice (some ⟨ga, 0, none⟩) 1 ca, .int .i64 4, .int .i64 17, .int .i64 0, .string ⟨#[]⟩, .slice (some ⟨ga, 0, none⟩) 2 ca, .int .i64 5, .int .i64 0, .int .i64 0, .string ⟨#[102]⟩, .slice (some ⟨ga, 0, none⟩) b ca, .int .i64 6, .int .i64 0, .int .i64 0, .string ⟨#[97]⟩, .slice none 0 0, .int .i64 7, .int .i64 0, .int .i64 (b : Int), .string ⟨#[]⟩, .slice none 0 0, e0, e1, e2, e3, e4, .int .i64 ((b : Int) + 1), .int .i64 0, .int .i64 0, .string ⟨#[]⟩, .slice none 0 0]
/-- They, and the slices of their parts. -/
def badV (b ga ca : Nat) (dv : Value) : List (Ex × Value) := [(.mk 0 0 0 [] [], .slice none 0 0), (.mk 1 0 (-(b : Int)) [] [], .slice none 0 0), (.mk 2 0 0 [] [], .slice none 0 0), (.mk 2 0 0 [105, 110, 116] [], .slice none 0 0), (.mk 3 1 0 [] ((reads b).take 1), .slice (some ⟨ga, 0, none⟩) 1 ca), (.mk 4 17 0 [] ((reads b).take 2), .slice (some ⟨ga, 0, none⟩) 2 ca), (.mk 5 0 0 [102] (reads b), .slice (some ⟨ga, 0, none⟩) b ca), (.mk 6 0 0 [97] [], .slice none 0 0), (.mk 7 0 b [] [], .slice none 0 0), (nest (34 + b), dv), (.mk (b + 1) 0 0 [] [], .slice none 0 0)]
theorem badV_map (b ga ca : Nat) (dv : Value) : (badV b ga ca dv).map (·.1) = bads b := rfl
theorem badV_flat (b ga ca : Nat) (dv : Value) : exFlat (badV b ga ca dv) = badCells b ga ca (.int .i64 (nest (34 + b)).kind) (.int .i64 (nest (34 + b)).op) (.int .i64 (nest (34 + b)).n) (.string (strOf (nest (34 + b)).name)) dv := by
  simp only [exFlat, badV, List.flatMap_cons, List.flatMap_nil, exCells, Ex.kind, Ex.op, Ex.n, Ex.name, List.cons_append, List.nil_append, badCells]
end Go.Proofs.YtgmaeflfiooigaaGreatDoor

namespace Go.Proofs.YtgmaeflfiooigaaGreatDoor
open Go.RowKit
set_option maxHeartbeats 8000000
set_option maxRecDepth 100000

def stBadCells (ga ca : Nat) : List Value := [.int .i64 0, .string ⟨#[]⟩, .slice none 0 0, .slice none 0 0, .slice none 0 0, .int .i64 5, .string ⟨#[120]⟩, .slice none 0 0, .slice none 0 0, .slice none 0 0, .int .i64 1, .string ⟨#[]⟩, .slice (some ⟨ga, 0, none⟩) 1 ca, .slice none 0 0, .slice none 0 0, .int .i64 10, .string ⟨#[]⟩, .slice (some ⟨ga, 0, none⟩) 1 ca, .slice none 0 0, .slice none 0 0]
def badStV (b ga ca : Nat) : List StV := [⟨.mk 0 [] [] [] [], .slice none 0 0, .slice none 0 0, .slice none 0 0⟩, ⟨.mk 5 [120] [] [] [], .slice none 0 0, .slice none 0 0, .slice none 0 0⟩, ⟨.mk 1 [] ((reads b).take 1) [] [], .slice (some ⟨ga, 0, none⟩) 1 ca, .slice none 0 0, .slice none 0 0⟩, ⟨.mk 10 [] ((reads b).take 1) [] [], .slice (some ⟨ga, 0, none⟩) 1 ca, .slice none 0 0, .slice none 0 0⟩]
theorem badStV_map (b ga ca : Nat) : (badStV b ga ca).map (·.x) = badSts b := rfl
theorem badStV_flat (b ga ca : Nat) : stFlat (badStV b ga ca) = stBadCells ga ca := rfl
structure VW17 (b ga ca b15 j : Nat) (which : Int) (xk : Int) (xs : ByteArray) (xa : Option Addr) (xn xc : Nat) (W : World) (L : Nat → Bool) (nb : Nat) (z78 z79 z80 z81 z82 z83 z84 z85 z86 z87 z88 z89 z90 z91 : Value) (wx : World) : Prop where
  ord : L 14 = true → ∀ j, j < 14 → L j = true
  p12_8 : L 12 = true → L 8 = true
  c0 : L 0 = true → z78 = .agg #[.int .i64 0, .string ⟨#[]⟩, .slice none 0 0, .slice none 0 0, .slice none 0 0]
  c1 : L 1 = true → z79 = .agg #[.int .i64 5, .string ⟨#[120]⟩, .slice none 0 0, .slice none 0 0, .slice none 0 0]
  c2 : L 2 = true → z80 = .slice (some ⟨ga, 0, none⟩) b ca
  c3 : L 3 = true → z81 = .slice (some ⟨ga, 0, none⟩) 1 ca
  c4 : L 4 = true → z82 = .agg #[.int .i64 1, .string ⟨#[]⟩, .slice (some ⟨ga, 0, none⟩) 1 ca, .slice none 0 0, .slice none 0 0]
  c5 : L 5 = true → z83 = .slice (some ⟨ga, 0, none⟩) b ca
  c6 : L 6 = true → z84 = .slice (some ⟨ga, 0, none⟩) 1 ca
  c7 : L 7 = true → z85 = .agg #[.int .i64 10, .string ⟨#[]⟩, .slice (some ⟨ga, 0, none⟩) 1 ca, .slice none 0 0, .slice none 0 0]
  c8 : L 8 = true → z86 = .slice (some ⟨nb, 0, none⟩) 4 4
  c9 : L 9 = true → z87 = .int .i64 which
  c10 : L 10 = true → z88 = .int .i64 ((j : Int) + 13)
  c11 : L 11 = true → z89 = .int .i64 (j : Int)
  c12 : L 12 = true → z90 = .pointer (some ⟨nb, j * 5, none⟩)
  c13 : L 13 = true → z91 = .agg #[.int .i64 xk, .string xs, .slice xa xn xc, .slice none 0 0, .slice none 0 0]
  bel : L 14 = false → Below W.heap.size W wx
  r8 : L 8 = true → L 14 = false → RowAt wx nb 0 (stBadCells ga ca)
  fin : L 14 = true → ∃ w1, Below W.heap.size W w1 ∧ wx = (((((w1).setCell ⟨b15, 0, none⟩ (.int .i64 xk)).setCell ⟨b15, 1, none⟩ (.string xs)).setCell ⟨b15, 2, none⟩ (.slice xa xn xc)).setCell ⟨b15, 3, none⟩ (.slice none 0 0)).setCell ⟨b15, 4, none⟩ (.slice none 0 0)
def IW17 (b ga ca b15 j : Nat) (which : Int) (xk : Int) (xs : ByteArray) (xa : Option Addr) (xn xc : Nat) (W : World) (q0 q2 q3 q4 q5 q6 q7 q8 q9 q11 q12 q13 q14 q16 q17 q18 q19 q20 q21 q22 q23 q24 q25 q26 q27 q28 q29 q30 q31 q32 q33 q34 q35 q36 q37 q38 q39 q40 q41 q42 q43 q44 q45 q46 q47 q48 q49 q50 q51 q52 q53 q54 q55 q56 q57 q58 q59 q60 q61 q62 q63 q64 q65 q66 q67 q68 q69 q70 q71 q72 q73 q74 q75 q76 q77 q92 q93 q94 q95 q96 q97 q98 q99 q100 q101 q102 q103 q104 q105 q106 q107 q108 q109 q110 q111 q112 q113 q114 q115 q116 q117 q118 q119 q120 q121 q122 q123 q124 q125 q126 q127 q128 q129 : Value) (L : Nat → Bool) (a' : Act) (w' : World) : Prop :=
  ∃ nb : Nat, ∃ z78 z79 z80 z81 z82 z83 z84 z85 z86 z87 z88 z89 z90 z91 : Value, VW17 b ga ca b15 j which xk xs xa xn xc W L nb z78 z79 z80 z81 z82 z83 z84 z85 z86 z87 z88 z89 z90 z91 w' ∧ a' = ⟨[q0, .int .i64 which, q2, q3, q4, q5, q6, q7, q8, q9, .slice (some ⟨ga, 0, none⟩) b ca, q11, q12, q13, q14, .pointer (some ⟨b15, 0, none⟩), q16, q17, q18, q19, q20, q21, q22, q23, q24, q25, q26, q27, q28, q29, q30, q31, q32, q33, q34, q35, q36, q37, q38, q39, q40, q41, q42, q43, q44, q45, q46, q47, q48, q49, q50, q51, q52, q53, q54, q55, q56, q57, q58, q59, q60, q61, q62, q63, q64, q65, q66, q67, q68, q69, q70, q71, q72, q73, q74, q75, q76, q77, z78, z79, z80, z81, z82, z83, z84, z85, z86, z87, z88, z89, z90, z91, q92, q93, q94, q95, q96, q97, q98, q99, q100, q101, q102, q103, q104, q105, q106, q107, q108, q109, q110, q111, q112, q113, q114, q115, q116, q117, q118, q119, q120, q121, q122, q123, q124, q125, q126, q127, q128, q129].toArray, []⟩
def RW17 (b ga ca b15 j : Nat) (which : Int) (xk : Int) (xs : ByteArray) (xa : Option Addr) (xn xc : Nat) (W : World) (q0 q2 q3 q4 q5 q6 q7 q8 q9 q11 q12 q13 q14 q16 q17 q18 q19 q20 q21 q22 q23 q24 q25 q26 q27 q28 q29 q30 q31 q32 q33 q34 q35 q36 q37 q38 q39 q40 q41 q42 q43 q44 q45 q46 q47 q48 q49 q50 q51 q52 q53 q54 q55 q56 q57 q58 q59 q60 q61 q62 q63 q64 q65 q66 q67 q68 q69 q70 q71 q72 q73 q74 q75 q76 q77 q92 q93 q94 q95 q96 q97 q98 q99 q100 q101 q102 q103 q104 q105 q106 q107 q108 q109 q110 q111 q112 q113 q114 q115 q116 q117 q118 q119 q120 q121 q122 q123 q124 q125 q126 q127 q128 q129 : Value) (a' : Act) (w' : World) : Prop :=
  ∃ nb : Nat, (∃ w1, Below W.heap.size W w1 ∧ w' = (((((w1).setCell ⟨b15, 0, none⟩ (.int .i64 xk)).setCell ⟨b15, 1, none⟩ (.string xs)).setCell ⟨b15, 2, none⟩ (.slice xa xn xc)).setCell ⟨b15, 3, none⟩ (.slice none 0 0)).setCell ⟨b15, 4, none⟩ (.slice none 0 0)) ∧ a' = ⟨[q0, .int .i64 which, q2, q3, q4, q5, q6, q7, q8, q9, .slice (some ⟨ga, 0, none⟩) b ca, q11, q12, q13, q14, .pointer (some ⟨b15, 0, none⟩), q16, q17, q18, q19, q20, q21, q22, q23, q24, q25, q26, q27, q28, q29, q30, q31, q32, q33, q34, q35, q36, q37, q38, q39, q40, q41, q42, q43, q44, q45, q46, q47, q48, q49, q50, q51, q52, q53, q54, q55, q56, q57, q58, q59, q60, q61, q62, q63, q64, q65, q66, q67, q68, q69, q70, q71, q72, q73, q74, q75, q76, q77, .agg #[.int .i64 0, .string ⟨#[]⟩, .slice none 0 0, .slice none 0 0, .slice none 0 0], .agg #[.int .i64 5, .string ⟨#[120]⟩, .slice none 0 0, .slice none 0 0, .slice none 0 0], .slice (some ⟨ga, 0, none⟩) b ca, .slice (some ⟨ga, 0, none⟩) 1 ca, .agg #[.int .i64 1, .string ⟨#[]⟩, .slice (some ⟨ga, 0, none⟩) 1 ca, .slice none 0 0, .slice none 0 0], .slice (some ⟨ga, 0, none⟩) b ca, .slice (some ⟨ga, 0, none⟩) 1 ca, .agg #[.int .i64 10, .string ⟨#[]⟩, .slice (some ⟨ga, 0, none⟩) 1 ca, .slice none 0 0, .slice none 0 0], .slice (some ⟨nb, 0, none⟩) 4 4, .int .i64 which, .int .i64 ((j : Int) + 13), .int .i64 (j : Int), .pointer (some ⟨nb, j * 5, none⟩), .agg #[.int .i64 xk, .string xs, .slice xa xn xc, .slice none 0 0, .slice none 0 0], q92, q93, q94, q95, q96, q97, q98, q99, q100, q101, q102, q103, q104, q105, q106, q107, q108, q109, q110, q111, q112, q113, q114, q115, q116, q117, q118, q119, q120, q121, q122, q123, q124, q125, q126, q127, q128, q129].toArray, []⟩
theorem reg_W17 (b ga ca b15 j : Nat) (which : Int) (xk : Int) (xs : ByteArray) (xa : Option Addr) (xn xc : Nat) (W : World) (hb : 7 ≤ b ∧ b < 60) (hca : b ≤ ca) (s0 s1 s2 s3 s4 : Value) (h15 : OwnAt W b15 [s0, s1, s2, s3, s4] 49) (hj : j < 4) (hw : I64 which) (hp : pickOf which 17 = (j : Int) + 13) (hx : (stBadCells ga ca)[j * 5]? = some (.int .i64 xk) ∧ (stBadCells ga ca)[j * 5 + 1]? = some (.string xs) ∧ (stBadCells ga ca)[j * 5 + 2]? = some (.slice xa xn xc) ∧ (stBadCells ga ca)[j * 5 + 3]? = some (.slice none 0 0) ∧ (stBadCells ga ca)[j * 5 + 4]? = some (.slice none 0 0)) (q0 q2 q3 q4 q5 q6 q7 q8 q9 q11 q12 q13 q14 q16 q17 q18 q19 q20 q21 q22 q23 q24 q25 q26 q27 q28 q29 q30 q31 q32 q33 q34 q35 q36 q37 q38 q39 q40 q41 q42 q43 q44 q45 q46 q47 q48 q49 q50 q51 q52 q53 q54 q55 q56 q57 q58 q59 q60 q61 q62 q63 q64 q65 q66 q67 q68 q69 q70 q71 q72 q73 q74 q75 q76 q77 q78 q79 q80 q81 q82 q83 q84 q85 q86 q87 q88 q89 q90 q91 q92 q93 q94 q95 q96 q97 q98 q99 q100 q101 q102 q103 q104 q105 q106 q107 q108 q109 q110 q111 q112 q113 q114 q115 q116 q117 q118 q119 q120 q121 q122 q123 q124 q125 q126 q127 q128 q129 : Value) (J K' : Act → World → Prop) (hJ : ∀ a' w', RW17 b ga ca b15 j which xk xs xa xn xc W q0 q2 q3 q4 q5 q6 q7 q8 q9 q11 q12 q13 q14 q16 q17 q18 q19 q20 q21 q22 q23 q24 q25 q26 q27 q28 q29 q30 q31 q32 q33 q34 q35 q36 q37 q38 q39 q40 q41 q42 q43 q44 q45 q46 q47 q48 q49 q50 q51 q52 q53 q54 q55 q56 q57 q58 q59 q60 q61 q62 q63 q64 q65 q66 q67 q68 q69 q70 q71 q72 q73 q74 q75 q76 q77 q92 q93 q94 q95 q96 q97 q98 q99 q100 q101 q102 q103 q104 q105 q106 q107 q108 q109 q110 q111 q112 q113 q114 q115 q116 q117 q118 q119 q120 q121 q122 q123 q124 q125 q126 q127 q128 q129 a' w' → J a' w') (hM : ∀ a' w', Met J a' w' → K' a' w') :
    Code.wp Tryz.prog (wrReg 17) (Exit.then K' (fun _ _ _ => False)) ⟨[q0, .int .i64 which, q2, q3, q4, q5, q6, q7, q8, q9, .slice (some ⟨ga, 0, none⟩) b ca, q11, q12, q13, q14, .pointer (some ⟨b15, 0, none⟩), q16, q17, q18, q19, q20, q21, q22, q23, q24, q25, q26, q27, q28, q29, q30, q31, q32, q33, q34, q35, q36, q37, q38, q39, q40, q41, q42, q43, q44, q45, q46, q47, q48, q49, q50, q51, q52, q53, q54, q55, q56, q57, q58, q59, q60, q61, q62, q63, q64, q65, q66, q67, q68, q69, q70, q71, q72, q73, q74, q75, q76, q77, q78, q79, q80, q81, q82, q83, q84, q85, q86, q87, q88, q89, q90, q91, q92, q93, q94, q95, q96, q97, q98, q99, q100, q101, q102, q103, q104, q105, q106, q107, q108, q109, q110, q111, q112, q113, q114, q115, q116, q117, q118, q119, q120, q121, q122, q123, q124, q125, q126, q127, q128, q129].toArray, []⟩ W := by
  have i0 : (0 : Int) ≤ (b : Int) := by omega
  have i1 : (b : Int) < 60 := by omega
  have i2 : (1 : Int) ≤ (ca : Int) := by omega
  have n1 : 1 ≤ ca := by omega
  have j0 : (0 : Int) ≤ (j : Int) := by omega
  have j1 : (j : Int) < 4 := by omega
  have HPK : Hid (∀ w1, Calls Tryz.prog 28 #[.int .i64 which, .int .i64 17] w1 fun e w' => e = .returned (.int .i64 ((j : Int) + 13)) ∧ w' = w1) := fun w1 => by have := pick_any which 17 hw (by decide) (by decide) w1; rwa [hp] at this
  have HX := Lib.hid hx
  clear hx hp
  conv => arg 2; whnf
  dsimp only
  refine region_by (by kernel_rfl) (by kernel_rfl) (IW17 b ga ca b15 j which xk xs xa xn xc W q0 q2 q3 q4 q5 q6 q7 q8 q9 q11 q12 q13 q14 q16 q17 q18 q19 q20 q21 q22 q23 q24 q25 q26 q27 q28 q29 q30 q31 q32 q33 q34 q35 q36 q37 q38 q39 q40 q41 q42 q43 q44 q45 q46 q47 q48 q49 q50 q51 q52 q53 q54 q55 q56 q57 q58 q59 q60 q61 q62 q63 q64 q65 q66 q67 q68 q69 q70 q71 q72 q73 q74 q75 q76 q77 q92 q93 q94 q95 q96 q97 q98 q99 q100 q101 q102 q103 q104 q105 q106 q107 q108 q109 q110 q111 q112 q113 q114 q115 q116 q117 q118 q119 q120 q121 q122 q123 q124 q125 q126 q127 q128 q129) ?_ ?_ ?_
  · exact ⟨0, q78, q79, q80, q81, q82, q83, q84, q85, q86, q87, q88, q89, q90, q91, ⟨(fun h => by cases h), (fun h => by cases h), (fun h => by cases h), (fun h => by cases h), (fun h => by cases h), (fun h => by cases h), (fun h => by cases h), (fun h => by cases h), (fun h => by cases h), (fun h => by cases h), (fun h => by cases h), (fun h => by cases h), (fun h => by cases h), (fun h => by cases h), (fun h => by cases h), (fun h => by cases h), (fun _ => (Below.refl _ _).drew), (fun h => fun _ => by cases h), (fun h => by cases h)⟩, rfl⟩
  · intro L act wx k hI hk hl hd
    obtain ⟨nb, z78, z79, z80, z81, z82, z83, z84, z85, z86, z87, z88, z89, z90, z91, hV, rfl⟩ := hI
    have hk : k = 0 ∨ k = 1 ∨ k = 2 ∨ k = 3 ∨ k = 4 ∨ k = 5 ∨ k = 6 ∨ k = 7 ∨ k = 8 ∨ k = 9 ∨ k = 10 ∨ k = 11 ∨ k = 12 ∨ k = 13 ∨ k = 14 := by
      have : k < 15 := hk
      omega
    rcases hk with rfl | rfl | rfl | rfl | rfl | rfl | rfl | rfl | rfl | rfl | rfl | rfl | rfl | rfl | rfl
    · have nl := kf hV.ord hl
      refine op_at _ rfl rfl (fun K' hK => ?_)
      conv => arg 2; whnf
      go_wp2_with fail
      exact ⟨nb, .agg #[.int .i64 0, .string ⟨#[]⟩, .slice none 0 0, .slice none 0 0, .slice none 0 0], z79, z80, z81, z82, z83, z84, z85, z86, z87, z88, z89, z90, z91, ⟨(kl nl), (kq hV.p12_8), (fun _ => rfl), (kc hV.c1), (kc hV.c2), (kc hV.c3), (kc hV.c4), (kc hV.c5), (kc hV.c6), (kc hV.c7), (kc hV.c8), (kc hV.c9), (kc hV.c10), (kc hV.c11), (kc hV.c12), (kc hV.c13), (fun h0 => hV.bel (kb h0)), (fun h0 => fun h1 => hV.r8 (kb h0) (kb h1)), (kl nl)⟩, rfl⟩
    · have nl := kf hV.ord hl
      refine op_at _ rfl rfl (fun K' hK => ?_)
      conv => arg 2; whnf
      go_wp2_with fail
      exact ⟨nb, z78, .agg #[.int .i64 5, .string ⟨#[120]⟩, .slice none 0 0, .slice none 0 0, .slice none 0 0], z80, z81, z82, z83, z84, z85, z86, z87, z88, z89, z90, z91, ⟨(kl nl), (kq hV.p12_8), (kc hV.c0), (fun _ => rfl), (kc hV.c2), (kc hV.c3), (kc hV.c4), (kc hV.c5), (kc hV.c6), (kc hV.c7), (kc hV.c8), (kc hV.c9), (kc hV.c10), (kc hV.c11), (kc hV.c12), (kc hV.c13), (fun h0 => hV.bel (kb h0)), (fun h0 => fun h1 => hV.r8 (kb h0) (kb h1)), (kl nl)⟩, rfl⟩
    · have nl := kf hV.ord hl
      refine op_at _ rfl rfl (fun K' hK => ?_)
      conv => arg 2; whnf
      go_wp2_with fail
      exact ⟨nb, z78, z79, .slice (some ⟨ga, 0, none⟩) b ca, z81, z82, z83, z84, z85, z86, z87, z88, z89, z90, z91, ⟨(kl nl), (kq hV.p12_8), (kc hV.c0), (kc hV.c1), (fun _ => rfl), (kc hV.c3), (kc hV.c4), (kc hV.c5), (kc hV.c6), (kc hV.c7), (kc hV.c8), (kc hV.c9), (kc hV.c10), (kc hV.c11), (kc hV.c12), (kc hV.c13), (fun h0 => hV.bel (kb h0)), (fun h0 => fun h1 => hV.r8 (kb h0) (kb h1)), (kl nl)⟩, rfl⟩
    · have nl := kf hV.ord hl
      have d2 : L 2 = true := hd _ rfl ⟨2, .data⟩ (by simp) rfl
      obtain rfl := (hV.c2 d2).symm
      refine op_at _ rfl rfl (fun K' hK => ?_)
      conv => arg 2; whnf
      go_wp2_with fail
      exact ⟨nb, z78, z79, .slice (some ⟨ga, 0, none⟩) b ca, .slice (some ⟨ga, 0, none⟩) 1 ca, z82, z83, z84, z85, z86, z87, z88, z89, z90, z91, ⟨(kl nl), (kq hV.p12_8), (kc hV.c0), (kc hV.c1), (kc hV.c2), (fun _ => rfl), (kc hV.c4), (kc hV.c5), (kc hV.c6), (kc hV.c7), (kc hV.c8), (kc hV.c9), (kc hV.c10), (kc hV.c11), (kc hV.c12), (kc hV.c13), (fun h0 => hV.bel (kb h0)), (fun h0 => fun h1 => hV.r8 (kb h0) (kb h1)), (kl nl)⟩, rfl⟩
    · have nl := kf hV.ord hl
      have d3 : L 3 = true := hd _ rfl ⟨3, .data⟩ (by simp) rfl
      obtain rfl := (hV.c3 d3).symm
      refine op_at _ rfl rfl (fun K' hK => ?_)
      conv => arg 2; whnf
      go_wp2_with fail
      exact ⟨nb, z78, z79, z80, .slice (some ⟨ga, 0, none⟩) 1 ca, .agg #[.int .i64 1, .string ⟨#[]⟩, .slice (some ⟨ga, 0, none⟩) 1 ca, .slice none 0 0, .slice none 0 0], z83, z84, z85, z86, z87, z88, z89, z90, z91, ⟨(kl nl), (kq hV.p12_8), (kc hV.c0), (kc hV.c1), (kc hV.c2), (kc hV.c3), (fun _ => rfl), (kc hV.c5), (kc hV.c6), (kc hV.c7), (kc hV.c8), (kc hV.c9), (kc hV.c10), (kc hV.c11), (kc hV.c12), (kc hV.c13), (fun h0 => hV.bel (kb h0)), (fun h0 => fun h1 => hV.r8 (kb h0) (kb h1)), (kl nl)⟩, rfl⟩
    · have nl := kf hV.ord hl
      refine op_at _ rfl rfl (fun K' hK => ?_)
      conv => arg 2; whnf
      go_wp2_with fail
      exact ⟨nb, z78, z79, z80, z81, z82, .slice (some ⟨ga, 0, none⟩) b ca, z84, z85, z86, z87, z88, z89, z90, z91, ⟨(kl nl), (kq hV.p12_8), (kc hV.c0), (kc hV.c1), (kc hV.c2), (kc hV.c3), (kc hV.c4), (fun _ => rfl), (kc hV.c6), (kc hV.c7), (kc hV.c8), (kc hV.c9), (kc hV.c10), (kc hV.c11), (kc hV.c12), (kc hV.c13), (fun h0 => hV.bel (kb h0)), (fun h0 => fun h1 => hV.r8 (kb h0) (kb h1)), (kl nl)⟩, rfl⟩
    · have nl := kf hV.ord hl
      have d5 : L 5 = true := hd _ rfl ⟨5, .data⟩ (by simp) rfl
      obtain rfl := (hV.c5 d5).symm
      refine op_at _ rfl rfl (fun K' hK => ?_)
      conv => arg 2; whnf
      go_wp2_with fail
      exact ⟨nb, z78, z79, z80, z81, z82, .slice (some ⟨ga, 0, none⟩) b ca, .slice (some ⟨ga, 0, none⟩) 1 ca, z85, z86, z87, z88, z89, z90, z91, ⟨(kl nl), (kq hV.p12_8), (kc hV.c0), (kc hV.c1), (kc hV.c2), (kc hV.c3), (kc hV.c4), (kc hV.c5), (fun _ => rfl), (kc hV.c7), (kc hV.c8), (kc hV.c9), (kc hV.c10), (kc hV.c11), (kc hV.c12), (kc hV.c13), (fun h0 => hV.bel (kb h0)), (fun h0 => fun h1 => hV.r8 (kb h0) (kb h1)), (kl nl)⟩, rfl⟩
    · have nl := kf hV.ord hl
      have d6 : L 6 = true := hd _ rfl ⟨6, .data⟩ (by simp) rfl
      obtain rfl := (hV.c6 d6).symm
      refine op_at _ rfl rfl (fun K' hK => ?_)
      conv => arg 2; whnf
      go_wp2_with fail
      exact ⟨nb, z78, z79, z80, z81, z82, z83, .slice (some ⟨ga, 0, none⟩) 1 ca, .agg #[.int .i64 10, .string ⟨#[]⟩, .slice (some ⟨ga, 0, none⟩) 1 ca, .slice none 0 0, .slice none 0 0], z86, z87, z88, z89, z90, z91, ⟨(kl nl), (kq hV.p12_8), (kc hV.c0), (kc hV.c1), (kc hV.c2), (kc hV.c3), (kc hV.c4), (kc hV.c5), (kc hV.c6), (fun _ => rfl), (kc hV.c8), (kc hV.c9), (kc hV.c10), (kc hV.c11), (kc hV.c12), (kc hV.c13), (fun h0 => hV.bel (kb h0)), (fun h0 => fun h1 => hV.r8 (kb h0) (kb h1)), (kl nl)⟩, rfl⟩
    · have nl := kf hV.ord hl
      have d0 : L 0 = true := hd _ rfl ⟨0, .data⟩ (by simp) rfl
      obtain rfl := (hV.c0 d0).symm
      have d1 : L 1 = true := hd _ rfl ⟨1, .data⟩ (by simp) rfl
      obtain rfl := (hV.c1 d1).symm
      have d4 : L 4 = true := hd _ rfl ⟨4, .data⟩ (by simp) rfl
      obtain rfl := (hV.c4 d4).symm
      have d7 : L 7 = true := hd _ rfl ⟨7, .data⟩ (by simp) rfl
      obtain rfl := (hV.c7 d7).symm
      have hal : Below wx.heap.size wx (wx.alloc (.cells (stBadCells ga ca).toArray 49)) := (Below.refl _ _).alloc (Nat.le_refl _) _
      refine op_at _ rfl rfl (fun K' hK => ?_)
      conv => arg 2; whnf
      go_wp2_with fail
      exact ⟨wx.heap.size, .agg #[.int .i64 0, .string ⟨#[]⟩, .slice none 0 0, .slice none 0 0, .slice none 0 0], .agg #[.int .i64 5, .string ⟨#[120]⟩, .slice none 0 0, .slice none 0 0, .slice none 0 0], z80, z81, .agg #[.int .i64 1, .string ⟨#[]⟩, .slice (some ⟨ga, 0, none⟩) 1 ca, .slice none 0 0, .slice none 0 0], z83, z84, .agg #[.int .i64 10, .string ⟨#[]⟩, .slice (some ⟨ga, 0, none⟩) 1 ca, .slice none 0 0, .slice none 0 0], .slice (some ⟨(wx.heap.size), 0, none⟩) 4 4, z87, z88, z89, z90, z91, ⟨(kl nl), (fun _ => upd_same L 8), (kc hV.c0), (kc hV.c1), (kc hV.c2), (kc hV.c3), (kc hV.c4), (kc hV.c5), (kc hV.c6), (kc hV.c7), (fun _ => rfl), (kc hV.c9), (kc hV.c10), (kc hV.c11), (kn hV.p12_8 hl), (kc hV.c13), (fun h0 => Below.trans (hV.bel (kb h0)) (hal.mono (Below.size (hV.bel (kb h0))))), (fun _ _ => RowAt.new wx (stBadCells ga ca) 49), (kl nl)⟩, rfl⟩
    · have nl := kf hV.ord hl
      refine op_at _ rfl rfl (fun K' hK => ?_)
      conv => arg 2; whnf
      go_wp2_with fail
      exact ⟨nb, z78, z79, z80, z81, z82, z83, z84, z85, z86, .int .i64 which, z88, z89, z90, z91, ⟨(kl nl), (kq hV.p12_8), (kc hV.c0), (kc hV.c1), (kc hV.c2), (kc hV.c3), (kc hV.c4), (kc hV.c5), (kc hV.c6), (kc hV.c7), (kc hV.c8), (fun _ => rfl), (kc hV.c10), (kc hV.c11), (kc hV.c12), (kc hV.c13), (fun h0 => hV.bel (kb h0)), (fun h0 => fun h1 => hV.r8 (kb h0) (kb h1)), (kl nl)⟩, rfl⟩
    · have nl := kf hV.ord hl
      have d9 : L 9 = true := hd _ rfl ⟨9, .data⟩ (by simp) rfl
      obtain rfl := (hV.c9 d9).symm
      refine op_at _ rfl rfl (fun K' hK => ?_)
      conv => arg 2; whnf
      go_wp2_with fail
      refine (HPK.out _).mono ?_
      rintro r w2 ⟨rfl, rfl⟩
      go_wp2_with fail
      exact ⟨nb, z78, z79, z80, z81, z82, z83, z84, z85, z86, .int .i64 which, .int .i64 ((j : Int) + 13), z89, z90, z91, ⟨(kl nl), (kq hV.p12_8), (kc hV.c0), (kc hV.c1), (kc hV.c2), (kc hV.c3), (kc hV.c4), (kc hV.c5), (kc hV.c6), (kc hV.c7), (kc hV.c8), (kc hV.c9), (fun _ => rfl), (kc hV.c11), (kc hV.c12), (kc hV.c13), (fun h0 => hV.bel (kb h0)), (fun h0 => fun h1 => hV.r8 (kb h0) (kb h1)), (kl nl)⟩, rfl⟩
    · have nl := kf hV.ord hl
      have d10 : L 10 = true := hd _ rfl ⟨10, .data⟩ (by simp) rfl
      obtain rfl := (hV.c10 d10).symm
      refine op_at _ rfl rfl (fun K' hK => ?_)
      conv => arg 2; whnf
      go_wp2_with fail
      exact ⟨nb, z78, z79, z80, z81, z82, z83, z84, z85, z86, z87, .int .i64 ((j : Int) + 13), .int .i64 (j : Int), z90, z91, ⟨(kl nl), (kq hV.p12_8), (kc hV.c0), (kc hV.c1), (kc hV.c2), (kc hV.c3), (kc hV.c4), (kc hV.c5), (kc hV.c6), (kc hV.c7), (kc hV.c8), (kc hV.c9), (kc hV.c10), (fun _ => rfl), (kc hV.c12), (kc hV.c13), (fun h0 => hV.bel (kb h0)), (fun h0 => fun h1 => hV.r8 (kb h0) (kb h1)), (kl nl)⟩, rfl⟩
    · have nl := kf hV.ord hl
      have d8 : L 8 = true := hd _ rfl ⟨8, .data⟩ (by simp) rfl
      obtain rfl := (hV.c8 d8).symm
      have d11 : L 11 = true := hd _ rfl ⟨11, .data⟩ (by simp) rfl
      obtain rfl := (hV.c11 d11).symm
      refine op_at _ rfl rfl (fun K' hK => ?_)
      conv => arg 2; whnf
      go_wp2_with fail
      exact ⟨nb, z78, z79, z80, z81, z82, z83, z84, z85, .slice (some ⟨nb, 0, none⟩) 4 4, z87, z88, .int .i64 (j : Int), .pointer (some ⟨nb, j * 5, none⟩), z91, ⟨(kl nl), (kd (d8)), (kc hV.c0), (kc hV.c1), (kc hV.c2), (kc hV.c3), (kc hV.c4), (kc hV.c5), (kc hV.c6), (kc hV.c7), (kc hV.c8), (kc hV.c9), (kc hV.c10), (kc hV.c11), (fun _ => rfl), (kc hV.c13), (fun h0 => hV.bel (kb h0)), (fun h0 => fun h1 => hV.r8 (kb h0) (kb h1)), (kl nl)⟩, rfl⟩
    · have nl := kf hV.ord hl
      have d12 : L 12 = true := hd _ rfl ⟨12, .data⟩ (by simp) rfl
      obtain rfl := (hV.c12 d12).symm
      have hr8 := hV.r8 (hV.p12_8 d12) nl
      have y0 := hr8.at _ _ HX.out.1
      have y1 := hr8.at _ _ HX.out.2.1
      have y2 := hr8.at _ _ HX.out.2.2.1
      have y3 := hr8.at _ _ HX.out.2.2.2.1
      have y4 := hr8.at _ _ HX.out.2.2.2.2
      refine op_at _ rfl rfl (fun K' hK => ?_)
      conv => arg 2; whnf
      go_wp2_with fail
      exact ⟨nb, z78, z79, z80, z81, z82, z83, z84, z85, z86, z87, z88, z89, .pointer (some ⟨nb, j * 5, none⟩), .agg #[.int .i64 xk, .string xs, .slice xa xn xc, .slice none 0 0, .slice none 0 0], ⟨(kl nl), (kq hV.p12_8), (kc hV.c0), (kc hV.c1), (kc hV.c2), (kc hV.c3), (kc hV.c4), (kc hV.c5), (kc hV.c6), (kc hV.c7), (kc hV.c8), (kc hV.c9), (kc hV.c10), (kc hV.c11), (kc hV.c12), (fun _ => rfl), (fun h0 => hV.bel (kb h0)), (fun h0 => fun h1 => hV.r8 (kb h0) (kb h1)), (kl nl)⟩, rfl⟩
    · have before : ∀ j, j < 14 → L j = true := fun j hj => by
        have hj : j = 0 ∨ j = 1 ∨ j = 2 ∨ j = 3 ∨ j = 4 ∨ j = 5 ∨ j = 6 ∨ j = 7 ∨ j = 8 ∨ j = 9 ∨ j = 10 ∨ j = 11 ∨ j = 12 ∨ j = 13 := by omega
        rcases hj with rfl | rfl | rfl | rfl | rfl | rfl | rfl | rfl | rfl | rfl | rfl | rfl | rfl | rfl
        · exact hd _ rfl ⟨0, .phase⟩ (by simp) rfl
        · exact hd _ rfl ⟨1, .phase⟩ (by simp) rfl
        · exact hd _ rfl ⟨2, .phase⟩ (by simp) rfl
        · exact hd _ rfl ⟨3, .phase⟩ (by simp) rfl
        · exact hd _ rfl ⟨4, .phase⟩ (by simp) rfl
        · exact hd _ rfl ⟨5, .phase⟩ (by simp) rfl
        · exact hd _ rfl ⟨6, .phase⟩ (by simp) rfl
        · exact hd _ rfl ⟨7, .phase⟩ (by simp) rfl
        · exact hd _ rfl ⟨8, .phase⟩ (by simp) rfl
        · exact hd _ rfl ⟨9, .phase⟩ (by simp) rfl
        · exact hd _ rfl ⟨10, .chain⟩ (by simp) rfl
        · exact hd _ rfl ⟨11, .phase⟩ (by simp) rfl
        · exact hd _ rfl ⟨12, .phase⟩ (by simp) rfl
        · exact hd _ rfl ⟨13, .data⟩ (by simp) rfl
      have d10 : L 10 = true := hd _ rfl ⟨10, .chain⟩ (by simp) rfl
      have d13 : L 13 = true := hd _ rfl ⟨13, .data⟩ (by simp) rfl
      obtain rfl := (hV.c13 d13).symm
      have hbe := hV.bel hl
      have ho := h15.old hbe
      have y0 := ho.at 0 _ rfl
      have y1 := ho.at 1 _ rfl
      have y2 := ho.at 2 _ rfl
      have y3 := ho.at 3 _ rfl
      have y4 := ho.at 4 _ rfl
      have f0 := ho.fz 0
      have f1 := ho.fz 1
      have f2 := ho.fz 2
      have f3 := ho.fz 3
      have f4 := ho.fz 4
      have hlt := ho.lt
      refine op_at _ rfl rfl (fun K' hK => ?_)
      conv => arg 2; whnf
      go_wp2_with fail
      exact ⟨nb, z78, z79, z80, z81, z82, z83, z84, z85, z86, z87, z88, z89, z90, .agg #[.int .i64 xk, .string xs, .slice xa xn xc, .slice none 0 0, .slice none 0 0], ⟨(fun _ j hj => by rw [upd_ne L (show j ≠ 14 by omega)]; exact before j hj), (kq hV.p12_8), (kc hV.c0), (kc hV.c1), (kc hV.c2), (kc hV.c3), (kc hV.c4), (kc hV.c5), (kc hV.c6), (kc hV.c7), (kc hV.c8), (kc hV.c9), (kc hV.c10), (kc hV.c11), (kc hV.c12), (kc hV.c13), (ks), (fun _ => ks), (fun _ => ⟨wx, hbe, rfl⟩)⟩, rfl⟩
  · intro L act wx hI hall
    obtain ⟨nb, z78, z79, z80, z81, z82, z83, z84, z85, z86, z87, z88, z89, z90, z91, hV, rfl⟩ := hI
    obtain rfl := (hV.c0 (hall 0 (by decide))).symm
    obtain rfl := (hV.c1 (hall 1 (by decide))).symm
    obtain rfl := (hV.c2 (hall 2 (by decide))).symm
    obtain rfl := (hV.c3 (hall 3 (by decide))).symm
    obtain rfl := (hV.c4 (hall 4 (by decide))).symm
    obtain rfl := (hV.c5 (hall 5 (by decide))).symm
    obtain rfl := (hV.c6 (hall 6 (by decide))).symm
    obtain rfl := (hV.c7 (hall 7 (by decide))).symm
    obtain rfl := (hV.c8 (hall 8 (by decide))).symm
    obtain rfl := (hV.c9 (hall 9 (by decide))).symm
    obtain rfl := (hV.c10 (hall 10 (by decide))).symm
    obtain rfl := (hV.c11 (hall 11 (by decide))).symm
    obtain rfl := (hV.c12 (hall 12 (by decide))).symm
    obtain rfl := (hV.c13 (hall 13 (by decide))).symm
    exact hM _ _ (Met.intro (hJ _ _ ⟨nb, hV.fin (hall 14 (by decide)), rfl⟩))
end Go.Proofs.YtgmaeflfiooigaaGreatDoor

namespace Go.Proofs.YtgmaeflfiooigaaGreatDoor
open Go.RowKit
set_option maxHeartbeats 8000000
set_option maxRecDepth 100000

theorem ExsAt.take {D : Nat → Prop} {w : World} {l : List Ex} {a : Option Addr} {n cap : Nat} (h : ExsAt D w l (.slice a n cap)) (k : Nat) (hk : k ≤ l.length) : ExsAt D w (l.take k) (.slice a k cap) := by
  cases h with
  | mk _ _ _ b off sv hcap hfit ha h0 h1 h2 h3 h4 hs hn =>
    have e : (l.take k).length = k := by rw [List.length_take]; omega
    have g : ∀ i, i < (l.take k).length → exAt (l.take k) i = exAt l i ∧ i < l.length := fun i hi => by
      rw [e] at hi
      exact ⟨by unfold exAt; rw [List.getD_eq_getElem?_getD, List.getElem?_take, if_pos hi, List.getD_eq_getElem?_getD], by omega⟩
    have q := ExsAt.mk (D := D) (w := w) (l.take k) a cap b off sv (by rw [e]; omega) (by rw [e]; exact hfit.mono hk) (by
      rcases ha with ha | ha
      · left; rw [e]; omega
      · exact .inr ha) (fun i hi => by rw [(g i hi).1]; exact h0 i (g i hi).2) (fun i hi => by rw [(g i hi).1]; exact h1 i (g i hi).2) (fun i hi => by rw [(g i hi).1]; exact h2 i (g i hi).2) (fun i hi => by rw [(g i hi).1]; exact h3 i (g i hi).2) (fun i hi => h4 i (g i hi).2) (fun i hi => by rw [(g i hi).1]; exact hs i (g i hi).2) (fun i hi => by rw [(g i hi).1]; exact hn i (g i hi).2)
    rwa [e] at q
theorem badV_get {D : Nat → Prop} {w : World} (b ga ca : Nat) (hb : 7 ≤ b ∧ b < 60) (d1 : Option Addr) (d2 d3 : Nat) (hr : ExsAt D w (reads b) (.slice (some ⟨ga, 0, none⟩) b ca)) (hd : ExsAt D w (nest (34 + b)).args (.slice d1 d2 d3)) (hn : I64 (nest (34 + b)).n) (j : Nat) (hj : j < 11) :
    ∃ ex xa xn xc, (badV b ga ca (.slice d1 d2 d3))[j]? = some (ex, .slice xa xn xc) ∧ rightEx ex = false ∧ ExsAt D w ex.args (.slice xa xn xc) ∧ I64 ex.n := by
  have h1 := hr.take 1 (by rw [reads_len]; omega)
  have h2 := hr.take 2 (by rw [reads_len]; omega)
  have z : ExsAt D w [] (.slice none 0 0) := ExsAt.zero
  have i0 : I64 0 := ⟨by decide, by decide⟩
  have ib : I64 (b : Int) := ⟨by omega, by omega⟩
  have im : I64 (-(b : Int)) := ⟨by omega, by omega⟩
  have key : ∀ p, p ∈ badV b ga ca (.slice d1 d2 d3) → ∃ ex xa xn xc, p = (ex, .slice xa xn xc) ∧ ExsAt D w ex.args (.slice xa xn xc) ∧ I64 ex.n := by
    intro p hp
    simp only [badV, List.mem_cons, List.not_mem_nil, or_false] at hp
    rcases hp with rfl | rfl | rfl | rfl | rfl | rfl | rfl | rfl | rfl | rfl | rfl
    · exact ⟨_, _, _, _, rfl, z, i0⟩
    · exact ⟨_, _, _, _, rfl, z, im⟩
    · exact ⟨_, _, _, _, rfl, z, i0⟩
    · exact ⟨_, _, _, _, rfl, z, i0⟩
    · exact ⟨_, _, _, _, rfl, h1, i0⟩
    · exact ⟨_, _, _, _, rfl, h2, i0⟩
    · exact ⟨_, _, _, _, rfl, hr, i0⟩
    · exact ⟨_, _, _, _, rfl, z, i0⟩
    · exact ⟨_, _, _, _, rfl, z, ib⟩
    · exact ⟨_, _, _, _, rfl, hd, hn⟩
    · exact ⟨_, _, _, _, rfl, z, i0⟩
  have hlen : (badV b ga ca (.slice d1 d2 d3)).length = 11 := rfl
  obtain ⟨q, hq⟩ : ∃ q, (badV b ga ca (.slice d1 d2 d3))[j]? = some q := ⟨_, List.getElem?_eq_getElem (by rw [hlen]; exact hj)⟩
  obtain ⟨ex, xa, xn, xc, e, h3, h4⟩ := key q (List.mem_of_getElem? hq)
  refine ⟨ex, xa, xn, xc, by rw [hq, e], ?_, h3, h4⟩
  refine bads_wrong b hb.1 ex ?_
  rw [← badV_map b ga ca (.slice d1 d2 d3)]
  exact List.mem_map.2 ⟨q, List.mem_of_getElem? hq, by rw [e]⟩
theorem badStV_get {D : Nat → Prop} {w : World} (b ga ca : Nat) (hb : 7 ≤ b ∧ b < 60) (hr : ExsAt D w (reads b) (.slice (some ⟨ga, 0, none⟩) b ca)) (j : Nat) (hj : j < 4) :
    ∃ k nm us xa xn xc, (badStV b ga ca)[j]? = some ⟨.mk k nm us [] [], .slice xa xn xc, .slice none 0 0, .slice none 0 0⟩ ∧ stOk 40 (.mk k nm us [] []) = false ∧ ExsAt D w us (.slice xa xn xc) := by
  have h1 := hr.take 1 (by rw [reads_len]; omega)
  have z : ExsAt D w [] (.slice none 0 0) := ExsAt.zero
  have bad := badSts_wrong b hb.1
  have hj4 : j = 0 ∨ j = 1 ∨ j = 2 ∨ j = 3 := by omega
  rcases hj4 with rfl | rfl | rfl | rfl
  · exact ⟨_, _, _, _, _, _, rfl, bad _ (by simp [badSts]), z⟩
  · exact ⟨_, _, _, _, _, _, rfl, bad _ (by simp [badSts]), z⟩
  · exact ⟨_, _, _, _, _, _, rfl, bad _ (by simp [badSts]), h1⟩
  · exact ⟨_, _, _, _, _, _, rfl, bad _ (by simp [badSts]), h1⟩
/-- Functions read out of a row whose parts are known. -/
theorem fus_row {D : Nat → Prop} {w : World} {base : Nat} {ps : List FuV} {v : Value} (h : w.ownsRow base 52 4 v ps.length (ps.flatMap fvCells)) (hD : ∀ k, v.ownBlock = some k → D k) (hp : ∀ p, p ∈ ps → StrsAt D w p.x.params p.p ∧ StrsAt D w p.x.locals p.l ∧ StsAt D w p.x.body p.b) (hf : Fits ps.length) : FusAt D w (ps.map (·.x)) v := by
  have hl : (ps.map (·.x)).length = ps.length := List.length_map _
  rcases h.2 with ⟨rfl, hz⟩ | ⟨g, cap, cur, rfl, hb, hg, hc, hm, hs, ht⟩
  · have : ps = [] := List.length_eq_zero_iff.1 hz
    subst this; exact FusAt.zero
  · let z : FuV := ⟨Fu.nil, undef, undef, undef⟩
    refine ⟨some ⟨g, 0, none⟩, cap, g, 0, (fun i => (ps.getD i z).p), (fun i => (ps.getD i z).l), (fun i => (ps.getD i z).b), by rw [hl], by rw [hl]; exact hc, by rw [hl]; exact hf, .inr ⟨rfl, hD g rfl⟩, fun i hi => ?_⟩
    rw [hl] at hi
    obtain ⟨p, hp1, hx, hm⟩ : ∃ p, ps[i]? = some p ∧ fuAt (ps.map (·.x)) i = p.x ∧ p ∈ ps := ⟨ps[i], List.getElem?_eq_getElem hi, by simp [fuAt, List.getElem?_eq_getElem hi], List.getElem_mem hi⟩
    have sv : ps.getD i z = p := by rw [List.getD_eq_getElem?_getD, hp1]; rfl
    rw [hx]
    dsimp only
    rw [sv]
    have cell : ∀ q u, q < 4 → (fvCells p)[q]? = some u → w.cell? ⟨g, 0 + i * 4 + q, none⟩ = some u := by
      intro q u hq hu
      have h1 := row_cells h (i * 4 + q) u (by rw [flat_at fvCells 4 (fun _ => rfl) ps i q p hp1 hq]; exact hu)
      rwa [show 0 + (i * 4 + q) = 0 + i * 4 + q by omega] at h1
    exact ⟨⟨cell 0 _ (by decide) rfl, cell 1 _ (by decide) rfl, cell 2 _ (by decide) rfl, cell 3 _ (by decide) rfl⟩, hp p hm⟩
/-- Where a slice is stored that stood where no array does. -/
theorem ArsAt.slot {D : Nat → Prop} {w : World} {l : List Ar} {v : Value} (h : ArsAt D w l v) {g o : Nat} {a : Option Addr} {n c : Nat} (hc : w.cell? ⟨g, o, none⟩ = some (.slice a n c)) (x : Value) : ArsAt D (w.setCell ⟨g, o, none⟩ x) l v := by
  obtain ⟨a', cap, b, off, hv, h1, h2, h3, h4⟩ := h
  refine ⟨a', cap, b, off, hv, h1, h2, h3, fun i hi => ⟨?_, ?_⟩⟩
  · have q := (h4 i hi).1
    rw [World.cell?_setCell_other (h := fun e => by rw [e, q] at hc; cases hc)]; exact q
  · have q := (h4 i hi).2
    rw [World.cell?_setCell_other (h := fun e => by rw [e, q] at hc; cases hc)]; exact q
/-- The program with a statement more in one of its functions. -/
theorem prog_with {w w1 : World} {p : Pr} {n : Nat} {va : Value} {gf cf : Nat} {ds : List FuV} {i : Nat} {d : FuV} (h : PrOld w p n va (.slice (some ⟨gf, 0, none⟩) ds.length cf) ds) (hb : Below w.heap.size w w1) (hi : ds[i]? = some d) (x : St) (v : Value)
    (hs : StsAt (fun _ => True) (w1.setCell ⟨gf, i * 4 + 3, none⟩ v) (d.x.body ++ [x]) v) :
    FusAt (fun _ => True) (w1.setCell ⟨gf, i * 4 + 3, none⟩ v) ((ds.set i (withB d x v)).map (·.x)) (.slice (some ⟨gf, 0, none⟩) ds.length cf) := by
  have hi' : i < ds.length := by
    rcases Nat.lt_or_ge i ds.length with h' | h'
    · exact h'
    · rw [List.getElem?_eq_none h'] at hi; cases hi
  have h1 := h.old hb
  have hst := (World.ownsRow.stored h1.own (i * 4 + 3) v).1
  rw [fv_set ds i d hi] at hst
  have hlen : (ds.set i (withB d x v)).length = ds.length := List.length_set
  have kp : BKeeps (fun b => b < n ∧ (Value.slice (some ⟨gf, 0, none⟩) ds.length cf).ownBlock ≠ some b) w1 (w1.setCell ⟨gf, i * 4 + 3, none⟩ v) := BKeeps.set w1 (fun hh => hh.2 rfl) _ _
  have old : ∀ q, q ∈ ds → StrsAt (fun _ => True) (w1.setCell ⟨gf, i * 4 + 3, none⟩ v) q.x.params q.p ∧ StrsAt (fun _ => True) (w1.setCell ⟨gf, i * 4 + 3, none⟩ v) q.x.locals q.l ∧ StsAt (fun _ => True) (w1.setCell ⟨gf, i * 4 + 3, none⟩ v) q.x.body q.b := by
    intro q hq
    obtain ⟨k1, k2, ls, k3, k4, k5⟩ := h1.lt q hq
    have k6 := (k5.keep kp (by simp [World.setCell])).sts (show ls.length ≤ 140737488355328 by omega)
    rw [k3] at k6
    exact ⟨(k1.keep kp.keeps).mono (fun _ _ => trivial), (k2.keep kp.keeps).mono (fun _ _ => trivial), k6.mono (fun _ _ => trivial)⟩
  have q := fus_row (D := fun _ => True) (base := 0) (ps := ds.set i (withB d x v)) (v := .slice (some ⟨gf, 0, none⟩) ds.length cf) (by rw [hlen]; exact hst) (fun _ _ => trivial) (fun q hq => by
    rcases List.mem_or_eq_of_mem_set hq with hq | rfl
    · exact old q hq
    · have o := old d (List.mem_of_getElem? hi)
      exact ⟨o.1, o.2.1, hs⟩) (show (ds.set i (withB d x v)).length ≤ 140737488355328 by rw [hlen]; have := h.len; omega)
  exact q
theorem map_last (ds : List FuV) (l : List Fu) (h : ds.map (·.x) = l) (i : Nat) (hi : i = l.length - 1) (d : FuV) (hd : ds[i]? = some d) (x : St) (v : Value) : (ds.set i (withB d x v)).map (·.x) = lastWith l x := by
  subst h
  unfold lastWith
  rw [List.map_set]
  rw [← hi]
  have e : (ds.map (·.x)).getD i ⟨[], [], [], []⟩ = d.x := by rw [List.getD_eq_getElem?_getD, List.getElem?_map, hd]; rfl
  rw [e]; rfl
/-- The statements of a body, and one more behind them. -/
theorem sts_more {w w' : World} {D : Nat → Prop} {ls : List StV} {bv : Value} (h : StsOwnD w D ls bv) (hl : ls.length ≤ 4) {k : Int} {nm : Bs} {us : List Ex} {a : Value} {gn cn : Nat} (hk : ∀ b, b < w.heap.size → D b → w'.heap[b]? = w.heap[b]?)
    (hr : w'.ownsRow w.heap.size 49 5 (.slice (some ⟨gn, 0, none⟩) (ls.length + 1) cn) (ls.length + 1) (stFlat ls ++ stCells (.mk k nm us [] []) a (.slice none 0 0) (.slice none 0 0))) (he : ExsAt (fun b => b < w.heap.size) w' us a) :
    StsAt (fun _ => True) w' (ls.map (·.x) ++ [.mk k nm us [] []]) (.slice (some ⟨gn, 0, none⟩) (ls.length + 1) cn) := by
  have hgn := (World.ownsRow.lt hr gn rfl).1
  have e1 : (ls ++ [(⟨.mk k nm us [] [], a, .slice none 0 0, .slice none 0 0⟩ : StV)]).length = ls.length + 1 := by simp
  have e2 : stFlat (ls ++ [(⟨.mk k nm us [] [], a, .slice none 0 0, .slice none 0 0⟩ : StV)]) = stFlat ls ++ stCells (.mk k nm us [] []) a (.slice none 0 0) (.slice none 0 0) := by simp [stFlat]
  have hs : StsOwnD w' (fun _ => True) (ls ++ [⟨.mk k nm us [] [], a, .slice none 0 0, .slice none 0 0⟩]) (.slice (some ⟨gn, 0, none⟩) (ls.length + 1) cn) := by
    refine ⟨?_, fun k e => ⟨trivial, (World.ownsRow.lt hr k e).2⟩, fun q hq => ?_⟩
    · rw [e1, e2]; exact row_base hr (fun _ _ => Nat.zero_le _)
    · rcases List.mem_append.1 hq with hq | hq
      · have o := (h.2.2 q hq).strong
        have kk : Keeps (fun b => (D b ∧ bv.ownBlock ≠ some b) ∧ b < w.heap.size) w w' := fun b off y hb hy => by
          rw [World.cell?_of_block (w := w) (hk b hb.2 hb.1.1)]; exact hy
        exact (o.keep kk).mono (fun b hb => ⟨trivial, fun e => by have e : some gn = some b := e; cases e; have := hb.2; omega⟩)
      · rw [List.mem_singleton.1 hq]
        exact ⟨he.mono (fun b hb => ⟨trivial, fun e => by have e : some gn = some b := e; cases e; have : gn < w.heap.size := hb; omega⟩), StsAt.zero, StsAt.zero⟩
  have q := hs.sts (show (ls ++ [(⟨.mk k nm us [] [], a, .slice none 0 0, .slice none 0 0⟩ : StV)]).length ≤ 140737488355328 by rw [e1]; omega)
  simpa using q
end Go.Proofs.YtgmaeflfiooigaaGreatDoor

namespace Go.Proofs.YtgmaeflfiooigaaGreatDoor
open Go.RowKit
set_option maxHeartbeats 8000000
set_option maxRecDepth 100000

/-- What holds at the head of the first loop. -/
structure LOne (W : World) (k : Nat) (v : Value) (wr : World) : Prop where
  bel : Below W.heap.size W wr
  own : ExsOwn wr W.heap.size (List.replicate k (exRead, .slice none 0 0)) v
/-- What holds at the head of the second loop. -/
structure LTwo (W : World) (k : Nat) (wr : World) : Prop where
  bel : Below W.heap.size W wr
  box : ∃ v, OwnAt wr W.heap.size (exCells (nest k) v) 31 ∧ ExsAt (fun b => W.heap.size + 1 ≤ b) wr (nest k).args v
theorem gProg_some (raw : List Int) (free : Bool) : 0 < (gProg raw free).funcs.length := by
  show 0 < (gBodies _ _ _ _).1.length
  rw [gBodies_len]
  exact Nat.succ_pos _
theorem nest_n : ∀ k, (nest k).n = 0
  | 0 => rfl
  | k + 1 => rfl
theorem rep_map (k : Nat) : (List.replicate k (exRead, (.slice none 0 0 : Value))).map (·.1) = reads k := by unfold reads; rw [List.map_replicate]
theorem LTwo.step {W : World} {k : Nat} {wr : World} {v1 : Option Addr} {v2 : Nat} (hb : Below W.heap.size W wr) (ho : OwnAt wr W.heap.size (exCells (nest k) (.slice v1 (nest k).args.length v2)) 31) (he : ExsAt (fun b => W.heap.size + 1 ≤ b) wr (nest k).args (.slice v1 (nest k).args.length v2)) :
    LTwo W (k + 1) ((((((wr.setCell ⟨W.heap.size, 0, none⟩ (.int .i64 3)).setCell ⟨W.heap.size, 1, none⟩ (.int .i64 17)).setCell ⟨W.heap.size, 2, none⟩ (.int .i64 0)).setCell ⟨W.heap.size, 3, none⟩ (.string ⟨#[]⟩)).setCell ⟨W.heap.size, 4, none⟩ (.slice (some ⟨wr.heap.size, 0, none⟩) 1 1)).alloc (.cells (exCells (nest k) (.slice v1 (nest k).args.length v2)).toArray 31)) := by
  have hlt := ho.lt
  have st : ∀ (v : World) (i : Nat) (x : Value), Below W.heap.size v (v.setCell ⟨W.heap.size, i, none⟩ x) := fun v i x => (Below.refl _ _).setCell (p := ⟨W.heap.size, i, none⟩) (Nat.le_refl _) x
  have kp : ∀ (v : World) (i : Nat) (x : Value), Keeps (W.heap.size + 1 ≤ ·) v (v.setCell ⟨W.heap.size, i, none⟩ x) := fun v i x => set_fresh v (Nat.lt_succ_self _) i x
  have hb2 := (((((hb.trans (st _ 0 (.int .i64 3))).trans (st _ 1 (.int .i64 17))).trans (st _ 2 (.int .i64 0))).trans (st _ 3 (.string ⟨#[]⟩))).trans (st _ 4 (.slice (some ⟨wr.heap.size, 0, none⟩) 1 1)))
  have ho2 := ((((ho.set 0 (.int .i64 3)).set 1 (.int .i64 17)).set 2 (.int .i64 0)).set 3 (.string ⟨#[]⟩)).set 4 (.slice (some ⟨wr.heap.size, 0, none⟩) 1 1)
  have he2 := ((((he.keep (kp _ 0 (.int .i64 3))).keep (kp _ 1 (.int .i64 17))).keep (kp _ 2 (.int .i64 0))).keep (kp _ 3 (.string ⟨#[]⟩))).keep (kp _ 4 (.slice (some ⟨wr.heap.size, 0, none⟩) 1 1))
  have hz : (((((wr.setCell ⟨W.heap.size, 0, none⟩ (.int .i64 3)).setCell ⟨W.heap.size, 1, none⟩ (.int .i64 17)).setCell ⟨W.heap.size, 2, none⟩ (.int .i64 0)).setCell ⟨W.heap.size, 3, none⟩ (.string ⟨#[]⟩)).setCell ⟨W.heap.size, 4, none⟩ (.slice (some ⟨wr.heap.size, 0, none⟩) 1 1)).heap.size = wr.heap.size := by simp [World.setCell]
  generalize ((((wr.setCell ⟨W.heap.size, 0, none⟩ (.int .i64 3)).setCell ⟨W.heap.size, 1, none⟩ (.int .i64 17)).setCell ⟨W.heap.size, 2, none⟩ (.int .i64 0)).setCell ⟨W.heap.size, 3, none⟩ (.string ⟨#[]⟩)).setCell ⟨W.heap.size, 4, none⟩ (.slice (some ⟨wr.heap.size, 0, none⟩) 1 1) = V at *
  have hal : Below V.heap.size V (V.alloc (.cells (exCells (nest k) (.slice v1 (nest k).args.length v2)).toArray 31)) := (Below.refl _ _).alloc (Nat.le_refl _) _
  have hrow := RowAt.new V (exCells (nest k) (.slice v1 (nest k).args.length v2)) 31
  rw [hz] at hrow
  exact ⟨hb2.trans (hal.mono hb2.size), .slice (some ⟨wr.heap.size, 0, none⟩) 1 1, ho2.old hal, ExsAt.one (D := fun b => W.heap.size + 1 ≤ b) (nest k) _ (show W.heap.size + 1 ≤ wr.heap.size from hlt) hrow (he2.old hal) (by rw [nest_n]; exact ⟨by decide, by decide⟩)⟩
theorem wrong_any (raw : List Int) (which n : Int) (v0 : Value) (w : World) (h0 : RawAt (· < w.heap.size) w raw v0) (hw : I64 which) (hn : I64 n) (hg : 3 < w.heap.size) (ht : TabOk w) :
    Calls Tryz.prog 5 #[v0, .int .i64 which, .int .i64 n] w fun e w' => e = .returned (.bool true) ∧ Below w.heap.size w w' := by
  obtain ⟨s0, s1, rfl⟩ := h0.shape
  have pc := gProg_some raw false
  have HP := Lib.hid (fun w1 h => prog_any raw false (.slice s0 raw.length s1) w1 h)
  generalize gProg raw false = p at *
  have hp1 := pickOf_range n 50 (by decide)
  have hp2 := pickOf_range which 11 (by decide)
  have hp3 := pickOf_range which 17 (by decide)
  have HPB := Lib.hid (fun w1 => pick_any n 50 hn (by decide) (by decide) w1)
  have HPJ := Lib.hid (fun w1 => pick_any which 11 hw (by decide) (by decide) w1)
  have HPI := Lib.hid (fun w1 => pick_any which 17 hw (by decide) (by decide) w1)
  have HPK := Lib.hid (show pickOf which 17 = pickOf which 17 from rfl)
  have HW := Lib.hid hw
  generalize pickOf n 50 = c1 at *
  obtain ⟨c, rfl⟩ := Int.eq_ofNat_of_zero_le hp1.1
  generalize pickOf which 11 = c2 at *
  obtain ⟨j, rfl⟩ := Int.eq_ofNat_of_zero_le hp2.1
  generalize hi17 : pickOf which 17 = c3 at *
  obtain ⟨i, rfl⟩ := Int.eq_ofNat_of_zero_le hp3.1
  have HI17 := Lib.hid hi17
  have hbb : 7 ≤ 7 + c ∧ 7 + c < 60 := by omega
  have hjj : j < 11 := by omega
  have hii : i < 17 := by omega
  have PCN := Lib.hid pc
  have HG := Lib.hid hg; have HT := Lib.hid ht; have H0 := Lib.hid h0
  clear pc hp1 hp2 hp3 hw hn hg ht h0 hi17 HPK
  go_enter Tryz.func5, Tryz.ntmps5
  go_wp2_with fail
  refine (awake_any w HG.out HT.out).mono ?_
  rintro r w1 ⟨rfl, hb1⟩
  have HB1 := Lib.hid hb1
  clear hb1 HG HT
  go_wp2_with fail
  refine (HP.out w1 (H0.out.old HB1.out)).mono ?_
  rintro r w2 ⟨va, vf, ds, rfl, hb2, ha2, hds, hd3, hf2⟩
  have hdl : 0 < ds.length := by have := congrArg List.length hds; rw [List.length_map] at this; have := PCN.out; omega
  obtain ⟨a1, a2, rfl⟩ := ha2.shape
  obtain ⟨gf, cf, rfl, hgf1, _⟩ := World.ownsRow.form hf2.1 hdl
  have hgw : w.heap.size ≤ gf := by have := HB1.out.size; omega
  have hO2 := PrOld.of ha2 hds hd3 hf2
  have hbA : Below w2.heap.size w2 (w2.alloc (.cells #[.slice a1 p.arrays.length a2, .slice (some ⟨gf, 0, none⟩) ds.length cf] 27)) := (Below.refl _ _).alloc (Nat.le_refl _) _
  have HO8 := Lib.hid (OwnAt.new w2 [.slice a1 p.arrays.length a2, .slice (some ⟨gf, 0, none⟩) ds.length cf] 27)
  have HB2 := Lib.hid (HB1.out.trans (hb2.mono HB1.out.size))
  have HB3 := Lib.hid (HB2.out.trans (hbA.mono HB2.out.size))
  have HPR := Lib.hid (hO2.old hbA)
  have HDS := Lib.hid hds; have HDL := Lib.hid hdl
  clear hb2 ha2 hds hf2 hbA hO2 hdl HP HB1 HB2 H0 PCN
  go_wp2_with fail
  refine (HPB.out _).mono ?_
  rintro r w3 ⟨rfl, rfl⟩
  go_wp2_with fail
  rw [show (7 : Int) + (c : Int) = ((7 + c : Nat) : Int) from by omega]
  generalize 7 + c = b at *
  generalize hW3 : w2.alloc (.cells #[.slice a1 p.arrays.length a2, .slice (some ⟨gf, 0, none⟩) ds.length cf] 27) = W3 at *
  have HZ3 : Hid (W3.heap.size = w2.heap.size + 1) := by show _ = _; rw [← hW3]; simp
  clear hW3 HPB
  obtain ⟨i0, hi0, hz0, hz1, hz2⟩ := info_parts infoEx
  have HI0 := Lib.hid hi0; have HZ0 := Lib.hid hz0; have HZ1 := Lib.hid hz1; have HZ2 := Lib.hid hz2
  clear hi0 hz0 hz1 hz2
  have hb60 := hbb.2
  go_loopw [10, 11] (fun s10 s11 wr => ∃ k : Nat, ∃ va : Option Addr, ∃ vc : Nat, k ≤ b ∧ s11 = .int .i64 k ∧ s10 = .slice va k vc ∧ LOne W3 k (.slice va k vc) wr) (fun _ s11 _ => b - (intOf s11).toNat)
  case atStart => exact ⟨0, none, 0, Nat.zero_le _, rfl, rfl, Below.refl _ _, ExsOwn.zero _ _⟩
  case round =>
    obtain ⟨k, va, vc, hk, rfl, rfl, hbk, hok⟩ := hrel
    by_cases hlt : k < b
    · have hal : Below wr.heap.size wr (wr.alloc (.cells (exCells exRead (.slice none 0 0)).toArray 31)) := (Below.refl _ _).alloc (Nat.le_refl _) _
      have HRN := Lib.hid (RowAt.new wr (exCells exRead (.slice none 0 0)) 31)
      have hok2 := hok.keep (w' := wr.alloc (.cells (exCells exRead (.slice none 0 0)).toArray 31)) (fun k hl _ => hal.block k hl)
      have HOK := Lib.hid hok2
      have HRO := Lib.hid hok2.1
      have HR1 : Hid ((wr.alloc (.cells (exCells exRead (.slice none 0 0)).toArray 31)).ownsRow W3.heap.size 31 5 (.slice va k vc) k (exFlat (List.replicate k (exRead, .slice none 0 0)))) := by
        have := HRO.out; rwa [List.length_replicate] at this
      have HBK := Lib.hid (hbk.trans (hal.mono hbk.size))
      have hsz : W3.heap.size ≤ wr.heap.size := hbk.size
      have hltI : (k : Int) < (b : Int) := by omega
      clear hok hbk hal hok2 HRO
      go_wp2_with (at_builtin; (refine wpList_append_lies (P := Tryz.prog) _ rfl _ _ 29 rfl W3.heap.size 31 i0 _ 5 64 Tryz.underlying29 HI0.out HZ0.out HZ1.out HZ2.out rfl (by decide) (.slice va k vc) k (exFlat (List.replicate k (exRead, .slice none 0 0))) rfl HR1.out ⟨wr.heap.size, 0, none⟩ 1 1 (exCells exRead (.slice none 0 0)) rfl rfl (news_at HRN.out) (ex_one exRead none 0 0) (by decide) (by unfold maxLen; omega) (by omega) (by simp; omega) _ rfl ?_; intro g cap w4 hown hgrow hat hlt4; have HB4 := Lib.hid (HBK.out.grown hgrow HBK.out.size (fun q e => (World.ownsRow.lt HR1.out q e).1)); have HO4 : Hid (ExsOwn w4 W3.heap.size (List.replicate (k + 1) (exRead, .slice none 0 0)) (.slice (some ⟨g, 0, none⟩) (k + 1) cap)) := (by have q := HOK.out.snoc exRead (.slice none 0 0) ExsAt.zero ⟨by decide, by decide⟩ (g := g) (cap := cap) (by rw [List.length_replicate]; exact hown) hgrow hat; rw [List.length_replicate, ← List.replicate_succ'] at q; exact q); clear hown hgrow hat hlt4 HRN HOK HR1 HBK))
      go_roundw
      case rel => exact ⟨k + 1, _, _, by omega, by go_num, rfl, HB4.out, HO4.out⟩
      case measure => simp [intOf]; omega
    · have hkb : b = k := by omega
      subst hkb
      have hrow := hok.1
      rw [List.length_replicate] at hrow
      obtain ⟨ga, ca, hva, hga, hga2⟩ := hrow.form (by omega)
      cases hva
      have hca : b ≤ vc := by
        rcases hrow.2 with ⟨h, _⟩ | ⟨g, cap, cur, he, _, _, hc, _⟩
        · cases h
        · cases he; exact hc
      have hex := hok.exs (show (List.replicate b (exRead, (.slice none 0 0 : Value))).length ≤ 140737488355328 by rw [List.length_replicate]; omega)
      rw [rep_map] at hex
      have HEX := Lib.hid hex.strong
      have HB4 := Lib.hid hbk
      have HPR4 := Lib.hid (HPR.out.old hbk)
      have HO84 := Lib.hid (HO8.out.old hbk)
      have hsz4 := hbk.size
      have hbI : (b : Int) < 60 := by omega
      have hbJ : (7 : Int) ≤ (b : Int) := by omega
      clear hrow hex hbk hok hga hga2 HPR HO8
      go_wp2_with fail
      have hbx : LTwo wr 0 (wr.alloc (.cells #[.int .i64 exRead.kind, .int .i64 exRead.op, .int .i64 exRead.n, .string (strOf exRead.name), .slice none 0 0] 31)) := ⟨(Below.refl _ _).alloc (Nat.le_refl _) _, .slice none 0 0, OwnAt.new wr (exCells exRead (.slice none 0 0)) 31, ExsAt.zero⟩
      have HBX := Lib.hid hbx
      clear hbx
      obtain ⟨W4, rfl⟩ : ∃ W4 : World, W4 = wr := ⟨_, rfl⟩
      go_loopw [13] (fun s13 w5 => ∃ k : Nat, k ≤ 34 + b ∧ s13 = .int .i64 k ∧ LTwo W4 k w5) (fun s13 _ => 34 + b - (intOf s13).toNat)
      case atStart => exact ⟨0, Nat.zero_le _, rfl, HBX.out⟩
      case round =>
        obtain ⟨k, hk, rfl, hbe, v, hov, hev⟩ := hrel
        obtain ⟨v1, v2, rfl⟩ := hev.shape
        have hlv := hov.lt
        by_cases hlt : k < 34 + b
        · have hltI : (k : Int) < 34 + (b : Int) := by omega
          have HST := Lib.hid (LTwo.step hbe hov hev)
          have y0 := hov.at 0 _ rfl
          have y1 := hov.at 1 _ rfl
          have y2 := hov.at 2 _ rfl
          have y3 := hov.at 3 _ rfl
          have y4 := hov.at 4 _ rfl
          have f0 := hov.fz 0
          have f1 := hov.fz 1
          have f2 := hov.fz 2
          have f3 := hov.fz 3
          have f4 := hov.fz 4
          clear hbe hov hev
          go_wp2_with fail
          go_roundw
          case rel => exact ⟨k + 1, by omega, by go_num, HST.out⟩
          case measure => simp [intOf]; omega
        · have hltI : (34 : Int) + (b : Int) ≤ (k : Int) := by omega
          have hkb : k = 34 + b := by omega
          have HKB := Lib.hid hkb
          have HOV := Lib.hid hov; have HEV := Lib.hid hev; have HBE := Lib.hid hbe
          clear hov hev hbe hkb
          go_upto_region 14 with (fail)
          obtain rfl := HKB.out
          have u0 := HOV.out.at 0 _ rfl
          have u1 := HOV.out.at 1 _ rfl
          have u2 := HOV.out.at 2 _ rfl
          have u3 := HOV.out.at 3 _ rfl
          have u4 := HOV.out.at 4 _ rfl
          have ul := HOV.out.lt
          have i2 : (1 : Int) ≤ (vc : Int) := by omega
          have i3 : (2 : Int) ≤ (vc : Int) := by omega
          have n2 : 2 ≤ vc := by omega
          have n1 : 1 ≤ vc := by omega
          have wr1 : IntKind.i64.wrap (-(b : Int)) = -(b : Int) := IntWalk.i64_in _ (by omega)
          have wr2 : IntKind.i64.wrap ((b : Int) + 1) = (b : Int) + 1 := IntWalk.i64_in _ (by omega)
          go_still_tail 21, (by kernel_rfl)
          go_wp2_with fail
          have hb5 : Below wr.heap.size wr (wr.alloc (.cells #[.int .i64 0, .int .i64 0, .int .i64 0, .string ⟨#[]⟩, .slice none 0 0, .int .i64 1, .int .i64 0, .int .i64 (-(b : Int)), .string ⟨#[]⟩, .slice none 0 0, .int .i64 2, .int .i64 0, .int .i64 0, .string ⟨#[]⟩, .slice none 0 0, .int .i64 2, .int .i64 0, .int .i64 0, .string ⟨#[105, 110, 116]⟩, .slice none 0 0, .int .i64 3, .int .i64 1, .int .i64 0, .string ⟨#[]⟩, .slice (some ⟨ga, 0, none⟩) 1 vc, .int .i64 4, .int .i64 17, .int .i64 0, .string ⟨#[]⟩, .slice (some ⟨ga, 0, none⟩) 2 vc, .int .i64 5, .int .i64 0, .int .i64 0, .string ⟨#[102]⟩, .slice (some ⟨ga, 0, none⟩) b vc, .int .i64 6, .int .i64 0, .int .i64 0, .string ⟨#[97]⟩, .slice none 0 0, .int .i64 7, .int .i64 0, .int .i64 (b : Int), .string ⟨#[]⟩, .slice none 0 0, Value.int IntKind.i64 (nest (34 + b)).kind, Value.int IntKind.i64 (nest (34 + b)).op, Value.int IntKind.i64 (nest (34 + b)).n, Value.string (strOf (nest (34 + b)).name), Value.slice v1 (nest (34 + b)).args.length v2, .int .i64 ((b : Int) + 1), .int .i64 0, .int .i64 0, .string ⟨#[]⟩, .slice none 0 0] 31)).drew := ((Below.refl _ _).alloc (Nat.le_refl _) _).drew
          have hrow5 : RowAt (wr.alloc (.cells #[.int .i64 0, .int .i64 0, .int .i64 0, .string ⟨#[]⟩, .slice none 0 0, .int .i64 1, .int .i64 0, .int .i64 (-(b : Int)), .string ⟨#[]⟩, .slice none 0 0, .int .i64 2, .int .i64 0, .int .i64 0, .string ⟨#[]⟩, .slice none 0 0, .int .i64 2, .int .i64 0, .int .i64 0, .string ⟨#[105, 110, 116]⟩, .slice none 0 0, .int .i64 3, .int .i64 1, .int .i64 0, .string ⟨#[]⟩, .slice (some ⟨ga, 0, none⟩) 1 vc, .int .i64 4, .int .i64 17, .int .i64 0, .string ⟨#[]⟩, .slice (some ⟨ga, 0, none⟩) 2 vc, .int .i64 5, .int .i64 0, .int .i64 0, .string ⟨#[102]⟩, .slice (some ⟨ga, 0, none⟩) b vc, .int .i64 6, .int .i64 0, .int .i64 0, .string ⟨#[97]⟩, .slice none 0 0, .int .i64 7, .int .i64 0, .int .i64 (b : Int), .string ⟨#[]⟩, .slice none 0 0, Value.int IntKind.i64 (nest (34 + b)).kind, Value.int IntKind.i64 (nest (34 + b)).op, Value.int IntKind.i64 (nest (34 + b)).n, Value.string (strOf (nest (34 + b)).name), Value.slice v1 (nest (34 + b)).args.length v2, .int .i64 ((b : Int) + 1), .int .i64 0, .int .i64 0, .string ⟨#[]⟩, .slice none 0 0] 31)).drew wr.heap.size 0 (badCells b ga vc (.int .i64 (nest (34 + b)).kind) (.int .i64 (nest (34 + b)).op) (.int .i64 (nest (34 + b)).n) (.string (strOf (nest (34 + b)).name)) (.slice v1 (nest (34 + b)).args.length v2)) := RowAt.new wr _ _
          clear u0 u1 u2 u3 u4 ul wr1 wr2
          generalize (wr.alloc (.cells #[.int .i64 0, .int .i64 0, .int .i64 0, .string ⟨#[]⟩, .slice none 0 0, .int .i64 1, .int .i64 0, .int .i64 (-(b : Int)), .string ⟨#[]⟩, .slice none 0 0, .int .i64 2, .int .i64 0, .int .i64 0, .string ⟨#[]⟩, .slice none 0 0, .int .i64 2, .int .i64 0, .int .i64 0, .string ⟨#[105, 110, 116]⟩, .slice none 0 0, .int .i64 3, .int .i64 1, .int .i64 0, .string ⟨#[]⟩, .slice (some ⟨ga, 0, none⟩) 1 vc, .int .i64 4, .int .i64 17, .int .i64 0, .string ⟨#[]⟩, .slice (some ⟨ga, 0, none⟩) 2 vc, .int .i64 5, .int .i64 0, .int .i64 0, .string ⟨#[102]⟩, .slice (some ⟨ga, 0, none⟩) b vc, .int .i64 6, .int .i64 0, .int .i64 0, .string ⟨#[97]⟩, .slice none 0 0, .int .i64 7, .int .i64 0, .int .i64 (b : Int), .string ⟨#[]⟩, .slice none 0 0, Value.int IntKind.i64 (nest (34 + b)).kind, Value.int IntKind.i64 (nest (34 + b)).op, Value.int IntKind.i64 (nest (34 + b)).n, Value.string (strOf (nest (34 + b)).name), Value.slice v1 (nest (34 + b)).args.length v2, .int .i64 ((b : Int) + 1), .int .i64 0, .int .i64 0, .string ⟨#[]⟩, .slice none 0 0] 31)).drew = w5 at *
          rw [← badV_flat] at hrow5
          have hz5 := hb5.size
          have hlv5 := HOV.out.lt
          have hexr := (((HEX.out.old HBE.out).old hb5).mono (D' := fun q => W3.heap.size ≤ q ∧ q < w5.heap.size) (fun q hq => ⟨hq.1, by have := hq.2; have := HBE.out.size; omega⟩))
          have hexn := ((HEV.out.strong.old hb5).mono (D' := fun q => W3.heap.size ≤ q ∧ q < w5.heap.size) (fun q hq => ⟨by have := hq.1; omega, by have := hq.2; omega⟩))
          obtain ⟨ex, xa, xn, xc, hget, hwrong, hexa, hexi⟩ := badV_get b ga vc hbb v1 (nest (34 + b)).args.length v2 hexr hexn (by rw [nest_n]; exact ⟨by decide, by decide⟩) j hjj
          have y0 := hrow5.at (j * 5 + 0) _ (exFlat_at _ j 0 _ hget (by decide))
          have y1 := hrow5.at (j * 5 + 1) _ (exFlat_at _ j 1 _ hget (by decide))
          have y2 := hrow5.at (j * 5 + 2) _ (exFlat_at _ j 2 _ hget (by decide))
          have y3 := hrow5.at (j * 5 + 3) _ (exFlat_at _ j 3 _ hget (by decide))
          have y4 := hrow5.at (j * 5 + 4) _ (exFlat_at _ j 4 _ hget (by decide))
          rw [Nat.add_zero] at y0
          have jI0 : (0 : Int) ≤ (j : Int) := by omega
          have jI1 : (j : Int) < 11 := by omega
          -- the box of the statement
          have hm1 := RowAt.new w5 (exCells ex (.slice xa xn xc)) 31
          have hal1 : Below w5.heap.size w5 (w5.alloc (.cells (exCells ex (.slice xa xn xc)).toArray 31)) := (Below.refl _ _).alloc (Nat.le_refl _) _
          have hal2 : Below w5.heap.size w5 ((w5.alloc (.cells (exCells ex (.slice xa xn xc)).toArray 31)).alloc (.cells (stCells (printBad ex) (.slice (some ⟨w5.heap.size, 0, none⟩) 1 1) (.slice none 0 0) (.slice none 0 0)).toArray 49)) := ((Below.refl _ _).alloc (Nat.le_refl _) _).alloc (by simp) _
          have halx := (Below.refl (w5.alloc (.cells (exCells ex (.slice xa xn xc)).toArray 31)).heap.size (w5.alloc (.cells (exCells ex (.slice xa xn xc)).toArray 31))).alloc (Nat.le_refl _) (.cells (stCells (printBad ex) (.slice (some ⟨w5.heap.size, 0, none⟩) 1 1) (.slice none 0 0) (.slice none 0 0)).toArray 49)
          have hbx := OwnAt.new (w5.alloc (.cells (exCells ex (.slice xa xn xc)).toArray 31)) (stCells (printBad ex) (.slice (some ⟨w5.heap.size, 0, none⟩) 1 1) (.slice none 0 0) (.slice none 0 0)) 49
          rw [show (w5.alloc (.cells (exCells ex (.slice xa xn xc)).toArray 31)).heap.size = w5.heap.size + 1 by simp] at hbx
          have hone := ExsAt.one (D := fun q => W3.heap.size ≤ q ∧ q < w5.heap.size + 1) ex _ (show W3.heap.size ≤ w5.heap.size ∧ w5.heap.size < w5.heap.size + 1 from ⟨by have := HBE.out.size; omega, by omega⟩) (hm1.below halx) ((hexa.old hal2).mono (fun q hq => ⟨hq.1, by have := hq.2; omega⟩)) hexi
          have HHR : Hid (ExsAt (fun q => W3.heap.size ≤ q ∧ q < w5.heap.size) ((w5.alloc (.cells #[.int .i64 ex.kind, .int .i64 ex.op, .int .i64 ex.n, .string (strOf ex.name), .slice xa xn xc] 31)).alloc (.cells #[.int .i64 8, .string ⟨#[]⟩, .slice (some ⟨w5.heap.size, 0, none⟩) 1 1, .slice none 0 0, .slice none 0 0] 49)) (reads b) (.slice (some ⟨ga, 0, none⟩) b vc)) := hexr.old hal2
          have HONE : Hid (ExsAt (fun q => W3.heap.size ≤ q ∧ q < w5.heap.size + 1) ((w5.alloc (.cells #[.int .i64 ex.kind, .int .i64 ex.op, .int .i64 ex.n, .string (strOf ex.name), .slice xa xn xc] 31)).alloc (.cells #[.int .i64 8, .string ⟨#[]⟩, .slice (some ⟨w5.heap.size, 0, none⟩) 1 1, .slice none 0 0, .slice none 0 0] 49)) [ex] (.slice (some ⟨w5.heap.size, 0, none⟩) 1 1)) := hone
          have HBX5 : Hid (OwnAt ((w5.alloc (.cells #[.int .i64 ex.kind, .int .i64 ex.op, .int .i64 ex.n, .string (strOf ex.name), .slice xa xn xc] 31)).alloc (.cells #[.int .i64 8, .string ⟨#[]⟩, .slice (some ⟨w5.heap.size, 0, none⟩) 1 1, .slice none 0 0, .slice none 0 0] 49)) (w5.heap.size + 1) (stCells (printBad ex) (.slice (some ⟨w5.heap.size, 0, none⟩) 1 1) (.slice none 0 0) (.slice none 0 0)) 49) := hbx
          have HAL2 : Hid (Below w5.heap.size w5 ((w5.alloc (.cells #[.int .i64 ex.kind, .int .i64 ex.op, .int .i64 ex.n, .string (strOf ex.name), .slice xa xn xc] 31)).alloc (.cells #[.int .i64 8, .string ⟨#[]⟩, .slice (some ⟨w5.heap.size, 0, none⟩) 1 1, .slice none 0 0, .slice none 0 0] 49))) := hal2
          have HB5 := Lib.hid hb5; have HWR := Lib.hid (printBad_wrong hwrong)
          have hz6 : w5.heap.size + 2 = ((w5.alloc (.cells #[.int .i64 ex.kind, .int .i64 ex.op, .int .i64 ex.n, .string (strOf ex.name), .slice xa xn xc] 31)).alloc (.cells #[.int .i64 8, .string ⟨#[]⟩, .slice (some ⟨w5.heap.size, 0, none⟩) 1 1, .slice none 0 0, .slice none 0 0] 49)).heap.size := by simp
          have HZ6 := Lib.hid hz6
          clear hm1 hal1 hal2 halx hbx hone hexr hexn hexa hexi hrow5 hb5 hwrong hget hz6
          refine (HPJ.out _).mono ?_
          rintro r w6 ⟨rfl, hw6⟩
          obtain rfl : w5 = w6 := hw6.symm
          go_wp2_with fail
          refine (HPI.out _).mono ?_
          rintro r w6 ⟨rfl, rfl⟩
          clear y0 y1 y2 y3 y4
          generalize hV : (w5.alloc (.cells #[.int .i64 ex.kind, .int .i64 ex.op, .int .i64 ex.n, .string (strOf ex.name), .slice xa xn xc] 31)).alloc (.cells #[.int .i64 8, .string ⟨#[]⟩, .slice (some ⟨w5.heap.size, 0, none⟩) 1 1, .slice none 0 0, .slice none 0 0] 49) = V at *
          clear hV
          have hVz : V.heap.size = w5.heap.size + 2 := HZ6.out.symm
          have HBV := Lib.hid (HB4.out.trans ((HBE.out.trans ((HB5.out.trans (HAL2.out.mono HB5.out.size)).mono HBE.out.size)).mono HB4.out.size))
          have HVZ := Lib.hid hVz
          clear hVz
          go_upto_if 77 with (fail)
          go_cut [] (fun wx => ∃ k nm us xa xn xc, stOk 40 (.mk k nm us [] []) = false ∧ OwnAt wx (w5.heap.size + 1) (stCells (.mk k nm us [] []) (.slice xa xn xc) (.slice none 0 0) (.slice none 0 0)) 49 ∧ ExsAt (fun q => W3.heap.size ≤ q ∧ q < w5.heap.size + 1) wx us (.slice xa xn xc) ∧ Below (w5.heap.size + 1) V wx)
          case first =>
            by_cases h12 : i ≤ 12
            · have hle : (i : Int) ≤ 12 := by omega
              go_wp2_with fail
              go_meet
              exact ⟨8, [], [ex], some ⟨w5.heap.size, 0, none⟩, 1, 1, HWR.out, HBX5.out, HONE.out, Below.refl _ _⟩
            · have hgt : (12 : Int) < (i : Int) := by omega
              obtain ⟨k, nm, us, ya, yn, yc, hget, hwrong, hexs⟩ := badStV_get b ga vc hbb HHR.out (i - 13) (by omega)
              have g := fun q (hq : q < 5) => stFlat_at (badStV b ga vc) (i - 13) q _ hget hq
              rw [badStV_flat] at g
              have hpk : pickOf which 17 = ((i - 13 : Nat) : Int) + 13 := by rw [HI17.out]; omega
              have HGX := Lib.hid (And.intro ((g 0 (by decide)).trans rfl) (And.intro ((g 1 (by decide)).trans rfl) (And.intro ((g 2 (by decide)).trans rfl) (And.intro ((g 3 (by decide)).trans rfl) ((g 4 (by decide)).trans rfl)))))
              have HHEX := Lib.hid hexs; have HWX := Lib.hid hwrong; have HPKK := Lib.hid hpk
              clear g hget hwrong hexs hpk
              go_upto_region 17 with (fail)
              refine wp_cut (fun a' w' => RW17 b ga vc (w5.heap.size + 1) (i - 13) which k (strOf nm) ya yn yc V _ _ _ _ _ _ _ _ _ _ _ _ _ _ _ _ _ _ _ _ _ _ _ _ _ _ _ _ _ _ _ _ _ _ _ _ _ _ _ _ _ _ _ _ _ _ _ _ _ _ _ _ _ _ _ _ _ _ _ _ _ _ _ _ _ _ _ _ _ _ _ _ _ _ _ _ _ _ _ _ _ _ _ _ _ _ _ _ _ _ _ _ _ _ _ _ _ _ _ _ _ _ _ _ _ _ _ _ _ _ _ _ _ a' w') ?rest17 (fun J K' hJ hM => then_any (reg_W17 b ga vc (w5.heap.size + 1) (i - 13) which k (strOf nm) ya yn yc V hbb hca _ _ _ _ _ HBX5.out (by omega) HW.out HPKK.out HGX.out _ _ _ _ _ _ _ _ _ _ _ _ _ _ _ _ _ _ _ _ _ _ _ _ _ _ _ _ _ _ _ _ _ _ _ _ _ _ _ _ _ _ _ _ _ _ _ _ _ _ _ _ _ _ _ _ _ _ _ _ _ _ _ _ _ _ _ _ _ _ _ _ _ _ _ _ _ _ _ _ _ _ _ _ _ _ _ _ _ _ _ _ _ _ _ _ _ _ _ _ _ _ _ _ _ _ _ _ _ _ _ _ _ _ _ _ _ _ _ _ _ _ _ _ _ _ _ J K' hJ hM))
              case rest17 =>
              intro a' w7 hT
              obtain ⟨nb2, ⟨w8, hb8, hw8⟩, ha'⟩ := hT
              subst ha'
              subst hw8
              go_wp2_with fail
              go_meet
              have hz8 := hb8.size
              have kp : ∀ (v : World) (q : Nat) (x : Value), Keeps (fun z => W3.heap.size ≤ z ∧ z < w5.heap.size) v (v.setCell ⟨w5.heap.size + 1, q, none⟩ x) := fun v q x => keeps_set v (fun h => by have := h.2; omega) q x
              have st : ∀ (v : World) (q : Nat) (x : Value), Below (w5.heap.size + 1) v (v.setCell ⟨w5.heap.size + 1, q, none⟩ x) := fun v q x => (Below.refl _ _).setCell (p := ⟨w5.heap.size + 1, q, none⟩) (Nat.le_refl _) x
              exact ⟨k, nm, us, ya, yn, yc, HWX.out, (((((HBX5.out.old hb8).set 0 (.int .i64 k)).set 1 (.string (strOf nm))).set 2 (.slice ya yn yc)).set 3 (.slice none 0 0)).set 4 (.slice none 0 0), ((((((HHEX.out.old hb8).keep (kp _ _ _)).keep (kp _ _ _)).keep (kp _ _ _)).keep (kp _ _ _)).keep (kp _ _ _)).mono (fun q hq => ⟨hq.1, by have := hq.2; omega⟩), (((((hb8.mono (by have := HVZ.out; omega)).trans (st _ _ _)).trans (st _ _ _)).trans (st _ _ _)).trans (st _ _ _)).trans (st _ _ _)⟩
          case rest =>
          obtain ⟨k, nm, us, xa, xn, xc, hbad, ho15, hex, hbV⟩ := hcut
          have hz5w : W3.heap.size ≤ w5.heap.size := by have := HBE.out.size; have := HB5.out.size; omega
          have hgl : w2.heap.size < w5.heap.size + 1 := by have := HZ3.out; omega
          have hoc := (((HO84.out.old HBE.out).old HB5.out).old HAL2.out).low (hbV.block _ hgl)
          have hpc := (((HPR4.out.old HBE.out).old HB5.out).old HAL2.out).keep (w' := wc) (fun q hq _ => hbV.block q (by omega)) hbV.size
          have HBWC := Lib.hid ((HB3.out.trans (HBV.out.mono HB3.out.size)).trans (hbV.mono (by have := HB3.out.size; omega)))
          have hwcz : w5.heap.size + 1 < wc.heap.size := ho15.lt
          have x0 := hoc.at 0 _ rfl
          have x1 := hoc.at 1 _ rfl
          have hol := hoc.lt
          have HOC := Lib.hid hoc; have HPC := Lib.hid hpc; have HEC := Lib.hid hex; have HO15 := Lib.hid ho15; have HBAD := Lib.hid hbad
          have dI : (1 : Int) ≤ (ds.length : Int) := by have := HDL.out; omega
          have dJ : (ds.length : Int) ≤ 3 := by omega
          clear hoc hpc hex ho15 hbad hbV HO84 HPR4 HOV HEV HBE HB5 HAL2 HBX5 HONE HHR HWR HEX HBV HB4 HB3 HBX HPJ HPI
          go_upto_region 19 with (fail)
          rw [show ((ds.length : Int) - 1) = ((ds.length - 1 : Nat) : Int) from by omega]
          obtain ⟨d, hd⟩ : ∃ d, ds[ds.length - 1]? = some d := ⟨_, List.getElem?_eq_getElem (by have := HDL.out; omega)⟩
          obtain ⟨k1, k2, ls, hls, hl4, hown⟩ := HPC.out.lt d (List.mem_of_getElem? hd)
          obtain ⟨ba, bc, hbv⟩ := hown.shape
          have hcell := row_cells HPC.out.own ((ds.length - 1) * 4 + 3) d.b (by rw [flat_at fvCells 4 (fun _ => rfl) ds _ 3 d hd (by decide)]; rfl)
          rw [Nat.zero_add] at hcell
          have hfz := World.ownsRow.frozenAt HPC.out.own ((ds.length - 1) * 4 + 3)
          have hnl : ds.length - 1 < ds.length := by have := HDL.out; omega
          refine wp_cut (fun a' w' => RW19 w2.heap.size (w5.heap.size + 1) gf ds.length cf (ds.length - 1) (.slice a1 p.arrays.length a2) d.b (.int .i64 k) (.string (strOf nm)) (.slice xa xn xc) (.slice none 0 0) (.slice none 0 0) ls wc _ _ _ _ _ _ _ _ _ _ _ _ _ _ _ _ _ _ _ _ _ _ _ _ _ _ _ _ _ _ _ _ _ _ _ _ _ _ _ _ _ _ _ _ _ _ _ _ _ _ _ _ _ _ _ _ _ _ _ _ _ _ _ _ _ _ _ _ _ _ _ _ _ _ _ _ _ _ _ _ _ _ _ _ _ _ _ _ _ _ _ _ _ _ _ _ _ _ _ _ _ _ _ _ _ _ _ _ _ _ _ _ a' w') ?rest19 (fun J K' hJ hM => then_any (reg_W19 w2.heap.size (w5.heap.size + 1) gf ds.length cf (ds.length - 1) (.slice a1 p.arrays.length a2) d.b (.int .i64 k) (.string (strOf nm)) (.slice xa xn xc) (.slice none 0 0) (.slice none 0 0) ls wc HOC.out HO15.out hnl hd3 hcell hfz _ hown hl4 (st_one (.mk k nm us [] []) xa none none xn 0 0 xc 0 0) _ _ _ _ _ _ _ _ _ _ _ _ _ _ _ _ _ _ _ _ _ _ _ _ _ _ _ _ _ _ _ _ _ _ _ _ _ _ _ _ _ _ _ _ _ _ _ _ _ _ _ _ _ _ _ _ _ _ _ _ _ _ _ _ _ _ _ _ _ _ _ _ _ _ _ _ _ _ _ _ _ _ _ _ _ _ _ _ _ _ _ _ _ _ _ _ _ _ _ _ _ _ _ _ _ _ _ _ _ _ _ _ _ _ _ _ _ _ _ _ _ _ _ _ _ _ _ J K' hJ hM))
          case rest19 =>
          intro a' w9 hT
          obtain ⟨v9, nb3, gn, cn, ⟨⟨w10, hb10, hw10⟩, hrow⟩, ha'⟩ := hT
          subst ha'
          have hgf := HPC.out.row gf rfl
          have hwcz' := hb10.size
          have hsts := sts_more (w := wc) (w' := w9) (k := k) (nm := nm) (us := us) (a := .slice xa xn xc) hown hl4 (fun q hq hD => by rw [hw10]; exact (Below.heap_setCell _ _ _ _ (by show q ≠ gf; intro e; subst e; exact hD.2 rfl)).trans (hb10.block q hq)) hrow (by rw [hw10]; exact ((HEC.out.old hb10).keep (keeps_set w10 (fun h => by have := h.1; have := HZ3.out; omega) _ _)).mono (fun q hq => by have := hq.2; omega))
          rw [hls] at hsts
          rw [hw10] at hsts
          have hfus := prog_with HPC.out hb10 hd (.mk k nm us [] []) _ hsts
          have hlen : p.funcs.length = ds.length := by rw [← HDS.out, List.length_map]
          rw [map_last ds p.funcs HDS.out (ds.length - 1) (by rw [hlen]) d hd] at hfus
          rw [← hw10] at hfus
          have hars : ArsAt (fun _ => True) w9 p.arrays (.slice a1 p.arrays.length a2) := by
            rw [hw10]; exact ((HPC.out.ars.old hb10).slot (by rw [hbv] at hcell; exact below_keeps hb10 hcell) _).mono (fun _ _ => trivial)
          have hright : rightPr ⟨p.arrays, lastWith p.funcs (.mk k nm us [] [])⟩ = false := lastWith_wrong _ _ _ (by rw [hlen]; exact HDL.out) HBAD.out
          have hob : OwnAt w9 w2.heap.size [.slice a1 p.arrays.length a2, .slice (some ⟨gf, 0, none⟩) ds.length cf] 27 := by rw [hw10]; exact (HOC.out.old hb10).other (by omega) _ _
          have hbel : Below w.heap.size w w9 := by rw [hw10]; exact (HBWC.out.trans (hb10.mono HBWC.out.size)).setCell (by show w.heap.size ≤ gf; exact hgw) _
          have HARS := Lib.hid hars; have HFUS := Lib.hid hfus; have HRI := Lib.hid hright; have HOB := Lib.hid hob; have HBEL := Lib.hid hbel
          clear hars hfus hright hob hbel hsts hrow hb10 hw10 hcell hfz hown hls k1 k2 hd hbv HOC HPC HEC HO15 HBAD HBWC x0 x1 hol
          have x0 := HOB.out.at 0 _ rfl
          have x1 := HOB.out.at 1 _ rfl
          have xl := HOB.out.lt
          go_wp2_with fail
          refine (print_bad ⟨p.arrays, lastWith p.funcs (.mk k nm us [] [])⟩ (fun _ => True) _ _ w9 HARS.out HFUS.out HRI.out).mono ?_
          rintro r w11 ⟨rfl, hb11⟩
          have HB11 := Lib.hid hb11
          have HO11 := Lib.hid (HOB.out.old hb11)
          clear hb11 x0 x1 xl
          have x0 := HO11.out.at 0 _ rfl
          have x1 := HO11.out.at 1 _ rfl
          have xl := HO11.out.lt
          go_wp2_with fail
          refine (right_any ⟨p.arrays, lastWith p.funcs (.mk k nm us [] [])⟩ (fun _ => True) _ _ w11 (HARS.out.old HB11.out) (FusAt.old HB11.out HFUS.out)).mono ?_
          rw [HRI.out]
          rintro r w12 ⟨rfl, hb12⟩
          have HB12 := Lib.hid (HB11.out.trans (hb12.mono HB11.out.size))
          clear hb12
          go_wp2_with fail
          go_ret
          exact ⟨rfl, HBEL.out.trans (HB12.out.mono HBEL.out.size)⟩
end Go.Proofs.YtgmaeflfiooigaaGreatDoor
