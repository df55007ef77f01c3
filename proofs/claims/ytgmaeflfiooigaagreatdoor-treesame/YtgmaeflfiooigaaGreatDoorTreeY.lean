/-
  Prog: what holds while it runs. No condition.
  Prog: a round of the loop that makes arrays. Conditions: as what holds says.
  Prog: the loop that makes arrays. Conditions: as what holds says.
  Prog: the loop that makes functions' heads. Conditions: as what holds says.
  Prog: the loop that makes functions' heads, whole. Conditions: as what holds says.
-/
import Derived.Test.YtgmaeflfiooigaaGreatDoorTreeX
import Derived.Deep.CutRange
set_option linter.unusedVariables false
set_option linter.unusedSimpArgs false
namespace Go.Proofs.YtgmaeflfiooigaaGreatDoor
open Go.RowKit
set_option maxHeartbeats 8000000
set_option maxRecDepth 100000

/-- The blocks of Prog's variables: the result, the source, the scope, the program. -/
structure PInv (w : World) (raw : List Int) (a : Nat) (free : Bool) (ca cf pa pf : Value) (wr : World) : Prop where
  bel : Below w.heap.size w wr
  src : SrcAt wr (w.heap.size + 1) raw a
  res : OwnAt wr w.heap.size [.slice none 0 0, .slice none 0 0] 27
  scp : OwnAt wr (w.heap.size + 2) [.slice none 0 0, ca, cf, .bool free, .bool false] 69
  prg : OwnAt wr (w.heap.size + 3) [pa, pf] 27
theorem PInv.lt {w : World} {raw : List Int} {a : Nat} {free : Bool} {ca cf pa pf : Value} {wr : World} (h : PInv w raw a free ca cf pa pf wr) : w.heap.size + 3 < wr.heap.size := h.prg.lt
theorem PInv.sfr {w : World} {raw : List Int} {a a' : Nat} {free : Bool} {ca cf pa pf : Value} {wr w' : World} (h : PInv w raw a free ca cf pa pf wr) (hs : SrcAt w' (w.heap.size + 1) raw a') (hf : SFr (w.heap.size + 1) wr w') : PInv w raw a' free ca cf pa pf w' :=
  ⟨h.bel.trans ((hf.below (by have := h.lt; omega)).mono (by omega)), hs, h.res.sfr hf (by omega), h.scp.sfr hf (by omega), h.prg.sfr hf (by omega)⟩
theorem PInv.old {w : World} {raw : List Int} {a : Nat} {free : Bool} {ca cf pa pf : Value} {wr w' : World} (h : PInv w raw a free ca cf pa pf wr) (hb : Below wr.heap.size wr w') : PInv w raw a free ca cf pa pf w' := h.sfr (h.src.old hb) (SFr.of_below hb)
theorem PInv.grow {w : World} {raw : List Int} {a : Nat} {free : Bool} {ca cf pa pf : Value} {wr w' : World} (h : PInv w raw a free ca cf pa pf wr) {row : Option Nat} (hg : wr.grownBy w' row) (hr : ∀ k, row = some k → w.heap.size + 4 ≤ k) : PInv w raw a free ca cf pa pf w' := by
  have hl := h.lt
  have low : ∀ k, k ≤ w.heap.size + 3 → w'.heap[k]? = wr.heap[k]? := fun k hk => hg.block k (by omega) (fun e => by have := hr k e.symm; omega)
  refine ⟨⟨hg.os.trans h.bel.os, hg.tape.trans h.bel.tape, hg.output.trans h.bel.output, Nat.le_trans h.bel.size hg.size, fun k hk => (low k (by omega)).trans (h.bel.block k hk)⟩, h.src.low (fun k hk => low k (by omega)), h.res.low (low _ (by omega)), h.scp.low (low _ (by omega)), h.prg.low (low _ (by omega))⟩
theorem PInv.sfrN {w : World} {raw : List Int} {a : Nat} {free : Bool} {ca cf pa pf : Value} {wr w' : World} (h : PInv w raw a free ca cf pa pf wr) {n : Nat} (hf : SFr n wr w') (hn : w.heap.size + 4 ≤ n) : PInv w raw a free ca cf pa pf w' := by
  have hl := h.lt
  have low : ∀ k, k ≤ w.heap.size + 3 → w'.heap[k]? = wr.heap[k]? := fun k hk => hf.block k (by omega) (by omega)
  refine ⟨⟨hf.os.trans h.bel.os, hf.tape.trans h.bel.tape, hf.output.trans h.bel.output, Nat.le_trans h.bel.size hf.size, fun k hk => (low k (by omega)).trans (h.bel.block k hk)⟩, h.src.low (fun k hk => low k (by omega)), h.res.low (low _ (by omega)), h.scp.low (low _ (by omega)), h.prg.low (low _ (by omega))⟩
/-- A store in another block. -/
theorem PInv.other {w : World} {raw : List Int} {a : Nat} {free : Bool} {ca cf pa pf : Value} {wr : World} (h : PInv w raw a free ca cf pa pf wr) {k : Nat} (hk : w.heap.size + 4 ≤ k) (i : Nat) (v : Value) : PInv w raw a free ca cf pa pf (wr.setCell ⟨k, i, none⟩ v) :=
  ⟨h.bel.trans ((Below.refl _ _).setCell (by show w.heap.size ≤ k; omega) _), h.src.other (by omega) i v, h.res.other (by omega) i v, h.scp.other (by omega) i v, h.prg.other (by omega) i v⟩
theorem PInv.setP {w : World} {raw : List Int} {a : Nat} {free : Bool} {ca cf pa pf : Value} {wr : World} (h : PInv w raw a free ca cf pa pf wr) (v : Value) : PInv w raw a free ca cf v pf (wr.setCell ⟨w.heap.size + 3, 0, none⟩ v) :=
  ⟨h.bel.trans ((Below.refl _ _).setCell (by show w.heap.size ≤ w.heap.size + 3; omega) _), h.src.other (by omega) 0 v, h.res.other (by omega) 0 v, h.scp.other (by omega) 0 v, h.prg.set 0 v⟩
theorem PInv.setPf {w : World} {raw : List Int} {a : Nat} {free : Bool} {ca cf pa pf : Value} {wr : World} (h : PInv w raw a free ca cf pa pf wr) (v : Value) : PInv w raw a free ca cf pa v (wr.setCell ⟨w.heap.size + 3, 1, none⟩ v) :=
  ⟨h.bel.trans ((Below.refl _ _).setCell (by show w.heap.size ≤ w.heap.size + 3; omega) _), h.src.other (by omega) 1 v, h.res.other (by omega) 1 v, h.scp.other (by omega) 1 v, h.prg.set 1 v⟩
theorem PInv.setC {w : World} {raw : List Int} {a : Nat} {free : Bool} {ca cf pa pf : Value} {wr : World} (h : PInv w raw a free ca cf pa pf wr) (v : Value) : PInv w raw a free v cf pa pf (wr.setCell ⟨w.heap.size + 2, 1, none⟩ v) :=
  ⟨h.bel.trans ((Below.refl _ _).setCell (by show w.heap.size ≤ w.heap.size + 2; omega) _), h.src.other (by omega) 1 v, h.res.other (by omega) 1 v, h.scp.set 1 v, h.prg.other (by omega) 1 v⟩
theorem PInv.setCf {w : World} {raw : List Int} {a : Nat} {free : Bool} {ca cf pa pf : Value} {wr : World} (h : PInv w raw a free ca cf pa pf wr) (v : Value) : PInv w raw a free ca v pa pf (wr.setCell ⟨w.heap.size + 2, 2, none⟩ v) :=
  ⟨h.bel.trans ((Below.refl _ _).setCell (by show w.heap.size ≤ w.heap.size + 2; omega) _), h.src.other (by omega) 2 v, h.res.other (by omega) 2 v, h.scp.set 2 v, h.prg.other (by omega) 2 v⟩
noncomputable def pgBody (n : Nat) : Code := match (Tryz.f13.body.bind (partOf (isBlock n))) with
  | some (.block _ (.loop c)) => c
  | _ => .skip
/-- The frame, one slot known. -/
def PG8 (w : World) (rv : Value) (free : Bool) (x : Value) (X : World → Prop) (a' : Act) (w' : World) : Prop := ∃ q2 q3 q9 q10 q11 q12 q13 q14 q15 q16 q17 q18 q19 q20 q21 q22 q23 q24 q25 q26 q27 q28 q29 q30 q31 q32 q33 q34 q35 q36 q37 q38 q39 q40 q41 q42 q43 q44 q45 q46 q47 q48 q49 q50 q51 q52 q53 q54 q55 q56 q57 q58 q59 q60 q61 q62 q63 q64 q65 q66 q67 q68 q69 q70 q71 q72 q73 q74 q75 q76 q77 q78 q79 q80 q81 q82 q83 q84 q85 q86 q87 q88 q89 q90 q91 q92 q93 q94 q95 q96 q97 q98 q99 q100 q101 q102 q103 q104 q105 q106 q107 q108 q109 q110 q111 q112 q113 q114 q115 q116 q117 q118 q119 : Value, X w' ∧ a' = ⟨[rv, .bool free, q2, q3, .pointer (some ⟨w.heap.size, 0, none⟩), .pointer (some ⟨w.heap.size + 1, 0, none⟩), .pointer (some ⟨w.heap.size + 2, 0, none⟩), .pointer (some ⟨w.heap.size + 3, 0, none⟩), x, q9, q10, q11, q12, q13, q14, q15, q16, q17, q18, q19, q20, q21, q22, q23, q24, q25, q26, q27, q28, q29, q30, q31, q32, q33, q34, q35, q36, q37, q38, q39, q40, q41, q42, q43, q44, q45, q46, q47, q48, q49, q50, q51, q52, q53, q54, q55, q56, q57, q58, q59, q60, q61, q62, q63, q64, q65, q66, q67, q68, q69, q70, q71, q72, q73, q74, q75, q76, q77, q78, q79, q80, q81, q82, q83, q84, q85, q86, q87, q88, q89, q90, q91, q92, q93, q94, q95, q96, q97, q98, q99, q100, q101, q102, q103, q104, q105, q106, q107, q108, q109, q110, q111, q112, q113, q114, q115, q116, q117, q118, q119].toArray, []⟩
def PG10 (w : World) (rv : Value) (free : Bool) (x : Value) (X : World → Prop) (a' : Act) (w' : World) : Prop := ∃ q2 q3 q8 q9 q11 q12 q13 q14 q15 q16 q17 q18 q19 q20 q21 q22 q23 q24 q25 q26 q27 q28 q29 q30 q31 q32 q33 q34 q35 q36 q37 q38 q39 q40 q41 q42 q43 q44 q45 q46 q47 q48 q49 q50 q51 q52 q53 q54 q55 q56 q57 q58 q59 q60 q61 q62 q63 q64 q65 q66 q67 q68 q69 q70 q71 q72 q73 q74 q75 q76 q77 q78 q79 q80 q81 q82 q83 q84 q85 q86 q87 q88 q89 q90 q91 q92 q93 q94 q95 q96 q97 q98 q99 q100 q101 q102 q103 q104 q105 q106 q107 q108 q109 q110 q111 q112 q113 q114 q115 q116 q117 q118 q119 : Value, X w' ∧ a' = ⟨[rv, .bool free, q2, q3, .pointer (some ⟨w.heap.size, 0, none⟩), .pointer (some ⟨w.heap.size + 1, 0, none⟩), .pointer (some ⟨w.heap.size + 2, 0, none⟩), .pointer (some ⟨w.heap.size + 3, 0, none⟩), q8, q9, x, q11, q12, q13, q14, q15, q16, q17, q18, q19, q20, q21, q22, q23, q24, q25, q26, q27, q28, q29, q30, q31, q32, q33, q34, q35, q36, q37, q38, q39, q40, q41, q42, q43, q44, q45, q46, q47, q48, q49, q50, q51, q52, q53, q54, q55, q56, q57, q58, q59, q60, q61, q62, q63, q64, q65, q66, q67, q68, q69, q70, q71, q72, q73, q74, q75, q76, q77, q78, q79, q80, q81, q82, q83, q84, q85, q86, q87, q88, q89, q90, q91, q92, q93, q94, q95, q96, q97, q98, q99, q100, q101, q102, q103, q104, q105, q106, q107, q108, q109, q110, q111, q112, q113, q114, q115, q116, q117, q118, q119].toArray, []⟩
def PG12 (w : World) (rv : Value) (free : Bool) (x : Value) (X : World → Prop) (a' : Act) (w' : World) : Prop := ∃ q2 q3 q8 q9 q10 q11 q13 q14 q15 q16 q17 q18 q19 q20 q21 q22 q23 q24 q25 q26 q27 q28 q29 q30 q31 q32 q33 q34 q35 q36 q37 q38 q39 q40 q41 q42 q43 q44 q45 q46 q47 q48 q49 q50 q51 q52 q53 q54 q55 q56 q57 q58 q59 q60 q61 q62 q63 q64 q65 q66 q67 q68 q69 q70 q71 q72 q73 q74 q75 q76 q77 q78 q79 q80 q81 q82 q83 q84 q85 q86 q87 q88 q89 q90 q91 q92 q93 q94 q95 q96 q97 q98 q99 q100 q101 q102 q103 q104 q105 q106 q107 q108 q109 q110 q111 q112 q113 q114 q115 q116 q117 q118 q119 : Value, X w' ∧ a' = ⟨[rv, .bool free, q2, q3, .pointer (some ⟨w.heap.size, 0, none⟩), .pointer (some ⟨w.heap.size + 1, 0, none⟩), .pointer (some ⟨w.heap.size + 2, 0, none⟩), .pointer (some ⟨w.heap.size + 3, 0, none⟩), q8, q9, q10, q11, x, q13, q14, q15, q16, q17, q18, q19, q20, q21, q22, q23, q24, q25, q26, q27, q28, q29, q30, q31, q32, q33, q34, q35, q36, q37, q38, q39, q40, q41, q42, q43, q44, q45, q46, q47, q48, q49, q50, q51, q52, q53, q54, q55, q56, q57, q58, q59, q60, q61, q62, q63, q64, q65, q66, q67, q68, q69, q70, q71, q72, q73, q74, q75, q76, q77, q78, q79, q80, q81, q82, q83, q84, q85, q86, q87, q88, q89, q90, q91, q92, q93, q94, q95, q96, q97, q98, q99, q100, q101, q102, q103, q104, q105, q106, q107, q108, q109, q110, q111, q112, q113, q114, q115, q116, q117, q118, q119].toArray, []⟩
end Go.Proofs.YtgmaeflfiooigaaGreatDoor

namespace Go.Proofs.YtgmaeflfiooigaaGreatDoor
open Go.RowKit
set_option maxHeartbeats 8000000
set_option maxRecDepth 100000

theorem pg_round0 (w wr : World) (rv : Value) (free : Bool) (raw : List Int) (a i : Nat) (hi : 1 ≤ i ∧ i ≤ 2) (l : List Ar) (pa : Value) (hP : PInv w raw a free (.slice none 0 0) (.slice none 0 0) pa (.slice none 0 0) wr) (hA : ArsOwn wr (w.heap.size + 4) l pa) (hl : l.length ≤ 2) (q2 q3 q9 q10 q11 q12 q13 q14 q15 q16 q17 q18 q19 q20 q21 q22 q23 q24 q25 q26 q27 q28 q29 q30 q31 q32 q33 q34 q35 q36 q37 q38 q39 q40 q41 q42 q43 q44 q45 q46 q47 q48 q49 q50 q51 q52 q53 q54 q55 q56 q57 q58 q59 q60 q61 q62 q63 q64 q65 q66 q67 q68 q69 q70 q71 q72 q73 q74 q75 q76 q77 q78 q79 q80 q81 q82 q83 q84 q85 q86 q87 q88 q89 q90 q91 q92 q93 q94 q95 q96 q97 q98 q99 q100 q101 q102 q103 q104 q105 q106 q107 q108 q109 q110 q111 q112 q113 q114 q115 q116 q117 q118 q119 : Value) (J K' : Act → World → Prop)
    (hJ : ∀ a' w', PG8 w rv free (.int .i64 ((i : Int) - 1)) (fun w' => ∃ pa', PInv w raw (gArr free raw i a).2 free (.slice none 0 0) (.slice none 0 0) pa' (.slice none 0 0) w' ∧ ArsOwn w' (w.heap.size + 4) (l ++ [(gArr free raw i a).1]) pa') a' w' → J a' w') (hM : ∀ a' w', Met J a' w' → K' a' w') :
    Code.wp Tryz.prog (pgBody 0) (Exit.then K' (fun _ _ _ => False)) ⟨[rv, .bool free, q2, q3, .pointer (some ⟨w.heap.size, 0, none⟩), .pointer (some ⟨w.heap.size + 1, 0, none⟩), .pointer (some ⟨w.heap.size + 2, 0, none⟩), .pointer (some ⟨w.heap.size + 3, 0, none⟩), .int .i64 (i : Int), q9, q10, q11, q12, q13, q14, q15, q16, q17, q18, q19, q20, q21, q22, q23, q24, q25, q26, q27, q28, q29, q30, q31, q32, q33, q34, q35, q36, q37, q38, q39, q40, q41, q42, q43, q44, q45, q46, q47, q48, q49, q50, q51, q52, q53, q54, q55, q56, q57, q58, q59, q60, q61, q62, q63, q64, q65, q66, q67, q68, q69, q70, q71, q72, q73, q74, q75, q76, q77, q78, q79, q80, q81, q82, q83, q84, q85, q86, q87, q88, q89, q90, q91, q92, q93, q94, q95, q96, q97, q98, q99, q100, q101, q102, q103, q104, q105, q106, q107, q108, q109, q110, q111, q112, q113, q114, q115, q116, q117, q118, q119].toArray, []⟩ wr := by
  obtain ⟨oa, oc, rfl⟩ := hA.shape
  have HL := Lib.hid hl
  have HOB : Hid (∀ k, (Value.slice oa l.length oc).ownBlock = some k → k < wr.heap.size) := fun k e => (hA.ge e).2
  obtain ⟨i0, hi0, hz0, hz1, hz2⟩ := info_parts infoAr
  have HI0 := Lib.hid hi0; have HZ0 := Lib.hid hz0; have HZ1 := Lib.hid hz1; have HZ2 := Lib.hid hz2
  have hgpos : (0 : Int) < (i : Int) := by omega
  clear hi0 hz0 hz1 hz2 hl
  conv => arg 2; whnf
  go_upto_region 9 with (fail)
  refine wp_cut (fun a' w' => R9 (w.heap.size + 1) i a raw wr _ _ _ _ _ _ _ _ _ _ _ _ _ _ _ _ _ _ _ _ _ _ _ _ _ _ _ _ _ _ _ _ _ _ _ _ _ _ _ _ _ _ _ _ _ _ _ _ _ _ _ _ _ _ _ _ _ _ _ _ _ _ _ _ _ _ _ _ _ _ _ _ _ _ _ _ _ _ _ _ _ _ _ _ _ _ _ _ _ _ _ _ _ _ _ _ _ _ _ _ _ _ _ _ _ _ _ a' w') ?rest (fun J K' hJ hM => then_any (pg_reg9 (w.heap.size + 1) i a raw wr hP.src hi _ _ _ _ _ _ _ _ _ _ _ _ _ _ _ _ _ _ _ _ _ _ _ _ _ _ _ _ _ _ _ _ _ _ _ _ _ _ _ _ _ _ _ _ _ _ _ _ _ _ _ _ _ _ _ _ _ _ _ _ _ _ _ _ _ _ _ _ _ _ _ _ _ _ _ _ _ _ _ _ _ _ _ _ _ _ _ _ _ _ _ _ _ _ _ _ _ _ _ _ _ _ _ _ _ _ _ _ _ _ _ _ _ _ _ _ _ _ J K' hJ hM))
  case rest =>
  intro a' wx hT
  obtain ⟨z9, hT⟩ := hT
  obtain ⟨z34, hT⟩ := hT
  obtain ⟨z35, hT⟩ := hT
  obtain ⟨z36, hT⟩ := hT
  obtain ⟨z37, hT⟩ := hT
  obtain ⟨z38, hT⟩ := hT
  obtain ⟨z39, hT⟩ := hT
  obtain ⟨z40, hT⟩ := hT
  obtain ⟨z41, hT⟩ := hT
  obtain ⟨z42, hT⟩ := hT
  obtain ⟨z43, hT⟩ := hT
  obtain ⟨⟨b, e1, hb, ho, hs, hf⟩, ha'⟩ := hT
  subst ha'
  subst e1
  have hp := hP.sfr hs hf
  have ha := hA.keep (BKeeps.sfr hf (fun b hb => by have : w.heap.size + 4 ≤ b := hb; omega))
  have hbb : w.heap.size + 4 ≤ b := by have := hP.lt; omega
  clear hP hA hs hf
  cases free
  · have E : gArr false raw i a = (⟨aNames.getD i [], aSizes.getD (gNext raw a 4).1.toNat 0⟩, (gNext raw a 4).2) := rfl
    rw [E] at hJ
    clear E
    generalize aNames.getD i [] = nm at *
    generalize aSizes.getD (gNext raw a 4).1.toNat 0 = sz at *
    have HP := Lib.hid hp; have HA := Lib.hid ha; have HB := Lib.hid ho
    clear hp ha ho
    have hb10 : Below wx.heap.size wx (wx.alloc (.cells #[.string (strOf nm), .int .i64 sz] 73)) := (Below.refl _ _).alloc (Nat.le_refl _) _
    have HP10 := Lib.hid (HP.out.old hb10); have HA10 := Lib.hid (HA.out.keep (BKeeps.below hb10)); have HN10 := Lib.hid (RowAt.new wx (arCells ⟨nm, sz⟩) 73)
    clear hb10
    have p0 := HP.out.prg.at 0 _ rfl
    have p1 := HP.out.prg.at 1 _ rfl
    have b0 := HB.out.at 0 _ rfl
    have b1 := HB.out.at 1 _ rfl
    have hPl := HP.out.lt
    have hBl := HB.out.lt
    go_wp2_with (at_builtin; (refine wpList_append_lies (P := Tryz.prog) _ rfl _ _ 24 rfl (w.heap.size + 4) 73 i0 _ 2 24 Tryz.underlying24 HI0.out HZ0.out HZ1.out HZ2.out rfl (by decide) (.slice oa l.length oc) l.length (l.flatMap arCells) rfl HA10.out ⟨wx.heap.size, 0, none⟩ 1 1 (arCells ⟨nm, sz⟩) rfl rfl (news_at HN10.out) (arCells_one _) (by decide) (by have := HL.out; unfold maxLen; omega) (by have := HL.out; omega) (by have := HP10.out.lt; omega) _ rfl ?_; intro g cap w11 hown hgrow hat hlt11; have hp11 := HP10.out.grow hgrow (fun k e => (HA10.out.ge e).1); have HP11 := Lib.hid hp11; have y0 := hp11.prg.at 0 _ rfl; have y1 := hp11.prg.at 1 _ rfl; have fy0 := hp11.prg.fz 0; have hPl11 := hp11.lt; have HA11 := Lib.hid (ArsOwn.snoc ⟨nm, sz⟩ hown); clear hown hgrow hat hp11))
    have HA12 := Lib.hid (HA11.out.keep (BKeeps.set w11 (show ¬ (w.heap.size + 4 ≤ w.heap.size + 3) by omega) 0 (.slice (some ⟨g, 0, none⟩) (l.length + 1) cap)))
    go_meet
    exact ⟨_, HP11.out.setP _, HA12.out⟩
  · have E : gArr true raw i a = gArray true [] raw (gNext raw a 4).2 := rfl
    rw [E] at hJ
    clear E
    have HN := Lib.hid (array_take (w.heap.size + 1) raw (gNext raw a 4).2 ⟨[], [], [], true, false⟩ (.slice none 0 0) (.slice none 0 0) (.slice none 0 0) wx hp.src ArsAt.zero (by decide))
    generalize gArray true [] raw (gNext raw a 4).2 = q at *
    obtain ⟨⟨nm, sz⟩, qa⟩ := q
    dsimp only at HN hJ
    have HP0 := Lib.hid hp; have HA0 := Lib.hid ha; have HB0 := Lib.hid ho
    have c0 := hp.scp.at 0 _ rfl
    have c1 := hp.scp.at 1 _ rfl
    have c2 := hp.scp.at 2 _ rfl
    have c3 := hp.scp.at 3 _ rfl
    have c4 := hp.scp.at 4 _ rfl
    clear hp ha ho
    go_wp2_with fail
    refine HN.out.mono ?_
    rintro r w5 ⟨rfl, hs5, hf5⟩
    have hb5 := HB0.out.sfr hf5 (show b ≠ w.heap.size + 1 by omega)
    have hp5 := HP0.out.sfr hs5 hf5
    have ha5 := HA0.out.keep (BKeeps.sfr hf5 (fun b hb => by have : w.heap.size + 4 ≤ b := hb; omega))
    have HP := Lib.hid ((hp5.other hbb 0 (.string (strOf nm))).other hbb 1 (.int .i64 sz))
    have HB := Lib.hid ((hb5.set 0 (.string (strOf nm))).set 1 (.int .i64 sz))
    have HA : Hid (ArsOwn ((w5.setCell ⟨b, 0, none⟩ (.string (strOf nm))).setCell ⟨b, 1, none⟩ (.int .i64 sz)) (w.heap.size + 4) l (.slice oa l.length oc)) := (row_keep (row_keep ha5 (D := (· ≠ b)) (fun k e => by have := HOB.out k e; omega) (BKeeps.set w5 (fun h => h rfl) 0 (.string (strOf nm)))) (D := (· ≠ b)) (fun k e => by have := HOB.out k e; omega) (BKeeps.set _ (fun h => h rfl) 1 (.int .i64 sz)))
    have x0 := hb5.at 0 _ rfl
    have x1 := hb5.at 1 _ rfl
    have fx0 := hb5.fz 0
    have fx1 := hb5.fz 1
    have hbl5 := hb5.lt
    clear hp5 ha5 hb5 hs5 hf5 c0 c1 c2 c3 c4 HP0 HB0 HA0
    generalize hW6 : (w5.setCell ⟨b, 0, none⟩ (.string (strOf nm))).setCell ⟨b, 1, none⟩ (.int .i64 sz) = W6 at HP HB HA
    go_upto_region 12 with (fail)
    try rw [hW6]
    clear x0 x1 fx0 fx1 hbl5 hW6
    have hb10 : Below W6.heap.size W6 (W6.alloc (.cells #[.string (strOf nm), .int .i64 sz] 73)) := (Below.refl _ _).alloc (Nat.le_refl _) _
    have HP10 := Lib.hid (HP.out.old hb10); have HA10 := Lib.hid (HA.out.keep (BKeeps.below hb10)); have HN10 := Lib.hid (RowAt.new W6 (arCells ⟨nm, sz⟩) 73)
    clear hb10
    have p0 := HP.out.prg.at 0 _ rfl
    have p1 := HP.out.prg.at 1 _ rfl
    have b0 := HB.out.at 0 _ rfl
    have b1 := HB.out.at 1 _ rfl
    have hPl := HP.out.lt
    have hBl := HB.out.lt
    go_wp2_with (at_builtin; (refine wpList_append_lies (P := Tryz.prog) _ rfl _ _ 24 rfl (w.heap.size + 4) 73 i0 _ 2 24 Tryz.underlying24 HI0.out HZ0.out HZ1.out HZ2.out rfl (by decide) (.slice oa l.length oc) l.length (l.flatMap arCells) rfl HA10.out ⟨W6.heap.size, 0, none⟩ 1 1 (arCells ⟨nm, sz⟩) rfl rfl (news_at HN10.out) (arCells_one _) (by decide) (by have := HL.out; unfold maxLen; omega) (by have := HL.out; omega) (by have := HP10.out.lt; omega) _ rfl ?_; intro g cap w11 hown hgrow hat hlt11; have hp11 := HP10.out.grow hgrow (fun k e => (HA10.out.ge e).1); have HP11 := Lib.hid hp11; have y0 := hp11.prg.at 0 _ rfl; have y1 := hp11.prg.at 1 _ rfl; have fy0 := hp11.prg.fz 0; have hPl11 := hp11.lt; have HA11 := Lib.hid (ArsOwn.snoc ⟨nm, sz⟩ hown); clear hown hgrow hat hp11))
    have HA12 := Lib.hid (HA11.out.keep (BKeeps.set w11 (show ¬ (w.heap.size + 4 ≤ w.heap.size + 3) by omega) 0 (.slice (some ⟨g, 0, none⟩) (l.length + 1) cap)))
    go_meet
    exact ⟨_, HP11.out.setP _, HA12.out⟩
end Go.Proofs.YtgmaeflfiooigaaGreatDoor

namespace Go.Proofs.YtgmaeflfiooigaaGreatDoor
open Go.RowKit
set_option maxHeartbeats 8000000
set_option maxRecDepth 100000

theorem PG8.meas {w : World} {rv : Value} {free : Bool} {x : Value} {X : World → Prop} {a' : Act} {w' : World} (h : PG8 w rv free x X a' w') : a'.tmps.getD 8 undef = x := by
  obtain ⟨z2, h⟩ := h
  obtain ⟨z3, h⟩ := h
  obtain ⟨z9, h⟩ := h
  obtain ⟨z10, h⟩ := h
  obtain ⟨z11, h⟩ := h
  obtain ⟨z12, h⟩ := h
  obtain ⟨z13, h⟩ := h
  obtain ⟨z14, h⟩ := h
  obtain ⟨z15, h⟩ := h
  obtain ⟨z16, h⟩ := h
  obtain ⟨z17, h⟩ := h
  obtain ⟨z18, h⟩ := h
  obtain ⟨z19, h⟩ := h
  obtain ⟨z20, h⟩ := h
  obtain ⟨z21, h⟩ := h
  obtain ⟨z22, h⟩ := h
  obtain ⟨z23, h⟩ := h
  obtain ⟨z24, h⟩ := h
  obtain ⟨z25, h⟩ := h
  obtain ⟨z26, h⟩ := h
  obtain ⟨z27, h⟩ := h
  obtain ⟨z28, h⟩ := h
  obtain ⟨z29, h⟩ := h
  obtain ⟨z30, h⟩ := h
  obtain ⟨z31, h⟩ := h
  obtain ⟨z32, h⟩ := h
  obtain ⟨z33, h⟩ := h
  obtain ⟨z34, h⟩ := h
  obtain ⟨z35, h⟩ := h
  obtain ⟨z36, h⟩ := h
  obtain ⟨z37, h⟩ := h
  obtain ⟨z38, h⟩ := h
  obtain ⟨z39, h⟩ := h
  obtain ⟨z40, h⟩ := h
  obtain ⟨z41, h⟩ := h
  obtain ⟨z42, h⟩ := h
  obtain ⟨z43, h⟩ := h
  obtain ⟨z44, h⟩ := h
  obtain ⟨z45, h⟩ := h
  obtain ⟨z46, h⟩ := h
  obtain ⟨z47, h⟩ := h
  obtain ⟨z48, h⟩ := h
  obtain ⟨z49, h⟩ := h
  obtain ⟨z50, h⟩ := h
  obtain ⟨z51, h⟩ := h
  obtain ⟨z52, h⟩ := h
  obtain ⟨z53, h⟩ := h
  obtain ⟨z54, h⟩ := h
  obtain ⟨z55, h⟩ := h
  obtain ⟨z56, h⟩ := h
  obtain ⟨z57, h⟩ := h
  obtain ⟨z58, h⟩ := h
  obtain ⟨z59, h⟩ := h
  obtain ⟨z60, h⟩ := h
  obtain ⟨z61, h⟩ := h
  obtain ⟨z62, h⟩ := h
  obtain ⟨z63, h⟩ := h
  obtain ⟨z64, h⟩ := h
  obtain ⟨z65, h⟩ := h
  obtain ⟨z66, h⟩ := h
  obtain ⟨z67, h⟩ := h
  obtain ⟨z68, h⟩ := h
  obtain ⟨z69, h⟩ := h
  obtain ⟨z70, h⟩ := h
  obtain ⟨z71, h⟩ := h
  obtain ⟨z72, h⟩ := h
  obtain ⟨z73, h⟩ := h
  obtain ⟨z74, h⟩ := h
  obtain ⟨z75, h⟩ := h
  obtain ⟨z76, h⟩ := h
  obtain ⟨z77, h⟩ := h
  obtain ⟨z78, h⟩ := h
  obtain ⟨z79, h⟩ := h
  obtain ⟨z80, h⟩ := h
  obtain ⟨z81, h⟩ := h
  obtain ⟨z82, h⟩ := h
  obtain ⟨z83, h⟩ := h
  obtain ⟨z84, h⟩ := h
  obtain ⟨z85, h⟩ := h
  obtain ⟨z86, h⟩ := h
  obtain ⟨z87, h⟩ := h
  obtain ⟨z88, h⟩ := h
  obtain ⟨z89, h⟩ := h
  obtain ⟨z90, h⟩ := h
  obtain ⟨z91, h⟩ := h
  obtain ⟨z92, h⟩ := h
  obtain ⟨z93, h⟩ := h
  obtain ⟨z94, h⟩ := h
  obtain ⟨z95, h⟩ := h
  obtain ⟨z96, h⟩ := h
  obtain ⟨z97, h⟩ := h
  obtain ⟨z98, h⟩ := h
  obtain ⟨z99, h⟩ := h
  obtain ⟨z100, h⟩ := h
  obtain ⟨z101, h⟩ := h
  obtain ⟨z102, h⟩ := h
  obtain ⟨z103, h⟩ := h
  obtain ⟨z104, h⟩ := h
  obtain ⟨z105, h⟩ := h
  obtain ⟨z106, h⟩ := h
  obtain ⟨z107, h⟩ := h
  obtain ⟨z108, h⟩ := h
  obtain ⟨z109, h⟩ := h
  obtain ⟨z110, h⟩ := h
  obtain ⟨z111, h⟩ := h
  obtain ⟨z112, h⟩ := h
  obtain ⟨z113, h⟩ := h
  obtain ⟨z114, h⟩ := h
  obtain ⟨z115, h⟩ := h
  obtain ⟨z116, h⟩ := h
  obtain ⟨z117, h⟩ := h
  obtain ⟨z118, h⟩ := h
  obtain ⟨z119, h⟩ := h
  obtain ⟨_, ha'⟩ := h
  subst ha'
  rfl
theorem PG10.meas {w : World} {rv : Value} {free : Bool} {x : Value} {X : World → Prop} {a' : Act} {w' : World} (h : PG10 w rv free x X a' w') : a'.tmps.getD 10 undef = x := by
  obtain ⟨z2, h⟩ := h
  obtain ⟨z3, h⟩ := h
  obtain ⟨z8, h⟩ := h
  obtain ⟨z9, h⟩ := h
  obtain ⟨z11, h⟩ := h
  obtain ⟨z12, h⟩ := h
  obtain ⟨z13, h⟩ := h
  obtain ⟨z14, h⟩ := h
  obtain ⟨z15, h⟩ := h
  obtain ⟨z16, h⟩ := h
  obtain ⟨z17, h⟩ := h
  obtain ⟨z18, h⟩ := h
  obtain ⟨z19, h⟩ := h
  obtain ⟨z20, h⟩ := h
  obtain ⟨z21, h⟩ := h
  obtain ⟨z22, h⟩ := h
  obtain ⟨z23, h⟩ := h
  obtain ⟨z24, h⟩ := h
  obtain ⟨z25, h⟩ := h
  obtain ⟨z26, h⟩ := h
  obtain ⟨z27, h⟩ := h
  obtain ⟨z28, h⟩ := h
  obtain ⟨z29, h⟩ := h
  obtain ⟨z30, h⟩ := h
  obtain ⟨z31, h⟩ := h
  obtain ⟨z32, h⟩ := h
  obtain ⟨z33, h⟩ := h
  obtain ⟨z34, h⟩ := h
  obtain ⟨z35, h⟩ := h
  obtain ⟨z36, h⟩ := h
  obtain ⟨z37, h⟩ := h
  obtain ⟨z38, h⟩ := h
  obtain ⟨z39, h⟩ := h
  obtain ⟨z40, h⟩ := h
  obtain ⟨z41, h⟩ := h
  obtain ⟨z42, h⟩ := h
  obtain ⟨z43, h⟩ := h
  obtain ⟨z44, h⟩ := h
  obtain ⟨z45, h⟩ := h
  obtain ⟨z46, h⟩ := h
  obtain ⟨z47, h⟩ := h
  obtain ⟨z48, h⟩ := h
  obtain ⟨z49, h⟩ := h
  obtain ⟨z50, h⟩ := h
  obtain ⟨z51, h⟩ := h
  obtain ⟨z52, h⟩ := h
  obtain ⟨z53, h⟩ := h
  obtain ⟨z54, h⟩ := h
  obtain ⟨z55, h⟩ := h
  obtain ⟨z56, h⟩ := h
  obtain ⟨z57, h⟩ := h
  obtain ⟨z58, h⟩ := h
  obtain ⟨z59, h⟩ := h
  obtain ⟨z60, h⟩ := h
  obtain ⟨z61, h⟩ := h
  obtain ⟨z62, h⟩ := h
  obtain ⟨z63, h⟩ := h
  obtain ⟨z64, h⟩ := h
  obtain ⟨z65, h⟩ := h
  obtain ⟨z66, h⟩ := h
  obtain ⟨z67, h⟩ := h
  obtain ⟨z68, h⟩ := h
  obtain ⟨z69, h⟩ := h
  obtain ⟨z70, h⟩ := h
  obtain ⟨z71, h⟩ := h
  obtain ⟨z72, h⟩ := h
  obtain ⟨z73, h⟩ := h
  obtain ⟨z74, h⟩ := h
  obtain ⟨z75, h⟩ := h
  obtain ⟨z76, h⟩ := h
  obtain ⟨z77, h⟩ := h
  obtain ⟨z78, h⟩ := h
  obtain ⟨z79, h⟩ := h
  obtain ⟨z80, h⟩ := h
  obtain ⟨z81, h⟩ := h
  obtain ⟨z82, h⟩ := h
  obtain ⟨z83, h⟩ := h
  obtain ⟨z84, h⟩ := h
  obtain ⟨z85, h⟩ := h
  obtain ⟨z86, h⟩ := h
  obtain ⟨z87, h⟩ := h
  obtain ⟨z88, h⟩ := h
  obtain ⟨z89, h⟩ := h
  obtain ⟨z90, h⟩ := h
  obtain ⟨z91, h⟩ := h
  obtain ⟨z92, h⟩ := h
  obtain ⟨z93, h⟩ := h
  obtain ⟨z94, h⟩ := h
  obtain ⟨z95, h⟩ := h
  obtain ⟨z96, h⟩ := h
  obtain ⟨z97, h⟩ := h
  obtain ⟨z98, h⟩ := h
  obtain ⟨z99, h⟩ := h
  obtain ⟨z100, h⟩ := h
  obtain ⟨z101, h⟩ := h
  obtain ⟨z102, h⟩ := h
  obtain ⟨z103, h⟩ := h
  obtain ⟨z104, h⟩ := h
  obtain ⟨z105, h⟩ := h
  obtain ⟨z106, h⟩ := h
  obtain ⟨z107, h⟩ := h
  obtain ⟨z108, h⟩ := h
  obtain ⟨z109, h⟩ := h
  obtain ⟨z110, h⟩ := h
  obtain ⟨z111, h⟩ := h
  obtain ⟨z112, h⟩ := h
  obtain ⟨z113, h⟩ := h
  obtain ⟨z114, h⟩ := h
  obtain ⟨z115, h⟩ := h
  obtain ⟨z116, h⟩ := h
  obtain ⟨z117, h⟩ := h
  obtain ⟨z118, h⟩ := h
  obtain ⟨z119, h⟩ := h
  obtain ⟨_, ha'⟩ := h
  subst ha'
  rfl
theorem PG12.meas {w : World} {rv : Value} {free : Bool} {x : Value} {X : World → Prop} {a' : Act} {w' : World} (h : PG12 w rv free x X a' w') : a'.tmps.getD 12 undef = x := by
  obtain ⟨z2, h⟩ := h
  obtain ⟨z3, h⟩ := h
  obtain ⟨z8, h⟩ := h
  obtain ⟨z9, h⟩ := h
  obtain ⟨z10, h⟩ := h
  obtain ⟨z11, h⟩ := h
  obtain ⟨z13, h⟩ := h
  obtain ⟨z14, h⟩ := h
  obtain ⟨z15, h⟩ := h
  obtain ⟨z16, h⟩ := h
  obtain ⟨z17, h⟩ := h
  obtain ⟨z18, h⟩ := h
  obtain ⟨z19, h⟩ := h
  obtain ⟨z20, h⟩ := h
  obtain ⟨z21, h⟩ := h
  obtain ⟨z22, h⟩ := h
  obtain ⟨z23, h⟩ := h
  obtain ⟨z24, h⟩ := h
  obtain ⟨z25, h⟩ := h
  obtain ⟨z26, h⟩ := h
  obtain ⟨z27, h⟩ := h
  obtain ⟨z28, h⟩ := h
  obtain ⟨z29, h⟩ := h
  obtain ⟨z30, h⟩ := h
  obtain ⟨z31, h⟩ := h
  obtain ⟨z32, h⟩ := h
  obtain ⟨z33, h⟩ := h
  obtain ⟨z34, h⟩ := h
  obtain ⟨z35, h⟩ := h
  obtain ⟨z36, h⟩ := h
  obtain ⟨z37, h⟩ := h
  obtain ⟨z38, h⟩ := h
  obtain ⟨z39, h⟩ := h
  obtain ⟨z40, h⟩ := h
  obtain ⟨z41, h⟩ := h
  obtain ⟨z42, h⟩ := h
  obtain ⟨z43, h⟩ := h
  obtain ⟨z44, h⟩ := h
  obtain ⟨z45, h⟩ := h
  obtain ⟨z46, h⟩ := h
  obtain ⟨z47, h⟩ := h
  obtain ⟨z48, h⟩ := h
  obtain ⟨z49, h⟩ := h
  obtain ⟨z50, h⟩ := h
  obtain ⟨z51, h⟩ := h
  obtain ⟨z52, h⟩ := h
  obtain ⟨z53, h⟩ := h
  obtain ⟨z54, h⟩ := h
  obtain ⟨z55, h⟩ := h
  obtain ⟨z56, h⟩ := h
  obtain ⟨z57, h⟩ := h
  obtain ⟨z58, h⟩ := h
  obtain ⟨z59, h⟩ := h
  obtain ⟨z60, h⟩ := h
  obtain ⟨z61, h⟩ := h
  obtain ⟨z62, h⟩ := h
  obtain ⟨z63, h⟩ := h
  obtain ⟨z64, h⟩ := h
  obtain ⟨z65, h⟩ := h
  obtain ⟨z66, h⟩ := h
  obtain ⟨z67, h⟩ := h
  obtain ⟨z68, h⟩ := h
  obtain ⟨z69, h⟩ := h
  obtain ⟨z70, h⟩ := h
  obtain ⟨z71, h⟩ := h
  obtain ⟨z72, h⟩ := h
  obtain ⟨z73, h⟩ := h
  obtain ⟨z74, h⟩ := h
  obtain ⟨z75, h⟩ := h
  obtain ⟨z76, h⟩ := h
  obtain ⟨z77, h⟩ := h
  obtain ⟨z78, h⟩ := h
  obtain ⟨z79, h⟩ := h
  obtain ⟨z80, h⟩ := h
  obtain ⟨z81, h⟩ := h
  obtain ⟨z82, h⟩ := h
  obtain ⟨z83, h⟩ := h
  obtain ⟨z84, h⟩ := h
  obtain ⟨z85, h⟩ := h
  obtain ⟨z86, h⟩ := h
  obtain ⟨z87, h⟩ := h
  obtain ⟨z88, h⟩ := h
  obtain ⟨z89, h⟩ := h
  obtain ⟨z90, h⟩ := h
  obtain ⟨z91, h⟩ := h
  obtain ⟨z92, h⟩ := h
  obtain ⟨z93, h⟩ := h
  obtain ⟨z94, h⟩ := h
  obtain ⟨z95, h⟩ := h
  obtain ⟨z96, h⟩ := h
  obtain ⟨z97, h⟩ := h
  obtain ⟨z98, h⟩ := h
  obtain ⟨z99, h⟩ := h
  obtain ⟨z100, h⟩ := h
  obtain ⟨z101, h⟩ := h
  obtain ⟨z102, h⟩ := h
  obtain ⟨z103, h⟩ := h
  obtain ⟨z104, h⟩ := h
  obtain ⟨z105, h⟩ := h
  obtain ⟨z106, h⟩ := h
  obtain ⟨z107, h⟩ := h
  obtain ⟨z108, h⟩ := h
  obtain ⟨z109, h⟩ := h
  obtain ⟨z110, h⟩ := h
  obtain ⟨z111, h⟩ := h
  obtain ⟨z112, h⟩ := h
  obtain ⟨z113, h⟩ := h
  obtain ⟨z114, h⟩ := h
  obtain ⟨z115, h⟩ := h
  obtain ⟨z116, h⟩ := h
  obtain ⟨z117, h⟩ := h
  obtain ⟨z118, h⟩ := h
  obtain ⟨z119, h⟩ := h
  obtain ⟨_, ha'⟩ := h
  subst ha'
  rfl
theorem pg_loop0 (w w2 : World) (rv : Value) (free : Bool) (raw : List Int) (a0 n : Nat) (hn : n ≤ 2) (hP : PInv w raw a0 free (.slice none 0 0) (.slice none 0 0) (.slice none 0 0) (.slice none 0 0) w2) (q2 q3 q9 q10 q11 q12 q13 q14 q15 q16 q17 q18 q19 q20 q21 q22 q23 q24 q25 q26 q27 q28 q29 q30 q31 q32 q33 q34 q35 q36 q37 q38 q39 q40 q41 q42 q43 q44 q45 q46 q47 q48 q49 q50 q51 q52 q53 q54 q55 q56 q57 q58 q59 q60 q61 q62 q63 q64 q65 q66 q67 q68 q69 q70 q71 q72 q73 q74 q75 q76 q77 q78 q79 q80 q81 q82 q83 q84 q85 q86 q87 q88 q89 q90 q91 q92 q93 q94 q95 q96 q97 q98 q99 q100 q101 q102 q103 q104 q105 q106 q107 q108 q109 q110 q111 q112 q113 q114 q115 q116 q117 q118 q119 : Value) (J K' : Act → World → Prop)
    (hJ : ∀ a' w', PG8 w rv free (.int .i64 0) (fun w' => ∃ pa, PInv w raw (gArrs free raw n a0).2 free (.slice none 0 0) (.slice none 0 0) pa (.slice none 0 0) w' ∧ ArsOwn w' (w.heap.size + 4) (gArrs free raw n a0).1 pa) a' w' → J a' w') (hM : ∀ a' w', Met J a' w' → K' a' w') :
    Code.wp Tryz.prog (pgBlock 0) (Exit.then K' (fun _ _ _ => False)) ⟨[rv, .bool free, q2, q3, .pointer (some ⟨w.heap.size, 0, none⟩), .pointer (some ⟨w.heap.size + 1, 0, none⟩), .pointer (some ⟨w.heap.size + 2, 0, none⟩), .pointer (some ⟨w.heap.size + 3, 0, none⟩), .int .i64 (n : Int), q9, q10, q11, q12, q13, q14, q15, q16, q17, q18, q19, q20, q21, q22, q23, q24, q25, q26, q27, q28, q29, q30, q31, q32, q33, q34, q35, q36, q37, q38, q39, q40, q41, q42, q43, q44, q45, q46, q47, q48, q49, q50, q51, q52, q53, q54, q55, q56, q57, q58, q59, q60, q61, q62, q63, q64, q65, q66, q67, q68, q69, q70, q71, q72, q73, q74, q75, q76, q77, q78, q79, q80, q81, q82, q83, q84, q85, q86, q87, q88, q89, q90, q91, q92, q93, q94, q95, q96, q97, q98, q99, q100, q101, q102, q103, q104, q105, q106, q107, q108, q109, q110, q111, q112, q113, q114, q115, q116, q117, q118, q119].toArray, []⟩ w2 := by
  conv => arg 2; whnf
  refine wp_block (wp_loop (fun a' w' => ∃ i, i ≤ n ∧ ∃ l a, gArrs free raw n a0 = (l ++ (gArrs free raw i a).1, (gArrs free raw i a).2) ∧ l.length + i = n ∧ PG8 w rv free (.int .i64 (i : Int)) (fun w' => ∃ pa, PInv w raw a free (.slice none 0 0) (.slice none 0 0) pa (.slice none 0 0) w' ∧ ArsOwn w' (w.heap.size + 4) l pa) a' w') (fun a' _ => (intOf (a'.tmps.getD 8 undef)).toNat) ⟨n, Nat.le_refl _, [], a0, rfl, by simp, q2, q3, q9, q10, q11, q12, q13, q14, q15, q16, q17, q18, q19, q20, q21, q22, q23, q24, q25, q26, q27, q28, q29, q30, q31, q32, q33, q34, q35, q36, q37, q38, q39, q40, q41, q42, q43, q44, q45, q46, q47, q48, q49, q50, q51, q52, q53, q54, q55, q56, q57, q58, q59, q60, q61, q62, q63, q64, q65, q66, q67, q68, q69, q70, q71, q72, q73, q74, q75, q76, q77, q78, q79, q80, q81, q82, q83, q84, q85, q86, q87, q88, q89, q90, q91, q92, q93, q94, q95, q96, q97, q98, q99, q100, q101, q102, q103, q104, q105, q106, q107, q108, q109, q110, q111, q112, q113, q114, q115, q116, q117, q118, q119, ⟨.slice none 0 0, hP, ArsOwn.zero _ _⟩, rfl⟩ ?_)
  intro a' w' hI
  obtain ⟨i, hin, l, a, E, hl, hI⟩ := hI
  have hme := hI.meas
  obtain ⟨z2, hI⟩ := hI
  obtain ⟨z3, hI⟩ := hI
  obtain ⟨z9, hI⟩ := hI
  obtain ⟨z10, hI⟩ := hI
  obtain ⟨z11, hI⟩ := hI
  obtain ⟨z12, hI⟩ := hI
  obtain ⟨z13, hI⟩ := hI
  obtain ⟨z14, hI⟩ := hI
  obtain ⟨z15, hI⟩ := hI
  obtain ⟨z16, hI⟩ := hI
  obtain ⟨z17, hI⟩ := hI
  obtain ⟨z18, hI⟩ := hI
  obtain ⟨z19, hI⟩ := hI
  obtain ⟨z20, hI⟩ := hI
  obtain ⟨z21, hI⟩ := hI
  obtain ⟨z22, hI⟩ := hI
  obtain ⟨z23, hI⟩ := hI
  obtain ⟨z24, hI⟩ := hI
  obtain ⟨z25, hI⟩ := hI
  obtain ⟨z26, hI⟩ := hI
  obtain ⟨z27, hI⟩ := hI
  obtain ⟨z28, hI⟩ := hI
  obtain ⟨z29, hI⟩ := hI
  obtain ⟨z30, hI⟩ := hI
  obtain ⟨z31, hI⟩ := hI
  obtain ⟨z32, hI⟩ := hI
  obtain ⟨z33, hI⟩ := hI
  obtain ⟨z34, hI⟩ := hI
  obtain ⟨z35, hI⟩ := hI
  obtain ⟨z36, hI⟩ := hI
  obtain ⟨z37, hI⟩ := hI
  obtain ⟨z38, hI⟩ := hI
  obtain ⟨z39, hI⟩ := hI
  obtain ⟨z40, hI⟩ := hI
  obtain ⟨z41, hI⟩ := hI
  obtain ⟨z42, hI⟩ := hI
  obtain ⟨z43, hI⟩ := hI
  obtain ⟨z44, hI⟩ := hI
  obtain ⟨z45, hI⟩ := hI
  obtain ⟨z46, hI⟩ := hI
  obtain ⟨z47, hI⟩ := hI
  obtain ⟨z48, hI⟩ := hI
  obtain ⟨z49, hI⟩ := hI
  obtain ⟨z50, hI⟩ := hI
  obtain ⟨z51, hI⟩ := hI
  obtain ⟨z52, hI⟩ := hI
  obtain ⟨z53, hI⟩ := hI
  obtain ⟨z54, hI⟩ := hI
  obtain ⟨z55, hI⟩ := hI
  obtain ⟨z56, hI⟩ := hI
  obtain ⟨z57, hI⟩ := hI
  obtain ⟨z58, hI⟩ := hI
  obtain ⟨z59, hI⟩ := hI
  obtain ⟨z60, hI⟩ := hI
  obtain ⟨z61, hI⟩ := hI
  obtain ⟨z62, hI⟩ := hI
  obtain ⟨z63, hI⟩ := hI
  obtain ⟨z64, hI⟩ := hI
  obtain ⟨z65, hI⟩ := hI
  obtain ⟨z66, hI⟩ := hI
  obtain ⟨z67, hI⟩ := hI
  obtain ⟨z68, hI⟩ := hI
  obtain ⟨z69, hI⟩ := hI
  obtain ⟨z70, hI⟩ := hI
  obtain ⟨z71, hI⟩ := hI
  obtain ⟨z72, hI⟩ := hI
  obtain ⟨z73, hI⟩ := hI
  obtain ⟨z74, hI⟩ := hI
  obtain ⟨z75, hI⟩ := hI
  obtain ⟨z76, hI⟩ := hI
  obtain ⟨z77, hI⟩ := hI
  obtain ⟨z78, hI⟩ := hI
  obtain ⟨z79, hI⟩ := hI
  obtain ⟨z80, hI⟩ := hI
  obtain ⟨z81, hI⟩ := hI
  obtain ⟨z82, hI⟩ := hI
  obtain ⟨z83, hI⟩ := hI
  obtain ⟨z84, hI⟩ := hI
  obtain ⟨z85, hI⟩ := hI
  obtain ⟨z86, hI⟩ := hI
  obtain ⟨z87, hI⟩ := hI
  obtain ⟨z88, hI⟩ := hI
  obtain ⟨z89, hI⟩ := hI
  obtain ⟨z90, hI⟩ := hI
  obtain ⟨z91, hI⟩ := hI
  obtain ⟨z92, hI⟩ := hI
  obtain ⟨z93, hI⟩ := hI
  obtain ⟨z94, hI⟩ := hI
  obtain ⟨z95, hI⟩ := hI
  obtain ⟨z96, hI⟩ := hI
  obtain ⟨z97, hI⟩ := hI
  obtain ⟨z98, hI⟩ := hI
  obtain ⟨z99, hI⟩ := hI
  obtain ⟨z100, hI⟩ := hI
  obtain ⟨z101, hI⟩ := hI
  obtain ⟨z102, hI⟩ := hI
  obtain ⟨z103, hI⟩ := hI
  obtain ⟨z104, hI⟩ := hI
  obtain ⟨z105, hI⟩ := hI
  obtain ⟨z106, hI⟩ := hI
  obtain ⟨z107, hI⟩ := hI
  obtain ⟨z108, hI⟩ := hI
  obtain ⟨z109, hI⟩ := hI
  obtain ⟨z110, hI⟩ := hI
  obtain ⟨z111, hI⟩ := hI
  obtain ⟨z112, hI⟩ := hI
  obtain ⟨z113, hI⟩ := hI
  obtain ⟨z114, hI⟩ := hI
  obtain ⟨z115, hI⟩ := hI
  obtain ⟨z116, hI⟩ := hI
  obtain ⟨z117, hI⟩ := hI
  obtain ⟨z118, hI⟩ := hI
  obtain ⟨z119, hI⟩ := hI
  obtain ⟨⟨pa, hp, ha⟩, ha'⟩ := hI
  subst ha'
  by_cases hi : 1 ≤ i
  · refine then_any (pg_round0 w w' rv free raw a i ⟨hi, by omega⟩ l pa hp ha (by omega) z2 z3 z9 z10 z11 z12 z13 z14 z15 z16 z17 z18 z19 z20 z21 z22 z23 z24 z25 z26 z27 z28 z29 z30 z31 z32 z33 z34 z35 z36 z37 z38 z39 z40 z41 z42 z43 z44 z45 z46 z47 z48 z49 z50 z51 z52 z53 z54 z55 z56 z57 z58 z59 z60 z61 z62 z63 z64 z65 z66 z67 z68 z69 z70 z71 z72 z73 z74 z75 z76 z77 z78 z79 z80 z81 z82 z83 z84 z85 z86 z87 z88 z89 z90 z91 z92 z93 z94 z95 z96 z97 z98 z99 z100 z101 z102 z103 z104 z105 z106 z107 z108 z109 z110 z111 z112 z113 z114 z115 z116 z117 z118 z119 _ _ (fun a' w' hT => ⟨⟨i - 1, by omega, l ++ [(gArr free raw i a).1], (gArr free raw i a).2, ?_, by rw [List.length_append, List.length_singleton]; omega, ?_⟩, ?_⟩) (fun _ _ h => h))
    · obtain ⟨j, rfl⟩ : ∃ j, i = j + 1 := ⟨i - 1, by omega⟩
      rw [E, Nat.add_sub_cancel, gArrs]; simp
    · rw [show ((i - 1 : Nat) : Int) = (i : Int) - 1 by omega]; exact hT
    · rw [hT.meas, hme]; simp [intOf]; omega
  · obtain rfl : i = 0 := by omega
    have HE : Hid (gArrs free raw n a0 = (l, a)) := by show _ = _; rw [E]; simp [gArrs]
    have HP := Lib.hid hp; have HA := Lib.hid ha
    rw [HE.out] at hJ
    clear E hme hp ha hP HE hl hi hin hn
    go_wp2_with fail
    go_meet
    exact ⟨pa, HP.out, HA.out⟩
end Go.Proofs.YtgmaeflfiooigaaGreatDoor

namespace Go.Proofs.YtgmaeflfiooigaaGreatDoor
open Go.RowKit
set_option maxHeartbeats 8000000
set_option maxRecDepth 100000

theorem take_strs {D : Nat → Prop} {w : World} {b : Nat} (l : List Bs) (h : OwnAt w b (strsOf l) 9) (hD : D b) (g : Nat) (hg : g ≤ l.length) (hl : l.length ≤ 1000) : StrsAt D w (l.take g) (.slice (some ⟨b, 0, none⟩) g l.length) := by
  have e : (l.take g).length = g := by rw [List.length_take]; omega
  refine ⟨some ⟨b, 0, none⟩, l.length, b, 0, by rw [e], by rw [e]; exact hg, by rw [e]; show _ ≤ _; omega, .inr ⟨rfl, hD⟩, fun i hi => ?_⟩
  rw [e] at hi
  refine h.at (0 + i) _ ?_
  rw [Nat.zero_add]
  unfold strsOf
  rw [List.getElem?_map, List.getElem?_eq_getElem (show i < l.length by omega), List.getD_eq_getElem?_getD, List.getElem?_take, if_pos hi, List.getElem?_eq_getElem (show i < l.length by omega)]; rfl
theorem pg_round2 (w wr : World) (rv : Value) (free : Bool) (raw : List Int) (a i : Nat) (hi : 1 ≤ i ∧ i ≤ 2) (ls : List FuV) (ca pa : Value) (cf : Value) (hP : PInv w raw a free ca cf pa (.slice none 0 0) wr) (la : List Ar) (hA : ArsOwn wr (w.heap.size + 4) la pa) (hF : FusOwn wr (w.heap.size + 4) ls cf) (hpc : ∀ x, pa.ownBlock = some x → cf.ownBlock ≠ some x) (hl : ls.length ≤ 5) (q2 q3 q8 q9 q11 q12 q13 q14 q15 q16 q17 q18 q19 q20 q21 q22 q23 q24 q25 q26 q27 q28 q29 q30 q31 q32 q33 q34 q35 q36 q37 q38 q39 q40 q41 q42 q43 q44 q45 q46 q47 q48 q49 q50 q51 q52 q53 q54 q55 q56 q57 q58 q59 q60 q61 q62 q63 q64 q65 q66 q67 q68 q69 q70 q71 q72 q73 q74 q75 q76 q77 q78 q79 q80 q81 q82 q83 q84 q85 q86 q87 q88 q89 q90 q91 q92 q93 q94 q95 q96 q97 q98 q99 q100 q101 q102 q103 q104 q105 q106 q107 q108 q109 q110 q111 q112 q113 q114 q115 q116 q117 q118 q119 : Value) (J K' : Act → World → Prop)
    (hJ : ∀ a' w', PG10 w rv free (.int .i64 ((i : Int) - 1)) (fun w' => ∃ cf' p, p.x = (gFun raw i a).1 ∧ PInv w raw (gFun raw i a).2 free ca cf' pa (.slice none 0 0) w' ∧ ArsOwn w' (w.heap.size + 4) la pa ∧ FusOwn w' (w.heap.size + 4) (ls ++ [p]) cf' ∧ ∀ x, pa.ownBlock = some x → cf'.ownBlock ≠ some x) a' w' → J a' w') (hM : ∀ a' w', Met J a' w' → K' a' w') :
    Code.wp Tryz.prog (pgBody 2) (Exit.then K' (fun _ _ _ => False)) ⟨[rv, .bool free, q2, q3, .pointer (some ⟨w.heap.size, 0, none⟩), .pointer (some ⟨w.heap.size + 1, 0, none⟩), .pointer (some ⟨w.heap.size + 2, 0, none⟩), .pointer (some ⟨w.heap.size + 3, 0, none⟩), q8, q9, .int .i64 (i : Int), q11, q12, q13, q14, q15, q16, q17, q18, q19, q20, q21, q22, q23, q24, q25, q26, q27, q28, q29, q30, q31, q32, q33, q34, q35, q36, q37, q38, q39, q40, q41, q42, q43, q44, q45, q46, q47, q48, q49, q50, q51, q52, q53, q54, q55, q56, q57, q58, q59, q60, q61, q62, q63, q64, q65, q66, q67, q68, q69, q70, q71, q72, q73, q74, q75, q76, q77, q78, q79, q80, q81, q82, q83, q84, q85, q86, q87, q88, q89, q90, q91, q92, q93, q94, q95, q96, q97, q98, q99, q100, q101, q102, q103, q104, q105, q106, q107, q108, q109, q110, q111, q112, q113, q114, q115, q116, q117, q118, q119].toArray, []⟩ wr := by
  obtain ⟨oa, oc, rfl⟩ := hF.shape
  have HL := Lib.hid hl
  obtain ⟨i0, hi0, hz0, hz1, hz2⟩ := info_parts infoFu
  have HI0 := Lib.hid hi0; have HZ0 := Lib.hid hz0; have HZ1 := Lib.hid hz1; have HZ2 := Lib.hid hz2
  have HPA : Hid (∀ k, pa.ownBlock = some k → k < wr.heap.size) := fun k e => (hA.ge e).2
  have hgpos : (0 : Int) < (i : Int) := by omega
  clear hi0 hz0 hz1 hz2 hl
  conv => arg 2; whnf
  go_upto_region 18 with (fail)
  refine wp_cut (fun a' w' => R18 (w.heap.size + 1) i a raw wr _ _ _ _ _ _ _ _ _ _ _ _ _ _ _ _ _ _ _ _ _ _ _ _ _ _ _ _ _ _ _ _ _ _ _ _ _ _ _ _ _ _ _ _ _ _ _ _ _ _ _ _ _ _ _ _ _ _ _ _ _ _ _ _ _ _ _ _ _ _ _ _ _ _ _ _ _ _ _ _ _ _ _ _ _ _ _ _ _ _ _ _ _ _ _ _ _ _ _ _ _ _ _ _ _ _ _ _ a' w') ?rest (fun J K' hJ hM => then_any (pg_reg18 (w.heap.size + 1) i a raw wr hP.src hi _ _ _ _ _ _ _ _ _ _ _ _ _ _ _ _ _ _ _ _ _ _ _ _ _ _ _ _ _ _ _ _ _ _ _ _ _ _ _ _ _ _ _ _ _ _ _ _ _ _ _ _ _ _ _ _ _ _ _ _ _ _ _ _ _ _ _ _ _ _ _ _ _ _ _ _ _ _ _ _ _ _ _ _ _ _ _ _ _ _ _ _ _ _ _ _ _ _ _ _ _ _ _ _ _ _ _ _ _ _ _ _ _ _ _ _ _ _ J K' hJ hM))
  case rest =>
  intro a' wx hT
  obtain ⟨z11, hT⟩ := hT
  obtain ⟨z69, hT⟩ := hT
  obtain ⟨z70, hT⟩ := hT
  obtain ⟨z71, hT⟩ := hT
  obtain ⟨z72, hT⟩ := hT
  obtain ⟨z73, hT⟩ := hT
  obtain ⟨z74, hT⟩ := hT
  obtain ⟨z75, hT⟩ := hT
  obtain ⟨z76, hT⟩ := hT
  obtain ⟨z77, hT⟩ := hT
  obtain ⟨⟨b, b6, e1, hb, ho, hb6, ho6, hs, hf⟩, ha'⟩ := hT
  subst ha'
  subst e1
  have hp := hP.sfr hs hf
  have ha := hA.keep (BKeeps.sfr hf (fun b hb => by have : w.heap.size + 4 ≤ b := hb; omega))
  have hfu := hF.keep (BKeeps.sfr hf (fun b hb => by have : w.heap.size + 4 ≤ b := hb; omega)) hf.size
  have hbb : w.heap.size + 4 ≤ b := by have := hP.lt; omega
  have E : gFun raw i a = (⟨fNames.getD i [], pNames.take (gNext raw a 7).1.toNat, [], []⟩, (gNext raw a 7).2) := rfl
  rw [E] at hJ
  clear E
  have hr := gNext_range raw a 7 (by decide)
  have hg6 : (gNext raw a 7).1.toNat ≤ 6 := by omega
  generalize (gNext raw a 7).1.toNat = g at *
  generalize fNames.getD i [] = nm at *
  generalize (gNext raw a 7).2 = a2 at *
  have hlp := hP.lt
  have hob : ∀ k, (Value.slice oa ls.length oc).ownBlock = some k → k < wr.heap.size := fun k e => (hF.ge e).2
  have hpar : FuParts (fun k => w.heap.size + 4 ≤ k ∧ (Value.slice oa ls.length oc).ownBlock ≠ some k) wx ⟨⟨nm, pNames.take g, [], []⟩, .slice (some ⟨b6, 0, none⟩) g 6, .slice none 0 0, .slice none 0 0⟩ :=
    ⟨take_strs pNames ho6 ⟨by omega, fun e => by have := hob b6 e; omega⟩ g hg6 (by decide), StrsAt.zero, [], rfl, by decide, StsOwnD.zero _ _⟩
  have hb10 : Below wx.heap.size wx (wx.alloc (.cells #[.string (strOf nm), .slice (some ⟨b6, 0, none⟩) g 6, .slice none 0 0, .slice none 0 0] 52)) := (Below.refl _ _).alloc (Nat.le_refl _) _
  have HP10 := Lib.hid (hp.old hb10); have HA10 := Lib.hid (ha.keep (BKeeps.below hb10)); have HF10 := Lib.hid (hfu.keep (BKeeps.below hb10) hb10.size); have HX10 := Lib.hid (hpar.keep (BKeeps.below hb10) hb10.size)
  have HN10 := Lib.hid (RowAt.new wx (fvCells ⟨⟨nm, pNames.take g, [], []⟩, .slice (some ⟨b6, 0, none⟩) g 6, .slice none 0 0, .slice none 0 0⟩) 52)
  have c2 := hp.scp.at 2 _ rfl
  have fc2 := hp.scp.fz 2
  have b0 := ho.at 0 _ rfl
  have b1 := ho.at 1 _ rfl
  have b2 := ho.at 2 _ rfl
  have b3 := ho.at 3 _ rfl
  have hPl := hp.lt
  have hBl := ho.lt
  have HPC := Lib.hid hpc; have HOB := Lib.hid hob
  have hsz : wr.heap.size ≤ wx.heap.size := hf.size
  clear hP hA hF hs hf hp ha hfu hpar hb10 ho ho6 hr hpc hob
  go_wp2_with (at_builtin; (refine wpList_append_lies (P := Tryz.prog) _ rfl _ _ 25 rfl (w.heap.size + 4) 52 i0 _ 4 88 Tryz.underlying25 HI0.out HZ0.out HZ1.out HZ2.out rfl (by decide) (.slice oa ls.length oc) ls.length (ls.flatMap fvCells) rfl HF10.out.1 ⟨wx.heap.size, 0, none⟩ 1 1 (fvCells ⟨⟨nm, pNames.take g, [], []⟩, .slice (some ⟨b6, 0, none⟩) g 6, .slice none 0 0, .slice none 0 0⟩) rfl rfl (news_at HN10.out) (fu_one' [] _ _ _ _ _ _ _ _ _ _) (by decide) (by have := HL.out; unfold maxLen; omega) (by have := HL.out; omega) (by have := HP10.out.lt; omega) _ rfl ?_; intro g' cap w11 hown hgrow hat hlt11; have hp11 := HP10.out.grow hgrow (fun k e => (HF10.out.ge e).1); have HP11 := Lib.hid hp11; have y2 := hp11.scp.at 2 _ rfl; have fy2 := hp11.scp.fz 2; have hPl11 := hp11.lt; have HF11 := Lib.hid (HF10.out.snoc _ HX10.out hown hgrow hat); have HA11 : Hid (ArsOwn w11 (w.heap.size + 4) la pa) := (row_keep HA10.out (D := fun k => pa.ownBlock = some k) (fun k e => e) (fun k hk hl => hgrow.block k hl (fun e => HPC.out k hk e.symm))); have HQ11 : Hid (∀ x, pa.ownBlock = some x → (Value.slice (some ⟨g', 0, none⟩) (ls.length + 1) cap).ownBlock ≠ some x) := (fun x e e2 => by cases e2; rcases hat with hat | hat; exact HPC.out _ e hat; have h3 : g' < wr.heap.size := HPA.out g' e; have h4 : wx.heap.size ≤ g' := (by rw [hat]; first | (simp; done) | omega); omega); clear hown hgrow hat hp11))
  have HF12 := Lib.hid (HF11.out.keep (BKeeps.set w11 (show ¬ (w.heap.size + 4 ≤ w.heap.size + 2) by omega) 2 (.slice (some ⟨g', 0, none⟩) (ls.length + 1) cap)) (by simp [World.setCell]))
  have HA12 := Lib.hid (HA11.out.keep (BKeeps.set w11 (show ¬ (w.heap.size + 4 ≤ w.heap.size + 2) by omega) 2 (.slice (some ⟨g', 0, none⟩) (ls.length + 1) cap)))
  go_meet
  exact ⟨_, ⟨⟨nm, pNames.take g, [], []⟩, .slice (some ⟨b6, 0, none⟩) g 6, .slice none 0 0, .slice none 0 0⟩, rfl, HP11.out.setCf _, HA12.out, HF12.out, HQ11.out⟩
end Go.Proofs.YtgmaeflfiooigaaGreatDoor

namespace Go.Proofs.YtgmaeflfiooigaaGreatDoor
open Go.RowKit
set_option maxHeartbeats 8000000
set_option maxRecDepth 100000

theorem pg_loop2 (w w2 : World) (rv : Value) (free : Bool) (raw : List Int) (a0 n : Nat) (hn : n ≤ 2) (l0 : List Fu) (hl0 : l0.length ≤ 1) (la : List Ar) (ca pa cf : Value) (ls : List FuV) (hls : ls.map (·.x) = l0) (hP : PInv w raw a0 free ca cf pa (.slice none 0 0) w2) (hA : ArsOwn w2 (w.heap.size + 4) la pa) (hF : FusOwn w2 (w.heap.size + 4) ls cf) (hpc : ∀ x, pa.ownBlock = some x → cf.ownBlock ≠ some x) (q2 q3 q8 q9 q11 q12 q13 q14 q15 q16 q17 q18 q19 q20 q21 q22 q23 q24 q25 q26 q27 q28 q29 q30 q31 q32 q33 q34 q35 q36 q37 q38 q39 q40 q41 q42 q43 q44 q45 q46 q47 q48 q49 q50 q51 q52 q53 q54 q55 q56 q57 q58 q59 q60 q61 q62 q63 q64 q65 q66 q67 q68 q69 q70 q71 q72 q73 q74 q75 q76 q77 q78 q79 q80 q81 q82 q83 q84 q85 q86 q87 q88 q89 q90 q91 q92 q93 q94 q95 q96 q97 q98 q99 q100 q101 q102 q103 q104 q105 q106 q107 q108 q109 q110 q111 q112 q113 q114 q115 q116 q117 q118 q119 : Value) (J K' : Act → World → Prop)
    (hJ : ∀ a' w', PG10 w rv free (.int .i64 0) (fun w' => ∃ cf' ps, ps.map (·.x) = (l0 ++ (gFuns raw n a0).1) ∧ PInv w raw (gFuns raw n a0).2 free ca cf' pa (.slice none 0 0) w' ∧ ArsOwn w' (w.heap.size + 4) la pa ∧ FusOwn w' (w.heap.size + 4) ps cf' ∧ ∀ x, pa.ownBlock = some x → cf'.ownBlock ≠ some x) a' w' → J a' w') (hM : ∀ a' w', Met J a' w' → K' a' w') :
    Code.wp Tryz.prog (pgBlock 2) (Exit.then K' (fun _ _ _ => False)) ⟨[rv, .bool free, q2, q3, .pointer (some ⟨w.heap.size, 0, none⟩), .pointer (some ⟨w.heap.size + 1, 0, none⟩), .pointer (some ⟨w.heap.size + 2, 0, none⟩), .pointer (some ⟨w.heap.size + 3, 0, none⟩), q8, q9, .int .i64 (n : Int), q11, q12, q13, q14, q15, q16, q17, q18, q19, q20, q21, q22, q23, q24, q25, q26, q27, q28, q29, q30, q31, q32, q33, q34, q35, q36, q37, q38, q39, q40, q41, q42, q43, q44, q45, q46, q47, q48, q49, q50, q51, q52, q53, q54, q55, q56, q57, q58, q59, q60, q61, q62, q63, q64, q65, q66, q67, q68, q69, q70, q71, q72, q73, q74, q75, q76, q77, q78, q79, q80, q81, q82, q83, q84, q85, q86, q87, q88, q89, q90, q91, q92, q93, q94, q95, q96, q97, q98, q99, q100, q101, q102, q103, q104, q105, q106, q107, q108, q109, q110, q111, q112, q113, q114, q115, q116, q117, q118, q119].toArray, []⟩ w2 := by
  conv => arg 2; whnf
  refine wp_block (wp_loop (fun a' w' => ∃ i, i ≤ n ∧ ∃ l a, gFuns raw n a0 = (l ++ (gFuns raw i a).1, (gFuns raw i a).2) ∧ l.length + i = n ∧ PG10 w rv free (.int .i64 (i : Int)) (fun w' => ∃ cf' ps, ps.map (·.x) = (l0 ++ l) ∧ PInv w raw a free ca cf' pa (.slice none 0 0) w' ∧ ArsOwn w' (w.heap.size + 4) la pa ∧ FusOwn w' (w.heap.size + 4) ps cf' ∧ ∀ x, pa.ownBlock = some x → cf'.ownBlock ≠ some x) a' w') (fun a' _ => (intOf (a'.tmps.getD 10 undef)).toNat) ⟨n, Nat.le_refl _, [], a0, rfl, by simp, q2, q3, q8, q9, q11, q12, q13, q14, q15, q16, q17, q18, q19, q20, q21, q22, q23, q24, q25, q26, q27, q28, q29, q30, q31, q32, q33, q34, q35, q36, q37, q38, q39, q40, q41, q42, q43, q44, q45, q46, q47, q48, q49, q50, q51, q52, q53, q54, q55, q56, q57, q58, q59, q60, q61, q62, q63, q64, q65, q66, q67, q68, q69, q70, q71, q72, q73, q74, q75, q76, q77, q78, q79, q80, q81, q82, q83, q84, q85, q86, q87, q88, q89, q90, q91, q92, q93, q94, q95, q96, q97, q98, q99, q100, q101, q102, q103, q104, q105, q106, q107, q108, q109, q110, q111, q112, q113, q114, q115, q116, q117, q118, q119, ⟨cf, ls, by rw [hls, List.append_nil], hP, hA, hF, hpc⟩, rfl⟩ ?_)
  intro a' w' hI
  obtain ⟨i, hin, l, a, E, hl, hI⟩ := hI
  have hme := hI.meas
  obtain ⟨z2, hI⟩ := hI
  obtain ⟨z3, hI⟩ := hI
  obtain ⟨z8, hI⟩ := hI
  obtain ⟨z9, hI⟩ := hI
  obtain ⟨z11, hI⟩ := hI
  obtain ⟨z12, hI⟩ := hI
  obtain ⟨z13, hI⟩ := hI
  obtain ⟨z14, hI⟩ := hI
  obtain ⟨z15, hI⟩ := hI
  obtain ⟨z16, hI⟩ := hI
  obtain ⟨z17, hI⟩ := hI
  obtain ⟨z18, hI⟩ := hI
  obtain ⟨z19, hI⟩ := hI
  obtain ⟨z20, hI⟩ := hI
  obtain ⟨z21, hI⟩ := hI
  obtain ⟨z22, hI⟩ := hI
  obtain ⟨z23, hI⟩ := hI
  obtain ⟨z24, hI⟩ := hI
  obtain ⟨z25, hI⟩ := hI
  obtain ⟨z26, hI⟩ := hI
  obtain ⟨z27, hI⟩ := hI
  obtain ⟨z28, hI⟩ := hI
  obtain ⟨z29, hI⟩ := hI
  obtain ⟨z30, hI⟩ := hI
  obtain ⟨z31, hI⟩ := hI
  obtain ⟨z32, hI⟩ := hI
  obtain ⟨z33, hI⟩ := hI
  obtain ⟨z34, hI⟩ := hI
  obtain ⟨z35, hI⟩ := hI
  obtain ⟨z36, hI⟩ := hI
  obtain ⟨z37, hI⟩ := hI
  obtain ⟨z38, hI⟩ := hI
  obtain ⟨z39, hI⟩ := hI
  obtain ⟨z40, hI⟩ := hI
  obtain ⟨z41, hI⟩ := hI
  obtain ⟨z42, hI⟩ := hI
  obtain ⟨z43, hI⟩ := hI
  obtain ⟨z44, hI⟩ := hI
  obtain ⟨z45, hI⟩ := hI
  obtain ⟨z46, hI⟩ := hI
  obtain ⟨z47, hI⟩ := hI
  obtain ⟨z48, hI⟩ := hI
  obtain ⟨z49, hI⟩ := hI
  obtain ⟨z50, hI⟩ := hI
  obtain ⟨z51, hI⟩ := hI
  obtain ⟨z52, hI⟩ := hI
  obtain ⟨z53, hI⟩ := hI
  obtain ⟨z54, hI⟩ := hI
  obtain ⟨z55, hI⟩ := hI
  obtain ⟨z56, hI⟩ := hI
  obtain ⟨z57, hI⟩ := hI
  obtain ⟨z58, hI⟩ := hI
  obtain ⟨z59, hI⟩ := hI
  obtain ⟨z60, hI⟩ := hI
  obtain ⟨z61, hI⟩ := hI
  obtain ⟨z62, hI⟩ := hI
  obtain ⟨z63, hI⟩ := hI
  obtain ⟨z64, hI⟩ := hI
  obtain ⟨z65, hI⟩ := hI
  obtain ⟨z66, hI⟩ := hI
  obtain ⟨z67, hI⟩ := hI
  obtain ⟨z68, hI⟩ := hI
  obtain ⟨z69, hI⟩ := hI
  obtain ⟨z70, hI⟩ := hI
  obtain ⟨z71, hI⟩ := hI
  obtain ⟨z72, hI⟩ := hI
  obtain ⟨z73, hI⟩ := hI
  obtain ⟨z74, hI⟩ := hI
  obtain ⟨z75, hI⟩ := hI
  obtain ⟨z76, hI⟩ := hI
  obtain ⟨z77, hI⟩ := hI
  obtain ⟨z78, hI⟩ := hI
  obtain ⟨z79, hI⟩ := hI
  obtain ⟨z80, hI⟩ := hI
  obtain ⟨z81, hI⟩ := hI
  obtain ⟨z82, hI⟩ := hI
  obtain ⟨z83, hI⟩ := hI
  obtain ⟨z84, hI⟩ := hI
  obtain ⟨z85, hI⟩ := hI
  obtain ⟨z86, hI⟩ := hI
  obtain ⟨z87, hI⟩ := hI
  obtain ⟨z88, hI⟩ := hI
  obtain ⟨z89, hI⟩ := hI
  obtain ⟨z90, hI⟩ := hI
  obtain ⟨z91, hI⟩ := hI
  obtain ⟨z92, hI⟩ := hI
  obtain ⟨z93, hI⟩ := hI
  obtain ⟨z94, hI⟩ := hI
  obtain ⟨z95, hI⟩ := hI
  obtain ⟨z96, hI⟩ := hI
  obtain ⟨z97, hI⟩ := hI
  obtain ⟨z98, hI⟩ := hI
  obtain ⟨z99, hI⟩ := hI
  obtain ⟨z100, hI⟩ := hI
  obtain ⟨z101, hI⟩ := hI
  obtain ⟨z102, hI⟩ := hI
  obtain ⟨z103, hI⟩ := hI
  obtain ⟨z104, hI⟩ := hI
  obtain ⟨z105, hI⟩ := hI
  obtain ⟨z106, hI⟩ := hI
  obtain ⟨z107, hI⟩ := hI
  obtain ⟨z108, hI⟩ := hI
  obtain ⟨z109, hI⟩ := hI
  obtain ⟨z110, hI⟩ := hI
  obtain ⟨z111, hI⟩ := hI
  obtain ⟨z112, hI⟩ := hI
  obtain ⟨z113, hI⟩ := hI
  obtain ⟨z114, hI⟩ := hI
  obtain ⟨z115, hI⟩ := hI
  obtain ⟨z116, hI⟩ := hI
  obtain ⟨z117, hI⟩ := hI
  obtain ⟨z118, hI⟩ := hI
  obtain ⟨z119, hI⟩ := hI
  obtain ⟨⟨cf1, ps, hps, hp, ha, hf, hq⟩, ha'⟩ := hI
  subst ha'
  have hpl : ps.length = l0.length + l.length := by have := congrArg List.length hps; rw [List.length_map, List.length_append] at this; exact this
  by_cases hi : 1 ≤ i
  · refine then_any (pg_round2 w w' rv free raw a i ⟨hi, by omega⟩ ps ca pa cf1 hp la ha hf hq (by omega) z2 z3 z8 z9 z11 z12 z13 z14 z15 z16 z17 z18 z19 z20 z21 z22 z23 z24 z25 z26 z27 z28 z29 z30 z31 z32 z33 z34 z35 z36 z37 z38 z39 z40 z41 z42 z43 z44 z45 z46 z47 z48 z49 z50 z51 z52 z53 z54 z55 z56 z57 z58 z59 z60 z61 z62 z63 z64 z65 z66 z67 z68 z69 z70 z71 z72 z73 z74 z75 z76 z77 z78 z79 z80 z81 z82 z83 z84 z85 z86 z87 z88 z89 z90 z91 z92 z93 z94 z95 z96 z97 z98 z99 z100 z101 z102 z103 z104 z105 z106 z107 z108 z109 z110 z111 z112 z113 z114 z115 z116 z117 z118 z119 _ _ (fun a' w' hT => ⟨⟨i - 1, by omega, l ++ [(gFun raw i a).1], (gFun raw i a).2, ?_, by rw [List.length_append, List.length_singleton]; omega, ?_⟩, ?_⟩) (fun _ _ h => h))
    · obtain ⟨j, rfl⟩ : ∃ j, i = j + 1 := ⟨i - 1, by omega⟩
      rw [E, Nat.add_sub_cancel, gFuns]; simp
    · rw [show ((i - 1 : Nat) : Int) = (i : Int) - 1 by omega]
      obtain ⟨y2, hT⟩ := hT
      obtain ⟨y3, hT⟩ := hT
      obtain ⟨y8, hT⟩ := hT
      obtain ⟨y9, hT⟩ := hT
      obtain ⟨y11, hT⟩ := hT
      obtain ⟨y12, hT⟩ := hT
      obtain ⟨y13, hT⟩ := hT
      obtain ⟨y14, hT⟩ := hT
      obtain ⟨y15, hT⟩ := hT
      obtain ⟨y16, hT⟩ := hT
      obtain ⟨y17, hT⟩ := hT
      obtain ⟨y18, hT⟩ := hT
      obtain ⟨y19, hT⟩ := hT
      obtain ⟨y20, hT⟩ := hT
      obtain ⟨y21, hT⟩ := hT
      obtain ⟨y22, hT⟩ := hT
      obtain ⟨y23, hT⟩ := hT
      obtain ⟨y24, hT⟩ := hT
      obtain ⟨y25, hT⟩ := hT
      obtain ⟨y26, hT⟩ := hT
      obtain ⟨y27, hT⟩ := hT
      obtain ⟨y28, hT⟩ := hT
      obtain ⟨y29, hT⟩ := hT
      obtain ⟨y30, hT⟩ := hT
      obtain ⟨y31, hT⟩ := hT
      obtain ⟨y32, hT⟩ := hT
      obtain ⟨y33, hT⟩ := hT
      obtain ⟨y34, hT⟩ := hT
      obtain ⟨y35, hT⟩ := hT
      obtain ⟨y36, hT⟩ := hT
      obtain ⟨y37, hT⟩ := hT
      obtain ⟨y38, hT⟩ := hT
      obtain ⟨y39, hT⟩ := hT
      obtain ⟨y40, hT⟩ := hT
      obtain ⟨y41, hT⟩ := hT
      obtain ⟨y42, hT⟩ := hT
      obtain ⟨y43, hT⟩ := hT
      obtain ⟨y44, hT⟩ := hT
      obtain ⟨y45, hT⟩ := hT
      obtain ⟨y46, hT⟩ := hT
      obtain ⟨y47, hT⟩ := hT
      obtain ⟨y48, hT⟩ := hT
      obtain ⟨y49, hT⟩ := hT
      obtain ⟨y50, hT⟩ := hT
      obtain ⟨y51, hT⟩ := hT
      obtain ⟨y52, hT⟩ := hT
      obtain ⟨y53, hT⟩ := hT
      obtain ⟨y54, hT⟩ := hT
      obtain ⟨y55, hT⟩ := hT
      obtain ⟨y56, hT⟩ := hT
      obtain ⟨y57, hT⟩ := hT
      obtain ⟨y58, hT⟩ := hT
      obtain ⟨y59, hT⟩ := hT
      obtain ⟨y60, hT⟩ := hT
      obtain ⟨y61, hT⟩ := hT
      obtain ⟨y62, hT⟩ := hT
      obtain ⟨y63, hT⟩ := hT
      obtain ⟨y64, hT⟩ := hT
      obtain ⟨y65, hT⟩ := hT
      obtain ⟨y66, hT⟩ := hT
      obtain ⟨y67, hT⟩ := hT
      obtain ⟨y68, hT⟩ := hT
      obtain ⟨y69, hT⟩ := hT
      obtain ⟨y70, hT⟩ := hT
      obtain ⟨y71, hT⟩ := hT
      obtain ⟨y72, hT⟩ := hT
      obtain ⟨y73, hT⟩ := hT
      obtain ⟨y74, hT⟩ := hT
      obtain ⟨y75, hT⟩ := hT
      obtain ⟨y76, hT⟩ := hT
      obtain ⟨y77, hT⟩ := hT
      obtain ⟨y78, hT⟩ := hT
      obtain ⟨y79, hT⟩ := hT
      obtain ⟨y80, hT⟩ := hT
      obtain ⟨y81, hT⟩ := hT
      obtain ⟨y82, hT⟩ := hT
      obtain ⟨y83, hT⟩ := hT
      obtain ⟨y84, hT⟩ := hT
      obtain ⟨y85, hT⟩ := hT
      obtain ⟨y86, hT⟩ := hT
      obtain ⟨y87, hT⟩ := hT
      obtain ⟨y88, hT⟩ := hT
      obtain ⟨y89, hT⟩ := hT
      obtain ⟨y90, hT⟩ := hT
      obtain ⟨y91, hT⟩ := hT
      obtain ⟨y92, hT⟩ := hT
      obtain ⟨y93, hT⟩ := hT
      obtain ⟨y94, hT⟩ := hT
      obtain ⟨y95, hT⟩ := hT
      obtain ⟨y96, hT⟩ := hT
      obtain ⟨y97, hT⟩ := hT
      obtain ⟨y98, hT⟩ := hT
      obtain ⟨y99, hT⟩ := hT
      obtain ⟨y100, hT⟩ := hT
      obtain ⟨y101, hT⟩ := hT
      obtain ⟨y102, hT⟩ := hT
      obtain ⟨y103, hT⟩ := hT
      obtain ⟨y104, hT⟩ := hT
      obtain ⟨y105, hT⟩ := hT
      obtain ⟨y106, hT⟩ := hT
      obtain ⟨y107, hT⟩ := hT
      obtain ⟨y108, hT⟩ := hT
      obtain ⟨y109, hT⟩ := hT
      obtain ⟨y110, hT⟩ := hT
      obtain ⟨y111, hT⟩ := hT
      obtain ⟨y112, hT⟩ := hT
      obtain ⟨y113, hT⟩ := hT
      obtain ⟨y114, hT⟩ := hT
      obtain ⟨y115, hT⟩ := hT
      obtain ⟨y116, hT⟩ := hT
      obtain ⟨y117, hT⟩ := hT
      obtain ⟨y118, hT⟩ := hT
      obtain ⟨y119, hT⟩ := hT
      obtain ⟨⟨cf2, p, hpx, h1, h2, h3, h4⟩, h5⟩ := hT
      exact ⟨y2, y3, y8, y9, y11, y12, y13, y14, y15, y16, y17, y18, y19, y20, y21, y22, y23, y24, y25, y26, y27, y28, y29, y30, y31, y32, y33, y34, y35, y36, y37, y38, y39, y40, y41, y42, y43, y44, y45, y46, y47, y48, y49, y50, y51, y52, y53, y54, y55, y56, y57, y58, y59, y60, y61, y62, y63, y64, y65, y66, y67, y68, y69, y70, y71, y72, y73, y74, y75, y76, y77, y78, y79, y80, y81, y82, y83, y84, y85, y86, y87, y88, y89, y90, y91, y92, y93, y94, y95, y96, y97, y98, y99, y100, y101, y102, y103, y104, y105, y106, y107, y108, y109, y110, y111, y112, y113, y114, y115, y116, y117, y118, y119, ⟨cf2, ps ++ [p], by rw [List.map_append, hps, List.append_assoc, ← hpx]; rfl, h1, h2, h3, h4⟩, h5⟩
    · rw [hT.meas, hme]; simp [intOf]; omega
  · obtain rfl : i = 0 := by omega
    have HE : Hid (gFuns raw n a0 = (l, a)) := by show _ = _; rw [E]; simp [gFuns]
    have HP := Lib.hid hp; have HA := Lib.hid ha; have HF := Lib.hid hf; have HQ := Lib.hid hq; have HPS := Lib.hid hps
    rw [HE.out] at hJ
    clear E hme hp ha hf hq hps hpl hP hA hF hpc HE hl hi hin hn hls hl0
    go_wp2_with fail
    go_meet
    exact ⟨cf1, ps, HPS.out, HP.out, HA.out, HF.out, HQ.out⟩
end Go.Proofs.YtgmaeflfiooigaaGreatDoor
