/-
  The printer in memory: a builder in its first field, tabs in its second. Conditions: the text written takes at most 2^47 bytes.
  WriteString into the printer's builder, put. Conditions: the text takes at most 2^47 bytes.
  put: texts, one behind the other, into the printer. Conditions: the text takes at most 2^47 bytes.
  part, list and expr: an expression's text. Conditions: the expression may be; its text takes at most 2^47 bytes; the library's table of powers is there.
  list of expressions: texts with commas between. Conditions as part.
  expr: an expression's text, a kind each. Conditions: the expression may be; its text takes at most 2^47 bytes; the library's table of powers is there.
  expr: an expression's text, a kind each. Conditions: the expression may be; its text takes at most 2^47 bytes; the library's table of powers is there.
  expr: an expression's text, a kind each. Conditions: the expression may be; its text takes at most 2^47 bytes; the library's table of powers is there.
  expr: an expression's text, a kind each. Conditions: the expression may be; its text takes at most 2^47 bytes; the library's table of powers is there.
  expr: an expression's text, a kind each. Conditions: the expression may be; its text takes at most 2^47 bytes; the library's table of powers is there.
  expr: an expression's text, a kind each. Conditions: the expression may be; its text takes at most 2^47 bytes; the library's table of powers is there.
  expr: an expression's text, a kind each. Conditions: the expression may be; its text takes at most 2^47 bytes; the library's table of powers is there.
-/
import Derived.Test.YtgmaeflfiooigaaGreatDoorTreeA
import Derived.Lib.Strings
import Derived.Lib.Slices
import Derived.Lib.Walk
import Derived.Lib.Builder
import Derived.Lib.AppendStr
import Derived.Lib.UnsafeStr
import Derived.Lib.MakeNoZero
import Derived.Laws.Externs
import Derived.Test.YtgmaeflfiooigaaGreatDoorTreeC
import Derived.Test.YtgmaeflfiooigaaGreatDoorShelf
set_option linter.unusedVariables false
set_option linter.unusedSimpArgs false
namespace Go.Proofs.YtgmaeflfiooigaaGreatDoor
open Go.RowKit
set_option maxHeartbeats 1000000
set_option maxRecDepth 100000

/-- The block in which the buffer of the printer at b lies. -/
def own (w : World) (b : Nat) : Option Nat :=
  match w.heap[b]? with
  | some (.cells cs _ _) => (cs.getD 1 undef).ownBlock
  | _ => none
/-- A printer at b that holds the text bs. -/
def PrtAt (w : World) (b : Nat) (bs : Bs) (t : Int) : Prop :=
  ∃ p v, w.heap[b]? = some (.cells #[p, v, .int .i64 t] 83 (0, 0)) ∧ (p = .pointer none ∨ p = .pointer (some ⟨b, 0, none⟩)) ∧ w.ownsRow (b + 1) 5 1 v bs.length (Lib.byteCells bs)
/-- What may have changed: the printer and its buffer; new blocks. -/
structure PFr (b : Nat) (w w' : World) : Prop where
  os : w'.os = w.os
  tape : w'.tape = w.tape
  output : w'.output = w.output
  size : w.heap.size ≤ w'.heap.size
  block : ∀ k, k < w.heap.size → k ≠ b → own w b ≠ some k → w'.heap[k]? = w.heap[k]?
  own : own w' b = own w b ∨ ∃ k, w.heap.size ≤ k ∧ own w' b = some k
theorem PFr.refl (b : Nat) (w : World) : PFr b w w := ⟨rfl, rfl, rfl, Nat.le_refl _, fun _ _ _ _ => rfl, .inl rfl⟩
theorem PFr.trans {b : Nat} {u v w : World} (h : PFr b u v) (k : PFr b v w) : PFr b u w where
  os := k.os.trans h.os
  tape := k.tape.trans h.tape
  output := k.output.trans h.output
  size := Nat.le_trans h.size k.size
  block i hi hb ho := by
    refine (k.block i (Nat.lt_of_lt_of_le hi h.size) hb ?_).trans (h.block i hi hb ho)
    rcases h.own with e | ⟨j, hj, e⟩
    · rw [e]; exact ho
    · rw [e]; intro c; cases c; omega
  own := by
    rcases k.own with e | ⟨j, hj, e⟩
    · rcases h.own with e' | ⟨j, hj, e'⟩
      · exact .inl (e.trans e')
      · exact .inr ⟨j, hj, e.trans e'⟩
    · exact .inr ⟨j, Nat.le_trans h.size hj, e⟩
theorem own_of {w w' : World} {b : Nat} (h : w'.heap[b]? = w.heap[b]?) : own w' b = own w b := by simp [own, h]
theorem PFr.of_below {b : Nat} {w w' : World} (h : Below w.heap.size w w') (hb : b < w.heap.size) : PFr b w w' :=
  ⟨h.os, h.tape, h.output, h.size, fun k hk _ _ => h.block k hk, .inl (own_of (h.block b hb))⟩
theorem PrtAt.lt {w : World} {b : Nat} {bs : Bs} {t : Int} (h : PrtAt w b bs t) : b < w.heap.size := by
  obtain ⟨p, v, hb, _⟩ := h
  rcases Nat.lt_or_ge b w.heap.size with h' | h'
  · exact h'
  · simp [Array.getElem?_eq_none h'] at hb
theorem PrtAt.own_gt {w : World} {b : Nat} {bs : Bs} {t : Int} (h : PrtAt w b bs t) {k : Nat} (ho : own w b = some k) : b < k ∧ k < w.heap.size := by
  obtain ⟨p, v, hb, _, hown⟩ := h
  have : v.ownBlock = some k := by simpa [own, hb] using ho
  have := hown.lt k this
  omega
theorem PFr.below {w w' : World} {b : Nat} {bs : Bs} {t : Int} (h : PFr b w w') (hp : PrtAt w b bs t) : Below b w w' :=
  ⟨h.os, h.tape, h.output, h.size, fun k hk => h.block k (by have := hp.lt; omega) (by omega) (fun e => by have := hp.own_gt e; omega)⟩
/-- A printer stays where nothing is written. -/
theorem PrtAt.old {w w' : World} {b : Nat} {bs : Bs} {t : Int} (hp : PrtAt w b bs t) (h : Below w.heap.size w w') : PrtAt w' b bs t := by
  obtain ⟨p, v, hb, hq, hown⟩ := hp
  have hlt : b < w.heap.size := PrtAt.lt ⟨p, v, hb, hq, hown⟩
  refine ⟨p, v, (h.block b hlt).trans hb, hq, hown.1, ?_⟩
  rcases hown.2 with e | ⟨g, cap, cur, hv, hg, hh, r⟩
  · exact .inl e
  · refine .inr ⟨g, cap, cur, hv, hg, ?_, r⟩
    have hl : g < w.heap.size := by
      rcases Nat.lt_or_ge g w.heap.size with h' | h'
      · exact h'
      · simp [Array.getElem?_eq_none h'] at hh
    exact (h.block g hl).trans hh
/-- A row of a caller's own, apart from the printer and its buffer. -/
def Loc (w : World) (b X : Nat) (cs : List Value) : Prop := X ≠ b ∧ own w b ≠ some X ∧ X < w.heap.size ∧ RowAt w X 0 cs
theorem Loc.step {w w' : World} {b X : Nat} {cs : List Value} (h : Loc w b X cs) (hf : PFr b w w') : Loc w' b X cs := by
  obtain ⟨h1, h2, h3, h4⟩ := h
  refine ⟨h1, ?_, Nat.lt_of_lt_of_le h3 hf.size, fun i hi => ?_⟩
  · rcases hf.own with e | ⟨j, hj, e⟩
    · rw [e]; exact h2
    · rw [e]; intro c; cases c; omega
  · rw [World.cell?_of_block (w := w) (hf.block X h3 h1 h2)]; exact h4 i hi
theorem Loc.new {w : World} {b : Nat} {bs : Bs} {t : Int} (hp : PrtAt w b bs t) (cs : List Value) (T : TypeId) : Loc (w.alloc (.cells cs.toArray T)) b w.heap.size cs := by
  refine ⟨by have := hp.lt; omega, ?_, by simp, fun i hi => by simp⟩
  rw [own_of (Below.heap_alloc w _ b hp.lt)]
  intro e; have := (hp.own_gt e).2; omega
theorem Loc.cell {w : World} {b X : Nat} {cs : List Value} (h : Loc w b X cs) (i : Nat) (hi : i < cs.length) : w.cell? ⟨X, i, none⟩ = some cs[i] := by
  have := h.2.2.2 i hi; simpa using this
/-- What lies below the printer stays. -/
theorem PFr.keeps {w w' : World} {b : Nat} {bs : Bs} {t : Int} (h : PFr b w w') (hp : PrtAt w b bs t) : Keeps (· < b) w w' :=
  fun k off x hk hx => by rw [(h.below hp).cell (p := ⟨k, off, none⟩) hk]; exact hx

theorem infoByte : (Tryz.prog.info? 5).map (fun i => (i.zero, i.size, i.bytes)) = some (some (.int .u8 0), 1, 1) := by kernel_rfl
theorem infoBuilder : (Tryz.prog.info? 81).map (fun i => i.size) = some 2 := by kernel_rfl
theorem liesBuilder : liesAt Tryz.prog Tryz.prog.depth 83 (3 / Tryz.prog.cellsOf 83) 0 81 1 = true := by kernel_rfl

/-- copyCheck. -/
theorem copyCheck_used (b : Nat) (w : World) (h0 : w.cell? ⟨b, 0, none⟩ = some (.pointer (some ⟨b, 0, none⟩))) :
    Calls Tryz.prog 157 #[.pointer (some ⟨b, 0, none⟩)] w fun e w' => e = .returned (.tuple #[]) ∧ w = w' := by
  obtain ⟨j, hj, _⟩ := Option.map_eq_some_iff.1 infoBuilder
  go_enter Tryz.func157, Tryz.ntmps157
  go_wp2_with fail
  rw [Lib.run_neq_ptr_same w _ Tryz.underlying78 hj]
  go_wp2_with fail
  go_end0
  exact ⟨rfl, rfl⟩
theorem copyCheck_fresh (b : Nat) (w : World) (h0 : w.cell? ⟨b, 0, none⟩ = some (.pointer none)) (hsh : w.shape? b = some (83, 3)) (hfz : w.frozen? ⟨b, 0, none⟩ = false) :
    Calls Tryz.prog 157 #[.pointer (some ⟨b, 0, none⟩)] w fun e w' => e = .returned (.tuple #[]) ∧ w' = w.setCell ⟨b, 0, none⟩ (.pointer (some ⟨b, 0, none⟩)) := by
  obtain ⟨j, hj, hjs⟩ := Option.map_eq_some_iff.1 infoBuilder
  go_enter Tryz.func157, Tryz.ntmps157
  go_wp2_with fail
  rw [Lib.run_to_unsafe w ⟨b, 0, none⟩ Tryz.underlying78 Tryz.underlying186 hj (by rw [hjs]; decide) hsh (Nat.zero_lt_succ 2)]
  simp only [Result.andThen]
  rw [Oper.upon_value]
  go_wp2_with fail
  rw [run_callFunc_extern Tryz.func171 (by kernel_rfl) (by kernel_rfl) (by kernel_rfl) (e := Extern.AbiNoEscape.same) (by kernel_rfl)]
  rw [Lib.run_noEscape]
  simp only [Result.andThen]
  rw [Oper.upon_value]
  go_wp2_with fail
  rw [Lib.run_from_unsafe w ⟨b, 0, none⟩ Tryz.underlying186 Tryz.underlying78 hj hsh liesBuilder]
  simp only [Result.andThen]
  rw [Oper.upon_value]
  go_wp2_with fail
  go_end0
  exact ⟨rfl, rfl⟩
end Go.Proofs.YtgmaeflfiooigaaGreatDoor

namespace Go.Proofs.YtgmaeflfiooigaaGreatDoor
open Go.RowKit
set_option maxHeartbeats 2000000
set_option maxRecDepth 100000

/-- What a function that puts a text leaves. -/
def Puts (w : World) (b : Nat) (bs : Bs) (t : Int) (txt : Bs) (r : Ending) (w' : World) : Prop := r = .returned (.tuple #[]) ∧ PrtAt w' b (bs ++ txt) t ∧ PFr b w w'

theorem copyCheck_any (b : Nat) (bs : Bs) (t : Int) (w : World) (h : PrtAt w b bs t) :
    Calls Tryz.prog 157 #[.pointer (some ⟨b, 0, none⟩)] w fun e w' => e = .returned (.tuple #[]) ∧ PFr b w w' ∧
      ∃ v, w'.heap[b]? = some (.cells #[.pointer (some ⟨b, 0, none⟩), v, .int .i64 t] 83 (0, 0)) ∧ w'.ownsRow (b + 1) 5 1 v bs.length (Lib.byteCells bs) := by
  have hlt := h.lt
  obtain ⟨p, v, hb, hq, hown⟩ := h
  rcases hq with rfl | rfl
  · refine (copyCheck_fresh b w (by rw [Lib.cell_of_heap hb]; rfl) (by simp [World.shape?, hb]) (Lib.frozen_of_heap hb 0)).mono ?_
    rintro e w' ⟨rfl, rfl⟩
    have hb' : (w.setCell ⟨b, 0, none⟩ (.pointer (some ⟨b, 0, none⟩))).heap[b]? = some (.cells #[.pointer (some ⟨b, 0, none⟩), v, .int .i64 t] 83 (0, 0)) := by
      simp [World.setCell, Array.getElem?_modify, hb]
    refine ⟨rfl, ⟨rfl, rfl, rfl, by simp [World.setCell], fun k _ hk _ => Below.heap_setCell _ _ _ _ hk, .inl (by simp [own, hb, hb'])⟩, v, hb', ?_⟩
    refine hown.kept (row := some b) ⟨rfl, rfl, rfl, by simp [World.setCell], fun k _ hk => Below.heap_setCell _ _ _ _ (fun e => hk (by simp [e]))⟩ (Or.inr ?_)
    intro e; have := hown.lt b e; omega
  · refine (copyCheck_used b w (by rw [Lib.cell_of_heap hb]; rfl)).mono ?_
    rintro e w' ⟨rfl, rfl⟩
    exact ⟨rfl, PFr.refl _ _, v, hb, hown⟩

/-- Where a text is appended: the buffer stays in its block, or comes into a new one. -/
theorem append_str (P : Program) (w : World) (base : Nat) (t u ty e : TypeId) (i : TypeInfo) (ht : P.underlying t = some (.slice e)) (hu : P.underlying u = some .string) (hi : P.info? e = some i) (hz : i.zero = some (.int .u8 0))
    (hsize : i.size = 1) (hby : i.bytes = 1) (v : Value) (n : Nat) (xs : List Value) (hown : w.ownsRow base e 1 v n xs) (s : ByteArray)
    (h63 : n + s.size ≤ maxLen) (hbytes : n + s.size ≤ 140737488355328) (hbase : base ≤ w.heap.size) :
    ∃ v' w', (Builtin.append_ #[t, u] ty #[v, .string s]).run P w = .ok v' w' ∧ w'.ownsRow base e 1 v' (n + s.size) (xs ++ Lib.strCells s) ∧ w.grownBy w' v.ownBlock ∧
      (v'.ownBlock = v.ownBlock ∨ ∃ k, w.heap.size ≤ k ∧ v'.ownBlock = some k) := by
  obtain ⟨v', w', hr, h2, h3, h4⟩ := Lib.run_append_own_string (P := P) w base t u ty e i ht hu hi hz hsize hby v n xs hown s h63 hbytes hbase
  refine ⟨v', w', hr, h2, h3, ?_⟩
  have h63' : n + s.size ≤ 9223372036854775807 := by simp only [maxLen] at h63; omega
  rcases hown.2 with ⟨rfl, rfl⟩ | ⟨g, cap, cur, rfl, hbg, hg, hnc, hcm, hcs, htake⟩
  · by_cases hm : s.size = 0
    · rw [h4.2 ⟨rfl, hm⟩]; exact .inl rfl
    · have hq := run_append_nil_string (P := P) w t u ty e i (.int .u8 0) ht hu hi hz s (by omega) (by omega) (by rw [hby]; omega)
      rw [hr] at hq
      cases hq
      exact .inr ⟨w.heap.size, Nat.le_refl _, rfl⟩
  · by_cases hroom : n + s.size ≤ cap
    · have hcs' : cur.size = cap := by simpa using hcs
      have hq := Lib.run_append_room_string (P := P) w t u ty e i ht hu hi hsize g n cap cur hg s hroom (by omega)
      rw [hr] at hq
      cases hq
      exact .inl rfl
    · have hxl : xs.length = n := by simpa using hown.1
      have holds : ∀ j u, xs[j]? = some u → w.cell? ((⟨g, 0, none⟩ : Addr).add j) = some u := hown.cells (g := g) rfl
      have hq := Lib.run_append_grow_string (P := P) w t u ty e i (.int .u8 0) ht hu hi hz ⟨g, 0, none⟩ n cap xs (by rw [hsize]; simpa using hxl) holds s (by omega) (by omega) (by rw [hby]; exact growslice_fits (by omega) (by omega))
      rw [hr] at hq
      cases hq
      exact .inr ⟨w.heap.size, Nat.le_refl _, rfl⟩
theorem wpList_append_str {P : Program} {w : World} {ops : Array Oper} {rest : List Oper} {o : Oper} {a : Act} {Q : Exit → Act → World → Prop} (hgd : o.guard = none) (sl x : Operand) (t u : TypeId)
    (ho : o.op = .call { callee := .builtin .append, args := #[sl, x], argTypes := #[t, u] })
    (base : Nat) (e : TypeId) (i : TypeInfo) (ht : P.underlying t = some (.slice e)) (hu : P.underlying u = some .string) (hi : P.info? e = some i) (hz : i.zero = some (.int .u8 0))
    (hsize : i.size = 1) (hby : i.bytes = 1)
    (v : Value) (n : Nat) (xs : List Value) (hs : a.eval sl = v) (hown : w.ownsRow base e 1 v n xs) (s : ByteArray) (hx : a.eval x = .string s)
    (h63 : n + s.size ≤ maxLen) (hbytes : n + s.size ≤ 140737488355328) (hbase : base ≤ w.heap.size)
    (h : ∀ v' w', w'.ownsRow base e 1 v' (n + s.size) (xs ++ Lib.strCells s) → w.grownBy w' v.ownBlock → (v'.ownBlock = v.ownBlock ∨ ∃ k, w.heap.size ≤ k ∧ v'.ownBlock = some k) → wpList P ops Q rest (a.put o.dst v') w') : wpList P ops Q (o :: rest) a w := by
  refine wpList_plain hgd fun K hK => ?_
  obtain ⟨v', w', hr, h2, h3, h4⟩ := append_str P w base t u o.type e i ht hu hi hz hsize hby v n xs hown s h63 hbytes hbase
  unfold Oper.wp execOp
  simp only [ho, resolve, invoke, builtin, Sem.run_bind, Sem.run_pure, Result.andThen_ok, List.map_toArray, List.map_cons, List.map_nil, hs, hx, hr]
  exact hK _ _ (h v' w' h2 h3 h4)

theorem strCells_strOf (s : Bs) : Lib.strCells (strOf s) = Lib.byteCells s := by simp [Lib.strCells, Lib.byteCells]
theorem byteCells_app (a c : Bs) : Lib.byteCells a ++ Lib.byteCells c = Lib.byteCells (a ++ c) := by simp [Lib.byteCells]

theorem writeString_any (s : Bs) (b : Nat) (bs : Bs) (t : Int) (w : World) (h : PrtAt w b bs t) (hlen : Fits (bs.length + s.length)) :
    Calls Tryz.prog 135 #[.pointer (some ⟨b, 0, none⟩), .string (strOf s)] w fun e w' => e = .returned (.tuple #[.int .i64 s.length, .nilIface]) ∧ PrtAt w' b (bs ++ s) t ∧ PFr b w w' := by
  obtain ⟨i0, hi, hz0, hz1, hz2⟩ := info_parts infoByte
  have hlt := h.lt
  have HL : Hid (bs.length + s.length ≤ 140737488355328) := hlen
  clear hlen
  go_enter Tryz.func135, Tryz.ntmps135
  go_wp2_with fail
  refine (copyCheck_any b bs t _ h).mono ?_
  rintro e w1 ⟨rfl, hf1, v, hbk, hown⟩
  have HF1 := Lib.hid hf1
  have hs1 := hf1.size
  clear hf1 h
  have c0 : w1.cell? ⟨b, 0, none⟩ = some (.pointer (some ⟨b, 0, none⟩)) := by rw [Lib.cell_of_heap hbk]; rfl
  have c1 : w1.cell? ⟨b, 1, none⟩ = some v := by rw [Lib.cell_of_heap hbk]; rfl
  go_wp2_with (at_builtin; refine wpList_append_str (P := Tryz.prog) rfl _ _ 79 9 rfl (b + 1) 5 i0 Tryz.underlying79 Tryz.underlying9 hi hz0 hz1 hz2 _ _ _ rfl hown (strOf s) rfl ?c3 ?c4 ?c5 ?_)
  case c3 => have := HL.out; unfold maxLen; show bs.length + s.length ≤ _; omega
  case c4 => exact HL.out
  case c5 => omega
  intro v' w2 hown' hgrow hwhere
  have hlt1 : b < w1.heap.size := by omega
  have hb2 : w2.heap[b]? = some (.cells #[.pointer (some ⟨b, 0, none⟩), v, .int .i64 t] 83 (0, 0)) := by
    rw [hgrow.block b hlt1 (fun e => by have := hown.lt b e.symm; omega)]
    exact hbk
  have d0 : w2.cell? ⟨b, 0, none⟩ = some (.pointer (some ⟨b, 0, none⟩)) := by rw [Lib.cell_of_heap hb2]; rfl
  have d1 : w2.cell? ⟨b, 1, none⟩ = some v := by rw [Lib.cell_of_heap hb2]; rfl
  have f1 : w2.frozen? ⟨b, 1, none⟩ = false := Lib.frozen_of_heap hb2 1
  obtain ⟨ao, n', cap, rfl⟩ : ∃ ao n' cap, v' = .slice ao n' cap := by
    rcases hown'.2 with ⟨hv, _⟩ | ⟨g, cap, cur, hv, _⟩
    · exact ⟨_, _, _, hv⟩
    · exact ⟨_, _, _, hv⟩
  have HBK := Lib.hid hbk; have HB2 := Lib.hid hb2; have HOWN := Lib.hid hown; have HOWN' := Lib.hid hown'; have HG := Lib.hid hgrow; have HW := Lib.hid hwhere
  clear hbk hb2 hown hown' hgrow hwhere
  go_wp2_with fail
  go_ret2
  have hb3 : (w2.setCell ⟨b, 1, none⟩ (.slice ao n' cap)).heap[b]? = some (.cells #[.pointer (some ⟨b, 0, none⟩), .slice ao n' cap, .int .i64 t] 83 (0, 0)) := by
    simp [World.setCell, Array.getElem?_modify, HB2.out]
  have own1 : own w1 b = v.ownBlock := by simp [own, HBK.out]
  have own3 : own (w2.setCell ⟨b, 1, none⟩ (.slice ao n' cap)) b = (Value.slice ao n' cap).ownBlock := by simp [own, hb3]
  refine ⟨rfl, ⟨_, _, hb3, .inr rfl, ?_⟩, HF1.out.trans ⟨?_, ?_, ?_, ?_, ?_, ?_⟩⟩
  · have q := HOWN'.out
    rw [strCells_strOf, byteCells_app] at q
    rw [show (bs ++ s).length = bs.length + (strOf s).size from by simp; rfl]
    refine q.kept (row := some b) ⟨rfl, rfl, rfl, by simp [World.setCell], fun k _ hk => Below.heap_setCell _ _ _ _ (fun e => hk (by simp [e]))⟩ (Or.inr ?_)
    intro e; have := q.lt b e; omega
  · exact HG.out.os
  · exact HG.out.tape
  · exact HG.out.output
  · have := HG.out.size; simp [World.setCell]; omega
  · intro k hk hkb hko
    rw [Below.heap_setCell _ _ _ _ (by simpa using hkb)]
    exact HG.out.block k hk (fun e => hko (by rw [own1]; exact e.symm))
  · rw [own3, own1]; exact HW.out
end Go.Proofs.YtgmaeflfiooigaaGreatDoor

namespace Go.Proofs.YtgmaeflfiooigaaGreatDoor
open Go.RowKit
set_option maxHeartbeats 2000000
set_option maxRecDepth 100000

theorem PrtAt.alloc {w : World} {b : Nat} {bs : Bs} {t : Int} (h : PrtAt w b bs t) (o : Obj) : PrtAt (w.alloc o) b bs t := h.old ((Below.refl _ _).alloc (Nat.le_refl _) _)
theorem PFr.alloc {w : World} {b : Nat} {bs : Bs} {t : Int} (h : PrtAt w b bs t) (o : Obj) : PFr b w (w.alloc o) := PFr.of_below ((Below.refl _ _).alloc (Nat.le_refl _) _) h.lt

theorem put_any (ws : List Bs) (X cap b : Nat) (bs : Bs) (t : Int) (w : World) (hp : PrtAt w b bs t) (hl : Loc w b X (ws.map fun s => .string (strOf s))) (hf : Fits (bs.length + ws.flatten.length)) (hn : ws.length ≤ 1000) :
    Calls Tryz.prog 72 #[.pointer (some ⟨b, 0, none⟩), .slice (some ⟨X, 0, none⟩) ws.length cap] w (Puts w b bs t ws.flatten) := by
  have HP := Lib.hid hp; have HL := Lib.hid hl; have HF := Lib.hid hf
  clear hp hl hf
  go_enter Tryz.func72, Tryz.ntmps72
  go_wp2_with fail
  go_loopw [5, 8] (fun _ s8 wr => ∃ k : Nat, k ≤ ws.length ∧ s8 = .int .i64 k ∧ PrtAt wr b (bs ++ (ws.take k).flatten) t ∧ PFr b w wr) (fun _ s8 _ => ws.length - (intOf s8).toNat)
  case atStart => exact ⟨0, Nat.zero_le _, rfl, by simpa using HP.out, PFr.refl _ _⟩
  case round =>
    obtain ⟨k, hk, rfl, hp, hfr⟩ := hrel
    have HPK := Lib.hid hp; have HFR := Lib.hid hfr
    have hbl := hp.lt
    have HLK := Lib.hid (HL.out.step hfr)
    clear hp hfr
    by_cases hlt : k < ws.length
    · have c := HLK.out.cell k (by simpa using hlt)
      have ec : (ws.map fun s => Value.string (strOf s))[k]'(by simpa using hlt) = .string (strOf (ws.getD k [])) := by simp [List.getElem?_eq_getElem hlt]
      rw [ec] at c
      have hsp : Hid ((ws.take (k + 1)).flatten = (ws.take k).flatten ++ ws.getD k []) := by
        show _ = _
        rw [List.take_succ_eq_append_getElem hlt]
        simp only [List.flatten_append, List.flatten_cons, List.flatten_nil, List.append_nil, List.getD_eq_getElem?_getD, List.getElem?_eq_getElem hlt, Option.getD_some]
      have hfit : Hid (Fits ((bs ++ (ws.take k).flatten).length + (ws.getD k []).length)) := by
        refine HF.out.mono ?_
        have e : ws.flatten = (ws.take (k + 1)).flatten ++ (ws.drop (k + 1)).flatten := by rw [← List.flatten_append, List.take_append_drop]
        rw [e, hsp.out]; simp; omega
      clear ec
      generalize ws.getD k [] = s at c hsp hfit
      go_wp2_with fail
      refine (writeString_any s b _ t _ HPK.out hfit.out).mono ?_
      rintro r w3 ⟨rfl, hp3, hf3⟩
      have HP3 := Lib.hid hp3; have HF3 := Lib.hid hf3
      clear hp3 hf3
      go_wp2_with fail
      go_roundw
      case rel => exact ⟨k + 1, by omega, by go_num, by rw [hsp.out, ← List.append_assoc]; exact HP3.out, HFR.out.trans HF3.out⟩
      case measure => simp [intOf]; omega
    · go_wp2_with fail
      go_end0
      exact ⟨rfl, by have e : ws.take k = ws := List.take_of_length_le (by omega); have q := HPK.out; rwa [e] at q, HFR.out⟩

/-- One, two, three texts in a slice that the call has just built. -/
theorem put1 (s : Bs) (T : TypeId) (X b : Nat) (bs : Bs) (t : Int) (w : World) (hX : X = w.heap.size) (hp : PrtAt w b bs t) (hf : Fits (bs.length + s.length)) :
    Calls Tryz.prog 72 #[.pointer (some ⟨b, 0, none⟩), .slice (some ⟨X, 0, none⟩) 1 1] (w.alloc (.cells #[.string (strOf s)] T)) (Puts w b bs t s) := by
  subst hX
  refine (put_any [s] w.heap.size 1 b bs t _ (hp.alloc _) (Loc.new hp [.string (strOf s)] T) (by simpa using hf) (by simp)).mono ?_
  rintro r w' ⟨rfl, h2, h3⟩
  exact ⟨rfl, by simpa using h2, (PFr.alloc hp _).trans h3⟩
theorem put2 (s1 s2 : Bs) (T : TypeId) (X b : Nat) (bs : Bs) (t : Int) (w : World) (hX : X = w.heap.size) (hp : PrtAt w b bs t) (hf : Fits (bs.length + (s1 ++ s2).length)) :
    Calls Tryz.prog 72 #[.pointer (some ⟨b, 0, none⟩), .slice (some ⟨X, 0, none⟩) 2 2] (w.alloc (.cells #[.string (strOf s1), .string (strOf s2)] T)) (Puts w b bs t (s1 ++ s2)) := by
  subst hX
  refine (put_any [s1, s2] w.heap.size 2 b bs t _ (hp.alloc _) (Loc.new hp [.string (strOf s1), .string (strOf s2)] T) (by simpa using hf) (by simp)).mono ?_
  rintro r w' ⟨rfl, h2, h3⟩
  exact ⟨rfl, by simpa using h2, (PFr.alloc hp _).trans h3⟩
theorem put3 (s1 s2 s3 : Bs) (T : TypeId) (X b : Nat) (bs : Bs) (t : Int) (w : World) (hX : X = w.heap.size) (hp : PrtAt w b bs t) (hf : Fits (bs.length + (s1 ++ (s2 ++ s3)).length)) :
    Calls Tryz.prog 72 #[.pointer (some ⟨b, 0, none⟩), .slice (some ⟨X, 0, none⟩) 3 3] (w.alloc (.cells #[.string (strOf s1), .string (strOf s2), .string (strOf s3)] T)) (Puts w b bs t (s1 ++ (s2 ++ s3))) := by
  subst hX
  refine (put_any [s1, s2, s3] w.heap.size 3 b bs t _ (hp.alloc _) (Loc.new hp [.string (strOf s1), .string (strOf s2), .string (strOf s3)] T) (by simpa using hf) (by simp)).mono ?_
  rintro r w' ⟨rfl, h2, h3⟩
  exact ⟨rfl, by simpa using h2, (PFr.alloc hp _).trans h3⟩
end Go.Proofs.YtgmaeflfiooigaaGreatDoor

namespace Go.Proofs.YtgmaeflfiooigaaGreatDoor
open Go.RowKit
set_option maxHeartbeats 2000000
set_option maxRecDepth 100000

def TabOk (w : World) : Prop := Lib.TabIs Tryz.prog w "internal/strconv.uint64pow10" .u64 Lib.pow10Tab
theorem TabOk.keep {w w' : World} (h : TabOk w) (hb : w'.heap[3]? = w.heap[3]?) : TabOk w' := by
  have hg : Tryz.prog.globalNamed "internal/strconv.uint64pow10" = some 3 := by kernel_rfl
  unfold TabOk Lib.TabIs World.var? at *
  simp only [hg, Option.bind_eq_bind, Option.bind_some] at *
  rw [hb]; exact h
theorem itoa_any (n : Int) (h : I64 n) (w : World) (ht : TabOk w) :
    Calls Tryz.prog 39 #[.int .i64 n] w fun e w' => e = .returned (.string (strOf (Lib.itoa n))) ∧ Below w.heap.size w w' := by
  refine (Tryz.strconv_Itoa n h.1 h.2 w ht).mono ?_
  rintro e w' ⟨rfl, k, os, rfl⟩
  exact ⟨rfl, rfl, rfl, rfl, by simp, fun i hi => by simp [Sort.grow, World.drewN, Array.getElem?_append_left hi]⟩

/-- The contract of expr. -/
def ExprOf (e : Ex) : Prop := ∀ (b : Nat) (bs : Bs) (t : Int) (s : Value) (w : World), 3 < b → TabOk w → PrtAt w b bs t → ExsAt (· < b) w e.args s → I64 e.n → wellOk e = true → Fits (bs.length + (exText e).length) →
  Calls Tryz.prog 60 #[.pointer (some ⟨b, 0, none⟩), exV e s] w (Puts w b bs t (exText e))
theorem TabOk.fr {w w' : World} {b : Nat} {bs : Bs} {t : Int} (h : TabOk w) (hf : PFr b w w') (hp : PrtAt w b bs t) (hb : 3 < b) : TabOk w' := h.keep ((hf.below hp).block _ hb)

theorem part_any (e : Ex) (ih : ExprOf e) (level : Int) (b : Nat) (bs : Bs) (t : Int) (s : Value) (w : World) (hb : 3 < b) (ht : TabOk w) (hp : PrtAt w b bs t) (hs : ExsAt (· < b) w e.args s) (hn : I64 e.n) (hw : wellOk e = true) (hf : Fits (bs.length + (partText e level).length)) :
    Calls Tryz.prog 93 #[.pointer (some ⟨b, 0, none⟩), exV e s, .int .i64 level] w (Puts w b bs t (partText e level)) := by
  have IH := Lib.hid ih; have HT := Lib.hid ht; have HP := Lib.hid hp; have HN := Lib.hid hn; have HW := Lib.hid hw; have HF := Lib.hid hf
  obtain ⟨sa, sc, rfl⟩ := hs.shape
  have HS := Lib.hid hs
  clear ih ht hs hn hw hf
  have hlt := hp.lt
  have hp1 := Lib.hid (hp.alloc (.cells #[.int .i64 e.kind, .int .i64 e.op, .int .i64 e.n, .string (strOf e.name), .slice sa e.args.length sc] 31))
  have hf1 := Lib.hid (PFr.alloc hp (.cells #[.int .i64 e.kind, .int .i64 e.op, .int .i64 e.n, .string (strOf e.name), .slice sa e.args.length sc] 31))
  have hl1 := Lib.hid (Loc.new hp [.int .i64 e.kind, .int .i64 e.op, .int .i64 e.n, .string (strOf e.name), .slice sa e.args.length sc] 31)
  clear hp
  by_cases h4 : e.kind = 4
  · have k4 : (e.kind == 4) = true := by simpa using h4
    by_cases hl : levelOf e.op < level
    · have E : Hid (partText e level = [40] ++ (exText e ++ [41])) := by show _ = _; simp [partText, wrapPart, h4, hl]
      rw [E.out] at HF ⊢
      clear h4
      go_enter Tryz.func93, Tryz.ntmps93
      go_wp2_with fail
      refine (level_any e.op _).mono ?_
      rintro r w2 ⟨rfl, hb2⟩
      have hf2 := PFr.of_below hb2 hp1.out.lt
      have HP2 := Lib.hid (hp1.out.old hb2); have HF2 := Lib.hid (hf1.out.trans hf2); have HL2 := Lib.hid (hl1.out.step hf2)
      clear hb2 hf2 hp1 hf1 hl1
      go_wp2_with fail
      refine (put1 [40] _ _ b bs t w2 rfl HP2.out (HF.out.mono (by simp))).mono ?_
      rintro r w3 ⟨rfl, hp3, hf3⟩
      have HP3 := Lib.hid hp3; have HF3 := Lib.hid (HF2.out.trans hf3); have HL3 := Lib.hid (HL2.out.step hf3)
      clear hp3 hf3 HP2 HF2 HL2
      have c0 := HL3.out.cell 0 (by simp); have c1 := HL3.out.cell 1 (by simp); have c2 := HL3.out.cell 2 (by simp); have c3 := HL3.out.cell 3 (by simp); have c4 := HL3.out.cell 4 (by simp)
      simp only [List.getElem_cons_zero, List.getElem_cons_succ] at c0 c1 c2 c3 c4
      go_wp2_with fail
      refine (IH.out b (bs ++ [40]) t _ w3 hb (HT.out.fr HF3.out HP.out hb) HP3.out (HS.out.keep (HF3.out.keeps HP.out)) HN.out HW.out (HF.out.mono (by simp; omega))).mono ?_
      rintro r w4 ⟨rfl, hp4, hf4⟩
      have HP4 := Lib.hid hp4; have HF4 := Lib.hid (HF3.out.trans hf4)
      clear hp4 hf4 c0 c1 c2 c3 c4
      go_wp2_with fail
      refine (put1 [41] _ _ b _ t w4 rfl HP4.out (HF.out.mono (by simp; omega))).mono ?_
      rintro r w5 ⟨rfl, hp5, hf5⟩
      go_wp2_with fail
      go_end0
      exact ⟨rfl, by simpa using hp5, HF4.out.trans hf5⟩
    · have hl' : level ≤ levelOf e.op := by omega
      have E : Hid (partText e level = exText e) := by show _ = _; simp [partText, wrapPart, hl]
      rw [E.out] at HF ⊢
      clear h4
      go_enter Tryz.func93, Tryz.ntmps93
      go_wp2_with fail
      refine (level_any e.op _).mono ?_
      rintro r w2 ⟨rfl, hb2⟩
      have hf2 := PFr.of_below hb2 hp1.out.lt
      have HP2 := Lib.hid (hp1.out.old hb2); have HF2 := Lib.hid (hf1.out.trans hf2); have HL2 := Lib.hid (hl1.out.step hf2)
      clear hb2 hf2 hp1 hf1 hl1
      have c0 := HL2.out.cell 0 (by simp); have c1 := HL2.out.cell 1 (by simp); have c2 := HL2.out.cell 2 (by simp); have c3 := HL2.out.cell 3 (by simp); have c4 := HL2.out.cell 4 (by simp)
      simp only [List.getElem_cons_zero, List.getElem_cons_succ] at c0 c1 c2 c3 c4
      go_wp2_with fail
      refine (IH.out b bs t _ w2 hb (HT.out.fr HF2.out HP.out hb) HP2.out (HS.out.keep (HF2.out.keeps HP.out)) HN.out HW.out HF.out).mono ?_
      rintro r w4 ⟨rfl, hp4, hf4⟩
      have HP4 := Lib.hid hp4; have HF4 := Lib.hid (HF2.out.trans hf4)
      clear hp4 hf4 c0 c1 c2 c3 c4
      go_wp2_with fail
      go_end0
      exact ⟨rfl, HP4.out, HF4.out⟩
  · have k4 : (e.kind == 4) = false := by simpa using h4
    have E : Hid (partText e level = exText e) := by show _ = _; simp [partText, wrapPart, h4]
    rw [E.out] at HF ⊢
    clear h4
    go_enter Tryz.func93, Tryz.ntmps93
    go_wp2_with fail
    refine (IH.out b bs t _ _ hb (HT.out.fr hf1.out HP.out hb) hp1.out (HS.out.keep (hf1.out.keeps HP.out)) HN.out HW.out HF.out).mono ?_
    rintro r w4 ⟨rfl, hp4, hf4⟩
    have HP4 := Lib.hid hp4; have HF4 := Lib.hid (hf1.out.trans hf4)
    clear hp4 hf4
    go_wp2_with fail
    go_end0
    exact ⟨rfl, HP4.out, HF4.out⟩
end Go.Proofs.YtgmaeflfiooigaaGreatDoor

namespace Go.Proofs.YtgmaeflfiooigaaGreatDoor
open Go.RowKit
set_option maxHeartbeats 2000000
set_option maxRecDepth 100000

theorem sepText_le (a c : List Bs) : (sepText a).length ≤ (sepText (a ++ c)).length := by
  cases a with
  | nil => simp [sepText]
  | cons x l => simp [sepText]
theorem sepText_take_le (ts : List Bs) (k : Nat) : (sepText (ts.take k)).length ≤ (sepText ts).length := by
  have := sepText_le (ts.take k) (ts.drop k)
  rwa [List.take_append_drop] at this
theorem map_take_succ (l : List Ex) (k : Nat) (h : k < l.length) : (l.take (k + 1)).map exText = (l.take k).map exText ++ [exText (exAt l k)] := by
  rw [List.take_succ_eq_append_getElem h, List.map_append, List.map_cons, List.map_nil, exAt_get h]

theorem list_any (l : List Ex) (ih : ∀ x, x ∈ l → ExprOf x) (b : Nat) (bs : Bs) (t : Int) (s : Value) (w : World) (hb : 3 < b) (ht : TabOk w) (hp : PrtAt w b bs t) (hs : ExsAt (· < b) w l s) (hw : ∀ x, x ∈ l → wellOk x = true) (hf : Fits (bs.length + (sepText (l.map exText)).length)) :
    Calls Tryz.prog 94 #[.pointer (some ⟨b, 0, none⟩), s, .func (.func 60) #[.pointer (some ⟨b, 0, none⟩)] #[]] w (Puts w b bs t (sepText (l.map exText))) := by
  have IH := Lib.hid ih; have HT := Lib.hid ht; have HP := Lib.hid hp; have HW := Lib.hid hw; have HF := Lib.hid hf
  obtain ⟨sa, sc, rfl⟩ := hs.shape
  have hl63 := hs.fits.lt
  have HS := Lib.hid hs
  clear ih ht hs hw hf hp
  go_enter Tryz.func94, Tryz.ntmps94
  go_wp2_with fail
  go_loopw [6, 7, 10] (fun _ _ s10 wr => ∃ k : Nat, k ≤ l.length ∧ s10 = .int .i64 k ∧ PrtAt wr b (bs ++ sepText ((l.take k).map exText)) t ∧ PFr b w wr) (fun _ _ s10 _ => l.length - (intOf s10).toNat)
  case atStart => exact ⟨0, Nat.zero_le _, rfl, by simpa [sepText] using HP.out, PFr.refl _ _⟩
  case round =>
    obtain ⟨k, hk, rfl, hpk, hfr⟩ := hrel
    have HPK := Lib.hid hpk; have HFR := Lib.hid hfr
    have hbl := hpk.lt
    clear hpk hfr
    by_cases hlt : k < l.length
    · obtain ⟨eb, off, es, rfl, hD, c0, c1, c2, c3, c4, hes, hn⟩ := (HS.out.keep (HFR.out.keeps HP.out)).cellAt k hlt
      obtain ⟨ea, ec, rfl⟩ := hes.shape
      have HES := Lib.hid hes; have HN := Lib.hid hn
      have IHX := Lib.hid (IH.out _ (exAt_mem hlt)); have HWX := Lib.hid (HW.out _ (exAt_mem hlt))
      have hmap := Lib.hid (map_take_succ l k hlt)
      have hle := Lib.hid (sepText_take_le (l.map exText) (k + 1))
      rw [← List.map_take, hmap.out, sepText_snoc] at hle
      clear hes hn hD
      generalize exAt l k = e at c0 c1 c2 c3 c4 HES HN IHX HWX hmap hle
      have hp1 := Lib.hid (HPK.out.alloc (.cells #[.int .i64 e.kind, .int .i64 e.op, .int .i64 e.n, .string (strOf e.name), .slice ea e.args.length ec] 31))
      have hf1 := Lib.hid (HFR.out.trans (PFr.alloc HPK.out (.cells #[.int .i64 e.kind, .int .i64 e.op, .int .i64 e.n, .string (strOf e.name), .slice ea e.args.length ec] 31)))
      have hl1 := Lib.hid (Loc.new HPK.out [.int .i64 e.kind, .int .i64 e.op, .int .i64 e.n, .string (strOf e.name), .slice ea e.args.length ec] 31)
      have hebl : eb < wr.heap.size := World.block_lt_of_cell? _ _ c0
      by_cases hk0 : k = 0
      · have hk0' : (k : Int) ≤ 0 := by omega
        have hnil : (l.take k).map exText = [] := by rw [hk0]; simp
        rw [if_pos hnil] at hle
        have HK0 := Lib.hid hk0; have HNIL := Lib.hid hnil
        have hle' : Hid (Fits ((bs ++ sepText ((l.take k).map exText)).length + (exText e).length)) := HF.out.mono (by have := hle.out; rw [HNIL.out]; simp [sepText]; exact this)
        have hnext : Hid (sepText ((l.take (k + 1)).map exText) = sepText ((l.take k).map exText) ++ exText e) := by show _ = _; rw [hmap.out, HNIL.out]; simp [sepText]
        clear hk0 hnil
        go_wp2_with fail
        refine (IHX.out b _ t _ _ hb (HT.out.fr hf1.out HP.out hb) hp1.out (HES.out.keep ((PFr.alloc HPK.out _).keeps HPK.out)) HN.out HWX.out hle'.out).mono ?_
        rintro r w3 ⟨rfl, hp3, hf3⟩
        have HP3 := Lib.hid hp3; have HF3 := Lib.hid (hf1.out.trans hf3)
        clear hp3 hf3 c0 c1 c2 c3 c4
        go_wp2_with fail
        go_roundw
        case rel => exact ⟨k + 1, by omega, by go_num, by have q := HP3.out; rw [hnext.out]; simpa using q, HF3.out⟩
        case measure => simp [intOf]; omega
      · have hk1 : (0 : Int) < k := by omega
        have hne : Hid ((l.take k).map exText ≠ []) := by
          intro h; rw [List.map_eq_nil_iff, List.take_eq_nil_iff] at h; rcases h with h | h
          · exact hk0 h
          · rw [h] at hlt; simp at hlt
        have hle2 : Hid (Fits ((bs ++ sepText ((l.take k).map exText)).length + ([44, 32] : Bs).length + (exText e).length)) := HF.out.mono (by have := hle.out; rw [if_neg hne.out] at this; simp at this; simp; omega)
        have hnext : Hid (sepText ((l.take (k + 1)).map exText) = sepText ((l.take k).map exText) ++ [44, 32] ++ exText e) := by show _ = _; rw [hmap.out, sepText_snoc, if_neg hne.out]
        clear hk0
        go_wp2_with fail
        refine (put1 [44, 32] _ _ b _ t _ (by simp) hp1.out (hle2.out.mono (by omega))).mono ?_
        rintro r w2 ⟨rfl, hp2, hf2⟩
        have HP2 := Lib.hid hp2; have HF2 := Lib.hid (hf1.out.trans hf2); have HL2 := Lib.hid (hl1.out.step hf2)
        have HES2 := Lib.hid (HES.out.keep (((PFr.alloc HPK.out _).trans hf2).keeps HPK.out))
        clear hp2 hf2 c0 c1 c2 c3 c4
        have c0 := HL2.out.cell 0 (by simp); have c1 := HL2.out.cell 1 (by simp); have c2 := HL2.out.cell 2 (by simp); have c3 := HL2.out.cell 3 (by simp); have c4 := HL2.out.cell 4 (by simp)
        simp only [List.getElem_cons_zero, List.getElem_cons_succ] at c0 c1 c2 c3 c4
        go_wp2_with fail
        refine (IHX.out b _ t _ _ hb (HT.out.fr HF2.out HP.out hb) HP2.out HES2.out HN.out HWX.out (hle2.out.mono (by simp; omega))).mono ?_
        rintro r w3 ⟨rfl, hp3, hf3⟩
        have HP3 := Lib.hid hp3; have HF3 := Lib.hid (HF2.out.trans hf3)
        clear hp3 hf3 c0 c1 c2 c3 c4
        go_wp2_with fail
        go_roundw
        case rel => exact ⟨k + 1, by omega, by go_num, by have q := HP3.out; rw [hnext.out]; simpa using q, HF3.out⟩
        case measure => simp [intOf]; omega
    · go_wp2_with fail
      go_end0
      exact ⟨rfl, by have e : l.take k = l := List.take_of_length_le (by omega); have q := HPK.out; rwa [e] at q, HFR.out⟩
end Go.Proofs.YtgmaeflfiooigaaGreatDoor

namespace Go.Proofs.YtgmaeflfiooigaaGreatDoor
open Go.RowKit
set_option maxHeartbeats 4000000
set_option maxRecDepth 100000

theorem wellOk_parts {e : Ex} (h : wellOk e = true) : wellHere e = true ∧ ∀ x, x ∈ e.args → wellOk x = true := by
  rw [wellOk_eq, Bool.and_eq_true, List.all_eq_true] at h; exact h
theorem levelOf_range (o : Int) : 0 ≤ levelOf o ∧ levelOf o ≤ 8 := by
  unfold levelOf; repeat' split
  all_goals omega
theorem kind_of_well {e : Ex} (h : wellHere e = true) : e.kind = 1 ∨ e.kind = 2 ∨ e.kind = 3 ∨ e.kind = 4 ∨ e.kind = 5 ∨ e.kind = 6 ∨ e.kind = 7 := by
  have hk : onlyOk e = true := by unfold wellHere at h; simp only [Bool.and_eq_true] at h; exact h.1.1.1.1
  unfold onlyOk at hk
  by_cases h1 : e.kind = 1; · simp [h1]
  by_cases h2 : e.kind = 2; · simp [h2]
  by_cases h3 : e.kind = 3; · simp [h3]
  by_cases h4 : e.kind = 4; · simp [h4]
  by_cases h5 : e.kind = 5; · simp [h5]
  by_cases h6 : e.kind = 6; · simp [h6]
  simp [h1, h2, h3, h4, h5, h6] at hk; simp [hk]
end Go.Proofs.YtgmaeflfiooigaaGreatDoor

namespace Go.Proofs.YtgmaeflfiooigaaGreatDoor
open Go.RowKit
set_option maxHeartbeats 4000000
set_option maxRecDepth 100000


theorem expr_1 (o n : Int) (nm : Bs) (args : List Ex) (ih : ∀ x, x ∈ args → ExprOf x) : ExprOf (.mk 1 o n nm args) := by
  intro b bs t s w hb ht hp hs hn hw hf
  have hs : ExsAt (· < b) w args s := hs
  have hn : I64 n := hn
  have hwh := (wellOk_parts hw).1
  have hwa : ∀ x, x ∈ args → wellOk x = true := (wellOk_parts hw).2
  obtain ⟨sa, sc, rfl⟩ := hs.shape
  have E : Hid (exText (.mk 1 o n nm args) = Lib.itoa n) := by exact exText_1 o n nm args
  rw [E.out] at hf ⊢
  show Calls _ _ #[.pointer (some ⟨b, 0, none⟩), .agg #[.int .i64 1, .int .i64 o, .int .i64 n, .string (strOf nm), .slice sa args.length sc]] _ _
  have IH := Lib.hid ih; have HT := Lib.hid ht; have HP := Lib.hid hp; have HN := Lib.hid hn; have HF := Lib.hid hf; have HS := Lib.hid hs; have HWA := Lib.hid hwa
  have hp1 := Lib.hid (hp.alloc (.cells #[.int .i64 1, .int .i64 o, .int .i64 n, .string (strOf nm), .slice sa args.length sc] 31))
  have hf1 := Lib.hid (PFr.alloc hp (.cells #[.int .i64 1, .int .i64 o, .int .i64 n, .string (strOf nm), .slice sa args.length sc] 31))
  have hl1 := Lib.hid (Loc.new hp [.int .i64 1, .int .i64 o, .int .i64 n, .string (strOf nm), .slice sa args.length sc] 31)
  clear ih ht hp hs hw hf hn hwh hwa
  go_enter Tryz.func60, Tryz.ntmps60
  go_wp2_with fail
  refine (sign_any o _).mono ?_
  rintro r w2 ⟨rfl, hb2⟩
  have hf2 := PFr.of_below hb2 hp1.out.lt
  have HP2 := Lib.hid (hp1.out.old hb2); have HF2 := Lib.hid (hf1.out.trans hf2); have HL2 := Lib.hid (hl1.out.step hf2)
  clear hb2 hf2 hp1 hf1 hl1
  have c0 := HL2.out.cell 0 (by simp); have c1 := HL2.out.cell 1 (by simp); have c2 := HL2.out.cell 2 (by simp); have c3 := HL2.out.cell 3 (by simp); have c4 := HL2.out.cell 4 (by simp)
  simp only [List.getElem_cons_zero, List.getElem_cons_succ] at c0 c1 c2 c3 c4
  go_wp2_with fail
  refine (itoa_any n HN.out w2 (HT.out.fr HF2.out HP.out hb)).mono ?_
  rintro r w3 ⟨rfl, hb3⟩
  have hf3 := PFr.of_below hb3 HP2.out.lt
  have HP3 := Lib.hid (HP2.out.old hb3); have HF3 := Lib.hid (HF2.out.trans hf3); have HL3 := Lib.hid (HL2.out.step hf3)
  clear hb3 hf3
  go_wp2_with fail
  refine (put1 (Lib.itoa n) _ _ b _ t w3 rfl HP3.out (HF.out.mono (by simp; try omega))).mono ?_
  rintro r w4 ⟨rfl, hp4, hf4⟩
  have HP4 := Lib.hid hp4; have HF4 := Lib.hid (HF3.out.trans hf4); have HL4 := Lib.hid (HL3.out.step hf4)
  clear hp4 hf4 c0 c1 c2 c3 c4
  go_wp2_with fail
  go_end0
  exact ⟨rfl, by simpa using HP4.out, HF4.out⟩

theorem expr_2 (o n : Int) (nm : Bs) (args : List Ex) (ih : ∀ x, x ∈ args → ExprOf x) : ExprOf (.mk 2 o n nm args) := by
  intro b bs t s w hb ht hp hs hn hw hf
  have hs : ExsAt (· < b) w args s := hs
  have hn : I64 n := hn
  have hwh := (wellOk_parts hw).1
  have hwa : ∀ x, x ∈ args → wellOk x = true := (wellOk_parts hw).2
  obtain ⟨sa, sc, rfl⟩ := hs.shape
  have E : Hid (exText (.mk 2 o n nm args) = nm) := by exact exText_2 o n nm args
  rw [E.out] at hf ⊢
  show Calls _ _ #[.pointer (some ⟨b, 0, none⟩), .agg #[.int .i64 2, .int .i64 o, .int .i64 n, .string (strOf nm), .slice sa args.length sc]] _ _
  have IH := Lib.hid ih; have HT := Lib.hid ht; have HP := Lib.hid hp; have HN := Lib.hid hn; have HF := Lib.hid hf; have HS := Lib.hid hs; have HWA := Lib.hid hwa
  have hp1 := Lib.hid (hp.alloc (.cells #[.int .i64 2, .int .i64 o, .int .i64 n, .string (strOf nm), .slice sa args.length sc] 31))
  have hf1 := Lib.hid (PFr.alloc hp (.cells #[.int .i64 2, .int .i64 o, .int .i64 n, .string (strOf nm), .slice sa args.length sc] 31))
  have hl1 := Lib.hid (Loc.new hp [.int .i64 2, .int .i64 o, .int .i64 n, .string (strOf nm), .slice sa args.length sc] 31)
  clear ih ht hp hs hw hf hn hwh hwa
  go_enter Tryz.func60, Tryz.ntmps60
  go_wp2_with fail
  refine (sign_any o _).mono ?_
  rintro r w2 ⟨rfl, hb2⟩
  have hf2 := PFr.of_below hb2 hp1.out.lt
  have HP2 := Lib.hid (hp1.out.old hb2); have HF2 := Lib.hid (hf1.out.trans hf2); have HL2 := Lib.hid (hl1.out.step hf2)
  clear hb2 hf2 hp1 hf1 hl1
  have c0 := HL2.out.cell 0 (by simp); have c1 := HL2.out.cell 1 (by simp); have c2 := HL2.out.cell 2 (by simp); have c3 := HL2.out.cell 3 (by simp); have c4 := HL2.out.cell 4 (by simp)
  simp only [List.getElem_cons_zero, List.getElem_cons_succ] at c0 c1 c2 c3 c4
  go_wp2_with fail
  refine (put1 nm _ _ b _ t w2 rfl HP2.out (HF.out.mono (by simp; try omega))).mono ?_
  rintro r w3 ⟨rfl, hp3, hf3⟩
  have HP3 := Lib.hid hp3; have HF3 := Lib.hid (HF2.out.trans hf3); have HL3 := Lib.hid (HL2.out.step hf3)
  clear hp3 hf3 c0 c1 c2 c3 c4
  go_wp2_with fail
  go_end0
  exact ⟨rfl, by simpa using HP3.out, HF3.out⟩

theorem expr_7 (o n : Int) (nm : Bs) (args : List Ex) (ih : ∀ x, x ∈ args → ExprOf x) : ExprOf (.mk 7 o n nm args) := by
  intro b bs t s w hb ht hp hs hn hw hf
  have hs : ExsAt (· < b) w args s := hs
  have hn : I64 n := hn
  have hwh := (wellOk_parts hw).1
  have hwa : ∀ x, x ∈ args → wellOk x = true := (wellOk_parts hw).2
  obtain ⟨sa, sc, rfl⟩ := hs.shape
  have E : Hid (exText (.mk 7 o n nm args) = [114, 101, 97, 100, 40, 41]) := by exact exText_7 o n nm args
  rw [E.out] at hf ⊢
  show Calls _ _ #[.pointer (some ⟨b, 0, none⟩), .agg #[.int .i64 7, .int .i64 o, .int .i64 n, .string (strOf nm), .slice sa args.length sc]] _ _
  have IH := Lib.hid ih; have HT := Lib.hid ht; have HP := Lib.hid hp; have HN := Lib.hid hn; have HF := Lib.hid hf; have HS := Lib.hid hs; have HWA := Lib.hid hwa
  have hp1 := Lib.hid (hp.alloc (.cells #[.int .i64 7, .int .i64 o, .int .i64 n, .string (strOf nm), .slice sa args.length sc] 31))
  have hf1 := Lib.hid (PFr.alloc hp (.cells #[.int .i64 7, .int .i64 o, .int .i64 n, .string (strOf nm), .slice sa args.length sc] 31))
  have hl1 := Lib.hid (Loc.new hp [.int .i64 7, .int .i64 o, .int .i64 n, .string (strOf nm), .slice sa args.length sc] 31)
  clear ih ht hp hs hw hf hn hwh hwa
  go_enter Tryz.func60, Tryz.ntmps60
  go_wp2_with fail
  refine (sign_any o _).mono ?_
  rintro r w2 ⟨rfl, hb2⟩
  have hf2 := PFr.of_below hb2 hp1.out.lt
  have HP2 := Lib.hid (hp1.out.old hb2); have HF2 := Lib.hid (hf1.out.trans hf2); have HL2 := Lib.hid (hl1.out.step hf2)
  clear hb2 hf2 hp1 hf1 hl1
  have c0 := HL2.out.cell 0 (by simp); have c1 := HL2.out.cell 1 (by simp); have c2 := HL2.out.cell 2 (by simp); have c3 := HL2.out.cell 3 (by simp); have c4 := HL2.out.cell 4 (by simp)
  simp only [List.getElem_cons_zero, List.getElem_cons_succ] at c0 c1 c2 c3 c4
  go_wp2_with fail
  refine (put1 [114, 101, 97, 100, 40, 41] _ _ b _ t w2 rfl HP2.out (HF.out.mono (by simp; try omega))).mono ?_
  rintro r w3 ⟨rfl, hp3, hf3⟩
  have HP3 := Lib.hid hp3; have HF3 := Lib.hid (HF2.out.trans hf3); have HL3 := Lib.hid (HL2.out.step hf3)
  clear hp3 hf3 c0 c1 c2 c3 c4
  go_wp2_with fail
  go_end0
  exact ⟨rfl, by simpa using HP3.out, HF3.out⟩
end Go.Proofs.YtgmaeflfiooigaaGreatDoor

namespace Go.Proofs.YtgmaeflfiooigaaGreatDoor
open Go.RowKit
set_option maxHeartbeats 4000000
set_option maxRecDepth 100000


theorem expr_3 (o n : Int) (nm : Bs) (args : List Ex) (ih : ∀ x, x ∈ args → ExprOf x) : ExprOf (.mk 3 o n nm args) := by
  intro b bs t s w hb ht hp hs hn hw hf
  have hs : ExsAt (· < b) w args s := hs
  have hn : I64 n := hn
  have hwh := (wellOk_parts hw).1
  have hwa : ∀ x, x ∈ args → wellOk x = true := (wellOk_parts hw).2
  obtain ⟨sa, sc, rfl⟩ := hs.shape
  have hlen : args.length = 1 := by have q := hwh; simp [wellHere, onlyArgs, Ex.kind, Ex.args] at q; omega
  have hl0 : 0 < args.length := by omega
  obtain ⟨eb, off, _, rfl, _⟩ := hs.cellAt 0 (by omega)
  clear hlen
  have E : Hid (exText (.mk 3 o n nm args) = signOf o ++ partText (exAt args 0) 9) := by exact exText_3 o n nm args hl0
  rw [E.out] at hf ⊢
  show Calls _ _ #[.pointer (some ⟨b, 0, none⟩), .agg #[.int .i64 3, .int .i64 o, .int .i64 n, .string (strOf nm), .slice (some ⟨eb, off, none⟩) args.length sc]] _ _
  have IH := Lib.hid ih; have HT := Lib.hid ht; have HP := Lib.hid hp; have HN := Lib.hid hn; have HF := Lib.hid hf; have HS := Lib.hid hs; have HWA := Lib.hid hwa
  have hp1 := Lib.hid (hp.alloc (.cells #[.int .i64 3, .int .i64 o, .int .i64 n, .string (strOf nm), .slice (some ⟨eb, off, none⟩) args.length sc] 31))
  have hf1 := Lib.hid (PFr.alloc hp (.cells #[.int .i64 3, .int .i64 o, .int .i64 n, .string (strOf nm), .slice (some ⟨eb, off, none⟩) args.length sc] 31))
  have hl1 := Lib.hid (Loc.new hp [.int .i64 3, .int .i64 o, .int .i64 n, .string (strOf nm), .slice (some ⟨eb, off, none⟩) args.length sc] 31)
  clear ih ht hp hs hw hf hn hwh hwa
  go_enter Tryz.func60, Tryz.ntmps60
  go_wp2_with fail
  refine (sign_any o _).mono ?_
  rintro r w2 ⟨rfl, hb2⟩
  have hf2 := PFr.of_below hb2 hp1.out.lt
  have HP2 := Lib.hid (hp1.out.old hb2); have HF2 := Lib.hid (hf1.out.trans hf2); have HL2 := Lib.hid (hl1.out.step hf2)
  clear hb2 hf2 hp1 hf1 hl1
  have c0 := HL2.out.cell 0 (by simp); have c1 := HL2.out.cell 1 (by simp); have c2 := HL2.out.cell 2 (by simp); have c3 := HL2.out.cell 3 (by simp); have c4 := HL2.out.cell 4 (by simp)
  simp only [List.getElem_cons_zero, List.getElem_cons_succ] at c0 c1 c2 c3 c4
  go_wp2_with fail
  refine (put1 (signOf o) _ _ b _ t w2 rfl HP2.out (HF.out.mono (by simp; try omega))).mono ?_
  rintro r w3 ⟨rfl, hp3, hf3⟩
  have HP3 := Lib.hid hp3; have HF3 := Lib.hid (HF2.out.trans hf3); have HL3 := Lib.hid (HL2.out.step hf3)
  clear hp3 hf3 c0 c1 c2 c3 c4
  have c0 := HL3.out.cell 0 (by simp); have c1 := HL3.out.cell 1 (by simp); have c2 := HL3.out.cell 2 (by simp); have c3 := HL3.out.cell 3 (by simp); have c4 := HL3.out.cell 4 (by simp)
  simp only [List.getElem_cons_zero, List.getElem_cons_succ] at c0 c1 c2 c3 c4
  obtain ⟨eb', off', esa, heb, hDa, y0, y1, y2, y3, y4, hesa, hna⟩ := (HS.out.keep (HF3.out.keeps HP.out)).cellAt 0 (by omega)
  obtain ⟨eaa, eca, rfl⟩ := hesa.shape
  obtain ⟨rfl, rfl⟩ : eb = eb' ∧ off = off' := by cases heb; exact ⟨rfl, rfl⟩
  have HESa := Lib.hid hesa; have HNa := Lib.hid hna
  have IHXa := Lib.hid (IH.out _ (exAt_mem (i := 0) (by omega))); have HWXa := Lib.hid (HWA.out _ (exAt_mem (i := 0) (by omega)))
  clear heb hesa hna hDa
  generalize hxa : exAt args 0 = xa at y0 y1 y2 y3 y4 HESa HNa IHXa HWXa
  have HXa := Lib.hid hxa; clear hxa
  have za0 : w3.cell? ⟨eb, off, none⟩ = some (.int .i64 xa.kind) := by simpa using y0
  have za1 : w3.cell? ⟨eb, off + 1, none⟩ = some (.int .i64 xa.op) := by simpa using y1
  have za2 : w3.cell? ⟨eb, off + 2, none⟩ = some (.int .i64 xa.n) := by simpa using y2
  have za3 : w3.cell? ⟨eb, off + 3, none⟩ = some (.string (strOf xa.name)) := by simpa using y3
  have za4 : w3.cell? ⟨eb, off + 4, none⟩ = some (.slice eaa xa.args.length eca) := by simpa using y4
  clear y0 y1 y2 y3 y4
  go_wp2_with fail
  refine (part_any xa IHXa.out 9 b _ t _ w3 hb (HT.out.fr HF3.out HP.out hb) HP3.out HESa.out HNa.out HWXa.out (by have q := HF.out; rw [HXa.out] at q; exact q.mono (by simp; try omega))).mono ?_
  rintro r w4 ⟨rfl, hp4, hf4⟩
  have HP4 := Lib.hid hp4; have HF4 := Lib.hid (HF3.out.trans hf4); have HL4 := Lib.hid (HL3.out.step hf4)
  clear hp4 hf4 c0 c1 c2 c3 c4 za0 za1 za2 za3 za4
  go_wp2_with fail
  go_end0
  exact ⟨rfl, by rw [HXa.out]; simpa using HP4.out, HF4.out⟩
end Go.Proofs.YtgmaeflfiooigaaGreatDoor

namespace Go.Proofs.YtgmaeflfiooigaaGreatDoor
open Go.RowKit
set_option maxHeartbeats 4000000
set_option maxRecDepth 100000


theorem expr_4 (o n : Int) (nm : Bs) (args : List Ex) (ih : ∀ x, x ∈ args → ExprOf x) : ExprOf (.mk 4 o n nm args) := by
  intro b bs t s w hb ht hp hs hn hw hf
  have hs : ExsAt (· < b) w args s := hs
  have hn : I64 n := hn
  have hwh := (wellOk_parts hw).1
  have hwa : ∀ x, x ∈ args → wellOk x = true := (wellOk_parts hw).2
  obtain ⟨sa, sc, rfl⟩ := hs.shape
  have hlen : args.length = 2 := by have q := hwh; simp [wellHere, onlyArgs, Ex.kind, Ex.args] at q; omega
  have hl0 : 0 < args.length := by omega
  have hl1' : 1 < args.length := by omega
  obtain ⟨eb, off, _, rfl, _⟩ := hs.cellAt 0 (by omega)
  clear hlen
  have E : Hid (exText (.mk 4 o n nm args) = partText (exAt args 0) (levelOf o) ++ ([32] ++ (signOf o ++ [32])) ++ partText (exAt args 1) (levelOf o + 1)) := by exact exText_4 o n nm args hl1'
  rw [E.out] at hf ⊢
  show Calls _ _ #[.pointer (some ⟨b, 0, none⟩), .agg #[.int .i64 4, .int .i64 o, .int .i64 n, .string (strOf nm), .slice (some ⟨eb, off, none⟩) args.length sc]] _ _
  have IH := Lib.hid ih; have HT := Lib.hid ht; have HP := Lib.hid hp; have HN := Lib.hid hn; have HF := Lib.hid hf; have HS := Lib.hid hs; have HWA := Lib.hid hwa
  have hp1 := Lib.hid (hp.alloc (.cells #[.int .i64 4, .int .i64 o, .int .i64 n, .string (strOf nm), .slice (some ⟨eb, off, none⟩) args.length sc] 31))
  have hf1 := Lib.hid (PFr.alloc hp (.cells #[.int .i64 4, .int .i64 o, .int .i64 n, .string (strOf nm), .slice (some ⟨eb, off, none⟩) args.length sc] 31))
  have hl1 := Lib.hid (Loc.new hp [.int .i64 4, .int .i64 o, .int .i64 n, .string (strOf nm), .slice (some ⟨eb, off, none⟩) args.length sc] 31)
  clear ih ht hp hs hw hf hn hwh hwa
  go_enter Tryz.func60, Tryz.ntmps60
  go_wp2_with fail
  refine (sign_any o _).mono ?_
  rintro r w2 ⟨rfl, hb2⟩
  have hf2 := PFr.of_below hb2 hp1.out.lt
  have HP2 := Lib.hid (hp1.out.old hb2); have HF2 := Lib.hid (hf1.out.trans hf2); have HL2 := Lib.hid (hl1.out.step hf2)
  clear hb2 hf2 hp1 hf1 hl1
  have c0 := HL2.out.cell 0 (by simp); have c1 := HL2.out.cell 1 (by simp); have c2 := HL2.out.cell 2 (by simp); have c3 := HL2.out.cell 3 (by simp); have c4 := HL2.out.cell 4 (by simp)
  simp only [List.getElem_cons_zero, List.getElem_cons_succ] at c0 c1 c2 c3 c4
  have lb := levelOf_range o
  go_wp2_with fail
  refine (level_any o _).mono ?_
  rintro r w3 ⟨rfl, hb3⟩
  have hf3 := PFr.of_below hb3 HP2.out.lt
  have HP3 := Lib.hid (HP2.out.old hb3); have HF3 := Lib.hid (HF2.out.trans hf3); have HL3 := Lib.hid (HL2.out.step hf3)
  clear hb3 hf3 c0 c1 c2 c3 c4
  have c0 := HL3.out.cell 0 (by simp); have c1 := HL3.out.cell 1 (by simp); have c2 := HL3.out.cell 2 (by simp); have c3 := HL3.out.cell 3 (by simp); have c4 := HL3.out.cell 4 (by simp)
  simp only [List.getElem_cons_zero, List.getElem_cons_succ] at c0 c1 c2 c3 c4
  obtain ⟨eb', off', esa, heb, hDa, y0, y1, y2, y3, y4, hesa, hna⟩ := (HS.out.keep (HF3.out.keeps HP.out)).cellAt 0 (by omega)
  obtain ⟨eaa, eca, rfl⟩ := hesa.shape
  obtain ⟨rfl, rfl⟩ : eb = eb' ∧ off = off' := by cases heb; exact ⟨rfl, rfl⟩
  have HESa := Lib.hid hesa; have HNa := Lib.hid hna
  have IHXa := Lib.hid (IH.out _ (exAt_mem (i := 0) (by omega))); have HWXa := Lib.hid (HWA.out _ (exAt_mem (i := 0) (by omega)))
  clear heb hesa hna hDa
  generalize hxa : exAt args 0 = xa at y0 y1 y2 y3 y4 HESa HNa IHXa HWXa
  have HXa := Lib.hid hxa; clear hxa
  have za0 : w3.cell? ⟨eb, off, none⟩ = some (.int .i64 xa.kind) := by simpa using y0
  have za1 : w3.cell? ⟨eb, off + 1, none⟩ = some (.int .i64 xa.op) := by simpa using y1
  have za2 : w3.cell? ⟨eb, off + 2, none⟩ = some (.int .i64 xa.n) := by simpa using y2
  have za3 : w3.cell? ⟨eb, off + 3, none⟩ = some (.string (strOf xa.name)) := by simpa using y3
  have za4 : w3.cell? ⟨eb, off + 4, none⟩ = some (.slice eaa xa.args.length eca) := by simpa using y4
  clear y0 y1 y2 y3 y4
  go_wp2_with fail
  refine (part_any xa IHXa.out (levelOf o) b _ t _ w3 hb (HT.out.fr HF3.out HP.out hb) HP3.out HESa.out HNa.out HWXa.out (by have q := HF.out; rw [HXa.out] at q; exact q.mono (by simp; try omega))).mono ?_
  rintro r w4 ⟨rfl, hp4, hf4⟩
  have HP4 := Lib.hid hp4; have HF4 := Lib.hid (HF3.out.trans hf4); have HL4 := Lib.hid (HL3.out.step hf4)
  clear hp4 hf4 c0 c1 c2 c3 c4 za0 za1 za2 za3 za4
  go_wp2_with fail
  refine (put3 [32] (signOf o) [32] _ _ b _ t w4 rfl HP4.out (by have q := HF.out; rw [HXa.out] at q; exact q.mono (by simp; try omega))).mono ?_
  rintro r w5 ⟨rfl, hp5, hf5⟩
  have HP5 := Lib.hid hp5; have HF5 := Lib.hid (HF4.out.trans hf5); have HL5 := Lib.hid (HL4.out.step hf5)
  clear hp5 hf5
  have c0 := HL5.out.cell 0 (by simp); have c1 := HL5.out.cell 1 (by simp); have c2 := HL5.out.cell 2 (by simp); have c3 := HL5.out.cell 3 (by simp); have c4 := HL5.out.cell 4 (by simp)
  simp only [List.getElem_cons_zero, List.getElem_cons_succ] at c0 c1 c2 c3 c4
  obtain ⟨eb', off', esc, heb, hDc, y0, y1, y2, y3, y4, hesc, hnc⟩ := (HS.out.keep (HF5.out.keeps HP.out)).cellAt 1 (by omega)
  obtain ⟨eac, ecc, rfl⟩ := hesc.shape
  obtain ⟨rfl, rfl⟩ : eb = eb' ∧ off = off' := by cases heb; exact ⟨rfl, rfl⟩
  have HESc := Lib.hid hesc; have HNc := Lib.hid hnc
  have IHXc := Lib.hid (IH.out _ (exAt_mem (i := 1) (by omega))); have HWXc := Lib.hid (HWA.out _ (exAt_mem (i := 1) (by omega)))
  clear heb hesc hnc hDc
  generalize hxc : exAt args 1 = xc at y0 y1 y2 y3 y4 HESc HNc IHXc HWXc
  have HXc := Lib.hid hxc; clear hxc
  have zc0 : w5.cell? ⟨eb, off + 5, none⟩ = some (.int .i64 xc.kind) := by simpa using y0
  have zc1 : w5.cell? ⟨eb, off + 5 + 1, none⟩ = some (.int .i64 xc.op) := by simpa using y1
  have zc2 : w5.cell? ⟨eb, off + 5 + 2, none⟩ = some (.int .i64 xc.n) := by simpa using y2
  have zc3 : w5.cell? ⟨eb, off + 5 + 3, none⟩ = some (.string (strOf xc.name)) := by simpa using y3
  have zc4 : w5.cell? ⟨eb, off + 5 + 4, none⟩ = some (.slice eac xc.args.length ecc) := by simpa using y4
  clear y0 y1 y2 y3 y4
  go_wp2_with fail
  refine (part_any xc IHXc.out (levelOf o + 1) b _ t _ w5 hb (HT.out.fr HF5.out HP.out hb) HP5.out HESc.out HNc.out HWXc.out (by have q := HF.out; rw [HXa.out, HXc.out] at q; exact q.mono (by simp; try omega))).mono ?_
  rintro r w6 ⟨rfl, hp6, hf6⟩
  have HP6 := Lib.hid hp6; have HF6 := Lib.hid (HF5.out.trans hf6); have HL6 := Lib.hid (HL5.out.step hf6)
  clear hp6 hf6 c0 c1 c2 c3 c4 zc0 zc1 zc2 zc3 zc4
  go_wp2_with fail
  go_end0
  exact ⟨rfl, by rw [HXa.out, HXc.out]; simpa using HP6.out, HF6.out⟩
end Go.Proofs.YtgmaeflfiooigaaGreatDoor

namespace Go.Proofs.YtgmaeflfiooigaaGreatDoor
open Go.RowKit
set_option maxHeartbeats 4000000
set_option maxRecDepth 100000


theorem expr_5 (o n : Int) (nm : Bs) (args : List Ex) (ih : ∀ x, x ∈ args → ExprOf x) : ExprOf (.mk 5 o n nm args) := by
  intro b bs t s w hb ht hp hs hn hw hf
  have hs : ExsAt (· < b) w args s := hs
  have hn : I64 n := hn
  have hwh := (wellOk_parts hw).1
  have hwa : ∀ x, x ∈ args → wellOk x = true := (wellOk_parts hw).2
  obtain ⟨sa, sc, rfl⟩ := hs.shape
  have E : Hid (exText (.mk 5 o n nm args) = nm ++ [40] ++ sepText (args.map exText) ++ [41]) := by exact exText_5 o n nm args
  rw [E.out] at hf ⊢
  show Calls _ _ #[.pointer (some ⟨b, 0, none⟩), .agg #[.int .i64 5, .int .i64 o, .int .i64 n, .string (strOf nm), .slice sa args.length sc]] _ _
  have IH := Lib.hid ih; have HT := Lib.hid ht; have HP := Lib.hid hp; have HN := Lib.hid hn; have HF := Lib.hid hf; have HS := Lib.hid hs; have HWA := Lib.hid hwa
  have hp1 := Lib.hid (hp.alloc (.cells #[.int .i64 5, .int .i64 o, .int .i64 n, .string (strOf nm), .slice sa args.length sc] 31))
  have hf1 := Lib.hid (PFr.alloc hp (.cells #[.int .i64 5, .int .i64 o, .int .i64 n, .string (strOf nm), .slice sa args.length sc] 31))
  have hl1 := Lib.hid (Loc.new hp [.int .i64 5, .int .i64 o, .int .i64 n, .string (strOf nm), .slice sa args.length sc] 31)
  clear ih ht hp hs hw hf hn hwh hwa
  go_enter Tryz.func60, Tryz.ntmps60
  go_wp2_with fail
  refine (sign_any o _).mono ?_
  rintro r w2 ⟨rfl, hb2⟩
  have hf2 := PFr.of_below hb2 hp1.out.lt
  have HP2 := Lib.hid (hp1.out.old hb2); have HF2 := Lib.hid (hf1.out.trans hf2); have HL2 := Lib.hid (hl1.out.step hf2)
  clear hb2 hf2 hp1 hf1 hl1
  have c0 := HL2.out.cell 0 (by simp); have c1 := HL2.out.cell 1 (by simp); have c2 := HL2.out.cell 2 (by simp); have c3 := HL2.out.cell 3 (by simp); have c4 := HL2.out.cell 4 (by simp)
  simp only [List.getElem_cons_zero, List.getElem_cons_succ] at c0 c1 c2 c3 c4
  go_wp2_with fail
  refine (put2 nm [40] _ _ b _ t w2 rfl HP2.out (HF.out.mono (by simp; try omega))).mono ?_
  rintro r w3 ⟨rfl, hp3, hf3⟩
  have HP3 := Lib.hid hp3; have HF3 := Lib.hid (HF2.out.trans hf3); have HL3 := Lib.hid (HL2.out.step hf3)
  clear hp3 hf3 c0 c1 c2 c3 c4
  have c0 := HL3.out.cell 0 (by simp); have c1 := HL3.out.cell 1 (by simp); have c2 := HL3.out.cell 2 (by simp); have c3 := HL3.out.cell 3 (by simp); have c4 := HL3.out.cell 4 (by simp)
  simp only [List.getElem_cons_zero, List.getElem_cons_succ] at c0 c1 c2 c3 c4
  go_wp2_with fail
  refine (list_any args IH.out b _ t _ w3 hb (HT.out.fr HF3.out HP.out hb) HP3.out (HS.out.keep (HF3.out.keeps HP.out)) HWA.out (HF.out.mono (by simp; try omega))).mono ?_
  rintro r w4 ⟨rfl, hp4, hf4⟩
  have HP4 := Lib.hid hp4; have HF4 := Lib.hid (HF3.out.trans hf4); have HL4 := Lib.hid (HL3.out.step hf4)
  clear hp4 hf4 c0 c1 c2 c3 c4
  go_wp2_with fail
  refine (put1 [41] _ _ b _ t w4 rfl HP4.out (HF.out.mono (by simp; try omega))).mono ?_
  rintro r w5 ⟨rfl, hp5, hf5⟩
  have HP5 := Lib.hid hp5; have HF5 := Lib.hid (HF4.out.trans hf5); have HL5 := Lib.hid (HL4.out.step hf5)
  clear hp5 hf5
  go_wp2_with fail
  go_end0
  exact ⟨rfl, by simpa using HP5.out, HF5.out⟩
end Go.Proofs.YtgmaeflfiooigaaGreatDoor

namespace Go.Proofs.YtgmaeflfiooigaaGreatDoor
open Go.RowKit
set_option maxHeartbeats 4000000
set_option maxRecDepth 100000


theorem expr_6 (o n : Int) (nm : Bs) (args : List Ex) (ih : ∀ x, x ∈ args → ExprOf x) : ExprOf (.mk 6 o n nm args) := by
  intro b bs t s w hb ht hp hs hn hw hf
  have hs : ExsAt (· < b) w args s := hs
  have hn : I64 n := hn
  have hwh := (wellOk_parts hw).1
  have hwa : ∀ x, x ∈ args → wellOk x = true := (wellOk_parts hw).2
  obtain ⟨sa, sc, rfl⟩ := hs.shape
  have hlen : args.length = 1 := by have q := hwh; simp [wellHere, onlyArgs, Ex.kind, Ex.args] at q; omega
  have hl0 : 0 < args.length := by omega
  obtain ⟨eb, off, _, rfl, _⟩ := hs.cellAt 0 (by omega)
  clear hlen
  have E : Hid (exText (.mk 6 o n nm args) = nm ++ [91] ++ exText (exAt args 0) ++ [93]) := by exact exText_6 o n nm args hl0
  rw [E.out] at hf ⊢
  show Calls _ _ #[.pointer (some ⟨b, 0, none⟩), .agg #[.int .i64 6, .int .i64 o, .int .i64 n, .string (strOf nm), .slice (some ⟨eb, off, none⟩) args.length sc]] _ _
  have IH := Lib.hid ih; have HT := Lib.hid ht; have HP := Lib.hid hp; have HN := Lib.hid hn; have HF := Lib.hid hf; have HS := Lib.hid hs; have HWA := Lib.hid hwa
  have hp1 := Lib.hid (hp.alloc (.cells #[.int .i64 6, .int .i64 o, .int .i64 n, .string (strOf nm), .slice (some ⟨eb, off, none⟩) args.length sc] 31))
  have hf1 := Lib.hid (PFr.alloc hp (.cells #[.int .i64 6, .int .i64 o, .int .i64 n, .string (strOf nm), .slice (some ⟨eb, off, none⟩) args.length sc] 31))
  have hl1 := Lib.hid (Loc.new hp [.int .i64 6, .int .i64 o, .int .i64 n, .string (strOf nm), .slice (some ⟨eb, off, none⟩) args.length sc] 31)
  clear ih ht hp hs hw hf hn hwh hwa
  go_enter Tryz.func60, Tryz.ntmps60
  go_wp2_with fail
  refine (sign_any o _).mono ?_
  rintro r w2 ⟨rfl, hb2⟩
  have hf2 := PFr.of_below hb2 hp1.out.lt
  have HP2 := Lib.hid (hp1.out.old hb2); have HF2 := Lib.hid (hf1.out.trans hf2); have HL2 := Lib.hid (hl1.out.step hf2)
  clear hb2 hf2 hp1 hf1 hl1
  have c0 := HL2.out.cell 0 (by simp); have c1 := HL2.out.cell 1 (by simp); have c2 := HL2.out.cell 2 (by simp); have c3 := HL2.out.cell 3 (by simp); have c4 := HL2.out.cell 4 (by simp)
  simp only [List.getElem_cons_zero, List.getElem_cons_succ] at c0 c1 c2 c3 c4
  go_wp2_with fail
  refine (put2 nm [91] _ _ b _ t w2 rfl HP2.out (HF.out.mono (by simp; try omega))).mono ?_
  rintro r w3 ⟨rfl, hp3, hf3⟩
  have HP3 := Lib.hid hp3; have HF3 := Lib.hid (HF2.out.trans hf3); have HL3 := Lib.hid (HL2.out.step hf3)
  clear hp3 hf3 c0 c1 c2 c3 c4
  have c0 := HL3.out.cell 0 (by simp); have c1 := HL3.out.cell 1 (by simp); have c2 := HL3.out.cell 2 (by simp); have c3 := HL3.out.cell 3 (by simp); have c4 := HL3.out.cell 4 (by simp)
  simp only [List.getElem_cons_zero, List.getElem_cons_succ] at c0 c1 c2 c3 c4
  obtain ⟨eb', off', esa, heb, hDa, y0, y1, y2, y3, y4, hesa, hna⟩ := (HS.out.keep (HF3.out.keeps HP.out)).cellAt 0 (by omega)
  obtain ⟨eaa, eca, rfl⟩ := hesa.shape
  obtain ⟨rfl, rfl⟩ : eb = eb' ∧ off = off' := by cases heb; exact ⟨rfl, rfl⟩
  have HESa := Lib.hid hesa; have HNa := Lib.hid hna
  have IHXa := Lib.hid (IH.out _ (exAt_mem (i := 0) (by omega))); have HWXa := Lib.hid (HWA.out _ (exAt_mem (i := 0) (by omega)))
  clear heb hesa hna hDa
  generalize hxa : exAt args 0 = xa at y0 y1 y2 y3 y4 HESa HNa IHXa HWXa
  have HXa := Lib.hid hxa; clear hxa
  have za0 : w3.cell? ⟨eb, off, none⟩ = some (.int .i64 xa.kind) := by simpa using y0
  have za1 : w3.cell? ⟨eb, off + 1, none⟩ = some (.int .i64 xa.op) := by simpa using y1
  have za2 : w3.cell? ⟨eb, off + 2, none⟩ = some (.int .i64 xa.n) := by simpa using y2
  have za3 : w3.cell? ⟨eb, off + 3, none⟩ = some (.string (strOf xa.name)) := by simpa using y3
  have za4 : w3.cell? ⟨eb, off + 4, none⟩ = some (.slice eaa xa.args.length eca) := by simpa using y4
  clear y0 y1 y2 y3 y4
  go_wp2_with fail
  refine (IHXa.out b _ t _ w3 hb (HT.out.fr HF3.out HP.out hb) HP3.out HESa.out HNa.out HWXa.out (by have q := HF.out; rw [HXa.out] at q; exact q.mono (by simp; try omega))).mono ?_
  rintro r w4 ⟨rfl, hp4, hf4⟩
  have HP4 := Lib.hid hp4; have HF4 := Lib.hid (HF3.out.trans hf4); have HL4 := Lib.hid (HL3.out.step hf4)
  clear hp4 hf4 c0 c1 c2 c3 c4 za0 za1 za2 za3 za4
  go_wp2_with fail
  refine (put1 [93] _ _ b _ t w4 rfl HP4.out (by have q := HF.out; rw [HXa.out] at q; exact q.mono (by simp; try omega))).mono ?_
  rintro r w5 ⟨rfl, hp5, hf5⟩
  have HP5 := Lib.hid hp5; have HF5 := Lib.hid (HF4.out.trans hf5); have HL5 := Lib.hid (HL4.out.step hf5)
  clear hp5 hf5
  go_wp2_with fail
  go_end0
  exact ⟨rfl, by rw [HXa.out]; simpa using HP5.out, HF5.out⟩
end Go.Proofs.YtgmaeflfiooigaaGreatDoor

namespace Go.Proofs.YtgmaeflfiooigaaGreatDoor
open Go.RowKit
set_option maxHeartbeats 4000000
set_option maxRecDepth 100000


theorem expr_step (e : Ex) (ih : ∀ x, x ∈ e.args → ExprOf x) : ExprOf e := by
  intro b bs t s w hb ht hp hs hn hw hf
  have hk := kind_of_well (wellOk_parts hw).1
  obtain ⟨k, o, n, nm, args⟩ := e
  simp only [Ex.kind] at hk
  rcases hk with rfl | rfl | rfl | rfl | rfl | rfl | rfl
  · exact expr_1 o n nm args ih b bs t s w hb ht hp hs hn hw hf
  · exact expr_2 o n nm args ih b bs t s w hb ht hp hs hn hw hf
  · exact expr_3 o n nm args ih b bs t s w hb ht hp hs hn hw hf
  · exact expr_4 o n nm args ih b bs t s w hb ht hp hs hn hw hf
  · exact expr_5 o n nm args ih b bs t s w hb ht hp hs hn hw hf
  · exact expr_6 o n nm args ih b bs t s w hb ht hp hs hn hw hf
  · exact expr_7 o n nm args ih b bs t s w hb ht hp hs hn hw hf
theorem expr_any : ∀ (n : Nat) (e : Ex), SizeOf.sizeOf e ≤ n → ExprOf e
  | 0, e, h => by cases e; simp at h
  | n + 1, e, h => expr_step e fun x hx => expr_any n x (by have := Ex.size_lt hx; omega)
end Go.Proofs.YtgmaeflfiooigaaGreatDoor
