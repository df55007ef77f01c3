/-
  The document's Parse answers parseI. Condition: the text is no longer than memory.
  Rows of numbers that a call makes by append. No condition.
  The document's Reads. Condition: the name is no longer than an int tells.
  The document's Writes: the register that an instruction writes. Condition: its name is no longer than an int tells.
  ints: are two lists the same? No condition.
-/
import Derived.Test.YtgdnnaiidmfncaaDoorInstrRf
import Derived.Test.YtgdnnaiidmfncaaDoorInstrRe
import Derived.Test.YtgdnnaiidmfncaaDoorInstrB
import Derived.Deep.AppendLies
import Derived.Laws.MakeOwn
import Derived.Test.YtgdnnaiidmfncaaDoorInstrRc
import Derived.Test.YtgdnnaiidmfncaaDoorInstrG
import Derived.BigQuiet
set_option linter.unusedVariables false
set_option linter.unusedSimpArgs false
namespace Go.Proofs.YtgdnnaiidmfncaaDoor
open Go.RowKit
set_option maxHeartbeats 4000000
set_option maxRecDepth 100000

theorem wrap_fits (n : Int) : -9223372036854775808 ≤ IntKind.i64.wrap n ∧ IntKind.i64.wrap n ≤ 9223372036854775807 := by
  rw [IntWalk.i64_left]; unfold wrap64; omega
theorem valL_fits (m : Bool) : ∀ (s : Bs) (n : Int) (i : Nat), (-9223372036854775808 ≤ n ∧ n ≤ 9223372036854775807) → (-9223372036854775808 ≤ (valL m n i s).1 ∧ (valL m n i s).1 ≤ 9223372036854775807)
  | [], n, i, h => h
  | c :: s, n, i, h => by
    unfold valL
    split
    · exact valL_fits m s _ _ (wrap_fits _)
    · exact h
theorem valQ_fits (s : Bs) : -9223372036854775808 ≤ (valQ s).1 ∧ (valQ s).1 ≤ 9223372036854775807 := by
  unfold valQ
  split
  · exact valL_fits true _ _ _ (by omega)
  · exact valL_fits false _ _ _ (by omega)
theorem setI_fits (o : Ins) (c : UInt8) (v : Int) (h : FitsI o) (hv : -9223372036854775808 ≤ v ∧ v ≤ 9223372036854775807) : FitsI (setI o c v) := by
  unfold setI
  split
  · exact h
  · split
    · exact h
    · split
      · exact h
      · split
        · exact hv
        · exact h
theorem foldRd_fits : ∀ (f : Bs) (o : Ins) (s : Bs), FitsI o → s.length ≤ 9223372036854775807 → o.name.length ≤ 9223372036854775807 → FitsI (foldRd f o s) ∧ (foldRd f o s).name.length ≤ 9223372036854775807
  | [], o, s, h, _, hn => ⟨h, hn⟩
  | c :: f, o, s, h, hs, hn => by
    rw [foldRd_cons]
    have key : FitsI (stepRd o c s).1 ∧ (stepRd o c s).2.length ≤ 9223372036854775807 ∧ (stepRd o c s).1.name.length ≤ 9223372036854775807 := by
      have hsn : ∀ v, (setI o c v).name = o.name := fun v => by
        unfold setI
        split
        · rfl
        · split
          · rfl
          · split
            · rfl
            · split <;> rfl
      unfold stepRd
      split
      · split
        · exact ⟨setI_fits _ _ _ h (by omega), Nat.zero_le _, by rw [hsn]; exact hn⟩
        · exact ⟨setI_fits _ _ _ h (valQ_fits _), by rw [List.length_drop]; omega, by rw [hsn]; exact hn⟩
      · split
        · exact ⟨setI_fits _ _ _ h (valQ_fits _), by rw [List.length_drop]; omega, by rw [hsn]; exact hn⟩
        · split
          · exact ⟨h, Nat.zero_le _, hs⟩
          · exact ⟨h, by rw [List.length_drop]; omega, hn⟩
    exact foldRd_fits f _ _ key.1 key.2.1 key.2.2
theorem zero_fitsI (op : Int) : FitsI (zeroI op) := ⟨(by decide : (-9223372036854775808 : Int) ≤ 0), (by decide : (0 : Int) ≤ 9223372036854775807)⟩
theorem readQ_fits (op : Int) (s : Bs) (hs : s.length ≤ 9223372036854775807) : FitsI (readQ op s) ∧ (readQ op s).name.length ≤ 9223372036854775807 := by
  unfold readQ
  split
  · exact ⟨zero_fitsI op, Nat.zero_le _⟩
  · refine foldRd_fits _ _ _ (zero_fitsI op) ?_ (Nat.zero_le _)
    split
    · rw [List.length_drop, List.length_drop]; omega
    · rw [List.length_drop]; omega
/-- The document's search is the program's answer. -/
theorem findQ_parse (s : Bs) (hs : s.length ≤ 9223372036854775807) : findQ s 28 1 = parseI s := by
  cases hp : parseI s with
  | none => exact findQ_none s hp (fun op _ => (readQ_fits op s hs).1) 28 1
  | some X =>
    obtain ⟨hg, ht⟩ := parse_some hp
    have ho := right_op hg.right
    exact findQ_some s X hg.fits hg.right ht (fun op _ => (readQ_fits op s hs).1) 28 1 ho.1 (by omega)
theorem refparse_any (s : Bs) (hs : s.length ≤ 9223372036854775807) (w : World) :
    Calls Tryd.prog 17 #[.string (strOf s)] w fun e w' => e = .returned (parseV (parseI s)) ∧ Below w.heap.size w w' := by
  rw [← findQ_parse s hs]
  have hO0 : OwnAt (w.alloc (.cells (insCells (zeroI 0)).toArray 23)) w.heap.size (insCells (zeroI 0)) 23 := OwnAt.new w _ _
  have HO0 := Lib.hid hO0
  have HB0 := Lib.hid ((Below.refl w.heap.size w).alloc (Nat.le_refl _) (.cells (insCells (zeroI 0)).toArray 23))
  have HRD := Lib.hid (fun op w' => refread_any op s hs w')
  have HPR := Lib.hid (fun op w' => refprint_any (readQ op s) (readQ_fits op s hs).1 (readQ_fits op s hs).2 w')
  clear hO0
  obtain ⟨FQ, hFQ⟩ : ∃ FQ, findQ s 28 1 = FQ := ⟨_, rfl⟩
  have HFQ := Lib.hid hFQ
  rw [hFQ]
  clear hFQ
  go_enter Tryd.func17, Tryd.ntmps17
  go_wp2_with fail
  go_loopw [4] (fun s4 wr => ∃ k : Nat, k ≤ 28 ∧ s4 = .int .i64 ((k : Int) + 1) ∧ Hid (OwnAt wr w.heap.size (insCells (zeroI 0)) 23) ∧ Hid (Below w.heap.size w wr) ∧ Hid (findQ s (28 - k) ((k : Int) + 1) = FQ)) (fun s4 _ => 29 - (intOf s4).toNat)
  case atStart => exact ⟨0, Nat.zero_le _, rfl, HO0, HB0, HFQ⟩
  case round =>
    obtain ⟨k, hk, rfl, GO, GB, GF⟩ := hrel
    by_cases hlt : k < 28
    · have hkI : (k : Int) + 1 ≤ 28 := by omega
      have HR1 := Lib.hid (fun w' => HRD.out ((k : Int) + 1) w')
      have HP1 := Lib.hid (fun w' => HPR.out ((k : Int) + 1) w')
      have hf : findQ s (28 - k) ((k : Int) + 1) = if rightI (readQ ((k : Int) + 1) s) = true ∧ textI (readQ ((k : Int) + 1) s) = s then some (readQ ((k : Int) + 1) s) else findQ s (28 - (k + 1)) (((k : Int) + 1) + 1) := by
        rw [show 28 - k = (28 - (k + 1)) + 1 by omega]; rfl
      have hg := GF.out
      rw [hf] at hg
      clear hf
      generalize readQ ((k : Int) + 1) s = Y at *
      unfold insV at HR1 HP1
      unfold printV at HP1
      go_wp2_with fail
      refine (HR1.out _).mono ?_
      rintro e w6 ⟨rfl, hb6⟩
      have GO6 := Lib.hid (GO.out.old hb6)
      have GB6 := Lib.hid (GB.out.trans (hb6.mono GB.out.size))
      have hbA : Below w6.heap.size w6 (w6.alloc (.cells #[.int .i64 Y.op, .int .i64 Y.d, .int .i64 Y.a, .int .i64 Y.b, .int .i64 Y.n, .string (strOf Y.name)] 23)) := (Below.refl _ _).alloc (Nat.le_refl _) _
      have HY := Lib.hid (OwnAt.new w6 (insCells Y) 23)
      have GO7 := Lib.hid (GO6.out.old hbA)
      have GB7 := Lib.hid (GB6.out.trans (hbA.mono GB6.out.size))
      clear hb6 hbA GO6 GB6 HR1 GO GB
      by_cases hr : rightI Y = true
      · rw [if_pos hr] at HP1
        obtain ⟨TY, hTY⟩ : ∃ TY, textI Y = TY := ⟨_, rfl⟩
        rw [hTY] at HP1 hg
        clear hTY
        go_wp2_with fail
        refine (HP1.out _).mono ?_
        rintro e w8 ⟨rfl, hb8⟩
        have HY8 := Lib.hid (show OwnAt w8 w6.heap.size (insCells Y) 23 from HY.out.old hb8)
        have GO8 := Lib.hid (GO7.out.old hb8)
        have GB8 := Lib.hid (GB7.out.trans (hb8.mono GB7.out.size))
        clear hb8 HY GO7 GB7 HP1
        by_cases ht : TY = s
        · subst ht
          rw [if_pos ⟨hr, rfl⟩] at hg
          have HGE : Hid (some Y = FQ) := Lib.hid hg
          clear hg hr
          have y0 := HY8.out.at 0 _ rfl
          have y1 := HY8.out.at 1 _ rfl
          have y2 := HY8.out.at 2 _ rfl
          have y3 := HY8.out.at 3 _ rfl
          have y4 := HY8.out.at 4 _ rfl
          have y5 := HY8.out.at 5 _ rfl
          have yl := HY8.out.lt
          have z0 := GO8.out.at 0 _ rfl
          have fz0 := GO8.out.fz 0
          have z1 := GO8.out.at 1 _ rfl
          have fz1 := GO8.out.fz 1
          have z2 := GO8.out.at 2 _ rfl
          have fz2 := GO8.out.fz 2
          have z3 := GO8.out.at 3 _ rfl
          have fz3 := GO8.out.fz 3
          have z4 := GO8.out.at 4 _ rfl
          have fz4 := GO8.out.fz 4
          have z5 := GO8.out.at 5 _ rfl
          have fz5 := GO8.out.fz 5
          have zl := GO8.out.lt
          go_wp2_with fail
          have HS := Lib.hid ((((((GO8.out.set 0 (.int .i64 Y.op)).set 1 (.int .i64 Y.d)).set 2 (.int .i64 Y.a)).set 3 (.int .i64 Y.b)).set 4 (.int .i64 Y.n)).set 5 (.string (strOf Y.name)))
          have e0 := HS.out.at 0 _ rfl
          have e1 := HS.out.at 1 _ rfl
          have e2 := HS.out.at 2 _ rfl
          have e3 := HS.out.at 3 _ rfl
          have e4 := HS.out.at 4 _ rfl
          have e5 := HS.out.at 5 _ rfl
          exact bodyPost_ret (v := .tuple #[.agg #[.int .i64 Y.op, .int .i64 Y.d, .int .i64 Y.a, .int .i64 Y.b, .int .i64 Y.n, .string (strOf Y.name)], .int .i64 0]) (by simp [results, Tryd.results17, go_sem, e0, e1, e2, e3, e4, e5]) rfl ⟨by rw [← HGE.out]; rfl, set6 w _ GB8.out _ _ _ _ _ _⟩
        · rw [if_neg (fun h => ht h.2)] at hg
          have HGQ := Lib.hid hg
          have ht2 : (TY == s) = false := by simpa using ht
          clear hg hr
          go_wp2_with fail
          exact ⟨⟨k + 1, hlt, by first | rfl | (simp; done) | (push_cast; rfl) | go_num, GO8, GB8, Lib.hid (by rw [show ((k + 1 : Nat) : Int) = (k : Int) + 1 from rfl]; exact HGQ.out)⟩, by simp [intOf]; omega⟩
      · rw [if_neg hr] at HP1
        rw [if_neg (fun h => hr h.1)] at hg
        have HGQ := Lib.hid hg
        clear hg hr
        go_wp2_with fail
        refine (HP1.out _).mono ?_
        rintro e w8 ⟨rfl, hb8⟩
        have GO8 := Lib.hid (GO7.out.old hb8)
        have GB8 := Lib.hid (GB7.out.trans (hb8.mono GB7.out.size))
        clear hb8 HY GO7 GB7 HP1
        go_wp2_with fail
        exact ⟨⟨k + 1, hlt, by first | rfl | (simp; done) | (push_cast; rfl) | go_num, GO8, GB8, Lib.hid (by rw [show ((k + 1 : Nat) : Int) = (k : Int) + 1 from rfl]; exact HGQ.out)⟩, by simp [intOf]; omega⟩
    · have he : k = 28 := by omega
      subst he
      have HGE : Hid (none = FQ) := Lib.hid GF.out
      clear GF
      have z0 := GO.out.at 0 _ rfl
      have fz0 := GO.out.fz 0
      have z1 := GO.out.at 1 _ rfl
      have fz1 := GO.out.fz 1
      have z2 := GO.out.at 2 _ rfl
      have fz2 := GO.out.fz 2
      have z3 := GO.out.at 3 _ rfl
      have fz3 := GO.out.fz 3
      have z4 := GO.out.at 4 _ rfl
      have fz4 := GO.out.fz 4
      have z5 := GO.out.at 5 _ rfl
      have fz5 := GO.out.fz 5
      have zl := GO.out.lt
      go_wp2_with fail
      have HS := Lib.hid ((((((GO.out.set 0 (.int .i64 0)).set 1 (.int .i64 0)).set 2 (.int .i64 0)).set 3 (.int .i64 0)).set 4 (.int .i64 0)).set 5 (.string ⟨#[]⟩))
      have e0 := HS.out.at 0 _ rfl
      have e1 := HS.out.at 1 _ rfl
      have e2 := HS.out.at 2 _ rfl
      have e3 := HS.out.at 3 _ rfl
      have e4 := HS.out.at 4 _ rfl
      have e5 := HS.out.at 5 _ rfl
      exact bodyPost_ret (v := .tuple #[.agg #[.int .i64 0, .int .i64 0, .int .i64 0, .int .i64 0, .int .i64 0, .string ⟨#[]⟩], .int .i64 60]) (by simp [results, Tryd.results17, go_sem, e0, e1, e2, e3, e4, e5]) rfl ⟨by rw [← HGE.out]; rfl, set6 w _ GB.out _ _ _ _ _ _⟩
end Go.Proofs.YtgdnnaiidmfncaaDoor

namespace Go.Proofs.YtgdnnaiidmfncaaDoor
open Go.RowKit
set_option maxHeartbeats 4000000
set_option maxRecDepth 100000

def RwOwn {α : Type} (e : TypeId) (cf : α → List Value) (k : Nat) (w : World) (base : Nat) (L : List α) (v : Value) : Prop := w.ownsRow base e k v L.length (L.flatMap cf)
theorem RwOwn.zero {α : Type} (e : TypeId) (cf : α → List Value) (k : Nat) (w : World) (base : Nat) : RwOwn e cf k w base [] (.slice none 0 0) := World.ownsRow_nil _ _ _ _
theorem RwOwn.lt {α : Type} {e : TypeId} {cf : α → List Value} {k : Nat} {w : World} {base : Nat} {L : List α} {v : Value} (h : RwOwn e cf k w base L v) : ∀ g, v.ownBlock = some g → base ≤ g ∧ g < w.heap.size := World.ownsRow.lt h
theorem RwOwn.grown {α : Type} {e : TypeId} {cf : α → List Value} {k : Nat} {w w' : World} {base : Nat} {L : List α} {v : Value} (h : RwOwn e cf k w base L v) {row : Option Nat} (hg : w.grownBy w' row) (hne : v.ownBlock = none ∨ v.ownBlock ≠ row) : RwOwn e cf k w' base L v := World.ownsRow.kept h hg hne
theorem RwOwn.old {α : Type} {e : TypeId} {cf : α → List Value} {k : Nat} {w w' : World} {base : Nat} {L : List α} {v : Value} (h : RwOwn e cf k w base L v) (hb : Below w.heap.size w w') : RwOwn e cf k w' base L v := by
  refine World.ownsRow.kept h (row := none) ⟨hb.os, ?_, hb.output, hb.size, fun j hj _ => hb.block j hj⟩ ?_
  · exact hb.tape
  · cases hv : v.ownBlock with
    | none => exact .inl rfl
    | some g => exact .inr (by simp)
theorem RwOwn.base {α : Type} {e : TypeId} {cf : α → List Value} {k : Nat} {w : World} {base base' : Nat} {L : List α} {v : Value} (h : RwOwn e cf k w base L v) (hb : base' ≤ base) : RwOwn e cf k w base' L v := by
  refine ⟨h.1, ?_⟩
  rcases h.2 with hn | ⟨g, cap, cur, rfl, hg, r⟩
  · exact .inl hn
  · exact .inr ⟨g, cap, cur, rfl, Nat.le_trans hb hg, r⟩
theorem RwOwn.shape {α : Type} {e : TypeId} {cf : α → List Value} {k : Nat} {w : World} {base : Nat} {L : List α} {v : Value} (h : RwOwn e cf k w base L v) : ∃ a cap, v = .slice a L.length cap := by
  rcases h.2 with ⟨h1, h2⟩ | ⟨g, cap, cur, rfl, _⟩
  · exact ⟨none, 0, by rw [h1, h2]⟩
  · exact ⟨_, _, rfl⟩
section
variable {α : Type} (w : World) {ops : Array Oper} {rest : List Oper} {o : Oper} {a : Act} {Q : Exit → Act → World → Prop}
theorem wpList_rsnoc (hgd : o.guard = none) (s x : Operand) (t : TypeId) (ho : o.op = .call { callee := .builtin .append, args := #[s, x], argTypes := #[t, t] })
    (e : TypeId) (ht : Tryd.prog.underlying t = some (.slice e)) (z : Value) (k bytes : Nat) (hinfo : (Tryd.prog.info? e).map (fun i => (i.zero, i.size, i.bytes)) = some (some z, k, bytes)) (hzs : z.cells.size = k) (hk : 0 < k)
    (cf : α → List Value) (hf : ∀ x, (cf x).length = k) (h1 : ∀ x u, u ∈ cf x → u.oneCell' = true)
    (base : Nat) (L : List α) (v : Value) (hs : a.eval s = v) (hown : RwOwn e cf k w base L v) (y : α) (b c : Nat) (hx : a.eval x = .slice (some ⟨b, 0, none⟩) 1 c) (hnew : OwnAt w b (cf y) e)
    (hlen : (L.length + 1) * bytes ≤ 140737488355328) (hl2 : L.length + 1 ≤ 140737488355328) (hbase : base ≤ w.heap.size)
    (h : ∀ g cap w', RwOwn e cf k w' base (L ++ [y]) (.slice (some ⟨g, 0, none⟩) (L.length + 1) cap) → w.grownBy w' v.ownBlock → (v.ownBlock = some g ∨ g = w.heap.size) → g < w'.heap.size → wpList Tryd.prog ops Q rest (a.put o.dst (.slice (some ⟨g, 0, none⟩) (L.length + 1) cap)) w') : wpList Tryd.prog ops Q (o :: rest) a w := by
  obtain ⟨i0, hi, hz0, hz1, hz2⟩ := info_parts hinfo
  refine wpList_append_lies (P := Tryd.prog) w hgd s x t ho base e i0 z k bytes ht hi hz0 hz1 hz2 hzs hk v L.length (L.flatMap cf) hs hown ⟨b, 0, none⟩ 1 c (cf y) hx (by rw [hf, Nat.one_mul]) ?_ (h1 y) (by decide) (by unfold maxLen; omega) hlen hbase _ rfl ?_
  · intro j u hu
    have h2 : (⟨b, 0, none⟩ : Addr).add j = ⟨b, j, none⟩ := by unfold Addr.add; split <;> simp_all
    rw [h2]; exact hnew.at j u hu
  · intro g cap w' hown' hg hat hlt
    refine h g cap w' ?_ hg hat hlt
    unfold RwOwn
    simpa using hown'
end
def intCells (n : Int) : List Value := [.int .i64 n]
theorem infoNum : (Tryd.prog.info? 3).map (fun i => (i.zero, i.size, i.bytes)) = some (some (.int .i64 0), 1, 8) := by kernel_rfl
theorem intCells_len (x : Int) : (intCells x).length = 1 := rfl
theorem intCells_one (x : Int) : ∀ u, u ∈ intCells x → u.oneCell' = true := by
  intro u hu
  simp only [intCells, List.mem_cons, List.not_mem_nil, or_false] at hu
  subst hu; rfl
abbrev NumsOwn (w : World) (base : Nat) (L : List Int) (v : Value) : Prop := RwOwn 3 intCells 1 w base L v
section
variable (w : World) {ops : Array Oper} {rest : List Oper} {o : Oper} {a : Act} {Q : Exit → Act → World → Prop}
theorem wpList_numSnoc (hgd : o.guard = none) (s x : Operand) (ho : o.op = .call { callee := .builtin .append, args := #[s, x], argTypes := #[32, 32] })
    (base : Nat) (L : List Int) (v : Value) (hs : a.eval s = v) (hown : NumsOwn w base L v) (y : Int) (b c : Nat) (hx : a.eval x = .slice (some ⟨b, 0, none⟩) 1 c) (hnew : OwnAt w b (intCells y) 3)
    (hlen : L.length ≤ 1000000) (hbase : base ≤ w.heap.size)
    (h : ∀ g cap w', NumsOwn w' base (L ++ [y]) (.slice (some ⟨g, 0, none⟩) (L.length + 1) cap) → w.grownBy w' v.ownBlock → (v.ownBlock = some g ∨ g = w.heap.size) → g < w'.heap.size → wpList Tryd.prog ops Q rest (a.put o.dst (.slice (some ⟨g, 0, none⟩) (L.length + 1) cap)) w') : wpList Tryd.prog ops Q (o :: rest) a w :=
  wpList_rsnoc w hgd s x _ ho 3 Tryd.underlying32 _ 1 8 infoNum rfl (by decide) intCells intCells_len intCells_one base L v hs hown y b c hx hnew (by omega) (by omega) hbase h
end
theorem below_grow {B : Nat} {a w w' : World} (h : Below B a w) {row : Option Nat} (hg : w.grownBy w' row) (hr : ∀ k, row = some k → B ≤ k) (hB : B ≤ w.heap.size) : Below B a w' :=
  ⟨hg.os.trans h.os, hg.tape.trans h.tape, hg.output.trans h.output, Nat.le_trans h.size hg.size, fun k hk => (hg.block k (Nat.lt_of_lt_of_le hk hB) (fun e => by have := hr k e.symm; omega)).trans (h.block k hk)⟩
end Go.Proofs.YtgdnnaiidmfncaaDoor

namespace Go.Proofs.YtgdnnaiidmfncaaDoor
open Go.RowKit
set_option maxHeartbeats 4000000
set_option maxRecDepth 100000

theorem nums_ints {w : World} {base : Nat} {L : List Int} {v : Value} (h : NumsOwn w base L v) : IntsAt w v L := by
  rcases h.2 with ⟨rfl, hz⟩ | ⟨g, cap, cur, rfl, hg, r⟩
  · have : L = [] := List.eq_nil_of_length_eq_zero hz
    subst this
    exact ⟨none, 0, 0, 0, rfl, .inr rfl, fun j z hj => by simp at hj⟩
  · refine ⟨_, cap, g, 0, rfl, .inl rfl, fun j z hj => ?_⟩
    have hf : ∀ l : List Int, l.flatMap intCells = l.map (Value.int .i64) := fun l => by
      induction l with
      | nil => rfl
      | cons x l ih => rw [List.flatMap_cons, ih]; rfl
    have := World.ownsRow.cells h (g := g) rfl j (.int .i64 z) (by rw [hf, List.getElem?_map, hj]; rfl)
    have h3 : (⟨g, 0, none⟩ : Addr).add j = ⟨g, j, none⟩ := by unfold Addr.add; split <;> simp_all
    rw [h3] at this
    rw [Nat.zero_add]; exact this
theorem refreads_any (x : Ins) (hn : x.name.length ≤ 9223372036854775807) (w : World) :
    Calls Tryd.prog 12 #[insV x] w fun e w' => (∃ v, e = .returned v ∧ IntsAt w' v (readsI x)) ∧ Below w.heap.size w w' := by
  have HO1 := Lib.hid (OwnAt.new w (insCells x) 23)
  have HB1 := Lib.hid ((Below.refl w.heap.size w).alloc (Nat.le_refl _) (.cells (insCells x).toArray 23))
  have HR := Lib.hid (fun w1 => refright_any x hn w1)
  unfold readsI
  cases hr : rightI x with
  | false =>
    rw [if_neg (by simp)]
    rw [hr] at HR
    clear hr
    unfold insV at HR ⊢
    go_enter Tryd.func12, Tryd.ntmps12
    go_wp2_with fail
    refine (HR.out _).mono ?_
    rintro e w1 ⟨rfl, hb1⟩
    have HB2 := Lib.hid (HB1.out.trans (hb1.mono HB1.out.size))
    clear hb1
    go_wp2_with fail
    go_ret
    exact ⟨⟨_, rfl, none, 0, 0, 0, rfl, .inr rfl, fun j z hj => by simp at hj⟩, HB2.out⟩
  | true =>
    rw [if_pos rfl]
    rw [hr] at HR
    clear hr
    obtain ⟨RL, hRL⟩ : ∃ RL, (if x.op = 27 then [1] else if x.op = 28 then [10, 17] else (if x.a = 0 then (if x.b = 0 then [] else [x.b]) else if x.b = 0 then [x.a] else if x.a = x.b then [x.a] else [x.a, x.b]) : List Int) = RL := ⟨_, rfl⟩
    rw [hRL]
    unfold insV at HR ⊢
    go_enter Tryd.func12, Tryd.ntmps12
    have HRL := Lib.hid hRL
    clear hRL
    go_wp2_with fail
    refine (HR.out _).mono ?_
    rintro e w1 ⟨rfl, hb1⟩
    have HB2 := Lib.hid (HB1.out.trans (hb1.mono HB1.out.size))
    have HO2 := Lib.hid (HO1.out.old hb1)
    clear hb1 HO1 HB1 HR
    have c0 := HO2.out.at 0 _ rfl
    have c2 := HO2.out.at 2 _ rfl
    have c3 := HO2.out.at 3 _ rfl
    have hl1 := HO2.out.lt
    have hs1 := HB2.out.size
    by_cases h27 : x.op = 27
    · have hre : RL = [1] := by rw [← HRL.out, if_pos h27]
      subst hre
      clear HRL
      rw [h27] at c0
      have ho := OwnAt.new w1 [.int .i64 1] 3
      have hb : Below w.heap.size w (w1.alloc (.cells #[.int .i64 1] 3)) := HB2.out.alloc hs1 _
      have HO := Lib.hid ho; have HB := Lib.hid hb
      clear ho hb
      go_wp2_with fail
      go_ret
      exact ⟨⟨_, rfl, _, 1, w1.heap.size, 0, rfl, .inl rfl, fun j z hj => by
        match j, hj with
        | 0, hj => simp at hj; subst hj; exact HO.out.at 0 _ rfl
        | (j + 1), hj => simp at hj⟩, HB.out⟩
    · have hr2 := HRL.out
      rw [if_neg h27] at hr2
      have g27 : (x.op == 27) = false := by simpa using h27
      by_cases h28 : x.op = 28
      · have hre : RL = [10, 17] := by rw [← hr2, if_pos h28]
        subst hre
        clear HRL hr2
        rw [h28] at c0
        clear g27 h27
        have HO := Lib.hid (OwnAt.new w1 [.int .i64 10, .int .i64 17] 3)
        have HB : Hid (Below w.heap.size w (w1.alloc (.cells #[.int .i64 10, .int .i64 17] 3))) := Lib.hid (HB2.out.alloc hs1 _)
        go_wp2_with fail
        go_ret
        exact ⟨⟨_, rfl, _, 2, w1.heap.size, 0, rfl, .inl rfl, fun j z hj => by
          match j, hj with
          | 0, hj => simp at hj; subst hj; exact HO.out.at 0 _ rfl
          | 1, hj => simp at hj; subst hj; exact HO.out.at 1 _ rfl
          | (j + 2), hj => simp at hj⟩, HB.out⟩
      · rw [if_neg h28] at hr2
        clear HRL
        have g28 : (x.op == 28) = false := by simpa using h28
        obtain ⟨xa, hxa⟩ : ∃ a, x.a = a := ⟨_, rfl⟩
        obtain ⟨xb, hxb⟩ : ∃ b, x.b = b := ⟨_, rfl⟩
        rw [hxa, hxb] at hr2
        have HR2 := Lib.hid hr2
        clear hr2
        rw [hxa] at c2
        rw [hxb] at c3
        clear hxa hxb
        have HZ := Lib.hid (RwOwn.zero 3 intCells 1 (w1.alloc (.cells #[.int .i64 xa] 3)) w1.heap.size)
        have HZb := Lib.hid (RwOwn.zero 3 intCells 1 (w1.alloc (.cells #[.int .i64 xb] 3)) w1.heap.size)
        have HNA := Lib.hid (OwnAt.new w1 (intCells xa) 3)
        have HNB := Lib.hid (OwnAt.new w1 (intCells xb) 3)
        have HBA : Hid (Below w1.heap.size w1 (w1.alloc (.cells #[.int .i64 xa] 3))) := Lib.hid ((Below.refl _ _).alloc (Nat.le_refl _) _)
        have HBB : Hid (Below w1.heap.size w1 (w1.alloc (.cells #[.int .i64 xb] 3))) := Lib.hid ((Below.refl _ _).alloc (Nat.le_refl _) _)
        by_cases ha : xa = 0
        · subst ha
          by_cases hb0 : xb = 0
          · subst hb0
            have hre : RL = [] := by rw [← HR2.out, if_pos rfl, if_pos rfl]
            subst hre
            go_wp2_with fail
            go_ret
            exact ⟨⟨_, rfl, none, 0, 0, 0, rfl, .inr rfl, fun j z hj => by simp at hj⟩, HB2.out⟩
          · have hre : RL = [xb] := by rw [← HR2.out, if_pos rfl, if_neg hb0]
            subst hre
            have gb : (xb == 0) = false := by simpa using hb0
            have gb2 : (xb != 0) = true := by simpa using hb0
            go_wp2_with (at_builtin; refine wpList_numSnoc _ rfl _ _ rfl w1.heap.size [] _ rfl HZb.out xb w1.heap.size 1 rfl HNB.out (by simp) HBB.out.size ?_; intro g cg w5 how hgr hat hlt; have HW := Lib.hid how; have HB5 := Lib.hid (below_grow HBB.out hgr (fun k e => (RwOwn.lt HZb.out k e).1) HBB.out.size); clear how hgr hat hlt)
            go_ret
            exact ⟨⟨_, rfl, nums_ints HW.out⟩, HB2.out.trans (HB5.out.mono hs1)⟩
        · have ga : (xa == 0) = false := by simpa using ha
          have ga2 : (xa != 0) = true := by simpa using ha
          by_cases hb0 : xb = 0
          · subst hb0
            have hre : RL = [xa] := by rw [← HR2.out, if_neg ha, if_pos rfl]
            subst hre
            go_wp2_with (at_builtin; refine wpList_numSnoc _ rfl _ _ rfl w1.heap.size [] _ rfl HZ.out xa w1.heap.size 1 rfl HNA.out (by simp) HBA.out.size ?_; intro g cg w5 how hgr hat hlt; have HW := Lib.hid how; have HB5 := Lib.hid (below_grow HBA.out hgr (fun k e => (RwOwn.lt HZ.out k e).1) HBA.out.size); have d2 := below_keeps HB5.out c2; have d3 := below_keeps HB5.out c3; have dl : w.heap.size < w5.heap.size := Nat.lt_of_lt_of_le hl1 HB5.out.size; clear how hgr hat hlt)
            go_ret
            exact ⟨⟨_, rfl, nums_ints HW.out⟩, HB2.out.trans (HB5.out.mono hs1)⟩
          · have gb : (xb == 0) = false := by simpa using hb0
            have gb2 : (xb != 0) = true := by simpa using hb0
            by_cases hab : xa = xb
            · subst hab
              have hre : RL = [xa] := by rw [← HR2.out, if_neg ha, if_neg hb0, if_pos rfl]
              subst hre
              go_wp2_with (at_builtin; refine wpList_numSnoc _ rfl _ _ rfl w1.heap.size [] _ rfl HZ.out xa w1.heap.size 1 rfl HNA.out (by simp) HBA.out.size ?_; intro g cg w5 how hgr hat hlt; have HW := Lib.hid how; have HB5 := Lib.hid (below_grow HBA.out hgr (fun k e => (RwOwn.lt HZ.out k e).1) HBA.out.size); have d2 := below_keeps HB5.out c2; have d3 := below_keeps HB5.out c3; have dl : w.heap.size < w5.heap.size := Nat.lt_of_lt_of_le hl1 HB5.out.size; clear how hgr hat hlt)
              go_ret
              exact ⟨⟨_, rfl, nums_ints HW.out⟩, HB2.out.trans (HB5.out.mono hs1)⟩
            · have hre : RL = [xa, xb] := by rw [← HR2.out, if_neg ha, if_neg hb0, if_neg hab]
              subst hre
              have hba : ¬ xb = xa := fun e => hab e.symm
              have gab : (xb == xa) = false := by simpa using hba
              have gab2 : (xb != xa) = true := by simpa using hba
              go_upto_region 12 with (at_builtin; refine wpList_numSnoc _ rfl _ _ rfl w1.heap.size [] _ rfl HZ.out xa w1.heap.size 1 rfl HNA.out (by simp) HBA.out.size ?_; intro g cg w5 how hgr hat hlt; have HW := Lib.hid how; have HB5 := Lib.hid (below_grow HBA.out hgr (fun k e => (RwOwn.lt HZ.out k e).1) HBA.out.size); have d2 := below_keeps HB5.out c2; have d3 := below_keeps HB5.out c3; have dl : w.heap.size < w5.heap.size := Nat.lt_of_lt_of_le hl1 HB5.out.size; clear how hgr hat hlt)
              have hb6 : Below w5.heap.size w5 (w5.alloc (.cells #[.int .i64 xb] 3)) := (Below.refl _ _).alloc (Nat.le_refl _) _
              have HW6 := Lib.hid (RwOwn.old HW.out hb6)
              have HB6 := Lib.hid (HB5.out.trans (hb6.mono HB5.out.size))
              have HN6 := Lib.hid (OwnAt.new w5 (intCells xb) 3)
              clear hb6
              go_wp2_with (at_builtin; refine wpList_numSnoc _ rfl _ _ rfl w1.heap.size _ _ rfl HW6.out xb w5.heap.size 1 rfl HN6.out (by simp) HB6.out.size ?_; intro g7 cg7 w7 how7 hgr7 hat7 hlt7; have HW7 := Lib.hid how7; have HB7 := Lib.hid (below_grow HB6.out hgr7 (fun k e => (RwOwn.lt HW6.out k e).1) HB6.out.size); clear how7 hgr7 hat7 hlt7)
              go_ret
              exact ⟨⟨_, rfl, nums_ints HW7.out⟩, HB2.out.trans (HB7.out.mono hs1)⟩
end Go.Proofs.YtgdnnaiidmfncaaDoor

namespace Go.Proofs.YtgdnnaiidmfncaaDoor
open Go.RowKit
set_option maxHeartbeats 4000000
set_option maxRecDepth 100000

theorem refwrites_any (x : Ins) (hn : x.name.length ≤ 9223372036854775807) (w : World) :
    Calls Tryd.prog 14 #[insV x] w fun e w' => e = .returned (.int .i64 (writesI x)) ∧ Below w.heap.size w w' := by
  have HO1 := Lib.hid (OwnAt.new w (insCells x) 23)
  have HB1 := Lib.hid ((Below.refl w.heap.size w).alloc (Nat.le_refl _) (.cells (insCells x).toArray 23))
  have HR := Lib.hid (fun w1 => refright_any x hn w1)
  unfold insV at HR ⊢
  unfold writesI
  obtain ⟨rb, hr⟩ : ∃ rb, rightI x = rb := ⟨_, rfl⟩
  rw [hr] at HR ⊢
  have go : ∀ (v : Int), ((rb = false ∧ v = 0) ∨ (rb = true ∧ (x.op == 26) = true ∧ v = 1) ∨ (rb = true ∧ (x.op == 26) = false ∧ (x.op == 28) = true ∧ v = 10) ∨ (rb = true ∧ (x.op == 26) = false ∧ (x.op == 28) = false ∧ v = x.d)) →
      Calls Tryd.prog 14 #[.agg #[.int .i64 x.op, .int .i64 x.d, .int .i64 x.a, .int .i64 x.b, .int .i64 x.n, .string (strOf x.name)]] w fun e w' => e = .returned (.int .i64 v) ∧ Below w.heap.size w w' := by
    intro v hv
    clear hr
    rcases hv with ⟨rfl, rfl⟩ | ⟨rfl, g1, rfl⟩ | ⟨rfl, g1, g2, rfl⟩ | ⟨rfl, g1, g2, rfl⟩
    all_goals
      go_enter Tryd.func14, Tryd.ntmps14
      go_wp2_with fail
      refine (HR.out _).mono ?_
      rintro e w1 ⟨rfl, hb1⟩
      have HB2 := Lib.hid (HB1.out.trans (hb1.mono HB1.out.size))
      have HO2 := Lib.hid (HO1.out.old hb1)
      clear hb1
      have c0 := HO2.out.at 0 _ rfl
      have c1 := HO2.out.at 1 _ rfl
      go_wp2_with fail
      go_ret
      exact ⟨rfl, HB2.out⟩
  apply go
  clear go
  cases rb with
  | false => exact .inl ⟨rfl, rfl⟩
  | true =>
    rw [if_pos rfl]
    by_cases h1 : x.op = 26
    · rw [if_pos h1]; exact .inr (.inl ⟨rfl, by simpa using h1, rfl⟩)
    · rw [if_neg h1]
      by_cases h2 : x.op = 28
      · rw [if_pos h2]; exact .inr (.inr (.inl ⟨rfl, by simpa using h1, by simpa using h2, rfl⟩))
      · rw [if_neg h2]; exact .inr (.inr (.inr ⟨rfl, by simpa using h1, by simpa using h2, rfl⟩))
end Go.Proofs.YtgdnnaiidmfncaaDoor

namespace Go.Proofs.YtgdnnaiidmfncaaDoor
open Go.RowKit
set_option maxHeartbeats 4000000
set_option maxRecDepth 100000

/-- The same list, twice in memory. -/
theorem ints_same (v u : Value) (l : List Int) (hl : l.length ≤ 10) (w : World) (hv : IntsAt w v l) (hu : IntsAt w u l) :
    Calls Tryd.prog 10 #[v, u] w fun e w' => e = .returned (.bool true) ∧ Below w.heap.size w w' := by
  obtain ⟨a1, c1, b1, o1, rfl, h1, k1⟩ := hv
  obtain ⟨a2, c2, b2, o2, rfl, h2, k2⟩ := hu
  have K1 := Lib.hid k1
  have K2 := Lib.hid k2
  have hlI : (l.length : Int) ≤ 10 := by omega
  clear k1 k2
  go_enter Tryd.func10, Tryd.ntmps10
  go_wp2_with fail
  go_loopw [5] (fun s5 wr => ∃ i : Nat, s5 = .int .i64 i ∧ i ≤ l.length ∧ Hid (Below w.heap.size w wr)) (fun s5 _ => l.length - (intOf s5).toNat)
  case atStart => exact ⟨0, rfl, Nat.zero_le _, Lib.hid (Below.refl _ _)⟩
  case round =>
    obtain ⟨i, rfl, hi, GB⟩ := hrel
    by_cases hlt : i < l.length
    · have e1 : a1 = some ⟨b1, o1, none⟩ := by
        rcases h1 with h | h
        · exact h
        · rw [h] at hlt; simp at hlt
      have e2 : a2 = some ⟨b2, o2, none⟩ := by
        rcases h2 with h | h
        · exact h
        · rw [h] at hlt; simp at hlt
      subst e1
      subst e2
      have q1 := below_keeps GB.out (K1.out i l[i] (List.getElem?_eq_getElem hlt))
      have q2 := below_keeps GB.out (K2.out i l[i] (List.getElem?_eq_getElem hlt))
      generalize l[i] = z at *
      have hiI : (i : Int) < (l.length : Int) := by omega
      go_wp2_with fail
      go_quiet (fail)
      go_wp2_with fail
      go_roundw
      case rel => exact ⟨i + 1, rfl, hlt, Lib.hid (below_drewN GB.out _)⟩
      case measure => first | omega | (simp [intOf]; omega) | (simp; omega)
    · have hiI : (l.length : Int) ≤ (i : Int) := by omega
      go_wp2_with fail
      go_ret
      exact ⟨rfl, GB.out⟩
end Go.Proofs.YtgdnnaiidmfncaaDoor
