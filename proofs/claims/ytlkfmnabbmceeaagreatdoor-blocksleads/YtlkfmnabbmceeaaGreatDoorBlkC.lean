/-
  Landings: the places behind calls. Condition: labels and names are no longer than memory.
  Split: where blocks begin and end. Condition: labels and names are no longer than memory.
-/
import Derived.Test.YtlkfmnabbmceeaaGreatDoorBlkA
import Derived.Test.YtlkfmnabbmceeaaGreatDoorAsmE
import Derived.Test.YtlkfmnabbmceeaaGreatDoorBlkB
set_option linter.unusedVariables false
set_option linter.unusedSimpArgs false
namespace Go.Proofs.YtlkfmnabbmceeaaGreatDoor
open Go.RowKit
set_option maxHeartbeats 4000000
set_option maxRecDepth 100000

theorem kahead_le (l : List Ln) (i : Nat) : aheadN l i ≤ (insL l).length := by
  unfold aheadN insL
  rw [List.length_map]
  have e : (l.filter (fun x => x.label == [])).length = ((l.take i).filter (fun x => x.label == [])).length + ((l.drop i).filter (fun x => x.label == [])).length := by
    conv => lhs; rw [← List.take_append_drop i l, List.filter_append, List.length_append]
  omega
theorem flat_facts (c : Cd) : (flatA c).1.length ≤ 40000 ∧ (flatA c).2.length = (flatA c).1.length ∧ ∀ j, j < (flatA c).2.length → (flatA c).2.getD j 0 ≤ ((flatA c).1.length : Int) ∧ -1 ≤ (flatA c).2.getD j 0 := by
  refine ⟨?_, (flat_lens c).2, ?_⟩
  · unfold flatA
    split
    · rename_i hz
      obtain ⟨hn, _, _⟩ := checkC_open hz
      have := insL_len c.lines
      dsimp only
      omega
    · exact Nat.zero_le _
  · unfold flatA
    split
    · intro j hj
      dsimp only at hj ⊢
      rw [List.getD_eq_getElem?_getD, List.getElem?_eq_getElem hj, Option.getD_some, List.getElem_map]
      unfold toA
      split
      · have := kahead_le c.lines ((place c.lines ((insL c.lines)[j]'(by simpa using hj)).name).getD 0)
        exact ⟨by omega, by omega⟩
      · exact ⟨by omega, by omega⟩
    · intro j hj
      simp at hj
def landN (I : List Ins) : Nat → List Int
  | 0 => []
  | i + 1 => if (I.getD i (zeroI 0)).op = 26 then landN I i ++ [(i : Int) + 1] else landN I i
theorem landN_is (I : List Ins) : ∀ i, landN I i = ((List.range i).filter (fun i => (I.getD i (zeroI 0)).op == 26)).map (fun i => ((i : Nat) : Int) + 1)
  | 0 => rfl
  | i + 1 => by
    show (if _ then _ else _) = _
    rw [List.range_succ, List.filter_append, List.map_append, ← landN_is I i]
    by_cases h : (I.getD i (zeroI 0)).op = 26
    · rw [if_pos h, List.filter_cons_of_pos (by rw [beq_iff_eq]; exact h)]; rfl
    · rw [if_neg h, List.filter_cons_of_neg (by rw [beq_iff_eq]; exact h)]; simp
theorem landN_end (I : List Ins) : landN I I.length = landI I := landN_is I _
theorem landN_len (I : List Ins) : ∀ i, (landN I i).length ≤ i
  | 0 => Nat.zero_le _
  | i + 1 => by
    show (if _ then _ else _ : List Int).length ≤ _
    have := landN_len I i
    split
    · simp; omega
    · omega
theorem landings_any (c : Cd) (va vl : Value) (w : World) (hc : CodeAt w c va vl) (hs : ShortC c) :
    Calls Tryz.prog 11 #[.agg #[va, vl]] w fun e w' => ∃ v, e = .returned v ∧ NumsOwn w' w.heap.size (landI (flatA c).1) v ∧ Below w.heap.size w w' := by
  obtain ⟨hn, hl, hT⟩ := flat_facts c
  obtain ⟨a, cap, rfl⟩ := RwAt.shape hc.2
  have HB0 := Lib.hid ((Below.refl w.heap.size w).alloc (Nat.le_refl _) (.cells #[va, .slice a c.lines.length cap] 26))
  have HFL := Lib.hid (flat_any c va _ _ (hc.old HB0.out) hs)
  clear hc hs hT
  generalize (flatA c).1 = I at *
  generalize (flatA c).2 = T at *
  have hnI : (I.length : Int) ≤ 40000 := by omega
  go_enter Tryz.func11, Tryz.ntmps11
  go_wp2_with fail
  refine (HFL.out).mono ?_
  rintro e w5 ⟨v1, v2, rfl, h1, h2, hb5⟩
  obtain ⟨a1, c1, rfl⟩ := RwAt.shape h1
  obtain ⟨a2, c2, hs2⟩ := RwAt.shape h2
  rw [hl] at hs2
  subst hs2
  have HB5 := Lib.hid (HB0.out.trans (hb5.mono HB0.out.size))
  have HI := Lib.hid h1
  clear HFL h1 h2 hb5 HB0
  have HNE := Lib.hid (landN_end I)
  obtain ⟨N, hN⟩ : ∃ N, I.length = N := ⟨_, rfl⟩
  have HN := Lib.hid hN
  rw [hN] at hn hl hnI HNE ⊢
  clear hN
  go_wp2_with fail
  go_loopw [2, 14] (fun s2 s14 wr => ∃ i : Nat, i ≤ N ∧ s14 = .int .i64 i ∧ Hid (NumsOwn wr w5.heap.size (landN I i) s2) ∧ Hid (Below w5.heap.size w5 wr)) (fun _ s14 _ => N - (intOf s14).toNat)
  case atStart => exact ⟨0, Nat.zero_le _, rfl, Lib.hid (RwOwn.zero _ _ _ _ _), Lib.hid (Below.refl _ _)⟩
  case round =>
    obtain ⟨i, hi, rfl, HNR, HBR⟩ := hrel
    have HB := Lib.hid (HB5.out.trans (HBR.out.mono HB5.out.size))
    have hll := landN_len I i
    obtain ⟨a7, c7, rfl⟩ := RwOwn.shape HNR.out
    by_cases hlt : i < N
    · have hlI : i < I.length := by rw [HN.out]; exact hlt
      obtain ⟨bi, oi, eb, hbi, i0, i1, i2, i3, i4, i5⟩ := InsAt.at (HI.out.old HBR.out) hlI
      cases eb
      have hsn : landN I (i + 1) = if (I.getD i (zeroI 0)).op = 26 then landN I i ++ [(i : Int) + 1] else landN I i := rfl
      rw [List.getD_eq_getElem?_getD, List.getElem?_eq_getElem hlI, Option.getD_some] at hsn
      obtain ⟨x, hx⟩ : ∃ x, I[i] = x := ⟨_, rfl⟩
      rw [hx] at hsn i0 i1 i2 i3 i4 i5
      obtain ⟨o, d, aa, bb, n1, nm⟩ := x
      dsimp only at hsn i0 i1 i2 i3 i4 i5
      clear hx
      have hb1 : Below wr.heap.size wr (wr.alloc (.cells #[.int .i64 o, .int .i64 d, .int .i64 aa, .int .i64 bb, .int .i64 n1, .string (strOf nm)] 36)) := (Below.refl _ _).alloc (Nat.le_refl _) _
      have HN1 := Lib.hid (RwOwn.old HNR.out hb1)
      have HB1 := Lib.hid (HBR.out.trans (hb1.mono HBR.out.size))
      by_cases h26 : o = 26
      · subst h26
        rw [if_pos rfl] at hsn
        have HSN := Lib.hid hsn
        have hs1 : (wr.alloc (.cells #[.int .i64 26, .int .i64 d, .int .i64 aa, .int .i64 bb, .int .i64 n1, .string (strOf nm)] 36)).heap.size = wr.heap.size + 1 := by simp
        have hb2 := hb1.alloc (by omega) (.cells #[.int .i64 ((i : Int) + 1)] 3)
        have HN6 := Lib.hid (RwOwn.old HNR.out hb2)
        have HB6 := Lib.hid (HBR.out.trans (hb2.mono HBR.out.size))
        have hns := OwnAt.new (wr.alloc (.cells #[.int .i64 26, .int .i64 d, .int .i64 aa, .int .i64 bb, .int .i64 n1, .string (strOf nm)] 36)) (intCells ((i : Int) + 1)) 3
        rw [hs1] at hns
        have HNS := Lib.hid hns
        have HSW := Lib.hid HB6.out.size
        clear hsn hb1 hb2 hns hs1
        go_wp2_with (at_builtin; refine wpList_numSnoc _ rfl _ _ rfl w5.heap.size (landN I i) _ rfl HN6.out ((i : Int) + 1) (wr.heap.size + 1) 1 rfl HNS.out (by omega) HSW.out ?_; intro g2 cg2 w7 how7 hgr7 hat7 hlt7; have HN7 := Lib.hid how7; have HB7 := Lib.hid (below_grow HB6.out hgr7 (fun k e => (RwOwn.lt HN6.out k e).1) HSW.out); clear how7 hgr7 hat7 hlt7)
        exact ⟨⟨i + 1, hlt, by first | rfl | (simp; done) | go_num, by rw [HSN.out]; exact HN7, HB7⟩, by simp [intOf]; omega⟩
      · rw [if_neg h26] at hsn
        have HSN := Lib.hid hsn
        have h26b : (o == 26) = false := by simpa using h26
        clear hsn hb1
        go_wp2_with fail
        exact ⟨⟨i + 1, hlt, by first | rfl | (simp; done) | go_num, by rw [HSN.out]; exact HN1, HB1⟩, by simp [intOf]; omega⟩
    · have he : i = N := by omega
      subst he
      go_wp2_with fail
      go_ret
      exact ⟨_, rfl, by rw [← HNE.out]; exact HNR.out.base HB5.out.size, HB.out⟩
end Go.Proofs.YtlkfmnabbmceeaaGreatDoor

namespace Go.Proofs.YtlkfmnabbmceeaaGreatDoor
open Go.RowKit
set_option maxHeartbeats 4000000
set_option maxRecDepth 100000

/-- A pair of numbers, as cells. -/
def prCells (p : Int × Int) : List Value := [.int .i64 p.1, .int .i64 p.2]
theorem prCells_len (x : Int × Int) : (prCells x).length = 2 := rfl
theorem prCells_one (x : Int × Int) : ∀ u, u ∈ prCells x → u.oneCell' = true := by
  intro u hu
  simp only [prCells, List.mem_cons, List.not_mem_nil, or_false] at hu
  rcases hu with rfl | rfl <;> rfl
theorem infoPr : (Tryz.prog.info? 34).map (fun i => (i.zero, i.size, i.bytes)) = some (some (.agg #[.int .i64 0, .int .i64 0]), 2, 16) := by kernel_rfl
abbrev PrsOwn (w : World) (base : Nat) (L : List (Int × Int)) (v : Value) : Prop := RwOwn 34 prCells 2 w base L v
section
variable (w : World) {ops : Array Oper} {rest : List Oper} {o : Oper} {a : Act} {Q : Exit → Act → World → Prop}
theorem wpList_prSnoc (hgd : o.guard = none) (s x : Operand) (ho : o.op = .call { callee := .builtin .append, args := #[s, x], argTypes := #[32, 32] })
    (base : Nat) (L : List (Int × Int)) (v : Value) (hs : a.eval s = v) (hown : PrsOwn w base L v) (y : Int × Int) (b c : Nat) (hx : a.eval x = .slice (some ⟨b, 0, none⟩) 1 c) (hnew : OwnAt w b (prCells y) 34)
    (hlen : L.length ≤ 1000000) (hbase : base ≤ w.heap.size)
    (h : ∀ g cap w', PrsOwn w' base (L ++ [y]) (.slice (some ⟨g, 0, none⟩) (L.length + 1) cap) → w.grownBy w' v.ownBlock → (v.ownBlock = some g ∨ g = w.heap.size) → g < w'.heap.size → wpList Tryz.prog ops Q rest (a.put o.dst (.slice (some ⟨g, 0, none⟩) (L.length + 1) cap)) w') : wpList Tryz.prog ops Q (o :: rest) a w :=
  wpList_rsnoc w hgd s x _ ho 34 Tryz.underlying32 _ 2 16 infoPr rfl (by decide) prCells prCells_len prCells_one base L v hs hown y b c hx hnew (by omega) (by omega) hbase h
end
theorem split_get (B : List Int) (n : Int) (i : Nat) (h : i < B.length) : (splitL B n).take (i + 1) = (splitL B n).take i ++ [(B[i], endOf B n i)] := by
  have hl : i < (splitL B n).length := by unfold splitL; simpa using h
  have e : (splitL B n)[i] = (B[i], endOf B n i) := by
    unfold splitL
    simp [List.getElem?_eq_getElem h]
  rw [List.take_add_one, List.getElem?_eq_getElem hl, e]; rfl
theorem split_len (B : List Int) (n : Int) : (splitL B n).length = B.length := by unfold splitL; simp
theorem split_any2 (c : Cd) (va vl : Value) (w : World) (hc : CodeAt w c va vl) (hs : ShortC c) :
    Calls Tryz.prog 9 #[.agg #[va, vl]] w fun e w' => ∃ v, e = .returned v ∧ PrsOwn w' w.heap.size (splitL (begL (flatA c).1 (flatA c).2) ((flatA c).1.length : Int)) v ∧ Below w.heap.size w w' := by
  obtain ⟨hn, hl, hT⟩ := flat_facts c
  obtain ⟨a, cap, rfl⟩ := RwAt.shape hc.2
  have HB0 := Lib.hid ((Below.refl w.heap.size w).alloc (Nat.le_refl _) (.cells #[va, .slice a c.lines.length cap] 26))
  have HFL := Lib.hid (flat_any c va _ _ (hc.old HB0.out) hs)
  clear hc hs
  have HBG := Lib.hid (fun v1 v2 w h1 h2 => begins_any (flatA c).1 (flatA c).2 v1 v2 w h1 h2 hl hn hT)
  have hbl := beg_len (flatA c).1 (flatA c).2
  have HBV := Lib.hid (fun i h => begL_get (I := (flatA c).1) (T := (flatA c).2) (i := i) h)
  clear hT
  generalize begL (flatA c).1 (flatA c).2 = B at *
  generalize (flatA c).1 = I at *
  generalize (flatA c).2 = T at *
  have hnI : (I.length : Int) ≤ 40000 := by omega
  go_enter Tryz.func9, Tryz.ntmps9
  go_wp2_with fail
  refine (HFL.out).mono ?_
  rintro e w5 ⟨v1, v2, rfl, h1, h2, hb5⟩
  obtain ⟨a1, c1, rfl⟩ := RwAt.shape h1
  obtain ⟨a2, c2, hs2⟩ := RwAt.shape h2
  rw [hl] at hs2
  subst hs2
  have HB5 := Lib.hid (HB0.out.trans (hb5.mono HB0.out.size))
  have HBC := Lib.hid (HBG.out _ _ _ h1 h2)
  clear HFL h1 h2 hb5 HB0 HBG
  go_wp2_with fail
  refine (HBC.out).mono ?_
  rintro e w6 ⟨v3, rfl, h3, hb6⟩
  obtain ⟨a3, c3, rfl⟩ := RwOwn.shape h3
  have HB6 := Lib.hid (HB5.out.trans (hb6.mono HB5.out.size))
  have HV3 := Lib.hid (RwOwn.nilv h3 (by omega) intCells_len)
  clear HBC h3 hb6 HB5
  obtain ⟨N, hN⟩ : ∃ N, I.length = N := ⟨_, rfl⟩
  have HN := Lib.hid hN
  rw [hN] at hn hl hnI hbl HBV ⊢
  clear hN
  obtain ⟨M, hM⟩ : ∃ M, B.length = M := ⟨_, rfl⟩
  have HM := Lib.hid hM
  have hsl := split_len B (N : Int)
  rw [hM] at hbl hsl HV3 ⊢
  clear hM
  have hMI : (M : Int) ≤ 40000 := by omega
  go_wp2_with fail
  go_loopw [2, 19] (fun s2 s19 wr => ∃ i : Nat, i ≤ M ∧ s19 = .int .i64 i ∧ Hid (PrsOwn wr w6.heap.size ((splitL B (N : Int)).take i) s2) ∧ Hid (Below w6.heap.size w6 wr)) (fun _ s19 _ => M - (intOf s19).toNat)
  case atStart => exact ⟨0, Nat.zero_le _, rfl, Lib.hid (RwOwn.zero _ _ _ _ _), Lib.hid (Below.refl _ _)⟩
  case round =>
    obtain ⟨i, hi, rfl, HNR, HBR⟩ := hrel
    have hll : ((splitL B (N : Int)).take i).length = i := by rw [List.length_take]; omega
    obtain ⟨a7, c7, hs7⟩ := RwOwn.shape HNR.out
    rw [hll] at hs7
    subst hs7
    by_cases hlt : i < M
    · have hlB : i < B.length := by rw [HM.out]; exact hlt
      obtain ⟨bi, oi, eb, hbi, i0⟩ := NumsAt.at (HV3.out.old HBR.out) hlB
      cases eb
      have hsn := split_get B (N : Int) i hlB
      obtain ⟨p, hp, hpn, _⟩ := HBV.out i hlB
      rw [hp] at hsn i0
      have hpI : (p : Int) < (N : Int) := by omega
      by_cases hlt2 : i + 1 < M
      · have hlB2 : i + 1 < B.length := by rw [HM.out]; exact hlt2
        obtain ⟨bj, oj, ej, hbj, j0⟩ := NumsAt.at (HV3.out.old HBR.out) hlB2
        cases ej
        have he : endOf B (N : Int) i = B[i + 1] := by unfold endOf; rw [List.getD_eq_getElem?_getD, List.getElem?_eq_getElem hlB2]; rfl
        obtain ⟨q, hq, hqn, _⟩ := HBV.out (i + 1) hlB2
        rw [hq] at j0 he
        rw [he] at hsn
        have HSN := Lib.hid hsn
        have hb2 : Below wr.heap.size wr (wr.alloc (.cells #[.int .i64 (p : Int), .int .i64 (q : Int)] 34)) := (Below.refl _ _).alloc (Nat.le_refl _) _
        have HN6 := Lib.hid (RwOwn.old HNR.out hb2)
        have HB7 := Lib.hid (HBR.out.trans (hb2.mono HBR.out.size))
        have HNS := Lib.hid (OwnAt.new wr (prCells ((p : Int), (q : Int))) 34)
        have HSW := Lib.hid HB7.out.size
        have hltI : (i : Int) + 1 < (M : Int) := by omega
        clear hsn hb2 he hq hp
        go_wp2_with (at_builtin; refine wpList_prSnoc _ rfl _ _ rfl w6.heap.size ((splitL B (N : Int)).take i) _ rfl HN6.out ((p : Int), (q : Int)) wr.heap.size 1 rfl HNS.out (by omega) HSW.out ?_; intro g2 cg2 w9 how9 hgr9 hat9 hlt9; rw [hll] at how9; have HN9 := Lib.hid how9; have HB9 := Lib.hid (below_grow HB7.out hgr9 (fun k e => (RwOwn.lt HN6.out k e).1) HSW.out); clear how9 hgr9 hat9 hlt9)
        exact ⟨⟨i + 1, hlt, by first | rfl | (simp; done) | go_num, by rw [HSN.out]; exact HN9, HB9⟩, by simp [intOf]; omega⟩
      · have he : endOf B (N : Int) i = (N : Int) := by unfold endOf; rw [List.getD_eq_getElem?_getD, List.getElem?_eq_none (by have := HM.out; omega)]; rfl
        rw [he] at hsn
        have HSN := Lib.hid hsn
        have hb2 : Below wr.heap.size wr (wr.alloc (.cells #[.int .i64 (p : Int), .int .i64 (N : Int)] 34)) := (Below.refl _ _).alloc (Nat.le_refl _) _
        have HN6 := Lib.hid (RwOwn.old HNR.out hb2)
        have HB7 := Lib.hid (HBR.out.trans (hb2.mono HBR.out.size))
        have HNS := Lib.hid (OwnAt.new wr (prCells ((p : Int), (N : Int))) 34)
        have HSW := Lib.hid HB7.out.size
        have hltI : ¬ (i : Int) + 1 < (M : Int) := by omega
        clear hsn hb2 he hp
        go_wp2_with (at_builtin; refine wpList_prSnoc _ rfl _ _ rfl w6.heap.size ((splitL B (N : Int)).take i) _ rfl HN6.out ((p : Int), (N : Int)) wr.heap.size 1 rfl HNS.out (by omega) HSW.out ?_; intro g2 cg2 w9 how9 hgr9 hat9 hlt9; rw [hll] at how9; have HN9 := Lib.hid how9; have HB9 := Lib.hid (below_grow HB7.out hgr9 (fun k e => (RwOwn.lt HN6.out k e).1) HSW.out); clear how9 hgr9 hat9 hlt9)
        exact ⟨⟨i + 1, hlt, by first | rfl | (simp; done) | go_num, by rw [HSN.out]; exact HN9, HB9⟩, by simp [intOf]; omega⟩
    · have he : i = M := by omega
      subst he
      have hfull : (splitL B (N : Int)).take i = splitL B (N : Int) := List.take_of_length_le (by omega)
      have HFU := Lib.hid hfull
      have HB9 := Lib.hid (HB6.out.trans (HBR.out.mono HB6.out.size))
      clear hfull
      go_wp2_with fail
      go_ret
      exact ⟨_, rfl, by rw [HN.out, ← HFU.out]; exact HNR.out.base HB6.out.size, HB9.out⟩
end Go.Proofs.YtlkfmnabbmceeaaGreatDoor
