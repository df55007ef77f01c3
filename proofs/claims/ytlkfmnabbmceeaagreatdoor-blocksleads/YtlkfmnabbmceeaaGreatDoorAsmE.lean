/-
  Flat: code's instructions, and where each leads to. Condition: labels and names are no longer than memory.
-/
import Derived.Test.YtlkfmnabbmceeaaGreatDoorAsmD
import Derived.Test.YtlkfmnabbmceeaaGreatDoorAsmC
set_option linter.unusedVariables false
set_option linter.unusedSimpArgs false
namespace Go.Proofs.YtlkfmnabbmceeaaGreatDoor
open Go.RowKit
set_option maxHeartbeats 4000000
set_option maxRecDepth 100000

def aheadC (l : List Ln) (k : Nat) : List Value := (List.range l.length).map fun i => .int .i64 (if i < k then ((aheadN l i : Nat) : Int) else 0)
theorem aheadC_zero (l : List Ln) : (madeCells (#[.int .i64 0] : Array Value) l.length).toList = aheadC l 0 := by
  unfold aheadC madeCells
  rw [Array.toList_map, Array.toList_range]
  refine List.map_congr_left fun i hi => ?_
  simp [Nat.mod_one]
theorem aheadC_set (l : List Ln) (k : Nat) (hk : k < l.length) : (aheadC l k).set k (.int .i64 ((aheadN l k : Nat) : Int)) = aheadC l (k + 1) := by
  apply List.ext_getElem?
  intro j
  rw [List.getElem?_set]
  unfold aheadC
  by_cases hj : k = j
  · subst hj
    rw [if_pos rfl, if_pos (by simpa using hk), List.getElem?_map, List.getElem?_range hk]
    simp
  · rw [if_neg hj, List.getElem?_map, List.getElem?_map]
    by_cases hl : j < l.length
    · rw [List.getElem?_range hl]
      simp only [Option.map_some, Option.some.injEq, Value.int.injEq, true_and]
      by_cases h2 : j < k
      · rw [if_pos h2, if_pos (by omega)]
      · rw [if_neg h2, if_neg (by omega)]
    · rw [List.getElem?_eq_none (by simpa using hl)]; rfl
theorem aheadC_at (l : List Ln) (j : Nat) (hj : j < l.length) : (aheadC l l.length)[j]? = some (.int .i64 ((aheadN l j : Nat) : Int)) := by
  unfold aheadC
  rw [List.getElem?_map, List.getElem?_range hj]
  simp [hj]
theorem aheadC_old (l : List Ln) (k j : Nat) (hj : j < l.length) : ∃ u, (aheadC l k)[j]? = some u := by
  unfold aheadC
  rw [List.getElem?_map, List.getElem?_range hj]
  exact ⟨_, rfl⟩
theorem ahead_succ (l : List Ln) (k : Nat) (hk : k < l.length) : aheadN l (k + 1) = aheadN l k + (if l[k].label = [] then 1 else 0) := by
  unfold aheadN
  have e : l.take (k + 1) = l.take k ++ [l[k]] := by rw [List.take_add_one, List.getElem?_eq_getElem hk]; rfl
  rw [e, List.filter_append, List.length_append]
  by_cases h : l[k].label = []
  · simp [h]
  · simp [h]
theorem ahead_le (l : List Ln) (k : Nat) : aheadN l k ≤ k := by
  unfold aheadN
  have := List.length_filter_le (fun x : Ln => x.label == []) (l.take k)
  have h2 : (l.take k).length ≤ k := by rw [List.length_take]; omega
  omega
theorem insL_snoc (l : List Ln) (x : Ln) : insL (l ++ [x]) = if x.label = [] then insL l ++ [x.ins] else insL l := by
  unfold insL
  rw [List.filter_append, List.map_append]
  by_cases h : x.label = []
  · simp [h]
  · simp [h]
theorem insL_len (l : List Ln) : (insL l).length ≤ l.length := by
  unfold insL
  rw [List.length_map]
  exact List.length_filter_le _ _
theorem flat_own (c : Cd) (va vl : Value) (w : World) (hc : CodeAt w c va vl) (hs : ShortC c) :
    Calls Tryz.prog 8 #[.agg #[va, vl]] w fun e w' => ∃ v1 v2, e = .returned (.tuple #[v1, v2]) ∧ InsOwn w' w.heap.size (flatA c).1 v1 ∧ NumsOwn w' w.heap.size (flatA c).2 v2 ∧ Below w.heap.size w w' := by
  obtain ⟨a, cap, rfl⟩ := RwAt.shape hc.2
  have hl := RwAt.len hc.2
  have hl63 : (c.lines.length : Int) ≤ 140737488355328 := by omega
  have HB := Lib.hid ((Below.refl w.heap.size w).alloc (Nat.le_refl _) (.cells #[va, .slice a c.lines.length cap] 26))
  have HC := Lib.hid (hc.old HB.out)
  have HS := Lib.hid hs
  have HO := Lib.hid (OwnAt.new w [va, .slice a c.lines.length cap] 26)
  have HCH := Lib.hid (check_any c va _ _ HC.out hs)
  clear hc hs
  by_cases hz : (checkC c).1 = 0
  · obtain ⟨z2, hz2⟩ : ∃ z2, (checkC c).2 = z2 := ⟨_, rfl⟩
    have HZ := Lib.hid hz
    obtain ⟨hn, hne, hlines⟩ := checkC_open hz
    have HLI := Lib.hid hlines
    rw [hz, hz2] at HCH
    clear hz hz2 hne hlines
    have HFL : Hid (flatA c = (insL c.lines, (insL c.lines).map (toA c))) := by show _ = _; unfold flatA; rw [if_pos HZ.out]
    have hnI : (c.lines.length : Int) ≤ 40000 := by omega
    go_enter Tryz.func8, Tryz.ntmps8
    go_upto_region 3 with (go_at_call 15; refine (HCH.out).mono ?_; rintro e w5 ⟨rfl, hb5⟩; have HO5 := Lib.hid (HO.out.old hb5); have HB5 := Lib.hid (HB.out.trans (hb5.mono HB.out.size)); have HC5 := Lib.hid (HC.out.old hb5); have d0 := HO5.out.at 0 _ rfl; have d1 := HO5.out.at 1 _ rfl; clear hb5)
    obtain ⟨i0, hi, hz0, hz1, hz3⟩ := info_parts infoNum
    have hmk := run_make (P := Tryz.prog) w5 29 3 i0 (.int .i64 0) Tryz.underlying29 hi hz0 .i64 .i64 (c.lines.length : Int) (c.lines.length : Int) (by omega) (Int.le_refl _) (by rw [hz3]; omega) (by omega)
    rw [hz1] at hmk
    simp only [Int.toNat_natCast, Nat.mul_one, Value.cells] at hmk
    have hom := OwnAt.new w5 (aheadC c.lines 0) 3
    have ecells : (madeCells (#[.int .i64 0] : Array Value) c.lines.length) = (aheadC c.lines 0).toArray := by rw [← aheadC_zero]
    rw [ecells] at hmk
    have hbm : Below w5.heap.size w5 (w5.alloc (.cells (aheadC c.lines 0).toArray 3)) := (Below.refl _ _).alloc (Nat.le_refl _) _
    have HOM := Lib.hid hom
    have HO6 := Lib.hid (HO5.out.old hbm)
    have HBM := Lib.hid hbm
    have e0 := HO6.out.at 0 _ rfl
    have e1 := HO6.out.at 1 _ rfl
    have hsz6 : (w5.alloc (.cells (aheadC c.lines 0).toArray 3)).heap.size = w5.heap.size + 1 := by simp
    clear hom hbm ecells hi hz0 hz1 hz3
    generalize hW6 : w5.alloc (.cells (aheadC c.lines 0).toArray 3) = W6 at *
    clear hW6
    go_wp2_with fail
    obtain ⟨H, hH⟩ : ∃ H, w5.heap.size = H := ⟨_, rfl⟩
    have hgt : w.heap.size < H := by rw [← hH]; exact HO5.out.lt
    rw [hH] at HOM HBM hsz6 ⊢
    clear d0 d1
    go_loopw [7, 28] (fun s7 s28 wr => ∃ k : Nat, k ≤ c.lines.length ∧ s28 = .int .i64 k ∧ s7 = .int .i64 ((aheadN c.lines k : Nat) : Int) ∧ Hid (OwnAt wr H (aheadC c.lines k) 3) ∧ Hid (Below H w5 wr)) (fun _ s28 _ => c.lines.length - (intOf s28).toNat)
    case atStart => exact ⟨0, Nat.zero_le _, rfl, rfl, HOM, HBM⟩
    case round =>
      obtain ⟨k, hk, rfl, rfl, H1, H2⟩ := hrel
      have hsr := H2.out.size
      have hb2 : Below w5.heap.size w5 wr := by rw [hH]; exact H2.out
      have HOR := Lib.hid (HO5.out.old hb2)
      have HCR := Lib.hid (HC5.out.old hb2)
      have q0 := HOR.out.at 0 _ rfl
      have q1 := HOR.out.at 1 _ rfl
      have hlH := H1.out.lt
      clear hb2 e0 e1
      by_cases hlt : k < c.lines.length
      · obtain ⟨b, off, rfl, hbl, c0, c1, c2, c3, c4, c5, c6⟩ := LnsAt.at HCR.out.2 hlt
        have has := ahead_succ c.lines k hlt
        have hle := ahead_le c.lines k
        obtain ⟨u, hu⟩ := aheadC_old c.lines k k hlt
        have h0 := H1.out.at k u hu
        have f0 := H1.out.fz k
        have hset := aheadC_set c.lines k hlt
        obtain ⟨x, hx⟩ : ∃ x, c.lines[k] = x := ⟨_, rfl⟩
        rw [hx] at c0 c1 c2 c3 c4 c5 c6 has
        clear hx
        obtain ⟨lab, o, d, aa, bb, n1, nm⟩ := x
        dsimp only at c0 c1 c2 c3 c4 c5 c6 has
        have HSET := Lib.hid hset
        obtain ⟨n, hn⟩ : ∃ n : Nat, aheadN c.lines k = n := ⟨_, rfl⟩
        rw [hn] at has hle HSET ⊢
        have HAS := Lib.hid has
        clear hn has hset hu
        have hn1 : (n : Int) + 1 ≤ 9223372036854775807 := by omega
        have hBX := (Below.refl wr.heap.size wr).alloc (Nat.le_refl _) (.cells #[.string (strOf lab), .int .i64 o, .int .i64 d, .int .i64 aa, .int .i64 bb, .int .i64 n1, .string (strOf nm)] 48)
        have HX := Lib.hid (OwnAt.new wr [.string (strOf lab), .int .i64 o, .int .i64 d, .int .i64 aa, .int .i64 bb, .int .i64 n1, .string (strOf nm)] 48)
        clear hBX
        cases lab with
        | nil =>
          go_wp2_with fail
          have HSS := Lib.hid (H1.out.set k (.int .i64 (n : Int)))
          rw [HSET.out] at HSS
          refine ⟨⟨k + 1, hlt, by first | rfl | (simp; done) | go_num, by rw [HAS.out]; simp, Lib.hid (HSS.out.old ((Below.refl _ _).alloc (Nat.le_refl _) _)), Lib.hid ((zbelow_set H2.out (Nat.le_refl _) k _).alloc (by simp; omega) _)⟩, by simp [intOf]; omega⟩
        | cons ch lab =>
          go_wp2_with fail
          have HSS := Lib.hid (H1.out.set k (.int .i64 (n : Int)))
          rw [HSET.out] at HSS
          refine ⟨⟨k + 1, hlt, by first | rfl | (simp; done) | go_num, by rw [HAS.out]; simp, Lib.hid (HSS.out.old ((Below.refl _ _).alloc (Nat.le_refl _) _)), Lib.hid ((zbelow_set H2.out (Nat.le_refl _) k _).alloc (by simp; omega) _)⟩, by simp [intOf]; omega⟩
      · have he : k = c.lines.length := by omega
        subst he
        have HB2 := Lib.hid (HB5.out.trans ((show Below w5.heap.size w5 wr by rw [hH]; exact H2.out).mono HB5.out.size))
        clear HOM HBM HO6 hmk
        go_wp2_with (go_at_call 16; refine (labels_any c va _ _ HCR.out (fun x hx => by have := (HS.out.lines x hx).label; omega)).mono ?_; rintro e w7 ⟨B, n, rfl, hm7, hB7, hb7⟩; have HM7 := Lib.hid hm7; have HO7 := Lib.hid (HOR.out.old hb7); have HC7 := Lib.hid (HCR.out.old hb7); have HH7 := Lib.hid (H1.out.old hb7); have HB7 := Lib.hid (HB2.out.trans (hb7.mono HB2.out.size)); have e0 := HO7.out.at 0 _ rfl; have e1 := HO7.out.at 1 _ rfl; have hBlt := hm7.lt; clear hb7 hm7)
        have hBH : H < B := by omega
        have HBH := Lib.hid hBH
        clear q0 q1
        go_loopw [2, 3, 48] (fun s2 s3 s48 wr => ∃ k : Nat, k ≤ c.lines.length ∧ s48 = .int .i64 k ∧ Hid (InsOwn wr w7.heap.size (insL (c.lines.take k)) s2) ∧ Hid (NumsOwn wr w7.heap.size ((insL (c.lines.take k)).map (toA c)) s3) ∧ Hid (∀ g, s2.ownBlock = some g → s3.ownBlock ≠ some g) ∧ Hid (Below w7.heap.size w7 wr)) (fun _ _ s48 _ => c.lines.length - (intOf s48).toNat)
        case atStart => exact ⟨0, Nat.zero_le _, rfl, Lib.hid (RwOwn.zero _ _ _ _ _), Lib.hid (RwOwn.zero _ _ _ _ _), Lib.hid (fun g hg => by cases hg), Lib.hid (Below.refl _ _)⟩
        case round =>
          obtain ⟨k, hk, rfl, G2, G3, GS, GB⟩ := hrel
          have hsr2 := GB.out.size
          have HO8 := Lib.hid (HO7.out.old GB.out)
          have HC8 := Lib.hid (HC7.out.old GB.out)
          have HH8 := Lib.hid (HH7.out.old GB.out)
          have HM8 := Lib.hid (HM7.out.old GB.out)
          clear e0 e1
          by_cases hlt : k < c.lines.length
          · obtain ⟨b, off, rfl, hbl, c0, c1, c2, c3, c4, c5, c6⟩ := LnsAt.at HC8.out.2 hlt
            have hkn := ((lineE_zero).1 (HLI.out k hlt)).2.2
            have hsh := HS.out.lines _ (List.getElem_mem hlt)
            have htk : c.lines.take (k + 1) = c.lines.take k ++ [c.lines[k]] := by rw [List.take_add_one, List.getElem?_eq_getElem hlt]; rfl
            have hsn := insL_snoc (c.lines.take k) c.lines[k]
            rw [← htk] at hsn
            have hlk := insL_len (c.lines.take k)
            rw [List.length_take] at hlk
            have hnl : ∀ n i, place c.lines n = some i → i < c.lines.length := fun n i h => (place_some h).2.1
            obtain ⟨x, hx⟩ : ∃ x, c.lines[k] = x := ⟨_, rfl⟩
            rw [hx] at c0 c1 c2 c3 c4 c5 c6 hkn hsh hsn
            clear hx htk
            obtain ⟨s1, s2'⟩ := hsh
            obtain ⟨lab, o, d, aa, bb, n1, nm⟩ := x
            dsimp only at c0 c1 c2 c3 c4 c5 c6 s1 s2' hsn hkn
            have HSN := Lib.hid hsn; have HKN := Lib.hid hkn; have HLK : Hid ((insL (c.lines.take k)).length ≤ 40000) := by show _ ≤ _; omega
            have HNL := Lib.hid hnl
            clear hsn hkn hlk hnl
            have hBX := (Below.refl wr.heap.size wr).alloc (Nat.le_refl _) (.cells #[.string (strOf lab), .int .i64 o, .int .i64 d, .int .i64 aa, .int .i64 bb, .int .i64 n1, .string (strOf nm)] 48)
            have HX9 := Lib.hid (OwnAt.new wr [.string (strOf lab), .int .i64 o, .int .i64 d, .int .i64 aa, .int .i64 bb, .int .i64 n1, .string (strOf nm)] 48)
            have HH9 := Lib.hid (HH8.out.old hBX)
            have HM9 := Lib.hid (HM8.out.old hBX)
            have G29 := Lib.hid (RwOwn.old G2.out hBX)
            have G39 := Lib.hid (RwOwn.old G3.out hBX)
            have GB9 := Lib.hid (GB.out.trans (hBX.mono GB.out.size))
            have hs9 : (wr.alloc (.cells #[.string (strOf lab), .int .i64 o, .int .i64 d, .int .i64 aa, .int .i64 bb, .int .i64 n1, .string (strOf nm)] 48)).heap.size = wr.heap.size + 1 := by simp
            have x0 := HX9.out.at 0 _ rfl
            have x1 := HX9.out.at 1 _ rfl
            have x2 := HX9.out.at 2 _ rfl
            have x3 := HX9.out.at 3 _ rfl
            have x4 := HX9.out.at 4 _ rfl
            have x5 := HX9.out.at 5 _ rfl
            have x6 := HX9.out.at 6 _ rfl
            clear hBX
            cases lab with
            | cons ch lab =>
              go_wp2_with fail
              have e : insL (c.lines.take (k + 1)) = insL (c.lines.take k) := by rw [HSN.out, if_neg (List.cons_ne_nil _ _)]
              refine ⟨⟨k + 1, hlt, by first | rfl | (simp; done) | go_num, ?_, ?_, GS, GB9⟩, by simp [intOf]; omega⟩
              · rw [e]; exact G29
              · rw [e]; exact G39
            | nil =>
              have e : insL (c.lines.take (k + 1)) = insL (c.lines.take k) ++ [⟨o, d, aa, bb, n1, nm⟩] := by rw [HSN.out, if_pos rfl]
              have HE := Lib.hid e
              clear e
              go_upto_region 18 with (fail)
              generalize hW9 : (wr.alloc (.cells #[.string (strOf []), .int .i64 o, .int .i64 d, .int .i64 aa, .int .i64 bb, .int .i64 n1, .string (strOf nm)] 48)) = W9 at *
              clear hW9 c0 c1 c2 c3 c4 c5 c6
              have hbI : Below W9.heap.size W9 (W9.alloc (.cells #[.int .i64 o, .int .i64 d, .int .i64 aa, .int .i64 bb, .int .i64 n1, .string (strOf nm)] 36)) := (Below.refl _ _).alloc (Nat.le_refl _) _
              have HG2 := Lib.hid (RwOwn.old G29.out hbI)
              have HG3 := Lib.hid (RwOwn.old G39.out hbI)
              have HNI := Lib.hid (OwnAt.new W9 (insCells ⟨o, d, aa, bb, n1, nm⟩) 36)
              have HGB := Lib.hid (GB9.out.trans (hbI.mono GB9.out.size))
              have hsz9 := GB9.out.size
              have hszI : (W9.alloc (.cells #[.int .i64 o, .int .i64 d, .int .i64 aa, .int .i64 bb, .int .i64 n1, .string (strOf nm)] 36)).heap.size = W9.heap.size + 1 := by simp
              have HL3 : Hid (((insL (c.lines.take k)).map (toA c)).length ≤ 40000) := by show _ ≤ _; rw [List.length_map]; exact HLK.out
              have HLM : Hid (((insL (c.lines.take k)).map (toA c)).length = (insL (c.lines.take k)).length) := by show _ = _; rw [List.length_map]
              have HSZI := Lib.hid hszI
              have HS9 := Lib.hid hs9
              have HSZ9 := Lib.hid hsz9
              clear hbI hszI hsz9 hs9
              by_cases ho : o = 17
              · subst ho
                have HTVE : Hid (-1 = toA c ⟨17, d, aa, bb, n1, nm⟩) := by show _ = _; unfold toA; rw [if_neg (by simp)]
                go_wp2_with (first | (at_builtin; refine wpList_insSnoc _ rfl _ _ rfl w7.heap.size (insL (c.lines.take k)) _ rfl HG2.out ⟨17, d, aa, bb, n1, nm⟩ W9.heap.size 1 rfl HNI.out (by have := HLK.out; omega) (by have := HSZI.out; have := HSZ9.out; omega) ?_; intro g cg w10 how10 hg10 hat10 hlt10; have HOW10 := Lib.hid how10; have HGR10 := Lib.hid hg10; have HAT10 := Lib.hid hat10; have HLT10 := Lib.hid hlt10; have hb11 : Below w10.heap.size w10 (w10.alloc (.cells #[.int .i64 (-1)] 3)) := (Below.refl _ _).alloc (Nat.le_refl _) _; have HNK := Lib.hid (OwnAt.new w10 (intCells (-1)) 3); have h3n := own_apart GS.out; have HN3 := Lib.hid (RwOwn.old (RwOwn.grown HG3.out hg10 h3n) hb11); clear how10 hg10 hat10 hlt10 hb11 h3n) | (at_builtin; refine wpList_numSnoc _ rfl _ _ rfl w7.heap.size ((insL (c.lines.take k)).map (toA c)) _ rfl HN3.out (-1) w10.heap.size 1 rfl HNK.out (by have := HL3.out; omega) (by have h1 := HGR10.out.size; have h2 := HSZI.out; have h3 := HSZ9.out; simp; omega) ?_; intro g3 c3 w12 how12 hg12 hat12 hlt12; rw [HLM.out] at how12 ⊢; have HOW12 := Lib.hid how12; have HGR12 := Lib.hid hg12; have HAT12 := Lib.hid hat12; clear how12 hg12 hat12 hlt12))
                obtain ⟨k1, k2, k3⟩ := two_step (n3 := (insL (c.lines.take k)).length + 1) (c3 := c3) HGB.out (by have := HSZI.out; have := HSZ9.out; omega) HG2.out HG3.out GS.out HOW10.out HGR10.out HAT10.out HLT10.out HGR12.out HAT12.out
                refine ⟨⟨k + 1, hlt, by first | rfl | (simp; done) | go_num, ?_, ?_, Lib.hid k2, Lib.hid k3⟩, by simp [intOf]; omega⟩
                · rw [HE.out]; exact Lib.hid k1
                · rw [HE.out, List.map_append]; exact Lib.hid (by have := HOW12.out; rw [HTVE.out] at this; exact this)
              · have ho' : (o == 17) = false := by simpa using ho
                have ho2 : (o != 17) = true := by simpa using ho
                cases nm with
                | nil =>
                  have HTVE : Hid (-1 = toA c ⟨o, d, aa, bb, n1, []⟩) := by show _ = _; unfold toA; rw [if_neg (by simp)]
                  go_wp2_with (first | (at_builtin; refine wpList_insSnoc _ rfl _ _ rfl w7.heap.size (insL (c.lines.take k)) _ rfl HG2.out ⟨o, d, aa, bb, n1, []⟩ W9.heap.size 1 rfl HNI.out (by have := HLK.out; omega) (by have := HSZI.out; have := HSZ9.out; omega) ?_; intro g cg w10 how10 hg10 hat10 hlt10; have HOW10 := Lib.hid how10; have HGR10 := Lib.hid hg10; have HAT10 := Lib.hid hat10; have HLT10 := Lib.hid hlt10; have hb11 : Below w10.heap.size w10 (w10.alloc (.cells #[.int .i64 (-1)] 3)) := (Below.refl _ _).alloc (Nat.le_refl _) _; have HNK := Lib.hid (OwnAt.new w10 (intCells (-1)) 3); have h3n := own_apart GS.out; have HN3 := Lib.hid (RwOwn.old (RwOwn.grown HG3.out hg10 h3n) hb11); clear how10 hg10 hat10 hlt10 hb11 h3n) | (at_builtin; refine wpList_numSnoc _ rfl _ _ rfl w7.heap.size ((insL (c.lines.take k)).map (toA c)) _ rfl HN3.out (-1) w10.heap.size 1 rfl HNK.out (by have := HL3.out; omega) (by have h1 := HGR10.out.size; have h2 := HSZI.out; have h3 := HSZ9.out; simp; omega) ?_; intro g3 c3 w12 how12 hg12 hat12 hlt12; rw [HLM.out] at how12 ⊢; have HOW12 := Lib.hid how12; have HGR12 := Lib.hid hg12; have HAT12 := Lib.hid hat12; clear how12 hg12 hat12 hlt12))
                  obtain ⟨k1, k2, k3⟩ := two_step (n3 := (insL (c.lines.take k)).length + 1) (c3 := c3) HGB.out (by have := HSZI.out; have := HSZ9.out; omega) HG2.out HG3.out GS.out HOW10.out HGR10.out HAT10.out HLT10.out HGR12.out HAT12.out
                  refine ⟨⟨k + 1, hlt, by first | rfl | (simp; done) | go_num, ?_, ?_, Lib.hid k2, Lib.hid k3⟩, by simp [intOf]; omega⟩
                  · rw [HE.out]; exact Lib.hid k1
                  · rw [HE.out, List.map_append]; exact Lib.hid (by have := HOW12.out; rw [HTVE.out] at this; exact this)
                | cons ch nm =>
                  have hk2 : (place c.lines (ch :: nm)).isSome = true := by
                    have := HKN.out
                    unfold knownB at this
                    rw [if_neg ho] at this
                    simpa using this
                  obtain ⟨i, hi⟩ := Option.isSome_iff_exists.1 hk2
                  have HTVE : Hid (((aheadN c.lines i : Nat) : Int) = toA c ⟨o, d, aa, bb, n1, ch :: nm⟩) := by
                    show _ = _
                    unfold toA
                    rw [if_pos ⟨ho, List.cons_ne_nil _ _⟩]
                    show _ = ((aheadN c.lines ((place c.lines (ch :: nm)).getD 0) : Nat) : Int)
                    rw [hi]; rfl
                  have hil := HNL.out _ _ hi
                  have hilI : (i : Int) < (c.lines.length : Int) := by omega
                  have hiI : (0 : Int) ≤ (i : Int) := by omega
                  have HV : Hid ((placeF c.lines (ch :: nm)).getD 0 = (i : Int)) := by show _ = _; rw [placeF_get]; unfold placeI; rw [hi]; rfl
                  have h9 := HH9.out.at i _ (aheadC_at c.lines i hil)
                  obtain ⟨tw, htw⟩ : ∃ tw : Int, ((aheadN c.lines i : Nat) : Int) = tw := ⟨_, rfl⟩
                  rw [htw] at h9 HTVE
                  have hNm : (ch :: nm).length ≤ 9223372036854775807 := by omega
                  have HNm := Lib.hid hNm
                  clear hk2 hi hNm htw
                  go_wp2_with (first | (at_lookup; refine wpList_mlook _ rfl _ _ rfl rfl HM9.out _ rfl HNm.out HV.out ?_) | (at_builtin; refine wpList_insSnoc _ rfl _ _ rfl w7.heap.size (insL (c.lines.take k)) _ rfl HG2.out ⟨o, d, aa, bb, n1, ch :: nm⟩ W9.heap.size 1 rfl HNI.out (by have := HLK.out; omega) (by have := HSZI.out; have := HSZ9.out; omega) ?_; intro g cg w10 how10 hg10 hat10 hlt10; have HOW10 := Lib.hid how10; have HGR10 := Lib.hid hg10; have HAT10 := Lib.hid hat10; have HLT10 := Lib.hid hlt10; have hb11 : Below w10.heap.size w10 (w10.alloc (.cells #[.int .i64 tw] 3)) := (Below.refl _ _).alloc (Nat.le_refl _) _; have HNK := Lib.hid (OwnAt.new w10 (intCells tw) 3); have h3n := own_apart GS.out; have HN3 := Lib.hid (RwOwn.old (RwOwn.grown HG3.out hg10 h3n) hb11); clear how10 hg10 hat10 hlt10 hb11 h3n) | (at_builtin; refine wpList_numSnoc _ rfl _ _ rfl w7.heap.size ((insL (c.lines.take k)).map (toA c)) _ rfl HN3.out tw w10.heap.size 1 rfl HNK.out (by have := HL3.out; omega) (by have h1 := HGR10.out.size; have h2 := HSZI.out; have h3 := HSZ9.out; simp; omega) ?_; intro g3 c3 w12 how12 hg12 hat12 hlt12; rw [HLM.out] at how12 ⊢; have HOW12 := Lib.hid how12; have HGR12 := Lib.hid hg12; have HAT12 := Lib.hid hat12; clear how12 hg12 hat12 hlt12))
                  obtain ⟨k1, k2, k3⟩ := two_step (n3 := (insL (c.lines.take k)).length + 1) (c3 := c3) HGB.out (by have := HSZI.out; have := HSZ9.out; omega) HG2.out HG3.out GS.out HOW10.out HGR10.out HAT10.out HLT10.out HGR12.out HAT12.out
                  refine ⟨⟨k + 1, hlt, by first | rfl | (simp; done) | go_num, ?_, ?_, Lib.hid k2, Lib.hid k3⟩, by simp [intOf]; omega⟩
                  · rw [HE.out]; exact Lib.hid k1
                  · rw [HE.out, List.map_append]; exact Lib.hid (by have := HOW12.out; rw [HTVE.out] at this; exact this)
          · have he : k = c.lines.length := by omega
            subst he
            have := G2.out; have h3 := G3.out
            rw [List.take_length] at this h3
            have hll := insL_len c.lines
            go_wp2_with fail
            go_ret2
            refine ⟨_, _, rfl, ?_, ?_, HB7.out.trans (GB.out.mono HB7.out.size)⟩
            · rw [HFL.out]; exact RwOwn.base this HB7.out.size
            · rw [HFL.out]; exact RwOwn.base h3 HB7.out.size
  · have HR : Hid (flatA c = ([], [])) := by show _ = _; unfold flatA; rw [if_neg hz]
    obtain ⟨z1, hz1⟩ : ∃ z1, (checkC c).1 = z1 := ⟨_, rfl⟩
    obtain ⟨z2, hz2⟩ : ∃ z2, (checkC c).2 = z2 := ⟨_, rfl⟩
    rw [hz1] at hz
    rw [hz1, hz2] at HCH
    have hz' : (z1 == 0) = false := by simpa using hz
    clear hz1 hz2
    go_enter Tryz.func8, Tryz.ntmps8
    go_wp2_with (go_at_call 15; refine (HCH.out).mono ?_; rintro e w5 ⟨rfl, hb5⟩; have HB5 := Lib.hid hb5; clear hb5)
    go_ret2
    refine ⟨.slice none 0 0, .slice none 0 0, rfl, ?_, ?_, HB.out.trans (HB5.out.mono HB.out.size)⟩
    · rw [HR.out]; exact RwOwn.zero _ _ _ _ _
    · rw [HR.out]; exact RwOwn.zero _ _ _ _ _
theorem flat_lens (c : Cd) : (flatA c).1.length ≤ c.lines.length ∧ (flatA c).2.length = (flatA c).1.length := by
  unfold flatA
  split
  · exact ⟨insL_len _, by rw [List.length_map]⟩
  · exact ⟨Nat.zero_le _, rfl⟩
theorem flat_any (c : Cd) (va vl : Value) (w : World) (hc : CodeAt w c va vl) (hs : ShortC c) :
    Calls Tryz.prog 8 #[.agg #[va, vl]] w fun e w' => ∃ v1 v2, e = .returned (.tuple #[v1, v2]) ∧ InsAt w' (flatA c).1 v1 ∧ NumsAt w' (flatA c).2 v2 ∧ Below w.heap.size w w' := by
  have hl := RwAt.len hc.2
  obtain ⟨h1, h2⟩ := flat_lens c
  refine (flat_own c va vl w hc hs).mono ?_
  rintro e w' ⟨v1, v2, he, g1, g2, hb⟩
  exact ⟨v1, v2, he, RwOwn.nilv g1 (by omega) insCells_len, RwOwn.nilv g2 (by omega) intCells_len, hb⟩
end Go.Proofs.YtlkfmnabbmceeaaGreatDoor
