/-
  Reads, Writes: the registers that an instruction reads; the one that it writes. Condition: its name is no longer than an int tells.
-/
import Derived.Test.YtgdnnaiidmfncaaDoorInstrC
import Derived.Lib.SliceRun
set_option linter.unusedVariables false
set_option linter.unusedSimpArgs false
namespace Go.Proofs.YtgdnnaiidmfncaaDoor
open Go.RowKit
set_option maxHeartbeats 4000000
set_option maxRecDepth 100000

def readsI (x : Ins) : List Int :=
  if rightI x = true then (if x.op = 27 then [1] else if x.op = 28 then [10, 17] else (if x.a = 0 then (if x.b = 0 then [] else [x.b]) else if x.b = 0 then [x.a] else if x.a = x.b then [x.a] else [x.a, x.b])) else []
def writesI (x : Ins) : Int := if rightI x = true then (if x.op = 26 then 1 else if x.op = 28 then 10 else x.d) else 0
/-- A list of numbers in memory. -/
def IntsAt (w : World) (v : Value) (l : List Int) : Prop :=
  ∃ a cap b off, v = .slice a l.length cap ∧ (a = some ⟨b, off, none⟩ ∨ l = []) ∧ ∀ j z, l[j]? = some z → w.cell? ⟨b, off + j, none⟩ = some (.int .i64 z)
theorem IntsAt.old {w w' : World} {v : Value} {l : List Int} (h : IntsAt w v l) (hb : Below w.heap.size w w') : IntsAt w' v l := by
  obtain ⟨a, cap, b, off, h1, h2, h3⟩ := h
  exact ⟨a, cap, b, off, h1, h2, fun j z hz => below_keeps hb (h3 j z hz)⟩
theorem sepz_any (x : Int) (w : World) : Calls Tryd.prog 33 #[.int .i64 x] w fun e w' => e = .returned (.bool (x == 0)) ∧ w = w' := by
  go_enter Tryd.func33, Tryd.ntmps33
  go_wp2
  go_ret
  exact ⟨rfl, rfl⟩
def idx2 (x y : Int) : Int := if x = 0 then 0 else if y = 0 then 1 else -1
theorem indexFunc_any (b : Nat) (x y : Int) (w : World) (h0 : w.cell? ⟨b, 0, none⟩ = some (.int .i64 x)) (h1 : w.cell? ⟨b, 1, none⟩ = some (.int .i64 y)) :
    Calls Tryd.prog 44 #[.slice (some ⟨b, 0, none⟩) 2 2, .func (.func 33) #[] #[]] w fun e w' => e = .returned (.int .i64 (idx2 x y)) ∧ w = w' := by
  have HS := Lib.hid (fun z w' => sepz_any z w')
  go_enter Tryd.func44, Tryd.ntmps44
  go_wp2_with fail
  go_loopw [8] (fun s8 wr => ∃ i : Nat, s8 = .int .i64 i ∧ i ≤ 2 ∧ wr = w ∧ (0 < i → (x == 0) = false) ∧ (1 < i → (y == 0) = false)) (fun s8 _ => 2 - (intOf s8).toNat)
  case atStart => exact ⟨0, rfl, by omega, rfl, fun h => by omega, fun h => by omega⟩
  case round =>
    obtain ⟨i, rfl, hi, rfl, q0, q1⟩ := hrel
    have hc : i = 0 ∨ i = 1 ∨ i = 2 := by omega
    rcases hc with rfl | rfl | rfl
    · clear q0 q1
      by_cases hx : (x == 0) = true
      · have HR : Hid (idx2 x y = 0) := by show idx2 x y = 0; unfold idx2; rw [if_pos (by simpa using hx)]
        go_wp2_with (go_at_call 33; refine (HS.out _ _).mono ?_; rintro e w7 ⟨rfl, rfl⟩)
        go_ret
        exact ⟨by rw [HR.out]; rfl, rfl⟩
      · have hx' : (x == 0) = false := by simpa using hx
        have HX := Lib.hid hx'
        clear hx
        go_wp2_with (go_at_call 33; refine (HS.out _ _).mono ?_; rintro e w7 ⟨rfl, rfl⟩)
        exact ⟨⟨1, by first | rfl | trivial, by omega, by first | rfl | trivial, fun _ => HX.out, fun h => by omega⟩, by simp [intOf]⟩
    · have hx' := q0 (by omega)
      have HX := Lib.hid hx'
      clear q0 q1
      by_cases hy : (y == 0) = true
      · have HR : Hid (idx2 x y = 1) := by show idx2 x y = 1; unfold idx2; rw [if_neg (by simpa using hx'), if_pos (by simpa using hy)]
        clear hx'
        go_wp2_with (go_at_call 33; refine (HS.out _ _).mono ?_; rintro e w7 ⟨rfl, rfl⟩)
        go_ret
        exact ⟨by rw [HR.out]; rfl, rfl⟩
      · have hy' : (y == 0) = false := by simpa using hy
        have HY := Lib.hid hy'
        clear hy hx'
        go_wp2_with (go_at_call 33; refine (HS.out _ _).mono ?_; rintro e w7 ⟨rfl, rfl⟩)
        exact ⟨⟨2, by first | rfl | trivial, by omega, by first | rfl | trivial, fun _ => HX.out, fun _ => HY.out⟩, by simp [intOf]⟩
    · have hx' := q0 (by omega)
      have hy' := q1 (by omega)
      have HR : Hid (idx2 x y = -1) := by show idx2 x y = -1; unfold idx2; rw [if_neg (by simpa using hx'), if_neg (by simpa using hy')]
      clear q0 q1 hx' hy'
      go_wp2_with fail
      go_ret
      exact ⟨by rw [HR.out]; rfl, rfl⟩
def left2 (x y : Int) : List Int := if x = 0 then (if y = 0 then [] else [y]) else if y = 0 then [x] else [x, y]
theorem deleteFunc_any (b : Nat) (x y : Int) (w : World) (h : OwnAt w b [.int .i64 x, .int .i64 y] 3) :
    Calls Tryd.prog 32 #[.slice (some ⟨b, 0, none⟩) 2 2, .func (.func 33) #[] #[]] w fun e w' => ∃ r s : Int, e = .returned (.slice (some ⟨b, 0, none⟩) (left2 x y).length 2) ∧ OwnAt w' b [.int .i64 r, .int .i64 s] 3 ∧ (left2 x y = [] ∨ left2 x y = [r] ∨ left2 x y = [r, s]) ∧ Below b w w' := by
  have c0 := h.at 0 _ rfl
  have c1 := h.at 1 _ rfl
  have f0 := h.fz 0
  have f1 := h.fz 1
  have hlt := h.lt
  have HO := Lib.hid h
  have HS := Lib.hid (fun z w' => sepz_any z w')
  have HIX := Lib.hid (indexFunc_any b x y w c0 c1)
  clear h
  by_cases hx : x = 0
  · have hi : idx2 x y = 0 := by unfold idx2; rw [if_pos hx]
    rw [hi] at HIX
    by_cases hy : y = 0
    · have hl : left2 x y = [] := by unfold left2; rw [if_pos hx, if_pos hy]
      rw [hl]
      subst hx; subst hy
      clear hi hl
      go_enter Tryd.func32, Tryd.ntmps32
      go_wp2_with (go_at_call 44; refine HIX.out.mono ?_; rintro e w7 ⟨rfl, rfl⟩)
      go_loopw [5, 6] (fun s5 s6 wr => s5 = .int .i64 0 ∧ wr = w ∧ (s6 = .int .i64 1 ∨ s6 = .int .i64 2)) (fun _ s6 _ => 2 - (intOf s6).toNat)
      case atStart => exact ⟨rfl, rfl, .inl rfl⟩
      case round =>
        obtain ⟨rfl, rfl, hr⟩ := hrel
        rcases hr with rfl | rfl
        · go_wp2_with (go_at_call 33; refine (HS.out _ _).mono ?_; rintro e w7 ⟨rfl, rfl⟩)
          exact ⟨⟨by first | rfl | trivial, by first | rfl | trivial, .inr (by first | rfl | trivial)⟩, by simp [intOf]⟩
        · have hcl : ∀ ty, (Builtin.clear_ #[32] ty #[.slice (some ⟨b, 0, none⟩) 2 2]).run Tryd.prog wr = .ok (.tuple #[]) (wr.setCells b 0 (List.replicate 2 (.int .i64 0))) :=
            fun ty => Lib.run_clear_slice wr 32 3 ty (.int .i64 0) Tryd.underlying32 Tryd.zeroValue3 rfl rfl b 0 2 2 (by decide) (fun j hj => by
                have hj' : j = 0 ∨ j = 1 := by omega
                rcases hj' with rfl | rfl
                · rw [HO.out.at 0 _ rfl]; rfl
                · rw [HO.out.at 1 _ rfl]; rfl) (fun j hj => HO.out.fz _)
          go_wp2_with fail
          go_ret
          exact ⟨0, 0, rfl, ((HO.out.set 0 (.int .i64 0)).set 1 (.int .i64 0)), .inl (by first | rfl | trivial), (zbelow_set (zbelow_set (Below.refl _ _) (Nat.le_refl _) 0 (.int .i64 0)) (Nat.le_refl _) 1 (.int .i64 0))⟩
    · have hl : left2 x y = [y] := by unfold left2; rw [if_pos hx, if_neg hy]
      have hyn : (y == 0) = false := by simpa using hy
      rw [hl]
      subst hx
      clear hi hl hy
      go_enter Tryd.func32, Tryd.ntmps32
      go_wp2_with (go_at_call 44; refine HIX.out.mono ?_; rintro e w7 ⟨rfl, rfl⟩)
      have HOS := Lib.hid (HO.out.set 0 (.int .i64 y))
      have g0 := HOS.out.at 0 _ rfl
      have HYN := Lib.hid hyn
      go_loopw [5, 6] (fun s5 s6 wr => (s5 = .int .i64 0 ∧ wr = w ∧ s6 = .int .i64 1) ∨ (s5 = .int .i64 1 ∧ wr = w.setCell ⟨b, 0, none⟩ (.int .i64 y) ∧ s6 = .int .i64 2)) (fun _ s6 _ => 2 - (intOf s6).toNat)
      case atStart => exact .inl ⟨rfl, rfl, rfl⟩
      case round =>
        rcases hrel with ⟨rfl, rfl, rfl⟩ | ⟨rfl, hwr, rfl⟩
        · go_wp2_with (go_at_call 33; refine (HS.out _ _).mono ?_; rw [HYN.out]; rintro e w7 ⟨rfl, rfl⟩)
          exact ⟨.inr ⟨by first | rfl | trivial, by first | rfl | trivial, by first | rfl | trivial⟩, by simp [intOf]⟩
        · rw [← hwr] at HOS g0
          have hbw : Below b w wr := by rw [hwr]; exact zbelow_set (Below.refl _ _) (Nat.le_refl _) 0 (.int .i64 y)
          have HBW := Lib.hid hbw
          clear hwr hbw c0 c1 f0 f1 hlt
          have hlt := HOS.out.lt
          have c0 := HOS.out.at 0 _ rfl
          have c1 := HOS.out.at 1 _ rfl
          have f1 := HOS.out.fz 1
          have hcl : ∀ ty, (Builtin.clear_ #[32] ty #[.slice (some ⟨b, 1, none⟩) 1 1]).run Tryd.prog wr = .ok (.tuple #[]) (wr.setCells b 1 (List.replicate 1 (.int .i64 0))) :=
            fun ty => Lib.run_clear_slice wr 32 3 ty (.int .i64 0) Tryd.underlying32 Tryd.zeroValue3 rfl rfl b 1 1 1 (by decide) (fun j hj => by
                have hj' : j = 0 := by omega
                rcases hj' with rfl
                · rw [HOS.out.at 1 _ rfl]; rfl) (fun j hj => HOS.out.fz _)
          go_wp2_with fail
          go_ret
          exact ⟨y, 0, rfl, (HOS.out.set 1 (.int .i64 0)), .inr (.inl rfl), (zbelow_set HBW.out (Nat.le_refl _) 1 (.int .i64 0))⟩
  · by_cases hy : y = 0
    · have hi : idx2 x y = 1 := by unfold idx2; rw [if_neg hx, if_pos hy]
      have hl : left2 x y = [x] := by unfold left2; rw [if_neg hx, if_pos hy]
      rw [hi] at HIX
      rw [hl]
      subst hy
      clear hi hl hx
      go_enter Tryd.func32, Tryd.ntmps32
      go_wp2_with (go_at_call 44; refine HIX.out.mono ?_; rintro e w7 ⟨rfl, rfl⟩)
      go_loopw [5, 6] (fun s5 s6 wr => s5 = .int .i64 1 ∧ wr = w ∧ s6 = .int .i64 2) (fun _ s6 _ => 2 - (intOf s6).toNat)
      case atStart => exact ⟨rfl, rfl, rfl⟩
      case round =>
        obtain ⟨rfl, rfl, rfl⟩ := hrel
        have hcl : ∀ ty, (Builtin.clear_ #[32] ty #[.slice (some ⟨b, 1, none⟩) 1 1]).run Tryd.prog wr = .ok (.tuple #[]) (wr.setCells b 1 (List.replicate 1 (.int .i64 0))) :=
          fun ty => Lib.run_clear_slice wr 32 3 ty (.int .i64 0) Tryd.underlying32 Tryd.zeroValue3 rfl rfl b 1 1 1 (by decide) (fun j hj => by
              have hj' : j = 0 := by omega
              rcases hj' with rfl
              · rw [HO.out.at 1 _ rfl]; rfl) (fun j hj => HO.out.fz _)
        go_wp2_with fail
        go_ret
        exact ⟨x, 0, rfl, (HO.out.set 1 (.int .i64 0)), .inr (.inl rfl), (zbelow_set (Below.refl _ _) (Nat.le_refl _) 1 (.int .i64 0))⟩
    · have hi : idx2 x y = -1 := by unfold idx2; rw [if_neg hx, if_neg hy]
      have hl : left2 x y = [x, y] := by unfold left2; rw [if_neg hx, if_neg hy]
      rw [hi] at HIX
      rw [hl]
      clear hi hl hx hy
      go_enter Tryd.func32, Tryd.ntmps32
      go_wp2_with (go_at_call 44; refine HIX.out.mono ?_; rintro e w7 ⟨rfl, rfl⟩)
      go_ret
      exact ⟨x, y, rfl, HO.out, .inr (.inr rfl), Below.refl _ _⟩
/-- What slices.Compact leaves of two numbers. -/
theorem compact_two (x y : Int) : Lib.compact [x, y] = if x = y then [x] else [x, y] := by
  unfold Lib.compact Lib.compactUpTo
  by_cases h : x = y
  · subst h
    rw [if_pos rfl]
    simp [List.range, List.range.loop, Lib.keeps]
  · rw [if_neg h]
    have h' : ¬ (y = x) := fun e => h e.symm
    simp [List.range, List.range.loop, Lib.keeps, h']
theorem compact_one (x : Int) : Lib.compact [x] = [x] := by
  unfold Lib.compact Lib.compactUpTo
  simp [List.range, List.range.loop, Lib.keeps]
theorem reads_any (x : Ins) (hn : x.name.length ≤ 9223372036854775807) (w : World) :
    Calls Tryd.prog 11 #[insV x] w fun e w' => (∃ v, e = .returned v ∧ IntsAt w' v (readsI x)) ∧ Below w.heap.size w w' := by
  have HO1 := Lib.hid (OwnAt.new w (insCells x) 23)
  have HB1 := Lib.hid ((Below.refl w.heap.size w).alloc (Nat.le_refl _) (.cells (insCells x).toArray 23))
  have HR := Lib.hid (fun w1 => right_any x hn w1)
  unfold insV at HR ⊢
  unfold readsI
  cases hr : rightI x with
  | false =>
    rw [if_neg (by simp)]
    rw [hr] at HR
    clear hr
    go_enter Tryd.func11, Tryd.ntmps11
    go_wp2_with fail
    refine (HR.out _).mono ?_
    rintro e w1 ⟨rfl, hb1⟩
    have HB2 := Lib.hid (HB1.out.trans (hb1.mono HB1.out.size))
    clear hb1
    go_wp2_with fail
    go_ret
    exact ⟨⟨_, rfl, none, 0, 0, 0, rfl, .inr rfl, fun j z hz => by simp at hz⟩, HB2.out⟩
  | true =>
    rw [if_pos rfl]
    rw [hr] at HR
    clear hr
    by_cases h27 : x.op = 27
    · rw [if_pos h27]
      have g27 : (x.op == 27) = true := by simpa using h27
      clear h27
      go_enter Tryd.func11, Tryd.ntmps11
      go_wp2_with fail
      refine (HR.out _).mono ?_
      rintro e w1 ⟨rfl, hb1⟩
      have HB2 := Lib.hid (HB1.out.trans (hb1.mono HB1.out.size))
      have HO2 := Lib.hid (HO1.out.old hb1)
      clear hb1
      have c0 := HO2.out.at 0 _ rfl
      have cl := HO2.out.lt
      have HN := Lib.hid (OwnAt.new w1 [.int .i64 1] 3)
      have HB3 := Lib.hid (HB2.out.alloc HB2.out.size (.cells #[.int .i64 1] 3))
      go_wp2_with fail
      go_ret
      refine ⟨⟨_, rfl, some ⟨w1.heap.size, 0, none⟩, 1, w1.heap.size, 0, rfl, .inl rfl, fun j z hz => ?_⟩, HB3.out⟩
      match j, hz with
      | 0, hz => simp at hz; subst hz; exact HN.out.at 0 _ rfl
      | (j + 1), hz => simp at hz
    · rw [if_neg h27]
      have g27 : (x.op == 27) = false := by simpa using h27
      clear h27
      by_cases h28 : x.op = 28
      · rw [if_pos h28]
        have g28 : (x.op == 28) = true := by simpa using h28
        clear h28
        go_enter Tryd.func11, Tryd.ntmps11
        go_wp2_with fail
        refine (HR.out _).mono ?_
        rintro e w1 ⟨rfl, hb1⟩
        have HB2 := Lib.hid (HB1.out.trans (hb1.mono HB1.out.size))
        have HO2 := Lib.hid (HO1.out.old hb1)
        clear hb1
        have c0 := HO2.out.at 0 _ rfl
        have cl := HO2.out.lt
        have HN := Lib.hid (OwnAt.new w1 [.int .i64 10, .int .i64 17] 3)
        have HB3 := Lib.hid (HB2.out.alloc HB2.out.size (.cells #[.int .i64 10, .int .i64 17] 3))
        go_wp2_with fail
        go_ret
        refine ⟨⟨_, rfl, some ⟨w1.heap.size, 0, none⟩, 2, w1.heap.size, 0, rfl, .inl rfl, fun j z hz => ?_⟩, HB3.out⟩
        match j, hz with
        | 0, hz => simp at hz; subst hz; exact HN.out.at 0 _ rfl
        | 1, hz => simp at hz; subst hz; exact HN.out.at 1 _ rfl
        | (j + 2), hz => simp at hz
      · rw [if_neg h28]
        have g28 : (x.op == 28) = false := by simpa using h28
        clear h28
        have hsame : (if x.a = 0 then (if x.b = 0 then [] else [x.b]) else if x.b = 0 then [x.a] else if x.a = x.b then [x.a] else [x.a, x.b]) = if left2 x.a x.b = [] then [] else Lib.compact (left2 x.a x.b) := by
          have hl2 : left2 x.a x.b = (if x.a = 0 then (if x.b = 0 then [] else [x.b]) else if x.b = 0 then [x.a] else [x.a, x.b]) := rfl
          rw [hl2]
          by_cases ha : x.a = 0
          · by_cases hb : x.b = 0
            · simp [ha, hb]
            · simp [ha, hb, compact_one]
          · by_cases hb : x.b = 0
            · simp [ha, hb, compact_one]
            · simp [ha, hb, compact_two]
        rw [hsame]
        clear hsame
        obtain ⟨L, hL⟩ : ∃ L, (if left2 x.a x.b = [] then [] else Lib.compact (left2 x.a x.b)) = L := ⟨_, rfl⟩
        rw [hL]
        have HL := Lib.hid hL
        clear hL
        go_enter Tryd.func11, Tryd.ntmps11
        go_wp2_with fail
        refine (HR.out _).mono ?_
        rintro e w1 ⟨rfl, hb1⟩
        have HB2 := Lib.hid (HB1.out.trans (hb1.mono HB1.out.size))
        have HO2 := Lib.hid (HO1.out.old hb1)
        clear hb1
        have c0 := HO2.out.at 0 _ rfl
        have c2 := HO2.out.at 2 _ rfl
        have c3 := HO2.out.at 3 _ rfl
        have cl := HO2.out.lt
        have HN := Lib.hid (OwnAt.new w1 [.int .i64 x.a, .int .i64 x.b] 3)
        have HB3 := Lib.hid (HB2.out.alloc HB2.out.size (.cells #[.int .i64 x.a, .int .i64 x.b] 3))
        have HDF := Lib.hid (deleteFunc_any w1.heap.size x.a x.b _ HN.out)
        have hge := HB2.out.size
        generalize x.a = a at *
        generalize x.b = b at *
        go_wp2_with fail
        refine HDF.out.mono ?_
        rintro e w2 ⟨r, s, rfl, ho, hd, hb2⟩
        have HO4 := Lib.hid ho
        have HB4 := Lib.hid (HB3.out.trans (hb2.mono hge))
        clear ho hb2 c0 c2 c3 HO1 HO2 HN HDF HR HB1 HB2 HB3
        rcases hd with hd | hd | hd
        · have hL : L = [] := by rw [← HL.out, if_pos hd]
          rw [hd]
          have HC := Lib.hid (Tryd.slices_Compact_int_empty (some ⟨w1.heap.size, 0, none⟩) 2 w2)
          go_wp2_with fail
          refine HC.out.mono ?_
          rintro e w3 ⟨rfl, rfl⟩
          go_wp2_with fail
          go_ret
          rw [hL]
          exact ⟨⟨_, rfl, some ⟨w1.heap.size, 0, none⟩, 2, 0, 0, rfl, .inr rfl, fun j z hz => by simp at hz⟩, HB4.out⟩
        · have hL : L = [r] := by rw [← HL.out, hd, if_neg (by simp), compact_one]
          rw [hd]
          have HC := Lib.hid (Tryd.slices_Compact_int_cells w1.heap.size 0 1 2 [r, s] w2 (by simp) (by decide) (by decide) (fun j hj => by
            match j, hj with
            | 0, _ => exact HO4.out.at 0 _ rfl
            | 1, _ => exact HO4.out.at 1 _ rfl) (fun j hj => HO4.out.fz _))
          have e1 : Lib.compact (([r, s] : List Int).take 1) = [r] := compact_one r
          rw [e1] at HC
          go_wp2_with fail
          refine HC.out.mono ?_
          rintro e w3 ⟨rfl, q, rfl⟩
          have ho5 : OwnAt (w2.drewN q) w1.heap.size [.int .i64 r, .int .i64 s] 3 := HO4.out.old (below_drewN (Below.refl _ _) q)
          go_wp2_with fail
          go_ret
          rw [hL]
          refine ⟨⟨_, rfl, some ⟨w1.heap.size, 0, none⟩, 2, w1.heap.size, 0, rfl, .inl rfl, fun j z hz => ?_⟩, zbelow_set (below_drewN HB4.out q) hge 0 (.int .i64 r)⟩
          match j, hz with
          | 0, hz => simp at hz; subst hz; exact (ho5.set 0 (.int .i64 r)).at 0 _ rfl
          | (j + 1), hz => simp at hz
        · have hL : L = if r = s then [r] else [r, s] := by rw [← HL.out, hd, if_neg (by simp), compact_two]
          rw [hd]
          have HC := Lib.hid (Tryd.slices_Compact_int_cells w1.heap.size 0 2 2 [r, s] w2 (by simp) (by decide) (by decide) (fun j hj => by
            match j, hj with
            | 0, _ => exact HO4.out.at 0 _ rfl
            | 1, _ => exact HO4.out.at 1 _ rfl) (fun j hj => HO4.out.fz _))
          have e1 : Lib.compact (([r, s] : List Int).take 2) = if r = s then [r] else [r, s] := compact_two r s
          rw [e1] at HC
          go_wp2_with fail
          refine HC.out.mono ?_
          rintro e w3 ⟨rfl, q, rfl⟩
          have ho5 : OwnAt (w2.drewN q) w1.heap.size [.int .i64 r, .int .i64 s] 3 := HO4.out.old (below_drewN (Below.refl _ _) q)
          have HB5 := Lib.hid (below_drewN HB4.out q)
          have HO5 := Lib.hid ho5
          clear ho5 HO4
          by_cases hrs : r = s
          · subst hrs
            rw [if_pos rfl] at hL ⊢
            go_wp2_with fail
            go_ret
            rw [hL]
            refine ⟨⟨_, rfl, some ⟨w1.heap.size, 0, none⟩, 2, w1.heap.size, 0, rfl, .inl rfl, fun j z hz => ?_⟩, zbelow_set (zbelow_set HB5.out hge 0 (.int .i64 r)) hge 1 (.int .i64 0)⟩
            match j, hz with
            | 0, hz => simp at hz; subst hz; exact ((HO5.out.set 0 (.int .i64 r)).set 1 (.int .i64 0)).at 0 _ rfl
            | (j + 1), hz => simp at hz
          · rw [if_neg hrs] at hL ⊢
            go_wp2_with fail
            go_ret
            rw [hL]
            refine ⟨⟨_, rfl, some ⟨w1.heap.size, 0, none⟩, 2, w1.heap.size, 0, rfl, .inl rfl, fun j z hz => ?_⟩, zbelow_set (zbelow_set HB5.out hge 0 (.int .i64 r)) hge 1 (.int .i64 s)⟩
            match j, hz with
            | 0, hz => simp at hz; subst hz; exact ((HO5.out.set 0 (.int .i64 r)).set 1 (.int .i64 s)).at 0 _ rfl
            | 1, hz => simp at hz; subst hz; exact ((HO5.out.set 0 (.int .i64 r)).set 1 (.int .i64 s)).at 1 _ rfl
            | (j + 2), hz => simp at hz
theorem writes_any (x : Ins) (hn : x.name.length ≤ 9223372036854775807) (w : World) :
    Calls Tryd.prog 13 #[insV x] w fun e w' => e = .returned (.int .i64 (writesI x)) ∧ Below w.heap.size w w' := by
  have HO1 := Lib.hid (OwnAt.new w (insCells x) 23)
  have HB1 := Lib.hid ((Below.refl w.heap.size w).alloc (Nat.le_refl _) (.cells (insCells x).toArray 23))
  have HR := Lib.hid (fun w1 => right_any x hn w1)
  unfold insV at HR ⊢
  unfold writesI
  obtain ⟨rb, hr⟩ : ∃ rb, rightI x = rb := ⟨_, rfl⟩
  rw [hr] at HR ⊢
  have go : ∀ (v : Int), ((rb = false ∧ v = 0) ∨ (rb = true ∧ (x.op == 26) = true ∧ v = 1) ∨ (rb = true ∧ (x.op == 26) = false ∧ (x.op == 28) = true ∧ v = 10) ∨ (rb = true ∧ (x.op == 26) = false ∧ (x.op == 28) = false ∧ v = x.d)) →
      Calls Tryd.prog 13 #[.agg #[.int .i64 x.op, .int .i64 x.d, .int .i64 x.a, .int .i64 x.b, .int .i64 x.n, .string (strOf x.name)]] w fun e w' => e = .returned (.int .i64 v) ∧ Below w.heap.size w w' := by
    intro v hv
    clear hr
    rcases hv with ⟨rfl, rfl⟩ | ⟨rfl, g1, rfl⟩ | ⟨rfl, g1, g2, rfl⟩ | ⟨rfl, g1, g2, rfl⟩
    all_goals
      go_enter Tryd.func13, Tryd.ntmps13
      go_wp2_with fail
      refine (HR.out _).mono ?_
      rintro e w1 ⟨rfl, hb1⟩
      have HB2 := Lib.hid (HB1.out.trans (hb1.mono HB1.out.size))
      have HO2 := Lib.hid (HO1.out.old hb1)
      clear hb1
      have c0 := HO2.out.at 0 _ rfl
      have c1 := HO2.out.at 1 _ rfl
      go_wp2_with fail
      go_ret
      exact ⟨rfl, HB2.out⟩
  apply go
  clear go
  cases rb with
  | false => exact .inl ⟨rfl, rfl⟩
  | true =>
    rw [if_pos rfl]
    by_cases h1 : x.op = 26
    · rw [if_pos h1]; exact .inr (.inl ⟨rfl, by simpa using h1, rfl⟩)
    · rw [if_neg h1]
      by_cases h2 : x.op = 28
      · rw [if_pos h2]; exact .inr (.inr (.inl ⟨rfl, by simpa using h1, by simpa using h2, rfl⟩))
      · rw [if_neg h2]; exact .inr (.inr (.inr ⟨rfl, by simpa using h1, by simpa using h2, rfl⟩))
end Go.Proofs.YtgdnnaiidmfncaaDoor
