/-
  stmt: a statement. Conditions: the parser lies in memory; the contract of block.
  stmts: statements up to a brace; and so stmt, block at every list of tokens. Condition: the parser lies in memory.
-/
import Derived.Test.YtcfpfnoldgnloaaGreatDoorPn10
import Derived.Deep.AppendLies
set_option linter.unusedVariables false
set_option linter.unusedSimpArgs false
namespace Go.Proofs.YtcfpfnoldgnloaaGreatDoor
open Go.RowKit
set_option maxRecDepth 100000
set_option maxHeartbeats 4000000

theorem st_fin {w V : World} {p tb : Nat} {l : List Tk} {k : Int} {nm : Bs} {xs : List Ex} {ts es : List St} {a t e : Value} (HF : SFr p w V) (HP : Ps V p tb l) (HA : ExsAt (w.heap.size + 1 ≤ ·) V xs a) (HT : StsAt (w.heap.size + 1 ≤ ·) V ts t) (HE : StsAt (w.heap.size + 1 ≤ ·) V es e) :
    PEnd (StH w.heap.size) w p tb (.ok (.mk k nm xs ts es, l)) (.returned (.agg #[.int .i64 k, .string (strOf nm), a, t, e])) V :=
  ⟨HF, _, rfl, HP, _, _, _, rfl, HA.up (Nat.le_succ _), HT.up (Nat.le_succ _), HE.up (Nat.le_succ _)⟩
theorem stmt_if {f : Nat} {t : Tk} {r : List Tk} (y : isP [105, 102] t = true) : stmtP (f + 1) (t :: r) = match insideP f r with
    | .error e => .error e
    | .ok (x, r) => match blockP f r with
      | .error e => .error e
      | .ok (a, r) => match takeP [101, 108, 115, 101] r with
        | none => .ok (.mk 3 [] [x] a [], r)
        | some r => match blockP f r with
          | .error e => .error e
          | .ok (b, r) => .ok (.mk 3 [] [x] a b, r) := by
  rw [stmtP, take_yes y]
  dsimp only
  cases insideP f r with
  | error e => rfl
  | ok q =>
    obtain ⟨x, q⟩ := q
    dsimp only
    unfold blockP
    cases ywantP [123] q with
    | error e => rfl
    | ok q =>
      dsimp only
      cases stmtsP f [] q with
      | error e => rfl
      | ok q =>
        obtain ⟨a, q⟩ := q
        dsimp only
        cases takeP [101, 108, 115, 101] q with
        | none => rfl
        | some q =>
          dsimp only
          cases ywantP [123] q with
          | error e => rfl
          | ok q =>
            dsimp only
            cases stmtsP f [] q with
            | error e => rfl
            | ok q => rfl
theorem stmt_while {f : Nat} {t : Tk} {r : List Tk} (n : isP [105, 102] t = false) (y : isP [119, 104, 105, 108, 101] t = true) : stmtP (f + 1) (t :: r) = match insideP f r with
    | .error e => .error e
    | .ok (x, r) => match blockP f r with
      | .error e => .error e
      | .ok (a, r) => .ok (.mk 4 [] [x] a [], r) := by
  rw [stmtP, take_no n]
  dsimp only
  rw [take_yes y]
  dsimp only
  cases insideP f r with
  | error e => rfl
  | ok q =>
    obtain ⟨x, q⟩ := q
    dsimp only
    unfold blockP
    cases ywantP [123] q with
    | error e => rfl
    | ok q =>
      dsimp only
      cases stmtsP f [] q with
      | error e => rfl
      | ok q => rfl
theorem stmt_simple {f : Nat} {t : Tk} {r : List Tk} (n : isP [105, 102] t = false) (n2 : isP [119, 104, 105, 108, 101] t = false) : stmtP (f + 1) (t :: r) = match simpleP f (t :: r) with
    | .error e => .error e
    | .ok (x, r) => match ywantP [59] r with
      | .error e => .error e
      | .ok r => .ok (x, r) := by
  rw [stmtP, take_no n]
  dsimp only
  rw [take_no n2]
  rfl
theorem st_finx {w V : World} {p tb : Nat} {l : List Tk} {x : St} {a t e : Value} (HF : SFr p w V) (HP : Ps V p tb l) (HA : ExsAt (w.heap.size + 1 ≤ ·) V x.args a) (HT : StsAt (w.heap.size + 1 ≤ ·) V x.thn t) (HE : StsAt (w.heap.size + 1 ≤ ·) V x.els e) :
    PEnd (StH w.heap.size) w p tb (.ok (x, l)) (.returned (.agg #[.int .i64 x.kind, .string (strOf x.name), a, t, e])) V :=
  ⟨HF, _, rfl, HP, _, _, _, rfl, HA.up (Nat.le_succ _), HT.up (Nat.le_succ _), HE.up (Nat.le_succ _)⟩
theorem inside_less {f : Nat} {l r : List Tk} {x : Ex} (h : insideP f l = .ok (x, r)) : r.length < l.length := by
  unfold insideP at h
  cases h1 : ywantP [40] l with
  | error e => rw [h1] at h; cases h
  | ok q =>
    rw [h1] at h
    dsimp only at h
    cases h2 : climbP f 1 q with
    | error e => rw [h2] at h; cases h
    | ok z =>
      obtain ⟨y, z⟩ := z
      rw [h2] at h
      dsimp only at h
      cases h3 : ywantP [41] z with
      | error e => rw [h3] at h; cases h
      | ok u =>
        rw [h3] at h
        injection h with h; injection h with _ h; subst h
        have := want_less h1; have := (parse_less f).1 _ _ _ _ h2; have := want_less h3
        omega
theorem stmt_if_w (f : Nat) (hB : BlockC f) (hBL : ∀ l x r, blockP f l = .ok (x, r) → r.length < l.length) (t : Tk) (r : List Tk) (w : World) (p tb : Nat) (hl : 4 * (t :: r).length ≤ f) (h : Ps w p tb (t :: r)) (y : isP [105, 102] t = true) :
    Calls Tryz.prog 165 #[.pointer (some ⟨p, 0, none⟩)] w (PEnd (StH w.heap.size) w p tb (stmtP (f + 1) (t :: r))) := by
  have HPW := Lib.hid h.lt
  have HNE : Hid (w.heap.size ≠ p) := by show _ ≠ _; have := h.lt; omega
  have hb0 : Below w.heap.size w (w.alloc (.cells #[.int .i64 0, .string ⟨#[]⟩, .slice none 0 0, .slice none 0 0, .slice none 0 0] 60)) := (Below.refl _ _).alloc (Nat.le_refl _) _
  have HF0 : Hid (SFr p w (w.alloc (.cells #[.int .i64 0, .string ⟨#[]⟩, .slice none 0 0, .slice none 0 0, .slice none 0 0] 60))) := SFr.of_below hb0
  have HR0 := Lib.hid (OwnAt.new w [.int .i64 0, .string ⟨#[]⟩, .slice none 0 0, .slice none 0 0, .slice none 0 0] 60)
  have HP0 := Lib.hid (h.old hb0)
  clear hb0
  obtain ⟨R, hR⟩ : ∃ R, stmtP (f + 1) (t :: r) = R := ⟨_, rfl⟩
  rw [hR]
  have HRR := Lib.hid hR
  clear hR
  have HY := Lib.hid y
  have HV : Hid (∀ w1, Ps w1 p tb (t :: r) → _) := fun w1 h1 => psTake_yes p tb t r [105, 102] w1 h1 y
  rw [List.length_cons] at hl
  have hI := inside_of f
  have HC : Hid (∀ w1, Ps w1 p tb r → _) := fun w1 h1 => hI r w1 p tb (by omega) h1
  have HL := Lib.hid hl
  have HB := Lib.hid hB
  have HBL := Lib.hid hBL
  clear hl hI y hB hBL
  clear h
  go_enter Tryz.func165, Tryz.ntmps165
  go_wp2_with fail
  refine (HV.out _ HP0.out).mono ?_
  rintro e w1 ⟨rfl, hf, hp⟩
  have HF1 := Lib.hid (HF0.out.trans hf)
  have HP1 := Lib.hid hp
  have HR1 := Lib.hid (HR0.out.sfr hf HNE.out)
  clear hf hp
  go_wp2_with fail
  refine (HC.out _ HP1.out).mono ?_
  intro e w2 he
  cases hA : insideP f r with
  | error n =>
    rw [hA] at he
    obtain ⟨hf, rfl⟩ := he
    have HF := Lib.hid (HF1.out.trans hf)
    have e1 : stmtP (f + 1) (t :: r) = .error n := by rw [stmt_if HY.out, hA]
    have e2 := HRR.out.symm.trans e1
    subst e2
    clear e1 hf
    unfold lineV
    go_wp2_with fail
    exact ⟨rfl, HF.out, rfl⟩
  | ok q =>
    obtain ⟨x, r1⟩ := q
    rw [hA] at he
    obtain ⟨hf, v, rfl, hp, hv⟩ := he
    have hv : ExsAt (w1.heap.size ≤ ·) w2 [x] v := hv
    obtain ⟨a1, a2, rfl⟩ := hv.shape
    have HX2 := Lib.hid (hv.up (show w.heap.size + 1 ≤ w1.heap.size from HR1.out.lt))
    clear hv
    have HF2 := Lib.hid (HF1.out.trans hf)
    have HP2 := Lib.hid hp
    have HR2 := Lib.hid (HR1.out.sfr hf HNE.out)
    clear hf hp
    have HA2 := Lib.hid hA
    clear hA
    obtain ⟨⟨x0, x1, x2, x3, x4⟩, xf0, xf1, xf2, xf3, xf4⟩ := cells5 HR2.out
    have xlt := HR2.out.lt
    go_upto_region 3 with (fail)
    obtain ⟨V, hV⟩ : ∃ V, ((w2.setCell ⟨w.heap.size, 0, none⟩ (.int .i64 3)).setCell ⟨w.heap.size, 2, none⟩ (.slice a1 1 a2)) = V := ⟨_, rfl⟩
    rw [hV]
    have HR3 := Lib.hid (hV ▸ ((HR2.out).set 0 (.int .i64 3)).set 2 (.slice a1 1 a2))
    have HF3 := Lib.hid (hV ▸ ((HF2.out).setNew (Nat.le_refl _) 0 (.int .i64 3)).setNew (Nat.le_refl _) 2 (.slice a1 1 a2))
    have HP3 := Lib.hid (hV ▸ ((HP2.out).other HPW.out 0 (.int .i64 3)).other HPW.out 2 (.slice a1 1 a2))
    have HX3 := Lib.hid (hV ▸ ((HX2.out).keep (keeps_set _ (by show ¬ w.heap.size + 1 ≤ w.heap.size; omega) 0 (.int .i64 3))).keep (keeps_set _ (by show ¬ w.heap.size + 1 ≤ w.heap.size; omega) 2 (.slice a1 1 a2)))
    clear hV
    obtain ⟨w3, hWW⟩ : ∃ w3, w3 = V := ⟨_, rfl⟩
    subst hWW
    clear x0 x1 x2 x3 x4 xf0 xf1 xf2 xf3 xf4 xlt
    have hl1 : 4 * r1.length ≤ f := by have h1 := inside_less HA2.out; have h2 := HL.out; omega
    obtain ⟨⟨y0, y1, y2, y3, y4⟩, yf0, yf1, yf2, yf3, yf4⟩ := cells5 HR3.out
    have ylt := HR3.out.lt
    go_wp2_with fail
    refine (HB.out r1 _ p tb hl1 HP3.out).mono ?_
    intro e w4 he
    cases hA : blockP f r1 with
    | error n =>
      rw [hA] at he
      obtain ⟨hf, rfl⟩ := he
      have HF := Lib.hid (HF3.out.trans hf)
      have e1 : stmtP (f + 1) (t :: r) = .error n := by rw [stmt_if HY.out, HA2.out]; dsimp only; rw [hA]
      have e2 := HRR.out.symm.trans e1
      subst e2
      clear e1 hf
      unfold lineV
      go_wp2_with fail
      exact ⟨rfl, HF.out, rfl⟩
    | ok q =>
      obtain ⟨ta, r2⟩ := q
      rw [hA] at he
      obtain ⟨hf, v, rfl, hp, hv⟩ := he
      have hv : StsAt (w3.heap.size ≤ ·) w4 ta v := hv
      obtain ⟨b1, b2, rfl⟩ := hv.shape
      have HT4 := Lib.hid (hv.up (show w.heap.size + 1 ≤ w3.heap.size from HR3.out.lt))
      clear hv hl1 y0 y1 y2 y3 y4 yf0 yf1 yf2 yf3 yf4 ylt
      have HF4 := Lib.hid (HF3.out.trans hf)
      have HP4 := Lib.hid hp
      have HR4 := Lib.hid (HR3.out.sfr hf HNE.out)
      have HX4 := Lib.hid (HX3.out.keep (hf.fresh (by have := HPW.out; omega)))
      clear hf hp
      have HA4 := Lib.hid hA
      clear hA
      obtain ⟨⟨z0, z1, z2, z3, z4⟩, zf0, zf1, zf2, zf3, zf4⟩ := cells5 HR4.out
      have zlt := HR4.out.lt
      go_upto_region 4 with (fail)
      obtain ⟨V, hV⟩ : ∃ V, (w4.setCell ⟨w.heap.size, 3, none⟩ (.slice b1 ta.length b2)) = V := ⟨_, rfl⟩
      rw [hV]
      have HR5 := Lib.hid (hV ▸ (HR4.out).set 3 (.slice b1 ta.length b2))
      have HF5 := Lib.hid (hV ▸ (HF4.out).setNew (Nat.le_refl _) 3 (.slice b1 ta.length b2))
      have HP5 := Lib.hid (hV ▸ (HP4.out).other HPW.out 3 (.slice b1 ta.length b2))
      have HX5 := Lib.hid (hV ▸ (HX4.out).keep (keeps_set _ (by show ¬ w.heap.size + 1 ≤ w.heap.size; omega) 3 (.slice b1 ta.length b2)))
      have HT5 := Lib.hid (hV ▸ (HT4.out).keep (keeps_set _ (by show ¬ w.heap.size + 1 ≤ w.heap.size; omega) 3 (.slice b1 ta.length b2)))
      clear hV
      obtain ⟨w5, hWW⟩ : ∃ w5, w5 = V := ⟨_, rfl⟩
      subst hWW
      clear z0 z1 z2 z3 z4 zf0 zf1 zf2 zf3 zf4 zlt
      obtain ⟨u, r2, rfl⟩ := HP5.out.ends.ne
      cases he : isP [101, 108, 115, 101] u with
      | false =>
        have HTE := Lib.hid (psTake_no p tb u r2 [101, 108, 115, 101] _ HP5.out he)
        have HNE2 := Lib.hid he
        clear he
        go_wp2_with fail
        refine (HTE.out).mono ?_
        rintro e w6 ⟨rfl, hb⟩
        have HF6 := Lib.hid (HF5.out.trans (SFr.of_below hb))
        have HP6 := Lib.hid (HP5.out.old hb)
        have HR6 := Lib.hid (HR5.out.old hb)
        have HX6 := Lib.hid (HX5.out.old hb)
        have HT6 := Lib.hid (HT5.out.old hb)
        clear hb
        go_wp2_with fail
        have e1 : stmtP (f + 1) (t :: r) = .ok (.mk 3 [] [x] ta [], u :: r2) := by rw [stmt_if HY.out, HA2.out]; dsimp only; rw [HA4.out]; dsimp only; rw [take_no HNE2.out]
        have e2 := HRR.out.symm.trans e1
        subst e2
        obtain ⟨⟨d0, d1, d2, d3, d4⟩, _⟩ := cells5 HR6.out
        exact bodyPost_ret (v := .agg #[.int .i64 3, .string ⟨#[]⟩, .slice a1 1 a2, .slice b1 ta.length b2, .slice none 0 0]) (by simp [results, Tryz.results165, go_sem, d0, d1, d2, d3, d4]) rfl (st_fin HF6.out HP6.out HX6.out HT6.out StsAt.zero)
      | true =>
        have HTE := Lib.hid (psTake_yes p tb u r2 [101, 108, 115, 101] _ HP5.out he)
        have HYE := Lib.hid he
        have hl2 : 4 * r2.length ≤ f := by
          have h1 := inside_less HA2.out
          have h3 := HBL.out _ _ _ HA4.out
          rw [List.length_cons] at h3
          have h2 := HL.out
          omega
        clear he
        go_wp2_with fail
        refine (HTE.out).mono ?_
        rintro e w6 ⟨rfl, hf, hp⟩
        have HF6 := Lib.hid (HF5.out.trans hf)
        have HP6 := Lib.hid hp
        have HR6 := Lib.hid (HR5.out.sfr hf HNE.out)
        have HX6 := Lib.hid (HX5.out.keep (hf.fresh (by have := HPW.out; omega)))
        have HT6 := Lib.hid (HT5.out.keep (hf.fresh (by have := HPW.out; omega)))
        clear hf hp
        go_wp2_with fail
        refine (HB.out r2 _ p tb hl2 HP6.out).mono ?_
        intro e w7 he
        cases hA : blockP f r2 with
        | error n =>
          rw [hA] at he
          obtain ⟨hf, rfl⟩ := he
          have HF := Lib.hid (HF6.out.trans hf)
          have e1 : stmtP (f + 1) (t :: r) = .error n := by rw [stmt_if HY.out, HA2.out]; dsimp only; rw [HA4.out]; dsimp only; rw [take_yes HYE.out]; dsimp only; rw [hA]
          have e2 := HRR.out.symm.trans e1
          subst e2
          clear e1 hf
          unfold lineV
          go_wp2_with fail
          exact ⟨rfl, HF.out, rfl⟩
        | ok q =>
          obtain ⟨eb, r3⟩ := q
          rw [hA] at he
          obtain ⟨hf, v, rfl, hp, hv⟩ := he
          have hv : StsAt (w6.heap.size ≤ ·) w7 eb v := hv
          obtain ⟨g1, g2, rfl⟩ := hv.shape
          have HE7 := Lib.hid (hv.up (show w.heap.size + 1 ≤ w6.heap.size from HR6.out.lt))
          clear hv hl2
          have HF7 := Lib.hid (HF6.out.trans hf)
          have HP7 := Lib.hid hp
          have HR7 := Lib.hid (HR6.out.sfr hf HNE.out)
          have HX7 := Lib.hid (HX6.out.keep (hf.fresh (by have := HPW.out; omega)))
          have HT7 := Lib.hid (HT6.out.keep (hf.fresh (by have := HPW.out; omega)))
          clear hf hp
          have HA7 := Lib.hid hA
          clear hA
          obtain ⟨⟨q0, q1, q2, q3, q4⟩, qf0, qf1, qf2, qf3, qf4⟩ := cells5 HR7.out
          have qlt := HR7.out.lt
          go_wp2_with fail
          have HRF := Lib.hid (HR7.out.set 4 (.slice g1 eb.length g2))
          have HFF := Lib.hid (HF7.out.setNew (Nat.le_refl _) 4 (.slice g1 eb.length g2))
          have HPF := Lib.hid (HP7.out.other HPW.out 4 (.slice g1 eb.length g2))
          have HXF := Lib.hid (HX7.out.keep (keeps_set _ (by show ¬ w.heap.size + 1 ≤ w.heap.size; omega) 4 (.slice g1 eb.length g2)))
          have HTF := Lib.hid (HT7.out.keep (keeps_set _ (by show ¬ w.heap.size + 1 ≤ w.heap.size; omega) 4 (.slice g1 eb.length g2)))
          have HEF := Lib.hid (HE7.out.keep (keeps_set _ (by show ¬ w.heap.size + 1 ≤ w.heap.size; omega) 4 (.slice g1 eb.length g2)))
          have e1 : stmtP (f + 1) (t :: r) = .ok (.mk 3 [] [x] ta eb, r3) := by rw [stmt_if HY.out, HA2.out]; dsimp only; rw [HA4.out]; dsimp only; rw [take_yes HYE.out]; dsimp only; rw [HA7.out]
          have e2 := HRR.out.symm.trans e1
          subst e2
          obtain ⟨⟨d0, d1, d2, d3, d4⟩, _⟩ := cells5 HRF.out
          exact bodyPost_ret (v := .agg #[.int .i64 3, .string ⟨#[]⟩, .slice a1 1 a2, .slice b1 ta.length b2, .slice g1 eb.length g2]) (by simp [results, Tryz.results165, go_sem, d0, d1, d2, d3, d4]) rfl (st_fin HFF.out HPF.out HXF.out HTF.out HEF.out)
theorem stmt_while_w (f : Nat) (hB : BlockC f) (hBL : ∀ l x r, blockP f l = .ok (x, r) → r.length < l.length) (t : Tk) (r : List Tk) (w : World) (p tb : Nat) (hl : 4 * (t :: r).length ≤ f) (h : Ps w p tb (t :: r)) (n : isP [105, 102] t = false) (y : isP [119, 104, 105, 108, 101] t = true) :
    Calls Tryz.prog 165 #[.pointer (some ⟨p, 0, none⟩)] w (PEnd (StH w.heap.size) w p tb (stmtP (f + 1) (t :: r))) := by
  have HPW := Lib.hid h.lt
  have HNE : Hid (w.heap.size ≠ p) := by show _ ≠ _; have := h.lt; omega
  have hb0 : Below w.heap.size w (w.alloc (.cells #[.int .i64 0, .string ⟨#[]⟩, .slice none 0 0, .slice none 0 0, .slice none 0 0] 60)) := (Below.refl _ _).alloc (Nat.le_refl _) _
  have HF0 : Hid (SFr p w (w.alloc (.cells #[.int .i64 0, .string ⟨#[]⟩, .slice none 0 0, .slice none 0 0, .slice none 0 0] 60))) := SFr.of_below hb0
  have HR0 := Lib.hid (OwnAt.new w [.int .i64 0, .string ⟨#[]⟩, .slice none 0 0, .slice none 0 0, .slice none 0 0] 60)
  have HP0 := Lib.hid (h.old hb0)
  clear hb0
  obtain ⟨R, hR⟩ : ∃ R, stmtP (f + 1) (t :: r) = R := ⟨_, rfl⟩
  rw [hR]
  have HRR := Lib.hid hR
  clear hR
  have HY := Lib.hid y
  have HV : Hid (∀ w1, Ps w1 p tb (t :: r) → _) := fun w1 h1 => psTake_yes p tb t r [119, 104, 105, 108, 101] w1 h1 y
  rw [List.length_cons] at hl
  have hI := inside_of f
  have HC : Hid (∀ w1, Ps w1 p tb r → _) := fun w1 h1 => hI r w1 p tb (by omega) h1
  have HL := Lib.hid hl
  have HB := Lib.hid hB
  have HBL := Lib.hid hBL
  have HN1 := Lib.hid n
  have HT0 : Hid (∀ w1, Ps w1 p tb (t :: r) → _) := fun w1 h1 => psTake_no p tb t r [105, 102] w1 h1 n
  clear hl hI y hB hBL n
  clear h
  go_enter Tryz.func165, Tryz.ntmps165
  go_wp2_with fail
  refine (HT0.out _ HP0.out).mono ?_
  rintro e w1 ⟨rfl, hb⟩
  have HF1 := Lib.hid (HF0.out.trans (SFr.of_below hb))
  have HP1 := Lib.hid (HP0.out.old hb)
  have HR1 := Lib.hid (HR0.out.old hb)
  clear hb
  go_wp2_with fail
  refine (HV.out _ HP1.out).mono ?_
  rintro e w2 ⟨rfl, hf, hp⟩
  have HF2 := Lib.hid (HF1.out.trans hf)
  have HP2 := Lib.hid hp
  have HR2 := Lib.hid (HR1.out.sfr hf HNE.out)
  clear hf hp
  go_wp2_with fail
  refine (HC.out _ HP2.out).mono ?_
  intro e w3 he
  cases hA : insideP f r with
  | error n =>
    rw [hA] at he
    obtain ⟨hf, rfl⟩ := he
    have HF := Lib.hid (HF2.out.trans hf)
    have e1 : stmtP (f + 1) (t :: r) = .error n := by rw [stmt_while HN1.out HY.out, hA]
    have e2 := HRR.out.symm.trans e1
    subst e2
    clear e1 hf
    unfold lineV
    go_wp2_with fail
    exact ⟨rfl, HF.out, rfl⟩
  | ok q =>
    obtain ⟨x, r1⟩ := q
    rw [hA] at he
    obtain ⟨hf, v, rfl, hp, hv⟩ := he
    have hv : ExsAt (w2.heap.size ≤ ·) w3 [x] v := hv
    obtain ⟨a1, a2, rfl⟩ := hv.shape
    have HX3 := Lib.hid (hv.up (show w.heap.size + 1 ≤ w2.heap.size from HR2.out.lt))
    clear hv
    have HF3 := Lib.hid (HF2.out.trans hf)
    have HP3 := Lib.hid hp
    have HR3 := Lib.hid (HR2.out.sfr hf HNE.out)
    clear hf hp
    have HA3 := Lib.hid hA
    clear hA
    obtain ⟨⟨x0, x1, x2, x3, x4⟩, xf0, xf1, xf2, xf3, xf4⟩ := cells5 HR3.out
    have xlt := HR3.out.lt
    go_upto_region 8 with (fail)
    obtain ⟨V, hV⟩ : ∃ V, ((w3.setCell ⟨w.heap.size, 0, none⟩ (.int .i64 4)).setCell ⟨w.heap.size, 2, none⟩ (.slice a1 1 a2)) = V := ⟨_, rfl⟩
    rw [hV]
    have HR4 := Lib.hid (hV ▸ ((HR3.out).set 0 (.int .i64 4)).set 2 (.slice a1 1 a2))
    have HF4 := Lib.hid (hV ▸ ((HF3.out).setNew (Nat.le_refl _) 0 (.int .i64 4)).setNew (Nat.le_refl _) 2 (.slice a1 1 a2))
    have HP4 := Lib.hid (hV ▸ ((HP3.out).other HPW.out 0 (.int .i64 4)).other HPW.out 2 (.slice a1 1 a2))
    have HX4 := Lib.hid (hV ▸ ((HX3.out).keep (keeps_set _ (by show ¬ w.heap.size + 1 ≤ w.heap.size; omega) 0 (.int .i64 4))).keep (keeps_set _ (by show ¬ w.heap.size + 1 ≤ w.heap.size; omega) 2 (.slice a1 1 a2)))
    clear hV
    obtain ⟨w4, hWW⟩ : ∃ w4, w4 = V := ⟨_, rfl⟩
    subst hWW
    clear x0 x1 x2 x3 x4 xf0 xf1 xf2 xf3 xf4 xlt
    have hl1 : 4 * r1.length ≤ f := by have h1 := inside_less HA3.out; have h2 := HL.out; omega
    obtain ⟨⟨y0, y1, y2, y3, y4⟩, yf0, yf1, yf2, yf3, yf4⟩ := cells5 HR4.out
    have ylt := HR4.out.lt
    go_wp2_with fail
    refine (HB.out r1 _ p tb hl1 HP4.out).mono ?_
    intro e w5 he
    cases hA : blockP f r1 with
    | error n =>
      rw [hA] at he
      obtain ⟨hf, rfl⟩ := he
      have HF := Lib.hid (HF4.out.trans hf)
      have e1 : stmtP (f + 1) (t :: r) = .error n := by rw [stmt_while HN1.out HY.out, HA3.out]; dsimp only; rw [hA]
      have e2 := HRR.out.symm.trans e1
      subst e2
      clear e1 hf
      unfold lineV
      go_wp2_with fail
      exact ⟨rfl, HF.out, rfl⟩
    | ok q =>
      obtain ⟨ta, r2⟩ := q
      rw [hA] at he
      obtain ⟨hf, v, rfl, hp, hv⟩ := he
      have hv : StsAt (w4.heap.size ≤ ·) w5 ta v := hv
      obtain ⟨b1, b2, rfl⟩ := hv.shape
      have HT5 := Lib.hid (hv.up (show w.heap.size + 1 ≤ w4.heap.size from HR4.out.lt))
      clear hv hl1 y0 y1 y2 y3 y4 yf0 yf1 yf2 yf3 yf4 ylt
      have HF5 := Lib.hid (HF4.out.trans hf)
      have HP5 := Lib.hid hp
      have HR5 := Lib.hid (HR4.out.sfr hf HNE.out)
      have HX5 := Lib.hid (HX4.out.keep (hf.fresh (by have := HPW.out; omega)))
      clear hf hp
      have HA5 := Lib.hid hA
      clear hA
      obtain ⟨⟨z0, z1, z2, z3, z4⟩, zf0, zf1, zf2, zf3, zf4⟩ := cells5 HR5.out
      have zlt := HR5.out.lt
      go_wp2_with fail
      have HRF := Lib.hid (HR5.out.set 3 (.slice b1 ta.length b2))
      have HFF := Lib.hid (HF5.out.setNew (Nat.le_refl _) 3 (.slice b1 ta.length b2))
      have HPF := Lib.hid (HP5.out.other HPW.out 3 (.slice b1 ta.length b2))
      have HXF := Lib.hid (HX5.out.keep (keeps_set _ (by show ¬ w.heap.size + 1 ≤ w.heap.size; omega) 3 (.slice b1 ta.length b2)))
      have HTF := Lib.hid (HT5.out.keep (keeps_set _ (by show ¬ w.heap.size + 1 ≤ w.heap.size; omega) 3 (.slice b1 ta.length b2)))
      have e1 : stmtP (f + 1) (t :: r) = .ok (.mk 4 [] [x] ta [], r2) := by rw [stmt_while HN1.out HY.out, HA3.out]; dsimp only; rw [HA5.out]
      have e2 := HRR.out.symm.trans e1
      subst e2
      obtain ⟨⟨d0, d1, d2, d3, d4⟩, _⟩ := cells5 HRF.out
      exact bodyPost_ret (v := .agg #[.int .i64 4, .string ⟨#[]⟩, .slice a1 1 a2, .slice b1 ta.length b2, .slice none 0 0]) (by simp [results, Tryz.results165, go_sem, d0, d1, d2, d3, d4]) rfl (st_fin HFF.out HPF.out HXF.out HTF.out StsAt.zero)
theorem stmt_simple_w (f : Nat) (t : Tk) (r : List Tk) (w : World) (p tb : Nat) (hl : 4 * (t :: r).length ≤ f) (h : Ps w p tb (t :: r)) (n : isP [105, 102] t = false) (n2 : isP [119, 104, 105, 108, 101] t = false) :
    Calls Tryz.prog 165 #[.pointer (some ⟨p, 0, none⟩)] w (PEnd (StH w.heap.size) w p tb (stmtP (f + 1) (t :: r))) := by
  have HPW := Lib.hid h.lt
  have HNE : Hid (w.heap.size ≠ p) := by show _ ≠ _; have := h.lt; omega
  have hb0 : Below w.heap.size w (w.alloc (.cells #[.int .i64 0, .string ⟨#[]⟩, .slice none 0 0, .slice none 0 0, .slice none 0 0] 60)) := (Below.refl _ _).alloc (Nat.le_refl _) _
  have HF0 : Hid (SFr p w (w.alloc (.cells #[.int .i64 0, .string ⟨#[]⟩, .slice none 0 0, .slice none 0 0, .slice none 0 0] 60))) := SFr.of_below hb0
  have HR0 := Lib.hid (OwnAt.new w [.int .i64 0, .string ⟨#[]⟩, .slice none 0 0, .slice none 0 0, .slice none 0 0] 60)
  have HP0 := Lib.hid (h.old hb0)
  clear hb0
  obtain ⟨R, hR⟩ : ∃ R, stmtP (f + 1) (t :: r) = R := ⟨_, rfl⟩
  rw [hR]
  have HRR := Lib.hid hR
  clear hR
  have HN1 := Lib.hid n
  have HN2 := Lib.hid n2
  have HT0 : Hid (∀ w1, Ps w1 p tb (t :: r) → _) := fun w1 h1 => psTake_no p tb t r [105, 102] w1 h1 n
  have HT1 : Hid (∀ w1, Ps w1 p tb (t :: r) → _) := fun w1 h1 => psTake_no p tb t r [119, 104, 105, 108, 101] w1 h1 n2
  have hS := simple_of f
  have HC : Hid (∀ w1, Ps w1 p tb (t :: r) → _) := fun w1 h1 => hS (t :: r) w1 p tb hl h1
  clear hl hS n n2
  clear h
  go_enter Tryz.func165, Tryz.ntmps165
  go_wp2_with fail
  refine (HT0.out _ HP0.out).mono ?_
  rintro e w1 ⟨rfl, hb⟩
  have HF1 := Lib.hid (HF0.out.trans (SFr.of_below hb))
  have HP1 := Lib.hid (HP0.out.old hb)
  have HR1 := Lib.hid (HR0.out.old hb)
  clear hb
  go_wp2_with fail
  refine (HT1.out _ HP1.out).mono ?_
  rintro e w2 ⟨rfl, hb⟩
  have HF2 := Lib.hid (HF1.out.trans (SFr.of_below hb))
  have HP2 := Lib.hid (HP1.out.old hb)
  have HR2 := Lib.hid (HR1.out.old hb)
  clear hb
  go_wp2_with fail
  refine (HC.out _ HP2.out).mono ?_
  intro e w3 he
  cases hA : simpleP f (t :: r) with
  | error n =>
    rw [hA] at he
    obtain ⟨hf, rfl⟩ := he
    have HF := Lib.hid (HF2.out.trans hf)
    have e1 : stmtP (f + 1) (t :: r) = .error n := by rw [stmt_simple HN1.out HN2.out, hA]
    have e2 := HRR.out.symm.trans e1
    subst e2
    clear e1 hf
    unfold lineV
    go_wp2_with fail
    exact ⟨rfl, HF.out, rfl⟩
  | ok q =>
    obtain ⟨x, r2⟩ := q
    rw [hA] at he
    obtain ⟨hf, v, rfl, hp, hv⟩ := he
    obtain ⟨va, vt, ve, rfl, hva, hvt, hve⟩ := hv
    obtain ⟨a1, a2, rfl⟩ := hva.shape
    obtain ⟨b1, b2, rfl⟩ := hvt.shape
    obtain ⟨g1, g2, rfl⟩ := hve.shape
    have HX3 := Lib.hid (hva.up (show w.heap.size + 1 ≤ w2.heap.size from HR2.out.lt))
    have HT3 := Lib.hid (hvt.up (show w.heap.size + 1 ≤ w2.heap.size from HR2.out.lt))
    have HE3 := Lib.hid (hve.up (show w.heap.size + 1 ≤ w2.heap.size from HR2.out.lt))
    clear hva hvt hve
    have HF3 := Lib.hid (HF2.out.trans hf)
    have HP3 := Lib.hid hp
    have HR3 := Lib.hid (HR2.out.sfr hf HNE.out)
    clear hf hp
    have HA3 := Lib.hid hA
    clear hA
    obtain ⟨⟨x0, x1, x2, x3, x4⟩, xf0, xf1, xf2, xf3, xf4⟩ := cells5 HR3.out
    have xlt := HR3.out.lt
    go_upto_region 10 with (fail)
    obtain ⟨V, hV⟩ : ∃ V, (((((w3.setCell ⟨w.heap.size, 0, none⟩ (.int .i64 x.kind)).setCell ⟨w.heap.size, 1, none⟩ (.string (strOf x.name))).setCell ⟨w.heap.size, 2, none⟩ (.slice a1 x.args.length a2)).setCell ⟨w.heap.size, 3, none⟩ (.slice b1 x.thn.length b2)).setCell ⟨w.heap.size, 4, none⟩ (.slice g1 x.els.length g2)) = V := ⟨_, rfl⟩
    rw [hV]
    have HR4 := Lib.hid (hV ▸ (((((HR3.out).set 0 (.int .i64 x.kind)).set 1 (.string (strOf x.name))).set 2 (.slice a1 x.args.length a2)).set 3 (.slice b1 x.thn.length b2)).set 4 (.slice g1 x.els.length g2))
    have HF4 := Lib.hid (hV ▸ (((((HF3.out).setNew (Nat.le_refl _) 0 (.int .i64 x.kind)).setNew (Nat.le_refl _) 1 (.string (strOf x.name))).setNew (Nat.le_refl _) 2 (.slice a1 x.args.length a2)).setNew (Nat.le_refl _) 3 (.slice b1 x.thn.length b2)).setNew (Nat.le_refl _) 4 (.slice g1 x.els.length g2))
    have HP4 := Lib.hid (hV ▸ (((((HP3.out).other HPW.out 0 (.int .i64 x.kind)).other HPW.out 1 (.string (strOf x.name))).other HPW.out 2 (.slice a1 x.args.length a2)).other HPW.out 3 (.slice b1 x.thn.length b2)).other HPW.out 4 (.slice g1 x.els.length g2))
    have HX4 := Lib.hid (hV ▸ (((((HX3.out).keep (keeps_set _ (by show ¬ w.heap.size + 1 ≤ w.heap.size; omega) 0 (.int .i64 x.kind))).keep (keeps_set _ (by show ¬ w.heap.size + 1 ≤ w.heap.size; omega) 1 (.string (strOf x.name)))).keep (keeps_set _ (by show ¬ w.heap.size + 1 ≤ w.heap.size; omega) 2 (.slice a1 x.args.length a2))).keep (keeps_set _ (by show ¬ w.heap.size + 1 ≤ w.heap.size; omega) 3 (.slice b1 x.thn.length b2))).keep (keeps_set _ (by show ¬ w.heap.size + 1 ≤ w.heap.size; omega) 4 (.slice g1 x.els.length g2)))
    have HT4 := Lib.hid (hV ▸ (((((HT3.out).keep (keeps_set _ (by show ¬ w.heap.size + 1 ≤ w.heap.size; omega) 0 (.int .i64 x.kind))).keep (keeps_set _ (by show ¬ w.heap.size + 1 ≤ w.heap.size; omega) 1 (.string (strOf x.name)))).keep (keeps_set _ (by show ¬ w.heap.size + 1 ≤ w.heap.size; omega) 2 (.slice a1 x.args.length a2))).keep (keeps_set _ (by show ¬ w.heap.size + 1 ≤ w.heap.size; omega) 3 (.slice b1 x.thn.length b2))).keep (keeps_set _ (by show ¬ w.heap.size + 1 ≤ w.heap.size; omega) 4 (.slice g1 x.els.length g2)))
    have HE4 := Lib.hid (hV ▸ (((((HE3.out).keep (keeps_set _ (by show ¬ w.heap.size + 1 ≤ w.heap.size; omega) 0 (.int .i64 x.kind))).keep (keeps_set _ (by show ¬ w.heap.size + 1 ≤ w.heap.size; omega) 1 (.string (strOf x.name)))).keep (keeps_set _ (by show ¬ w.heap.size + 1 ≤ w.heap.size; omega) 2 (.slice a1 x.args.length a2))).keep (keeps_set _ (by show ¬ w.heap.size + 1 ≤ w.heap.size; omega) 3 (.slice b1 x.thn.length b2))).keep (keeps_set _ (by show ¬ w.heap.size + 1 ≤ w.heap.size; omega) 4 (.slice g1 x.els.length g2)))
    clear hV
    obtain ⟨w4, hWW⟩ : ∃ w4, w4 = V := ⟨_, rfl⟩
    subst hWW
    have hba : Below w4.heap.size w4 (w4.alloc (.cells #[.string ⟨#[59]⟩] 9)) := (Below.refl _ _).alloc (Nat.le_refl _) _
    have HF5 := Lib.hid (HF4.out.trans (SFr.of_below hba))
    have HP5 := Lib.hid (HP4.out.old hba)
    have HR5 := Lib.hid (HR4.out.old hba)
    have HX5 := Lib.hid (HX4.out.old hba)
    have HT5 := Lib.hid (HT4.out.old hba)
    have HE5 := Lib.hid (HE4.out.old hba)
    have HWN := Lib.hid (psWant_one p tb r2 [59] _ HP5.out w4.heap.size 1 ((OwnAt.new w4 [.string ⟨#[59]⟩] 9).at 0 _ rfl))
    clear hba
    go_wp2_with fail
    refine (HWN.out).mono ?_
    intro e w6 he
    cases hA : ywantP [59] r2 with
    | error n =>
      rw [hA] at he
      obtain ⟨hf, rfl⟩ := he
      have HF := Lib.hid (HF5.out.trans hf)
      have e1 : stmtP (f + 1) (t :: r) = .error n := by rw [stmt_simple HN1.out HN2.out, HA3.out]; dsimp only; rw [hA]
      have e2 := HRR.out.symm.trans e1
      subst e2
      clear e1 hf
      unfold lineV
      go_wp2_with fail
      exact ⟨rfl, HF.out, rfl⟩
    | ok r3 =>
      rw [hA] at he
      obtain ⟨hf, rfl, hp⟩ := he
      have HF6 := Lib.hid (HF5.out.trans hf)
      have HP6 := Lib.hid hp
      have HR6 := Lib.hid (HR5.out.sfr hf HNE.out)
      have HX6 := Lib.hid (HX5.out.keep (hf.fresh (by have := HPW.out; omega)))
      have HT6 := Lib.hid (HT5.out.keep (hf.fresh (by have := HPW.out; omega)))
      have HE6 := Lib.hid (HE5.out.keep (hf.fresh (by have := HPW.out; omega)))
      clear hf hp
      have HA6 := Lib.hid hA
      clear hA
      clear HWN
      go_wp2_with fail
      have e1 : stmtP (f + 1) (t :: r) = .ok (x, r3) := by rw [stmt_simple HN1.out HN2.out, HA3.out]; dsimp only; rw [HA6.out]
      have e2 := HRR.out.symm.trans e1
      subst e2
      obtain ⟨⟨d0, d1, d2, d3, d4⟩, _⟩ := cells5 HR6.out
      exact bodyPost_ret (v := .agg #[.int .i64 x.kind, .string (strOf x.name), .slice a1 x.args.length a2, .slice b1 x.thn.length b2, .slice g1 x.els.length g2]) (by simp [results, Tryz.results165, go_sem, d0, d1, d2, d3, d4]) rfl (st_finx HF6.out HP6.out HX6.out HT6.out HE6.out)
theorem ystmt_step (f : Nat) (hB : BlockC f) (hBL : ∀ l x r, blockP f l = .ok (x, r) → r.length < l.length) : StmtC (f + 1) := by
  intro l w p tb hl h
  obtain ⟨t, r, rfl⟩ := h.ends.ne
  cases h0 : isP [105, 102] t with
  | true => exact stmt_if_w f hB hBL t r w p tb (by omega) h h0
  | false =>
    cases h1 : isP [119, 104, 105, 108, 101] t with
    | true => exact stmt_while_w f hB hBL t r w p tb (by omega) h h0 h1
    | false => exact stmt_simple_w f t r w p tb (by omega) h h0 h1
end Go.Proofs.YtcfpfnoldgnloaaGreatDoor

namespace Go.Proofs.YtcfpfnoldgnloaaGreatDoor
open Go.RowKit
set_option maxRecDepth 100000
set_option maxHeartbeats 4000000

theorem simple_less {f : Nat} {l r : List Tk} {x : St} (h : simpleP f l = .ok (x, r)) : r.length < l.length := by
  have hE := fun {lv : Int} {a b : List Tk} {y : Ex} (q : climbP f lv a = .ok (y, b)) => (parse_less f).1 _ _ _ _ q
  have hA := fun {a b : List Tk} {y : List Ex} (q : argsP f a = .ok (y, b)) => (parse_less f).2.2.2.2.1 _ _ _ q
  unfold simpleP at h
  cases h1 : takeP [98, 114, 101, 97, 107] l with
  | some q => rw [h1] at h; injection h with h; injection h with _ h; subst h; exact take_less h1
  | none =>
  rw [h1] at h; dsimp only at h
  cases h2 : takeP [99, 111, 110, 116, 105, 110, 117, 101] l with
  | some q => rw [h2] at h; injection h with h; injection h with _ h; subst h; exact take_less h2
  | none =>
  rw [h2] at h; dsimp only at h
  cases h3 : takeP [114, 101, 116, 117, 114, 110] l with
  | some q =>
    rw [h3] at h; dsimp only at h
    have h0 := take_less h3
    cases h4 : climbP f 1 q with
    | error e => rw [h4] at h; cases h
    | ok z => obtain ⟨y, z⟩ := z; rw [h4] at h; injection h with h; injection h with _ h; subst h; have := hE h4; omega
  | none =>
  rw [h3] at h; dsimp only at h
  cases h4 : takeP [112, 114, 105, 110, 116] l with
  | some q =>
    rw [h4] at h; dsimp only at h
    have h0 := take_less h4
    cases h5 : insideP f q with
    | error e => rw [h5] at h; cases h
    | ok z => obtain ⟨y, z⟩ := z; rw [h5] at h; injection h with h; injection h with _ h; subst h; have := inside_less h5; omega
  | none =>
  rw [h4] at h; dsimp only at h
  cases h5 : takeP [116, 114, 97, 112] l with
  | some q =>
    rw [h5] at h; dsimp only at h
    have h0 := take_less h5
    cases h6 : insideP f q with
    | error e => rw [h6] at h; cases h
    | ok z => obtain ⟨y, z⟩ := z; rw [h6] at h; injection h with h; injection h with _ h; subst h; have := inside_less h6; omega
  | none =>
  rw [h5] at h; dsimp only at h
  cases h6 : nameP l with
  | error e => rw [h6] at h; cases h
  | ok z =>
  obtain ⟨s, q⟩ := z
  rw [h6] at h; dsimp only at h
  have h0 := name_less h6
  cases h7 : takeP [40] q with
  | some q2 =>
    rw [h7] at h; dsimp only at h
    have h8 := take_less h7
    cases h9 : argsP f q2 with
    | error e => rw [h9] at h; cases h
    | ok z => obtain ⟨y, z⟩ := z; rw [h9] at h; injection h with h; injection h with _ h; subst h; have := hA h9; omega
  | none =>
  rw [h7] at h; dsimp only at h
  cases h8 : takeP [91] q with
  | some q2 =>
    rw [h8] at h; dsimp only at h
    have k1 := take_less h8
    cases h9 : climbP f 1 q2 with
    | error e => rw [h9] at h; cases h
    | ok z =>
      obtain ⟨y, z⟩ := z; rw [h9] at h; dsimp only at h
      have k2 := hE h9
      cases g1 : ywantP [93] z with
      | error e => rw [g1] at h; cases h
      | ok z2 =>
        rw [g1] at h; dsimp only at h
        have k3 := want_less g1
        cases g2 : ywantP [61] z2 with
        | error e => rw [g2] at h; cases h
        | ok z3 =>
          rw [g2] at h; dsimp only at h
          have k4 := want_less g2
          cases g3 : climbP f 1 z3 with
          | error e => rw [g3] at h; cases h
          | ok z4 => obtain ⟨y4, z4⟩ := z4; rw [g3] at h; injection h with h; injection h with _ h; subst h; have := hE g3; omega
  | none =>
  rw [h8] at h; dsimp only at h
  cases g2 : ywantP [61] q with
  | error e => rw [g2] at h; cases h
  | ok z3 =>
    rw [g2] at h; dsimp only at h
    have k4 := want_less g2
    cases g3 : climbP f 1 z3 with
    | error e => rw [g3] at h; cases h
    | ok z4 => obtain ⟨y4, z4⟩ := z4; rw [g3] at h; injection h with h; injection h with _ h; subst h; have := hE g3; omega
theorem block_less_of {f : Nat} (h : ∀ a l x r, stmtsP f a l = .ok (x, r) → r.length < l.length) : ∀ l x r, blockP f l = .ok (x, r) → r.length < l.length := by
  intro l x r hb
  unfold blockP at hb
  cases h1 : ywantP [123] l with
  | error e => rw [h1] at hb; cases hb
  | ok q => rw [h1] at hb; have := want_less h1; have := h _ _ _ _ hb; omega
theorem stmt_less : ∀ f : Nat, (∀ l x r, stmtP f l = .ok (x, r) → r.length < l.length) ∧ (∀ a l x r, stmtsP f a l = .ok (x, r) → r.length < l.length)
  | 0 => ⟨fun l x r h => (by cases h), fun a l x r h => (by cases h)⟩
  | f + 1 => by
    obtain ⟨i1, i2⟩ := stmt_less f
    have ib := block_less_of i2
    refine ⟨fun l x r h => ?_, fun a l x r h => ?_⟩
    · cases l with
      | nil =>
        have : stmtP (f + 1) [] = .error (lineP []) := by
          rw [stmtP]; dsimp only [takeP]
          have hs : simpleP f [] = .error (lineP []) := rfl
          rw [hs]
        rw [this] at h; cases h
      | cons t l =>
        cases h0 : isP [105, 102] t with
        | true =>
          rw [stmt_if h0] at h
          cases h1 : insideP f l with
          | error e => rw [h1] at h; cases h
          | ok q =>
            obtain ⟨y, q⟩ := q
            rw [h1] at h; dsimp only at h
            have k1 := inside_less h1
            cases h2 : blockP f q with
            | error e => rw [h2] at h; cases h
            | ok z =>
              obtain ⟨a, z⟩ := z
              rw [h2] at h; dsimp only at h
              have k2 := ib _ _ _ h2
              cases h3 : takeP [101, 108, 115, 101] z with
              | none => rw [h3] at h; injection h with h; injection h with _ h; subst h; rw [List.length_cons]; omega
              | some u =>
                rw [h3] at h; dsimp only at h
                have k3 := take_less h3
                cases h4 : blockP f u with
                | error e => rw [h4] at h; cases h
                | ok v => obtain ⟨b, v⟩ := v; rw [h4] at h; injection h with h; injection h with _ h; subst h; have := ib _ _ _ h4; rw [List.length_cons]; omega
        | false =>
          cases h1 : isP [119, 104, 105, 108, 101] t with
          | true =>
            rw [stmt_while h0 h1] at h
            cases h2 : insideP f l with
            | error e => rw [h2] at h; cases h
            | ok q =>
              obtain ⟨y, q⟩ := q
              rw [h2] at h; dsimp only at h
              have k1 := inside_less h2
              cases h3 : blockP f q with
              | error e => rw [h3] at h; cases h
              | ok z => obtain ⟨a, z⟩ := z; rw [h3] at h; injection h with h; injection h with _ h; subst h; have := ib _ _ _ h3; rw [List.length_cons]; omega
          | false =>
            rw [stmt_simple h0 h1] at h
            cases h2 : simpleP f (t :: l) with
            | error e => rw [h2] at h; cases h
            | ok q =>
              obtain ⟨y, q⟩ := q
              rw [h2] at h; dsimp only at h
              have k1 := simple_less h2
              cases h3 : ywantP [59] q with
              | error e => rw [h3] at h; cases h
              | ok z => rw [h3] at h; injection h with h; injection h with _ h; subst h; have := want_less h3; omega
    · rw [stmtsP] at h
      cases h1 : takeP [125] l with
      | some q => rw [h1] at h; injection h with h; injection h with _ h; subst h; exact take_less h1
      | none =>
        rw [h1] at h; dsimp only at h
        cases h2 : stmtP f l with
        | error e => rw [h2] at h; cases h
        | ok q => obtain ⟨y, q⟩ := q; rw [h2] at h; dsimp only at h; have := i1 _ _ _ h2; have := i2 _ _ _ _ h; omega
theorem OwnAt.newsY {w : World} {b : Nat} {cs : List Value} {T : TypeId} (h : OwnAt w b cs T) : ∀ j u, cs[j]? = some u → w.cell? ((⟨b, 0, none⟩ : Addr).add j) = some u := by
  intro j u hu
  have h2 : (⟨b, 0, none⟩ : Addr).add j = ⟨b, j, none⟩ := by unfold Addr.add; split <;> simp_all
  rw [h2]; exact h.at j u hu
theorem SFr.grown {p : Nat} {w w1 w2 : World} (h : SFr p w w1) {row : Option Nat} (hg : w1.grownBy w2 row) (hr : ∀ k, row = some k → w.heap.size ≤ k) : SFr p w w2 :=
  ⟨hg.os.trans h.os, hg.tape.trans h.tape, hg.output.trans h.output, Nat.le_trans h.size hg.size, fun k hk hp => (hg.block k (Nat.lt_of_lt_of_le hk h.size) (fun e => by have := hr k e.symm; omega)).trans (h.block k hk hp)⟩
theorem StsOwn.rowGe {w : World} {base : Nat} {ps : List StV} {v : Value} (h : StsOwn w base ps v) : ∀ k, v.ownBlock = some k → base ≤ k := fun k e => (World.ownsRow.lt h.1 k e).1
structure StsI (w : World) (p tb : Nat) (f : Nat) (R : PR (List St)) (g : Nat) (va : Option Addr) (vc : Nat) (ps : List StV) (l : List Tk) (wr : World) : Prop where
  sfr : SFr p w wr
  par : Ps wr p tb l
  row : StsOwn wr w.heap.size ps (.slice va ps.length vc)
  len : ps.length + l.length ≤ 1000000
  fuel : 4 * l.length + 2 ≤ g
  le : g ≤ f
  res : stmtsP g (ps.map (·.x)) l = R
theorem ystmts_step (f : Nat) (ih : ∀ g, g < f → StmtC g) : StmtsC f := by
  intro l w p tb hl h
  obtain ⟨R, hR⟩ : ∃ R, stmtsP f [] l = R := ⟨_, rfl⟩
  rw [hR]
  have hlen : l.length ≤ 1000000 := by obtain ⟨_, _, h2⟩ := h; exact h2.fit
  have HPW := Lib.hid h.lt
  have HI0 : Hid (StsI w p tb f R f none 0 [] l w) := ⟨SFr.refl p w, h, StsOwn.zero _ _, by simpa using hlen, hl, Nat.le_refl _, hR⟩
  have IH := Lib.hid ih
  obtain ⟨i0, hi, hz0, hz1, hz2⟩ := info_parts infoSt
  have HIF := Lib.hid hi; have HZ0 := Lib.hid hz0; have HZ1 := Lib.hid hz1; have HZ2 := Lib.hid hz2
  clear hl h hR hlen ih hi hz0 hz1 hz2
  go_enter Tryz.func127, Tryz.ntmps127
  go_wp2_with fail
  go_loopw [2] (fun s2 wr => ∃ (g : Nat) (va : Option Addr) (vc : Nat) (ps : List StV) (l : List Tk), s2 = .slice va ps.length vc ∧ Hid (StsI w p tb f R g va vc ps l wr)) (fun _ wr => leftLen p wr)
  case atStart => exact ⟨f, none, 0, [], l, rfl, HI0⟩
  case round =>
    obtain ⟨g, va, vc, ps, l, rfl, HI⟩ := hrel
    clear HI0
    obtain ⟨u, l, rfl⟩ := HI.out.par.ends.ne
    obtain ⟨g', hg'⟩ : ∃ g', g = g' + 1 := ⟨g - 1, by have := HI.out.fuel; omega⟩
    subst hg'
    cases hu : isP [125] u with
    | true =>
      have HTK := Lib.hid (psTake_yes p tb u l [125] wr HI.out.par hu)
      have hres : Except.ok (ps.map (·.x), l) = R := by
        have h1 := HI.out.res
        rw [stmtsP, take_yes hu] at h1
        exact h1
      subst hres
      clear hu
      go_wp2_with fail
      refine HTK.out.mono ?_
      rintro e w3 ⟨rfl, hf, hp⟩
      have HF := Lib.hid (HI.out.sfr.trans hf)
      have HP := Lib.hid hp
      have HR := Lib.hid ((HI.out.row.sfr hf HPW.out).sts (show ps.length ≤ 140737488355328 by have := HI.out.len; omega))
      clear hf hp
      go_wp2_with fail
      go_ret
      exact ⟨HF.out, _, rfl, HP.out, HR.out⟩
    | false =>
      have HTK := Lib.hid (psTake_no p tb u l [125] wr HI.out.par hu)
      have hres : (match stmtP g' (u :: l) with | .error e => .error e | .ok (x, r) => stmtsP g' (ps.map (·.x) ++ [x]) r) = R := by
        have h1 := HI.out.res
        rw [stmtsP, take_no hu] at h1
        exact h1
      have HRES := Lib.hid hres
      clear hu hres
      go_wp2_with fail
      refine HTK.out.mono ?_
      rintro e w3 ⟨rfl, hb⟩
      have HP3 := Lib.hid (HI.out.par.old hb)
      have HF3 := Lib.hid (HI.out.sfr.trans (SFr.of_below hb))
      have HR3 := Lib.hid (HI.out.row.sfr (SFr.of_below (s := p) hb) HPW.out)
      have HC := Lib.hid (IH.out g' (by have := HI.out.le; omega) (u :: l) w3 p tb (by have := HI.out.fuel; omega) (HI.out.par.old hb))
      clear hb
      go_wp2_with fail
      refine HC.out.mono ?_
      intro e w4 he
      cases hA : stmtP g' (u :: l) with
      | error n =>
        rw [hA] at he
        obtain ⟨hf, rfl⟩ := he
        have HF := Lib.hid (HF3.out.trans hf)
        have e2 := HRES.out
        rw [hA] at e2
        dsimp only at e2
        subst e2
        clear hf hA
        unfold lineV
        go_wp2_with fail
        exact ⟨rfl, HF.out, rfl⟩
      | ok q =>
        obtain ⟨x, r⟩ := q
        rw [hA] at he
        obtain ⟨hf, v, rfl, hp, xa, xt, xe, rfl, ha, ht, hE⟩ := he
        obtain ⟨a1, a2, rfl⟩ := ha.shape
        obtain ⟨t1, t2, rfl⟩ := ht.shape
        obtain ⟨e1, e2, rfl⟩ := hE.shape
        have hr4 := HR3.out.sfr hf HPW.out
        have hf4 := HF3.out.trans hf
        have hlt3 : ∀ k, (Value.slice va ps.length vc).ownBlock = some k → k < w3.heap.size := fun k e => (World.ownsRow.lt HR3.out.1 k e).2
        have hsz := HF3.out.size
        have hpar : StParts (fun b => w.heap.size ≤ b ∧ (Value.slice va ps.length vc).ownBlock ≠ some b) w4 ⟨x, .slice a1 x.args.length a2, .slice t1 x.thn.length t2, .slice e1 x.els.length e2⟩ := by
          have hD : ∀ b, w3.heap.size ≤ b → w.heap.size ≤ b ∧ (Value.slice va ps.length vc).ownBlock ≠ some b := fun b hb => ⟨by omega, fun e => by have := hlt3 b e; omega⟩
          exact ⟨ha.mono hD, ht.mono hD, hE.mono hD⟩
        have hal : Below w4.heap.size w4 (w4.alloc (.cells #[.int .i64 x.kind, .string (strOf x.name), .slice a1 x.args.length a2, .slice t1 x.thn.length t2, .slice e1 x.els.length e2] 60)) := (Below.refl _ _).alloc (Nat.le_refl _) _
        have HR5 := Lib.hid (hr4.sfr (SFr.of_below (s := p) hal) HPW.out)
        have HF5 := Lib.hid (hf4.trans (SFr.of_below hal))
        have HP5 := Lib.hid (hp.old hal)
        have HPR5 := Lib.hid (hpar.keep (keeps_below hal))
        have HNEW := Lib.hid (OwnAt.new w4 (stCells x (.slice a1 x.args.length a2) (.slice t1 x.thn.length t2) (.slice e1 x.els.length e2)) 60)
        have hlen := HI.out.len
        rw [List.length_cons] at hlen
        have hless := (stmt_less g').1 _ _ _ hA
        rw [List.length_cons] at hless
        have hfu := HI.out.fuel
        rw [List.length_cons] at hfu
        have hRES := HRES.out
        rw [hA] at hRES
        dsimp only at hRES
        have HRS := Lib.hid hRES
        have HLE : Hid (g' ≤ f) := by show _ ≤ _; have := HI.out.le; omega
        have HFU : Hid (4 * r.length + 2 ≤ g') := by show _ ≤ _; omega
        have HLN : Hid (ps.length + 1 + r.length ≤ 1000000) := by show _ ≤ _; omega
        have hps : ps.length ≤ 1000000 := by omega
        have HLS : Hid (r.length < l.length + 1) := hless
        have HSZ : Hid (w.heap.size ≤ (w4.alloc (.cells #[.int .i64 x.kind, .string (strOf x.name), .slice a1 x.args.length a2, .slice t1 x.thn.length t2, .slice e1 x.els.length e2] 60)).heap.size) := HF5.out.size
        clear hf hp ha ht hE hr4 hf4 hlt3 hsz hpar hal hlen hless hfu hRES hA
        go_wp2_with (at_builtin; (refine wpList_append_lies (P := Tryz.prog) _ rfl _ _ 56 rfl w.heap.size 60 i0 _ 5 96 Tryz.underlying56 HIF.out HZ0.out HZ1.out HZ2.out rfl (by decide) (.slice va ps.length vc) ps.length (stFlat ps) rfl HR5.out.1 ⟨w4.heap.size, 0, none⟩ 1 1 (stCells x (.slice a1 x.args.length a2) (.slice t1 x.thn.length t2) (.slice e1 x.els.length e2)) rfl rfl HNEW.out.newsY (st_one _ _ _ _ _ _ _ _ _ _) (by decide) (by unfold maxLen; omega) (by omega) HSZ.out _ rfl ?_; intro gb cap w11 hown hgrow hat hlt11; have HR11 := Lib.hid (HR5.out.snoc ⟨x, .slice a1 x.args.length a2, .slice t1 x.thn.length t2, .slice e1 x.els.length e2⟩ HPR5.out hown hgrow hat); have HF11 := Lib.hid (HF5.out.grown hgrow HR5.out.rowGe); have HP11 := Lib.hid (HP5.out.grown hgrow HR5.out.rowGe HPW.out); clear hown hgrow hat))
        have HI11 : Hid (StsI w p tb f R g' (some ⟨gb, 0, none⟩) cap (ps ++ [⟨x, .slice a1 x.args.length a2, .slice t1 x.thn.length t2, .slice e1 x.els.length e2⟩]) r w11) := ⟨HF11.out, HP11.out, by have := HR11.out; rw [List.length_append]; exact this, by rw [List.length_append]; exact HLN.out, HFU.out, HLE.out, by rw [List.map_append]; exact HRS.out⟩
        have hm : leftLen p w11 < leftLen p wr := by
          rw [HI11.out.par.len, HI.out.par.len, List.length_cons]; exact HLS.out
        have HM := Lib.hid hm
        clear hm
        go_roundw
        case rel => exact ⟨g', _, _, _, r, by rw [List.length_append]; rfl, HI11⟩
        case measure => exact HM.out
/-- Every method for statements. -/
theorem yst_all : ∀ f : Nat, StmtC f ∧ StmtsC f ∧ BlockC f
  | 0 => ⟨fun l w p tb h => by omega, ystmts_step 0 (fun g hg => by omega), block_of 0 (ystmts_step 0 (fun g hg => by omega))⟩
  | f + 1 => by
    have ih : ∀ g, g < f + 1 → StmtC g ∧ StmtsC g ∧ BlockC g := fun g hg => yst_all g
    have h1 := ystmts_step (f + 1) (fun g hg => (ih g hg).1)
    exact ⟨ystmt_step f (ih f (Nat.lt_succ_self _)).2.2 (block_less_of (stmt_less f).2), h1, block_of (f + 1) h1⟩
end Go.Proofs.YtcfpfnoldgnloaaGreatDoor
