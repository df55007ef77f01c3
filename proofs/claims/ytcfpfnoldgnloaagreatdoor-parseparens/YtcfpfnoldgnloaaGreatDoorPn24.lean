/-
  A raw expression's text is short: what its numbers pay for. No condition.
  awake: chapter 4's examples. Condition: the library's tables lie in memory.
  awake's walk; pick. Condition: the library's tables lie in memory.
  Var: a raw name. No condition.
  scope.name, scope.array: a raw name, a raw array. Conditions: what is read lies in memory as the types say.
  A variable's own block in memory. No condition.
  scope.expr: a raw expression: the contracts. Conditions: the source and the scope lie in memory as the types say.
-/
import Derived.Test.YtcfpfnoldgnloaaGreatDoorPn23
import Derived.Test.YtcfpfnoldgnloaaGreatDoorPn21
import Derived.Test.YtcfpfnoldgnloaaGreatDoorPn03
set_option linter.unusedVariables false
set_option linter.unusedSimpArgs false
namespace Go.Proofs.YtcfpfnoldgnloaaGreatDoor
set_option maxRecDepth 100000
set_option maxHeartbeats 4000000

theorem next_bd (raw : List Int) (a : Nat) (n : Int) (h : a ≤ raw.length) : a ≤ (gNext raw a n).2 ∧ (gNext raw a n).2 ≤ raw.length := by
  refine ⟨?_, gNext_le raw a n h⟩
  unfold gNext; split
  · exact Nat.le_refl _
  · show a ≤ a + 1; omega
/-- What g makes is paid for by the numbers that it takes. -/
def Paid (N : Nat) (g : Nat → Ex × Nat) : Prop := ∀ a, a ≤ N → a ≤ (g a).2 ∧ (g a).2 ≤ N ∧ (exText (g a).1).length + 64 * a ≤ 1 + 64 * (g a).2
theorem sep_snoc_len (l : List Bs) (x : Bs) : (sepText (l ++ [x])).length ≤ (sepText l).length + x.length + 2 := by
  cases l with
  | nil => simp [sepText]
  | cons y l =>
    rw [List.cons_append, sepText, sepText, List.flatMap_append]
    simp only [List.length_append, List.flatMap_cons, List.flatMap_nil, List.length_cons, List.length_nil, List.append_nil]
    omega
theorem many_paid {N : Nat} {g : Nat → Ex × Nat} (hg : Paid N g) : ∀ c a, a ≤ N → a ≤ (gMany g c a).2 ∧ (gMany g c a).2 ≤ N ∧ (sepText ((gMany g c a).1.map exText)).length + 64 * a ≤ 3 * c + 64 * (gMany g c a).2
  | 0, a, h => ⟨Nat.le_refl _, h, by simp [gMany, sepText]⟩
  | c + 1, a, h => by
    obtain ⟨h1, h2, h3⟩ := many_paid hg c a h
    obtain ⟨q1, q2, q3⟩ := hg (gMany g c a).2 h2
    rw [gMany]
    dsimp only
    refine ⟨by omega, q2, ?_⟩
    rw [List.map_append]
    have := sep_snoc_len ((gMany g c a).1.map exText) (exText (g (gMany g c a).2).1)
    show (sepText ((gMany g c a).1.map exText ++ [exText (g (gMany g c a).2).1])).length + 64 * a ≤ _
    omega
theorem call_paid {N c : Nat} {nm : Bs} {m : List Ex × Nat} {a b : Nat} (hn : nm.length ≤ 20) (hc : c ≤ 6) (hab : a ≤ b) (h : b ≤ m.2 ∧ m.2 ≤ N ∧ (sepText (m.1.map exText)).length + 64 * b ≤ 3 * c + 64 * m.2) : a ≤ m.2 ∧ m.2 ≤ N ∧ (exText (.mk 5 0 0 nm m.1)).length + 64 * a ≤ 65 + 64 * m.2 := by
  obtain ⟨h1, h2, h3⟩ := h
  refine ⟨by omega, h2, ?_⟩
  rw [exText_5]
  simp only [List.length_append, List.length_cons, List.length_nil]
  omega
theorem kind_paid {sc : Sc} (hs : sc.Ok) (raw : List Int) {g : Nat → Ex × Nat} (hg : Paid raw.length g) (k : Int) (a : Nat) (ha : a ≤ raw.length) : a ≤ (gKind sc raw g k a).2 ∧ (gKind sc raw g k a).2 ≤ raw.length ∧ (exText (gKind sc raw g k a).1).length + 64 * a ≤ 65 + 64 * (gKind sc raw g k a).2 := by
  unfold gKind
  split
  · have h := isName_len (gName_ok hs raw a)
    have h2 : a ≤ (gName sc.free sc.vars raw a).2 ∧ (gName sc.free sc.vars raw a).2 ≤ raw.length := by
      unfold gName; split <;> exact next_bd raw a _ ha
    dsimp only; rw [exText_2]; exact ⟨h2.1, h2.2, by omega⟩
  split
  · have h2 := next_bd raw a 3 ha
    dsimp only; rw [exText_7]; exact ⟨h2.1, h2.2, by simp; omega⟩
  split
  · have hb : a ≤ (if k = 3 then (gNext raw a 3).2 else a) ∧ (if k = 3 then (gNext raw a 3).2 else a) ≤ raw.length := by
      split
      · exact next_bd raw a 3 ha
      · exact ⟨Nat.le_refl _, ha⟩
    have n1 := next_bd raw _ 1000 hb.2
    have n2 := next_bd raw _ 8 n1.2
    have h1 := gNext_range raw (if k = 3 then (gNext raw a 3).2 else a) 1000 (by decide)
    have h2 := numOf_range _ (gNext raw (gNext raw (if k = 3 then (gNext raw a 3).2 else a) 1000).2 8).1 h1
    have := ex1_len _ h2 0 [] []
    dsimp only; exact ⟨by omega, n2.2, by omega⟩
  split
  · have n1 := next_bd raw a 3 ha
    obtain ⟨q1, q2, q3⟩ := hg (gNext raw a 3).2 n1.2
    dsimp only; rw [exText_3 _ _ _ _ (by simp)]
    have h2 := sign_len (17 + (gNext raw a 3).1)
    have h3 := wrap_len (g (gNext raw a 3).2).1 9 (exText (g (gNext raw a 3).2).1)
    refine ⟨by omega, q2, ?_⟩
    show (signOf _ ++ wrapPart (g (gNext raw a 3).2).1 9 (exText (g (gNext raw a 3).2).1)).length + 64 * a ≤ _
    rw [List.length_append]; omega
  split
  · have h1 := isName_len (gArray_ok hs raw a)
    have n1 : a ≤ (gArray sc.free sc.arrays raw a).2 ∧ (gArray sc.free sc.arrays raw a).2 ≤ raw.length := by
      unfold gArray; split
      · have m1 := next_bd raw a 312 ha
        have m2 := next_bd raw _ 1000 m1.2
        exact ⟨Nat.le_trans m1.1 m2.1, m2.2⟩
      · exact next_bd raw a _ ha
    obtain ⟨q1, q2, q3⟩ := hg (gArray sc.free sc.arrays raw a).2 n1.2
    dsimp only; rw [exText_6 _ _ _ _ (by simp)]
    refine ⟨by omega, q2, ?_⟩
    show (_ ++ [91] ++ exText (g (gArray sc.free sc.arrays raw a).2).1 ++ [93]).length + 64 * a ≤ _
    simp only [List.length_append, List.length_cons, List.length_nil]; omega
  split
  · unfold gCall
    split
    · have h7 := gNext_range raw (gNext raw a 312).2 7 (by decide)
      have m1 := next_bd raw a 312 ha
      have m2 := next_bd raw _ 7 m1.2
      exact call_paid (c := (gNext raw (gNext raw a 312).2 7).1.toNat) (b := (gNext raw (gNext raw a 312).2 7).2) (isName_len (varOf_name _)) (by omega) (Nat.le_trans m1.1 m2.1) (many_paid hg _ _ m2.2)
    · rename_i hn
      have hl := gpos hn
      have hr := gNext_range raw a sc.funcs.length (by omega)
      have hf : isName (fuAt sc.funcs (gNext raw a sc.funcs.length).1.toNat).name = true ∧ (fuAt sc.funcs (gNext raw a sc.funcs.length).1.toNat).params.length ≤ 6 := hs.funcs _ (gmem (d := Fu.nil) (i := (gNext raw a sc.funcs.length).1.toNat) (by omega))
      have m1 := next_bd raw a sc.funcs.length ha
      dsimp only
      generalize fuAt sc.funcs (gNext raw a sc.funcs.length).1.toNat = f at hf ⊢
      exact call_paid (c := f.params.length) (isName_len hf.1) hf.2 m1.1 (many_paid hg _ _ m1.2)
  · have n1 := next_bd raw a 16 ha
    obtain ⟨q1, q2, q3⟩ := hg (gNext raw a 16).2 n1.2
    obtain ⟨r1, r2, r3⟩ := hg (g (gNext raw a 16).2).2 q2
    dsimp only; rw [exText_4 _ _ _ _ (by simp)]
    have h3 := sign_len (1 + (gNext raw a 16).1)
    have h4 := wrap_len (g (gNext raw a 16).2).1 (levelOf (1 + (gNext raw a 16).1)) (exText (g (gNext raw a 16).2).1)
    have h5 := wrap_len (g (g (gNext raw a 16).2).2).1 (levelOf (1 + (gNext raw a 16).1) + 1) (exText (g (g (gNext raw a 16).2).2).1)
    refine ⟨by omega, r2, ?_⟩
    show (wrapPart (g (gNext raw a 16).2).1 (levelOf (1 + (gNext raw a 16).1)) (exText (g (gNext raw a 16).2).1) ++ ([32] ++ (signOf _ ++ [32])) ++ wrapPart (g (g (gNext raw a 16).2).2).1 (levelOf (1 + (gNext raw a 16).1) + 1) (exText (g (g (gNext raw a 16).2).2).1)).length + 64 * a ≤ _
    simp only [List.length_append, List.length_cons, List.length_nil]; omega
theorem step_paid {sc : Sc} (hs : sc.Ok) (raw : List Int) (d : Nat) {g : Nat → Ex × Nat} (hg : Paid raw.length g) : Paid raw.length (gStep sc raw d g) := by
  intro a ha
  unfold gStep
  by_cases h : raw.length ≤ a
  · have e : ∀ n, gNext raw a n = (0, a) := fun n => by unfold gNext; rw [if_pos h]
    have ek : gK raw d a = 0 := by unfold gK; rw [e]; split <;> rfl
    rw [ek, e]
    show a ≤ (gKind sc raw g 0 a).2 ∧ (gKind sc raw g 0 a).2 ≤ raw.length ∧ (exText (gKind sc raw g 0 a).1).length + 64 * a ≤ 1 + 64 * (gKind sc raw g 0 a).2
    have eg : gKind sc raw g 0 a = (.mk 1 0 0 [] [], a) := by
      unfold gKind
      rw [if_neg (by simp), if_neg (by simp), if_pos (by decide), if_neg (by decide)]
      dsimp only
      rw [e 1000]
      dsimp only
      rw [e 8]; rfl
    rw [eg]
    refine ⟨Nat.le_refl _, ha, ?_⟩
    rw [exText_1]
    have : (Lib.itoa 0).length = 1 := by rw [Lib.itoa, if_neg (by decide)]; rw [Lib.decDigits, dif_pos (by decide)]; rfl
    rw [this]; exact Nat.le_refl _
  · have e : (gNext raw a 12).2 = a + 1 := by unfold gNext; rw [if_neg h]
    rw [e]
    obtain ⟨h1, h2, h3⟩ := kind_paid hs raw hg (gK raw d a) (a + 1) (by omega)
    exact ⟨by omega, h2, by omega⟩
theorem expr_paid {sc : Sc} (hs : sc.Ok) (raw : List Int) : ∀ d, Paid raw.length (gExpr sc raw d)
  | 0 => by
    rw [gExpr]
    exact step_paid hs raw 0 (fun a ha => ⟨Nat.le_refl _, ha, by
      have : (exText (Ex.nil)).length = 0 := by show (exText (.mk 0 0 0 [] [])).length = 0; rw [exText_eq]; decide
      show (exText Ex.nil).length + 64 * a ≤ 1 + 64 * a
      omega⟩)
  | d + 1 => by
    rw [gExpr]
    exact step_paid hs raw (d + 1) (expr_paid hs raw d)
theorem exprTop_short (raw0 : List Int) : (exText (gExprTop raw0)).length ≤ 6401 := by
  have hs : Sc.Ok ⟨[], [], [], true, false⟩ := ⟨fun x hx => (by cases hx), fun x hx => (by cases hx), fun x hx => (by cases hx)⟩
  have h := (expr_paid hs (raw0.take 100) 6 0 (Nat.zero_le _))
  have hl : (raw0.take 100).length ≤ 100 := by rw [List.length_take]; omega
  have e : gExprTop raw0 = (gExpr ⟨[], [], [], true, false⟩ (raw0.take 100) 6 0).1 := rfl
  rw [e]
  obtain ⟨h1, h2, h3⟩ := h
  omega
end Go.Proofs.YtcfpfnoldgnloaaGreatDoor

namespace Go.Proofs.YtcfpfnoldgnloaaGreatDoor
open Go.RowKit
set_option maxHeartbeats 4000000
set_option maxRecDepth 100000

def awP : List It := [⟨[105, 110, 116], 2, 0, [32], []⟩, ⟨[109, 97, 105, 110], 1, 0, [], []⟩, ⟨[40], 4, 0, [], []⟩, ⟨[41], 4, 0, [32], []⟩, ⟨[123], 4, 0, [32], []⟩, ⟨[112, 114, 105, 110, 116], 2, 0, [], []⟩, ⟨[40], 4, 0, [], []⟩, ⟨[49], 3, 1, [32], []⟩, ⟨[43], 4, 0, [32], []⟩, ⟨[50], 3, 2, [32], []⟩, ⟨[42], 4, 0, [32], []⟩, ⟨[51], 3, 3, [], []⟩, ⟨[41], 4, 0, [], []⟩, ⟨[59], 4, 0, [32], []⟩, ⟨[125], 4, 0, [], []⟩]
def awQ : List It := [⟨[105, 110, 116], 2, 0, [32], []⟩, ⟨[109, 97, 105, 110], 1, 0, [], []⟩, ⟨[40], 4, 0, [], []⟩, ⟨[41], 4, 0, [32], []⟩, ⟨[123], 4, 0, [10], []⟩]
def awX : List It := [⟨[97], 1, 0, [32], []⟩, ⟨[45], 4, 0, [32], []⟩, ⟨[98], 1, 0, [32], []⟩, ⟨[45], 4, 0, [32], []⟩, ⟨[99], 1, 0, [], []⟩]
theorem awP_ok : itsB [] awP = true := by kernel_rfl
theorem awQ_ok : itsB [] awQ = true := by kernel_rfl
theorem awX_ok : itsB [] awX = true := by kernel_rfl
def awPr : Pr × Int × Int := finP (outP (progP 100 ⟨[], []⟩ (scanned 1 awP)))
def awEx : Ex × Int × Int := finE (outE (climbP 100 1 (scanned 1 awX)))
theorem aw_p (w : World) (hl : ZLib w) :
    Calls Tryz.prog 14 #[.string ⟨#[105, 110, 116, 32, 109, 97, 105, 110, 40, 41, 32, 123, 32, 112, 114, 105, 110, 116, 40, 49, 32, 43, 32, 50, 32, 42, 32, 51, 41, 59, 32, 125]⟩] w fun e w' =>
      Below w.heap.size w w' ∧ ∃ aa an ac b off cap b2 o2 c2, e = .returned (.tuple #[.agg #[.slice aa an ac, .slice (some ⟨b, off, none⟩) 1 cap], .int .i64 0, .int .i64 0]) ∧ w'.cell? ⟨b, off + 3, none⟩ = some (.slice (some ⟨b2, o2, none⟩) 1 c2) ∧ w'.cell? ⟨b2, o2, none⟩ = some (.int .i64 8) ∧ 1 ≤ cap ∧ 1 ≤ c2 := by
  obtain ⟨h1, h2⟩ := itsB_of [] awP awP_ok
  refine (parse_its [] [] ygap_nil awP h1 h2 (by decide) (by decide) 100 (by decide) w hl).mono ?_
  intro e w' hp
  obtain ⟨hb, v, he, av, fv, hv, hxa, hxf⟩ := hp
  have e1 : (finP (outP (progP 100 ⟨[], []⟩ (scanned (1 + feeds (gapText [] [])) awP)))).2.1 = 0 := by kernel_rfl
  have e2 : (finP (outP (progP 100 ⟨[], []⟩ (scanned (1 + feeds (gapText [] [])) awP)))).2.2 = 0 := by kernel_rfl
  have e3 : (finP (outP (progP 100 ⟨[], []⟩ (scanned (1 + feeds (gapText [] [])) awP)))).1.funcs.length = 1 := by kernel_rfl
  have e4 : (fuAt (finP (outP (progP 100 ⟨[], []⟩ (scanned (1 + feeds (gapText [] [])) awP)))).1.funcs 0).body.length = 1 := by kernel_rfl
  have e5 : (stAt (fuAt (finP (outP (progP 100 ⟨[], []⟩ (scanned (1 + feeds (gapText [] [])) awP)))).1.funcs 0).body 0).kind = 8 := by kernel_rfl
  generalize finP (outP (progP 100 ⟨[], []⟩ (scanned (1 + feeds (gapText [] [])) awP))) = R at *
  obtain ⟨a, cap, b, off, pv, lv, bv, rfl, hc, _, hz, hall⟩ := hxf
  rw [e3] at hc hz hall
  obtain ⟨⟨_, _, _, g3⟩, _, _, hst⟩ := hall 0 (by decide)
  obtain ⟨a2, c2, hs2⟩ := hst.shape
  rw [hs2] at hst g3
  rcases hz with hz | ⟨rfl, _⟩
  · omega
  have hq : ∃ b2 o2, a2 = some ⟨b2, o2, none⟩ ∧ w'.cell? ⟨b2, o2, none⟩ = some (.int .i64 8) ∧ 1 ≤ c2 := by
    rw [← e5]
    cases hst with
    | mk _ _ _ b2 o2 sa st se hcap hfit ha h0 =>
      rcases ha with ha | ⟨ha, _⟩
      · omega
      · exact ⟨b2, o2, ha, by simpa using h0 0 (by omega), by omega⟩
  obtain ⟨b2, o2, rfl, hk, hc2⟩ := hq
  rw [e4] at g3
  obtain ⟨aa, an, ac, rfl⟩ : ∃ a n c, av = Value.slice a n c := by obtain ⟨a, c, h⟩ := hxa.yshape; exact ⟨a, _, c, h⟩
  refine ⟨hb, aa, an, ac, b, off, cap, b2, o2, c2, ?_, by simpa using g3, hk, hc, hc2⟩
  rw [he, hv, e1, e2, e3]
theorem aw_q (w : World) (hl : ZLib w) :
    Calls Tryz.prog 14 #[.string ⟨#[105, 110, 116, 32, 109, 97, 105, 110, 40, 41, 32, 123, 10]⟩] w fun e w' =>
      Below w.heap.size w w' ∧ ∃ aa an ac fa fn fc, e = .returned (.tuple #[.agg #[.slice aa an ac, .slice fa fn fc], .int .i64 40, .int .i64 2]) := by
  obtain ⟨h1, h2⟩ := itsB_of [] awQ awQ_ok
  refine (parse_its [] [] ygap_nil awQ h1 h2 (by decide) (by decide) 100 (by decide) w hl).mono ?_
  intro e w' hp
  obtain ⟨hb, v, he, av, fv, hv, hxa, hxf⟩ := hp
  obtain ⟨aa, an, ac, rfl⟩ : ∃ a n c, av = Value.slice a n c := by obtain ⟨a, c, h⟩ := hxa.yshape; exact ⟨a, _, c, h⟩
  obtain ⟨fa, fn, fc, rfl⟩ : ∃ a n c, fv = Value.slice a n c := by obtain ⟨a, c, h⟩ := hxf.yshape; exact ⟨a, _, c, h⟩
  refine ⟨hb, aa, an, ac, fa, fn, fc, ?_⟩
  rw [he, hv]
  rfl
theorem aw_x (w : World) (hl : ZLib w) :
    Calls Tryz.prog 13 #[.string ⟨#[97, 32, 45, 32, 98, 32, 45, 32, 99]⟩] w fun e w' =>
      Below w.heap.size w w' ∧ ∃ k o n s b off cap, e = .returned (.tuple #[.agg #[.int .i64 k, .int .i64 o, .int .i64 n, .string s, .slice (some ⟨b, off, none⟩) 2 cap], .int .i64 0, .int .i64 0]) ∧ w'.cell? ⟨b, off + 8, none⟩ = some (.string ⟨#[99]⟩) := by
  obtain ⟨h1, h2⟩ := itsB_of [] awX awX_ok
  refine (expr_its [] [] ygap_nil awX h1 h2 (by decide) (by decide) 100 (by decide) w hl).mono ?_
  intro e w' hp
  obtain ⟨hb, v, he, s, hv, hx, hn⟩ := hp
  have e1 : (finE (outE (climbP 100 1 (scanned (1 + feeds (gapText [] [])) awX)))).2.1 = 0 := by kernel_rfl
  have e2 : (finE (outE (climbP 100 1 (scanned (1 + feeds (gapText [] [])) awX)))).2.2 = 0 := by kernel_rfl
  have e3 : (finE (outE (climbP 100 1 (scanned (1 + feeds (gapText [] [])) awX)))).1.args.length = 2 := by kernel_rfl
  have e4 : (exAt (finE (outE (climbP 100 1 (scanned (1 + feeds (gapText [] [])) awX)))).1.args 1).name = [99] := by kernel_rfl
  generalize finE (outE (climbP 100 1 (scanned (1 + feeds (gapText [] [])) awX))) = R at *
  obtain ⟨a, cap, rfl⟩ := hx.shape
  obtain ⟨b, off, s2, rfl, _, _, _, _, h4, _⟩ := hx.cellAt 1 (by omega)
  rw [e4] at h4
  refine ⟨hb, R.1.kind, R.1.op, R.1.n, strOf R.1.name, b, off, cap, ?_, h4⟩
  rw [he, hv, e1, e2, e3]
end Go.Proofs.YtcfpfnoldgnloaaGreatDoor

namespace Go.Proofs.YtcfpfnoldgnloaaGreatDoor
open Go.RowKit
set_option maxHeartbeats 4000000
set_option maxRecDepth 100000

theorem yawake_any (w : World) (hl : ZLib w) :
    Calls Tryz.prog 11 #[] w fun e w' => e = .returned (.bool true) ∧ Below w.heap.size w w' := by
  have HL := Lib.hid hl; clear hl
  go_enter Tryz.func11, Tryz.ntmps11
  go_wp2_with fail
  refine (aw_p w HL.out).mono ?_
  rintro e w1 ⟨hb1, aa, an, ac, b, off, cap, b2, o2, c2, rfl, h3, hk, hc, hc2⟩
  have hal : Below w1.heap.size w1 (w1.alloc (.cells #[.slice aa an ac, .slice (some ⟨b, off, none⟩) 1 cap] 34)) := (Below.refl _ _).alloc (Nat.le_refl _) _
  have HO := Lib.hid (OwnAt.new w1 [.slice aa an ac, .slice (some ⟨b, off, none⟩) 1 cap] 34)
  have HL1 := Lib.hid ((HL.out.old hb1).old hal)
  have HB1 := Lib.hid (hb1.trans (hal.mono hb1.size))
  have H3 := Lib.hid (below_keeps hal h3)
  have HK := Lib.hid (below_keeps hal hk)
  clear hb1 h3 hk hal
  go_upto_region 2 with (fail)
  generalize w1.alloc (.cells #[.slice aa an ac, .slice (some ⟨b, off, none⟩) 1 cap] 34) = w2 at *
  obtain ⟨pb, hpb⟩ : ∃ pb, w1.heap.size = pb := ⟨_, rfl⟩
  rw [hpb] at HO ⊢
  clear hpb
  go_wp2_with fail
  refine (aw_q w2 HL1.out).mono ?_
  rintro e w3 ⟨hb3, a3, n3, d3, f3, m3, e3, rfl⟩
  have hal : Below w3.heap.size w3 (w3.alloc (.cells #[.slice a3 n3 d3, .slice f3 m3 e3] 34)) := (Below.refl _ _).alloc (Nat.le_refl _) _
  have HO3 := Lib.hid ((HO.out.old hb3).old hal)
  have HL3 := Lib.hid ((HL1.out.old hb3).old hal)
  have HB3 := Lib.hid (HB1.out.trans ((hb3.trans (hal.mono hb3.size)).mono HB1.out.size))
  have H33 := Lib.hid (below_keeps hal (below_keeps hb3 H3.out))
  have HK3 := Lib.hid (below_keeps hal (below_keeps hb3 HK.out))
  clear hb3 hal HO HL1 HB1 H3 HK
  go_upto_region 3 with (fail)
  generalize w3.alloc (.cells #[.slice a3 n3 d3, .slice f3 m3 e3] 34) = w4 at *
  go_wp2_with fail
  refine (aw_x w4 HL3.out).mono ?_
  rintro e w5 ⟨hb5, k, o, n, s, b5, off5, cap5, rfl, h5⟩
  have hal : Below w5.heap.size w5 (w5.alloc (.cells #[.int .i64 k, .int .i64 o, .int .i64 n, .string s, .slice (some ⟨b5, off5, none⟩) 2 cap5] 27)) := (Below.refl _ _).alloc (Nat.le_refl _) _
  have HO5 := Lib.hid ((HO3.out.old hb5).old hal)
  have HX5 := Lib.hid (OwnAt.new w5 [.int .i64 k, .int .i64 o, .int .i64 n, .string s, .slice (some ⟨b5, off5, none⟩) 2 cap5] 27)
  have HB5 := Lib.hid (HB3.out.trans ((hb5.trans (hal.mono hb5.size)).mono HB3.out.size))
  have H35 := Lib.hid (below_keeps hal (below_keeps hb5 H33.out))
  have HK5 := Lib.hid (below_keeps hal (below_keeps hb5 HK3.out))
  have H85 := Lib.hid (below_keeps hal h5)
  clear hb5 hal HO3 HL3 HB3 H33 HK3 h5
  go_upto_region 4 with (fail)
  generalize w5.alloc (.cells #[.int .i64 k, .int .i64 o, .int .i64 n, .string s, .slice (some ⟨b5, off5, none⟩) 2 cap5] 27) = w6 at *
  obtain ⟨xb, hxb⟩ : ∃ xb, w5.heap.size = xb := ⟨_, rfl⟩
  rw [hxb] at HX5 ⊢
  clear hxb
  have p1 := HO5.out.at 1 _ rfl
  have q4 := HX5.out.at 4 _ rfl
  have c3 := H35.out
  have ck := HK5.out
  have c8 := H85.out
  have hcI : (1 : Int) ≤ (cap : Int) := by omega
  go_wp2_with fail
  go_ret
  exact ⟨rfl, HB5.out⟩

def ypickOf (c n : Int) : Int := if c < 0 then (-(c + 1)) % n else c % n
theorem ypick_any (c n : Int) (hc : I64 c) (h0 : 0 < n) (h1 : n ≤ 9223372036854775807) (w : World) :
    Calls Tryz.prog 12 #[.int .i64 c, .int .i64 n] w fun e w' => e = .returned (.int .i64 (ypickOf c n)) ∧ w' = w := by
  obtain ⟨l, u⟩ := hc
  unfold ypickOf
  by_cases hneg : c < 0
  · rw [if_pos hneg]
    have hn0 : (n == 0) = false := by simp; omega
    go_enter Tryz.func12, Tryz.ntmps12
    go_wp2_with fail
    go_ret
    exact ⟨ret_int (by show -((c + 1).tmod n) = _; rw [← Int.neg_tmod, Int.tmod_eq_emod_of_nonneg (by omega)]), rfl⟩
  · rw [if_neg hneg]
    have hneg' : 0 ≤ c := by omega
    go_enter Tryz.func12, Tryz.ntmps12
    go_wp2_with fail
    go_ret
    exact ⟨rfl, rfl⟩
theorem ypick_range (c n : Int) (h : 0 < n) : ∃ k : Nat, ypickOf c n = k ∧ (k : Int) < n := by
  unfold ypickOf
  split
  · exact ⟨((-(c + 1)) % n).toNat, by have := Int.emod_nonneg (-(c + 1)) (show n ≠ 0 by omega); omega, by have := Int.emod_nonneg (-(c + 1)) (show n ≠ 0 by omega); have := Int.emod_lt_of_pos (-(c + 1)) h; omega⟩
  · exact ⟨(c % n).toNat, by have := Int.emod_nonneg c (show n ≠ 0 by omega); omega, by have := Int.emod_nonneg c (show n ≠ 0 by omega); have := Int.emod_lt_of_pos c h; omega⟩
end Go.Proofs.YtcfpfnoldgnloaaGreatDoor

namespace Go.Proofs.YtcfpfnoldgnloaaGreatDoor
open Go.RowKit
set_option maxHeartbeats 4000000
set_option maxRecDepth 100000

theorem pick2_any (c n : Int) (hc : I64 c) (h0 : 0 < n) (h1 : n ≤ 9223372036854775807) (w : World) :
    Calls Tryz.prog 135 #[.int .i64 c, .int .i64 n] w fun e w' => e = .returned (.int .i64 (pickOf c n)) ∧ w' = w := by
  obtain ⟨l, u⟩ := hc
  unfold pickOf
  by_cases hneg : c < 0
  · rw [if_pos hneg]
    have hn0 : (n == 0) = false := by simp; omega
    go_enter Tryz.func135, Tryz.ntmps135
    go_wp2_with fail
    go_ret
    exact ⟨ret_int (by show -((c + 1).tmod n) = _; rw [← Int.neg_tmod, Int.tmod_eq_emod_of_nonneg (by omega)]), rfl⟩
  · rw [if_neg hneg]
    have hneg' : 0 ≤ c := by omega
    go_enter Tryz.func135, Tryz.ntmps135
    go_wp2_with fail
    go_ret
    exact ⟨rfl, rfl⟩

/-- A slice of one byte as a text. -/
theorem conv_one (n : Int) (h0 : 0 ≤ n) (h1 : n < 256) (W : World) (b : Nat) (hc : W.cell? ⟨b, 0, none⟩ = some (.int .u8 n)) :
    (convert 77 9 (.slice (some ⟨b, 0, none⟩) 1 1)).run Tryz.prog W = .ok (.string (strOf [UInt8.ofNat n.toNat])) W := by
  refine run_convert_bytes_back (P := Tryz.prog) W 77 9 5 ⟨b, 0, none⟩ 1 [UInt8.ofNat n.toNat] Tryz.underlying77 Tryz.underlying5 Tryz.underlying9 (fun j hj => ?_)
  have hj0 : j = 0 := by simp at hj; omega
  subst hj0
  have e : ((UInt8.ofNat n.toNat).toNat : Int) = n := by
    rw [UInt8.toNat_ofNat']
    have : n.toNat % 2 ^ 8 = n.toNat := Nat.mod_eq_of_lt (by omega)
    omega
  show W.cell? _ = some (.int .u8 ((UInt8.ofNat n.toNat).toNat : Int))
  rw [e]; exact hc
theorem suf_at : ∀ j : Fin 12, ([Value.string ⟨#[]⟩, Value.string ⟨#[49]⟩, Value.string ⟨#[95]⟩, Value.string ⟨#[90, 57]⟩, Value.string ⟨#[105, 102]⟩, Value.string ⟨#[120]⟩, Value.string ⟨#[48]⟩, Value.string ⟨#[97, 97]⟩, Value.string ⟨#[105, 110, 116, 105, 110, 116]⟩, Value.string ⟨#[113, 55]⟩, Value.string ⟨#[66]⟩, Value.string ⟨#[48, 48]⟩] : List Value)[j.val]'(by simp) = .string (strOf (sufs.getD j.val [])) := by
  intro j
  obtain ⟨j, hj⟩ := j
  have : j = 0 ∨ j = 1 ∨ j = 2 ∨ j = 3 ∨ j = 4 ∨ j = 5 ∨ j = 6 ∨ j = 7 ∨ j = 8 ∨ j = 9 ∨ j = 10 ∨ j = 11 := by omega
  rcases this with rfl | rfl | rfl | rfl | rfl | rfl | rfl | rfl | rfl | rfl | rfl | rfl <;> rfl
theorem var_any (c : Int) (hc : I64 c) (w : World) :
    Calls Tryz.prog 83 #[.int .i64 c] w fun e w' => e = .returned (.string (strOf (varOf c))) ∧ Below w.heap.size w w' := by
  have hk := pickOf_range c 312 (by decide)
  have E : Hid (varOf c = UInt8.ofNat (97 + (pickOf c 312 % 26).toNat) :: sufs.getD (pickOf c 312 / 26).toNat []) := rfl
  rw [E.out]
  have HC := Lib.hid hc
  have HK : Hid (∀ w, Calls Tryz.prog 135 #[.int .i64 c, .int .i64 312] w fun e w' => e = .returned (.int .i64 (pickOf c 312)) ∧ w' = w) := fun w => pick2_any c 312 hc (by decide) (by decide) w
  clear hc E
  generalize pickOf c 312 = k at *
  obtain ⟨hk0, hk1⟩ := hk
  have hm0 : 0 ≤ k % 26 := Int.emod_nonneg _ (by decide)
  have hm1 : k % 26 < 26 := Int.emod_lt_of_pos _ (by decide)
  have hd0 : 0 ≤ k / 26 := by omega
  have hd1 : k / 26 < 12 := by omega
  have hd2 : (k / 26).toNat < 12 := by omega
  have HCV := conv_one (97 + k % 26) (by omega) (by omega)
  have HLD := suf_at ⟨(k / 26).toNat, hd2⟩
  dsimp only at HLD
  have hlen : (sufs.getD (k / 26).toNat []).length ≤ 6 := by
    have h : ∀ j : Fin 12, (sufs.getD j.val []).length ≤ 6 := by decide
    exact h ⟨_, hd2⟩
  generalize sufs.getD (k / 26).toNat [] = sf at *
  have hno : ¬ ((strOf [UInt8.ofNat (97 + k % 26).toNat]).size + (strOf sf).size > 9223372036854775807) := by
    show ¬ ([UInt8.ofNat (97 + k % 26).toNat].toArray.size + sf.toArray.size > _)
    simp; omega
  have hsb : Hid (strOf [UInt8.ofNat (97 + k % 26).toNat] ++ strOf sf = strOf (UInt8.ofNat (97 + (k % 26).toNat) :: sf)) := by
    show _ = _
    rw [show 97 + (k % 26).toNat = (97 + k % 26).toNat by omega]; rfl
  generalize strOf [UInt8.ofNat (97 + k % 26).toNat] = cb at *
  generalize hsf : strOf sf = sb at *
  have HSF := Lib.hid hsf
  clear hsf hlen
  go_enter Tryz.func83, Tryz.ntmps83
  go_wp2_with fail
  refine (HK.out _).mono ?_
  rintro r w2 ⟨he, hw⟩
  subst he; subst hw
  go_wp2_with fail
  go_region
  all_goals go_wp2_with fail
  all_goals
    go_ret
    refine ⟨?_, by repeat (first | exact Below.refl _ _ | refine Below.drew ?_ | refine Below.alloc ?_ (by simp) _)⟩
    exact congrArg (fun s => Ending.returned (Value.string s)) hsb.out
end Go.Proofs.YtcfpfnoldgnloaaGreatDoor

namespace Go.Proofs.YtcfpfnoldgnloaaGreatDoor
open Go.RowKit
set_option maxHeartbeats 4000000
set_option maxRecDepth 100000

abbrev scV (sc : Sc) (vv av fv : Value) : Value := .agg #[vv, av, fv, .bool sc.free, .bool sc.loop]
theorem gNext_i64 (raw : List Int) (a : Nat) (n : Int) (h : 0 < n) (h1 : n ≤ 1000000) : I64 (gNext raw a n).1 := by
  have := gNext_range raw a n h
  exact ⟨by omega, by omega⟩
theorem SrcAt.alloc {w : World} {s : Nat} {raw : List Int} {a : Nat} (h : SrcAt w s raw a) (o : Obj) : SrcAt (w.alloc o) s raw a := h.old ((Below.refl _ _).alloc (Nat.le_refl _) _)
theorem SFr.alloc {s : Nat} {w : World} (o : Obj) : SFr s w (w.alloc o) := SFr.of_below ((Below.refl _ _).alloc (Nat.le_refl _) _)

theorem name_raw (s : Nat) (raw : List Int) (a : Nat) (sc : Sc) (vv av fv lv : Value) (l : List Bs) (w : World) (hs : SrcAt w s raw a) (hl : StrsAt (· ≠ s) w l lv) (h : (sc.free || l.isEmpty) = true) :
    Calls Tryz.prog 69 #[scV sc vv av fv, .pointer (some ⟨s, 0, none⟩), lv] w (Takes w s raw (.string (strOf (gName sc.free l raw a).1)) (gName sc.free l raw a).2) := by
  obtain ⟨l1, l2, rfl⟩ := hl.shape
  have E : Hid (gName sc.free l raw a = (varOf (gNext raw a 312).1, (gNext raw a 312).2)) := by show _ = _; unfold gName; rw [if_pos h]
  rw [E.out]
  have HS1 := Lib.hid (hs.alloc (.cells #[vv, av, fv, .bool sc.free, .bool sc.loop] 73))
  have HF1 : Hid (SFr s w (w.alloc (.cells #[vv, av, fv, .bool sc.free, .bool sc.loop] 73))) := SFr.alloc _
  clear hs hl E
  have key : ∀ w1, SrcAt w1 s raw a → SFr s w w1 → Calls Tryz.prog 37 #[.pointer (some ⟨s, 0, none⟩), .int .i64 312] w1 (Takes w1 s raw (.int .i64 (gNext raw a 312).1) (gNext raw a 312).2) := fun w1 h1 h2 => next_any s raw a 312 w1 h1 (by decide) (by decide)
  have HK := Lib.hid key; clear key
  have HV : Hid (∀ w, Calls Tryz.prog 83 #[.int .i64 (gNext raw a 312).1] w fun e w' => e = .returned (.string (strOf (varOf (gNext raw a 312).1))) ∧ Below w.heap.size w w') := fun w => var_any _ (gNext_i64 raw a 312 (by decide) (by decide)) w
  generalize gNext raw a 312 = g at *
  cases hf : sc.free
  · have hl : l.length = 0 := by rw [hf] at h; simpa using h
    rw [hl]
    clear hl h
    rw [hf] at HS1 HF1
    go_enter Tryz.func69, Tryz.ntmps69
    go_wp2_with fail
    refine (HK.out _ HS1.out HF1.out).mono ?_
    rintro r w2 ⟨rfl, hs2, hf2⟩
    have HS2 := Lib.hid hs2; have HF2 := Lib.hid (HF1.out.trans hf2)
    clear hs2 hf2
    go_wp2_with fail
    refine (HV.out _).mono ?_
    rintro r w3 ⟨rfl, hb3⟩
    have HS3 := Lib.hid (HS2.out.old hb3); have HF3 := Lib.hid (HF2.out.trans (SFr.of_below hb3))
    clear hb3
    go_wp2_with fail
    go_ret
    exact ⟨rfl, HS3.out, HF3.out⟩
  · clear h
    rw [hf] at HS1 HF1
    go_enter Tryz.func69, Tryz.ntmps69
    go_wp2_with fail
    refine (HK.out _ HS1.out HF1.out).mono ?_
    rintro r w2 ⟨rfl, hs2, hf2⟩
    have HS2 := Lib.hid hs2; have HF2 := Lib.hid (HF1.out.trans hf2)
    clear hs2 hf2
    go_wp2_with fail
    refine (HV.out _).mono ?_
    rintro r w3 ⟨rfl, hb3⟩
    have HS3 := Lib.hid (HS2.out.old hb3); have HF3 := Lib.hid (HF2.out.trans (SFr.of_below hb3))
    clear hb3
    go_wp2_with fail
    go_ret
    exact ⟨rfl, HS3.out, HF3.out⟩
theorem name_of (s : Nat) (raw : List Int) (a : Nat) (sc : Sc) (vv av fv lv : Value) (l : List Bs) (w : World) (hs : SrcAt w s raw a) (hl : StrsAt (· ≠ s) w l lv) (h : (sc.free || l.isEmpty) = false) (hn : l.length ≤ 1000000) :
    Calls Tryz.prog 69 #[scV sc vv av fv, .pointer (some ⟨s, 0, none⟩), lv] w (Takes w s raw (.string (strOf (gName sc.free l raw a).1)) (gName sc.free l raw a).2) := by
  obtain ⟨l1, l2, rfl⟩ := hl.shape
  have hpos : 0 < l.length := gpos (by rw [h]; simp)
  have hf : sc.free = false := by revert h; cases sc.free <;> simp
  have E : Hid (gName sc.free l raw a = (l.getD (gNext raw a l.length).1.toNat [], (gNext raw a l.length).2)) := by show _ = _; unfold gName; rw [if_neg (by rw [h]; simp)]
  rw [E.out]
  have HS1 := Lib.hid (hs.alloc (.cells #[vv, av, fv, .bool sc.free, .bool sc.loop] 73))
  have HF1 : Hid (SFr s w (w.alloc (.cells #[vv, av, fv, .bool sc.free, .bool sc.loop] 73))) := SFr.alloc _
  have HK : Hid (∀ w1, SrcAt w1 s raw a → Calls Tryz.prog 37 #[.pointer (some ⟨s, 0, none⟩), .int .i64 l.length] w1 (Takes w1 s raw (.int .i64 (gNext raw a l.length).1) (gNext raw a l.length).2)) := fun w1 h1 => next_any s raw a l.length w1 h1 (by omega) (by omega)
  have hr := gNext_range raw a l.length (by omega)
  have HL := Lib.hid hl
  have hne : ((l.length : Int) == 0) = false := beq_eq_false_iff_ne.2 (by omega)
  clear hs hl E h
  have hi64 := gNext_i64 raw a l.length (by omega) (by omega)
  clear hi64
  generalize gNext raw a l.length = g at *
  obtain ⟨g, ga⟩ := g
  obtain ⟨g0, g1⟩ := hr
  dsimp only at g0 g1 HK ⊢
  obtain ⟨i, rfl⟩ := Int.eq_ofNat_of_zero_le g0
  rw [Int.toNat_natCast]
  have hi : i < l.length := by omega
  unfold scV
  rw [hf] at HS1 HF1 ⊢
  clear hf
  go_enter Tryz.func69, Tryz.ntmps69
  go_wp2_with fail
  refine (HK.out _ HS1.out).mono ?_
  rintro r w2 ⟨rfl, hs2, hf2⟩
  have HS2 := Lib.hid hs2; have HF2 := Lib.hid (HF1.out.trans hf2)
  clear hs2 hf2
  obtain ⟨b, off, rfl, hD, hbl, c⟩ := strsAt_at (StrsAt.keep HF2.out.keeps HL.out) i hi
  generalize l.getD i [] = x at *
  clear hD
  go_wp2_with fail
  go_ret
  exact ⟨rfl, HS2.out, HF2.out⟩
theorem name_take (s : Nat) (raw : List Int) (a : Nat) (sc : Sc) (vv av fv lv : Value) (l : List Bs) (w : World) (hs : SrcAt w s raw a) (hl : StrsAt (· ≠ s) w l lv) (hn : l.length ≤ 1000000) :
    Calls Tryz.prog 69 #[scV sc vv av fv, .pointer (some ⟨s, 0, none⟩), lv] w (Takes w s raw (.string (strOf (gName sc.free l raw a).1)) (gName sc.free l raw a).2) := by
  cases h : (sc.free || l.isEmpty)
  · exact name_of s raw a sc vv av fv lv l w hs hl h hn
  · exact name_raw s raw a sc vv av fv lv l w hs hl h
end Go.Proofs.YtcfpfnoldgnloaaGreatDoor

namespace Go.Proofs.YtcfpfnoldgnloaaGreatDoor
open Go.RowKit
set_option maxHeartbeats 4000000
set_option maxRecDepth 100000

theorem SrcAt.other {w : World} {s : Nat} {raw : List Int} {a : Nat} (h : SrcAt w s raw a) {k : Nat} (hk : s < k) (i : Nat) (v : Value) : SrcAt (w.setCell ⟨k, i, none⟩ v) s raw a := by
  obtain ⟨u, h1, h2, h3⟩ := h
  exact ⟨u, (Below.heap_setCell _ _ _ _ (by show s ≠ k; omega)).trans h1, h2.keep (keeps_set w (by omega) i v), h3⟩
theorem array_raw (s : Nat) (raw : List Int) (a : Nat) (sc : Sc) (vv av fv : Value) (w : World) (hs : SrcAt w s raw a) (hl : ArsAt (· ≠ s) w sc.arrays av) (h : (sc.free || sc.arrays.isEmpty) = true) :
    Calls Tryz.prog 38 #[scV sc vv av fv, .pointer (some ⟨s, 0, none⟩)] w (Takes w s raw (.agg #[.string (strOf (gArray sc.free sc.arrays raw a).1.name), .int .i64 (gArray sc.free sc.arrays raw a).1.size]) (gArray sc.free sc.arrays raw a).2) := by
  obtain ⟨l1, l2, rfl⟩ := hl.shape
  have hsl := hs.lt
  have E : Hid (gArray sc.free sc.arrays raw a = (⟨varOf (gNext raw a 312).1, 1 + (gNext raw (gNext raw a 312).2 1000).1⟩, (gNext raw (gNext raw a 312).2 1000).2)) := by show _ = _; unfold gArray; rw [if_pos h]
  rw [E.out]
  have HK : Hid (∀ w1, SrcAt w1 s raw a → Calls Tryz.prog 37 #[.pointer (some ⟨s, 0, none⟩), .int .i64 312] w1 (Takes w1 s raw (.int .i64 (gNext raw a 312).1) (gNext raw a 312).2)) := fun w1 h1 => next_any s raw a 312 w1 h1 (by decide) (by decide)
  have HV : Hid (∀ w, Calls Tryz.prog 83 #[.int .i64 (gNext raw a 312).1] w fun e w' => e = .returned (.string (strOf (varOf (gNext raw a 312).1))) ∧ Below w.heap.size w w') := fun w => var_any _ (gNext_i64 raw a 312 (by decide) (by decide)) w
  have HN : Hid (∀ w1, SrcAt w1 s raw (gNext raw a 312).2 → Calls Tryz.prog 37 #[.pointer (some ⟨s, 0, none⟩), .int .i64 1000] w1 (Takes w1 s raw (.int .i64 (gNext raw (gNext raw a 312).2 1000).1) (gNext raw (gNext raw a 312).2 1000).2)) := fun w1 h1 => next_any s raw _ 1000 w1 h1 (by decide) (by decide)
  have hr := gNext_range raw (gNext raw a 312).2 1000 (by decide)
  have hcase : (sc.free = false ∧ sc.arrays.length = 0) ∨ sc.free = true := by
    revert h; cases sc.free
    · intro h; exact .inl ⟨rfl, by simpa using h⟩
    · intro _; exact .inr rfl
  clear E h hl
  unfold scV
  generalize gNext raw (gNext raw a 312).2 1000 = q at *
  generalize gNext raw a 312 = g at *
  obtain ⟨r0, r1⟩ := hr
  generalize sc.free = fb at *
  generalize sc.arrays.length = n at *
  have hb1 : Below w.heap.size w ((w.alloc (.cells #[vv, .slice l1 n l2, fv, .bool fb, .bool sc.loop] 73)).alloc (.cells #[.string ⟨#[]⟩, .int .i64 0] 85)) := ((Below.refl _ _).alloc (Nat.le_refl _) _).alloc (by simp) _
  have HS1 := Lib.hid (hs.old hb1)
  have HF1 : Hid (SFr s w ((w.alloc (.cells #[vv, .slice l1 n l2, fv, .bool fb, .bool sc.loop] 73)).alloc (.cells #[.string ⟨#[]⟩, .int .i64 0] 85))) := SFr.of_below hb1
  have hr1 := OwnAt.new (w.alloc (.cells #[vv, .slice l1 n l2, fv, .bool fb, .bool sc.loop] 73)) [.string ⟨#[]⟩, .int .i64 0] 85
  rw [show (w.alloc (.cells #[vv, .slice l1 n l2, fv, .bool fb, .bool sc.loop] 73)).heap.size = w.heap.size + 1 by simp] at hr1
  have HZ : Hid (w.heap.size + 1 ≠ s) := by show _ ≠ _; omega
  have HR := Lib.hid hr1
  clear hs hb1 hr1
  have hsx : s < w.heap.size + 1 := by omega
  have hge : w.heap.size ≤ w.heap.size + 1 := by omega
  rcases hcase with ⟨rfl, rfl⟩ | rfl
  all_goals
    go_enter Tryz.func38, Tryz.ntmps38
    go_wp2_with fail
    refine (HK.out _ HS1.out).mono ?_
    rintro r w2 ⟨rfl, hs2, hf2⟩
    have HS2 := Lib.hid hs2; have HF2 := Lib.hid (HF1.out.trans hf2); have HR2 := Lib.hid (HR.out.sfr hf2 HZ.out)
    clear hs2 hf2
    go_wp2_with fail
    refine (HV.out _).mono ?_
    rintro r w3 ⟨rfl, hb3⟩
    have HS3 := Lib.hid (HS2.out.old hb3); have HF3 := Lib.hid (HF2.out.trans (SFr.of_below hb3)); have HR3 := Lib.hid (HR2.out.old hb3)
    clear hb3
    go_wp2_with fail
    refine (HN.out _ HS3.out).mono ?_
    rintro r w4 ⟨rfl, hs4, hf4⟩
    have HS4 := Lib.hid hs4; have HF4 := Lib.hid (HF3.out.trans hf4); have HR4 := Lib.hid (HR3.out.sfr hf4 HZ.out)
    clear hs4 hf4
    have c0 := HR4.out.at 0 _ rfl
    have c1 := HR4.out.at 1 _ rfl
    have z0 := HR4.out.fz 0
    have z1 := HR4.out.fz 1
    have HR5 := Lib.hid ((HR4.out.set 0 (.string (strOf (varOf g.1)))).set 1 (.int .i64 (1 + q.1)))
    have HS5 := Lib.hid ((HS4.out.other hsx 0 (.string (strOf (varOf g.1)))).other hsx 1 (.int .i64 (1 + q.1)))
    have HF5 := Lib.hid ((HF4.out.setNew hge 0 (.string (strOf (varOf g.1)))).setNew hge 1 (.int .i64 (1 + q.1)))
    go_wp2_with fail
    have d0 := HR5.out.at 0 _ rfl
    have d1 := HR5.out.at 1 _ rfl
    exact bodyPost_ret (v := .agg #[.string (strOf (varOf g.1)), .int .i64 (1 + q.1)]) (by simp [results, Tryz.results38, go_sem, d0, d1]) rfl ⟨rfl, HS5.out, HF5.out⟩
theorem array_of (s : Nat) (raw : List Int) (a : Nat) (sc : Sc) (vv av fv : Value) (w : World) (hs : SrcAt w s raw a) (hl : ArsAt (· ≠ s) w sc.arrays av) (h : (sc.free || sc.arrays.isEmpty) = false) (hn : sc.arrays.length ≤ 1000000) :
    Calls Tryz.prog 38 #[scV sc vv av fv, .pointer (some ⟨s, 0, none⟩)] w (Takes w s raw (.agg #[.string (strOf (gArray sc.free sc.arrays raw a).1.name), .int .i64 (gArray sc.free sc.arrays raw a).1.size]) (gArray sc.free sc.arrays raw a).2) := by
  obtain ⟨l1, l2, rfl⟩ := hl.shape
  have hsl := hs.lt
  have hpos : 0 < sc.arrays.length := gpos (by rw [h]; simp)
  have hf : sc.free = false := by revert h; cases sc.free <;> simp
  have E : Hid (gArray sc.free sc.arrays raw a = (arAt sc.arrays (gNext raw a sc.arrays.length).1.toNat, (gNext raw a sc.arrays.length).2)) := by show _ = _; unfold gArray; rw [if_neg (by rw [h]; simp)]
  rw [E.out]
  have HK : Hid (∀ w1, SrcAt w1 s raw a → Calls Tryz.prog 37 #[.pointer (some ⟨s, 0, none⟩), .int .i64 sc.arrays.length] w1 (Takes w1 s raw (.int .i64 (gNext raw a sc.arrays.length).1) (gNext raw a sc.arrays.length).2)) := fun w1 h1 => next_any s raw a sc.arrays.length w1 h1 (by omega) (by omega)
  have hr := gNext_range raw a sc.arrays.length (by omega)
  clear E h
  generalize gNext raw a sc.arrays.length = g at *
  obtain ⟨g, ga⟩ := g
  obtain ⟨g0, g1⟩ := hr
  dsimp only at g0 g1 HK ⊢
  obtain ⟨i, rfl⟩ := Int.eq_ofNat_of_zero_le g0
  rw [Int.toNat_natCast]
  have hi : i < sc.arrays.length := by omega
  obtain ⟨eb, off, rfl, hD, hbl, c0, c1⟩ := ArsAt.cellAt hl i hi
  have heb : eb ≠ s := hD
  generalize arAt sc.arrays i = x at *
  have hne : ((sc.arrays.length : Int) == 0) = false := beq_eq_false_iff_ne.2 (by omega)
  clear hl hD
  unfold scV
  rw [hf]
  clear hf
  generalize sc.arrays.length = n at *
  have hb1 : Below w.heap.size w ((w.alloc (.cells #[vv, .slice (some ⟨eb, off, none⟩) n l2, fv, .bool false, .bool sc.loop] 73)).alloc (.cells #[.string ⟨#[]⟩, .int .i64 0] 85)) := ((Below.refl _ _).alloc (Nat.le_refl _) _).alloc (by simp) _
  have HS1 := Lib.hid (hs.old hb1)
  have HF1 : Hid (SFr s w ((w.alloc (.cells #[vv, .slice (some ⟨eb, off, none⟩) n l2, fv, .bool false, .bool sc.loop] 73)).alloc (.cells #[.string ⟨#[]⟩, .int .i64 0] 85))) := SFr.of_below hb1
  have hr1 := OwnAt.new (w.alloc (.cells #[vv, .slice (some ⟨eb, off, none⟩) n l2, fv, .bool false, .bool sc.loop] 73)) [.string ⟨#[]⟩, .int .i64 0] 85
  rw [show (w.alloc (.cells #[vv, .slice (some ⟨eb, off, none⟩) n l2, fv, .bool false, .bool sc.loop] 73)).heap.size = w.heap.size + 1 by simp] at hr1
  have hc1 := (OwnAt.new w [vv, .slice (some ⟨eb, off, none⟩) n l2, fv, .bool false, .bool sc.loop] 73).alloc (.cells #[.string ⟨#[]⟩, .int .i64 0] 85)
  have e0 := below_keeps hb1 c0
  have e1 := below_keeps hb1 c1
  have HZ : Hid (w.heap.size + 1 ≠ s) := by show _ ≠ _; omega
  have HY : Hid (w.heap.size ≠ s) := by show _ ≠ _; omega
  have HR := Lib.hid hr1; have HC := Lib.hid hc1
  have hsx : s < w.heap.size + 1 := by omega
  have hge : w.heap.size ≤ w.heap.size + 1 := by omega
  clear hs hb1 hr1 hc1 c0 c1
  go_enter Tryz.func38, Tryz.ntmps38
  go_wp2_with fail
  generalize (w.alloc (.cells #[vv, .slice (some ⟨eb, off, none⟩) n l2, fv, .bool false, .bool sc.loop] 73)).alloc (.cells #[.string ⟨#[]⟩, .int .i64 0] 85) = W at *
  have a1 := HC.out.at 1 _ rfl
  have hdr : Below W.heap.size W W.drew := (Below.refl _ _).drew
  have HSd := Lib.hid (HS1.out.old hdr)
  clear hdr
  have hbe : eb ≠ w.heap.size + 1 := by omega
  have hX1 : w.heap.size + 1 < W.heap.size := HR.out.lt
  have z0 : W.frozen? ⟨w.heap.size + 1, 0, none⟩ = false := HR.out.fz 0
  have z1 : W.frozen? ⟨w.heap.size + 1, 1, none⟩ = false := HR.out.fz 1
  have y0 := HR.out.at 0 _ rfl
  have y1 := HR.out.at 1 _ rfl
  go_region_held3 (fun w' => w'.cell? ⟨w.heap.size, 1, none⟩ = some (.slice (some ⟨eb, off, none⟩) n l2) ∧ w'.cell? ⟨eb, off + i * 2, none⟩ = some (.string (strOf x.name)) ∧ w'.cell? ⟨eb, off + i * 2 + 1, none⟩ = some (.int .i64 x.size)) (first | (simp [*, World.cell?_alloc_lt, cell_set_ne]; done) | go_keep) (first
    | (go_at_call 37; refine (HK.out _ HSd.out).mono ?_; rintro r w4 ⟨he, hs4, hf4⟩; subst he; have HS4 := Lib.hid hs4; have HF4 := Lib.hid (HF1.out.trans ((SFr.of_below (Below.refl _ _).drew).trans hf4)); have hR4 := (HR.out.old (Below.refl _ _).drew).sfr hf4 HZ.out; have HR4 := Lib.hid hR4; have k1 : w4.cell? ⟨w.heap.size, 1, none⟩ = some (.slice (some ⟨eb, off, none⟩) n l2) := hf4.cell HY.out a1; have m0 : w4.cell? ⟨eb, off + i * 2, none⟩ = some (.string (strOf x.name)) := hf4.cell heb e0; have m1 : w4.cell? ⟨eb, off + i * 2 + 1, none⟩ = some (.int .i64 x.size) := hf4.cell heb e1; have u0 := hR4.at 0 _ rfl; have u1 := hR4.at 1 _ rfl; have v0 := hR4.fz 0; have v1 := hR4.fz 1; have hX4 : w.heap.size + 1 < w4.heap.size := hR4.lt; clear hR4 hs4 hf4))
  go_wp2_with fail
  have HR5 := Lib.hid ((HR4.out.set 0 (.string (strOf x.name))).set 1 (.int .i64 x.size))
  have HS5 := Lib.hid ((HS4.out.other hsx 0 (.string (strOf x.name))).other hsx 1 (.int .i64 x.size))
  have HF5 := Lib.hid ((HF4.out.setNew hge 0 (.string (strOf x.name))).setNew hge 1 (.int .i64 x.size))
  have d0 := HR5.out.at 0 _ rfl
  have d1 := HR5.out.at 1 _ rfl
  exact bodyPost_ret (v := .agg #[.string (strOf x.name), .int .i64 x.size]) (by simp [results, Tryz.results38, go_sem, d0, d1]) rfl ⟨rfl, HS5.out, HF5.out⟩
theorem array_take (s : Nat) (raw : List Int) (a : Nat) (sc : Sc) (vv av fv : Value) (w : World) (hs : SrcAt w s raw a) (hl : ArsAt (· ≠ s) w sc.arrays av) (hn : sc.arrays.length ≤ 1000000) :
    Calls Tryz.prog 38 #[scV sc vv av fv, .pointer (some ⟨s, 0, none⟩)] w (Takes w s raw (.agg #[.string (strOf (gArray sc.free sc.arrays raw a).1.name), .int .i64 (gArray sc.free sc.arrays raw a).1.size]) (gArray sc.free sc.arrays raw a).2) := by
  cases h : (sc.free || sc.arrays.isEmpty)
  · exact array_of s raw a sc vv av fv w hs hl h hn
  · exact array_raw s raw a sc vv av fv w hs hl h
end Go.Proofs.YtcfpfnoldgnloaaGreatDoor

namespace Go.Proofs.YtcfpfnoldgnloaaGreatDoor
open Go.RowKit
set_option maxHeartbeats 4000000
set_option maxRecDepth 100000

/-- A scope in memory. -/
structure ScAt (s : Nat) (w : World) (sc : Sc) (vv av fv : Value) : Prop where
  vars : StrsAt (· ≠ s) w sc.vars vv
  arrays : ArsAt (· ≠ s) w sc.arrays av
  funcs : FusAt (· ≠ s) w sc.funcs fv
  v1 : sc.vars.length ≤ 1000000
  a1 : sc.arrays.length ≤ 1000000
  f1 : sc.funcs.length ≤ 1000000
  p1 : ∀ f, f ∈ sc.funcs → f.params.length ≤ 1000000
theorem ScAt.sfr {s : Nat} {w w' : World} {sc : Sc} {vv av fv : Value} (h : ScAt s w sc vv av fv) (hf : SFr s w w') : ScAt s w' sc vv av fv :=
  ⟨h.vars.keep hf.keeps, h.arrays.keep hf.keeps, h.funcs.keep hf.keeps, h.v1, h.a1, h.f1, h.p1⟩
/-- What a function leaves that gives a new expression. -/
def GivesEx (w : World) (s : Nat) (raw : List Int) (x : Ex × Nat) (r : Ending) (w' : World) : Prop :=
  ∃ v, r = .returned (exV x.1 v) ∧ SrcAt w' s raw x.2 ∧ SFr s w w' ∧ ExsAt (w.heap.size ≤ ·) w' x.1.args v ∧ I64 x.1.n
/-- The contract of expr at a depth. -/
def ExprTake (d : Nat) : Prop := ∀ (s : Nat) (raw : List Int) (a : Nat) (sc : Sc) (vv av fv : Value) (w : World), SrcAt w s raw a → ScAt s w sc vv av fv →
  Calls Tryz.prog 31 #[scV sc vv av fv, .pointer (some ⟨s, 0, none⟩), .int .i64 d] w (GivesEx w s raw (gExpr sc raw d a))
theorem hasVars_eq (sc : Sc) : sc.hasVars = (decide (0 < sc.vars.length) || sc.free) := by
  unfold Sc.hasVars; cases sc.vars <;> simp
theorem hasArrays_eq (sc : Sc) : sc.hasArrays = (decide (0 < sc.arrays.length) || sc.free) := by
  unfold Sc.hasArrays; cases sc.arrays <;> simp
theorem hasFuncs_eq (sc : Sc) : sc.hasFuncs = (decide (0 < sc.funcs.length) || sc.free) := by
  unfold Sc.hasFuncs; cases sc.funcs <;> simp
/-- What expr makes, by the kind. -/
def gTop (sc : Sc) (raw : List Int) (d a : Nat) : Ex × Nat := gKind sc raw (gExpr sc raw (d - 1)) (gK raw d a) (gNext raw a 12).2
theorem gKind_low (sc : Sc) (raw : List Int) (g h : Nat → Ex × Nat) (k : Int) (a : Nat) (hk : k < 4) : gKind sc raw g k a = gKind sc raw h k a := by
  unfold gKind
  split
  · rfl
  split
  · rfl
  simp only [hk, if_true]
theorem gExpr_top (sc : Sc) (raw : List Int) (d a : Nat) : gExpr sc raw d a = gTop sc raw d a := by
  cases d with
  | zero => rw [gExpr]; unfold gStep gTop; exact gKind_low _ _ _ _ _ _ (gK_low raw 0 a (by omega))
  | succ d => rw [gExpr]; unfold gStep gTop; rw [Nat.add_sub_cancel]
end Go.Proofs.YtcfpfnoldgnloaaGreatDoor
