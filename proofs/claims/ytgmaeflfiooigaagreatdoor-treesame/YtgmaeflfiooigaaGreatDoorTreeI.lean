/-
  Plain functions: raw programs, made of raw numbers. No program in sight.
  Plain functions: raw statements and programs, made of raw numbers; they are right. No program in sight.
-/
import Derived.Test.YtgmaeflfiooigaaGreatDoorTreeA
set_option linter.unusedVariables false
set_option linter.unusedSimpArgs false
namespace Go.Proofs.YtgmaeflfiooigaaGreatDoor

/-- Which of n things a raw number speaks of. -/
def pickOf (c n : Int) : Int := (if c < 0 then -(c + 1) else c) % n
theorem pickOf_range (c n : Int) (h : 0 < n) : 0 ≤ pickOf c n ∧ pickOf c n < n := ⟨Int.emod_nonneg _ (by omega), Int.emod_lt_of_pos _ h⟩
/-- The next raw number, of n things; where the next one stands. -/
def gNext (raw : List Int) (a : Nat) (n : Int) : Int × Nat := if raw.length ≤ a then (0, a) else (pickOf (raw.getD a 0) n, a + 1)
theorem gNext_range (raw : List Int) (a : Nat) (n : Int) (h : 0 < n) : 0 ≤ (gNext raw a n).1 ∧ (gNext raw a n).1 < n := by
  unfold gNext; split
  · exact ⟨Int.le_refl _, h⟩
  · exact pickOf_range _ _ h
theorem gNext_le (raw : List Int) (a : Nat) (n : Int) (h : a ≤ raw.length) : (gNext raw a n).2 ≤ raw.length := by
  unfold gNext; split
  · exact h
  · show a + 1 ≤ _; omega
def sufs : List Bs := [[], [49], [95], [90, 57], [105, 102], [120], [48], [97, 97], [105, 110, 116, 105, 110, 116], [113, 55], [66], [48, 48]]
def varOf (c : Int) : Bs := UInt8.ofNat (97 + (pickOf c 312 % 26).toNat) :: sufs.getD (pickOf c 312 / 26).toNat []
theorem var_all : ∀ k : Fin 312, isName (UInt8.ofNat (97 + (k.val % 26)) :: sufs.getD (k.val / 26) []) = true := by decide +kernel
theorem varOf_name (c : Int) : isName (varOf c) = true := by
  have h := pickOf_range c 312 (by decide)
  have q := var_all ⟨(pickOf c 312).toNat, by omega⟩
  unfold varOf
  have e1 : (pickOf c 312 % 26).toNat = (pickOf c 312).toNat % 26 := by omega
  have e2 : (pickOf c 312 / 26).toNat = (pickOf c 312).toNat / 26 := by omega
  rw [e1, e2]; exact q
structure Sc where
  vars : List Bs
  arrays : List Ar
  funcs : List Fu
  free : Bool
  loop : Bool
def gName (free : Bool) (l : List Bs) (raw : List Int) (a : Nat) : Bs × Nat :=
  if free || l.isEmpty then (varOf (gNext raw a 312).1, (gNext raw a 312).2) else (l.getD (gNext raw a l.length).1.toNat [], (gNext raw a l.length).2)
def gArray (free : Bool) (l : List Ar) (raw : List Int) (a : Nat) : Ar × Nat :=
  if free || l.isEmpty then (⟨varOf (gNext raw a 312).1, 1 + (gNext raw (gNext raw a 312).2 1000).1⟩, (gNext raw (gNext raw a 312).2 1000).2) else (arAt l (gNext raw a l.length).1.toNat, (gNext raw a l.length).2)
def numOf (n j : Int) : Int :=
  if j = 0 then 0 else if j = 1 then 1 else if j = 2 then 2 else if j = 3 then 3 else if j = 4 then n else if j = 5 then n * n else if j = 6 then 2 ^ (n % 63).toNat else 9223372036854775807
/-- So many, one behind the other. -/
def gMany (g : Nat → Ex × Nat) : Nat → Nat → List Ex × Nat
  | 0, a => ([], a)
  | c + 1, a => ((gMany g c a).1 ++ [(g (gMany g c a).2).1], (g (gMany g c a).2).2)
def gCall (sc : Sc) (raw : List Int) (g : Nat → Ex × Nat) (a : Nat) : Ex × Nat :=
  if sc.free || sc.funcs.isEmpty then
    let r := gNext raw a 312; let q := gNext raw r.2 7; let m := gMany g q.1.toNat q.2
    (.mk 5 0 0 (varOf r.1) m.1, m.2)
  else
    let r := gNext raw a sc.funcs.length; let f := fuAt sc.funcs r.1.toNat; let m := gMany g f.params.length r.2
    (.mk 5 0 0 f.name m.1, m.2)
def Sc.hasVars (sc : Sc) : Bool := !sc.vars.isEmpty || sc.free
def Sc.hasArrays (sc : Sc) : Bool := !sc.arrays.isEmpty || sc.free
def Sc.hasFuncs (sc : Sc) : Bool := !sc.funcs.isEmpty || sc.free
def gK (raw : List Int) (d a : Nat) : Int := if d < 2 then (gNext raw a 12).1 % 4 else (gNext raw a 12).1
/-- What is made of the kind k, where the next number stands at a. -/
def gKind (sc : Sc) (raw : List Int) (g : Nat → Ex × Nat) (k : Int) (a : Nat) : Ex × Nat :=
  if (k = 1 ∨ k = 2) ∧ sc.hasVars = true then
    let n := gName sc.free sc.vars raw a
    (.mk 2 0 0 n.1 [], n.2)
  else if k = 3 ∧ (gNext raw a 3).1 = 2 then (.mk 7 0 0 [] [], (gNext raw a 3).2)
  else if k < 4 then
    let b := if k = 3 then (gNext raw a 3).2 else a
    let n := gNext raw b 1000; let j := gNext raw n.2 8
    (.mk 1 0 (numOf n.1 j.1) [] [], j.2)
  else if k = 4 then
    let o := gNext raw a 3; let x := g o.2
    (.mk 3 (17 + o.1) 0 [] [x.1], x.2)
  else if k = 5 ∧ sc.hasArrays = true then
    let n := gArray sc.free sc.arrays raw a; let x := g n.2
    (.mk 6 0 0 n.1.name [x.1], x.2)
  else if k = 6 ∧ sc.hasFuncs = true then gCall sc raw g a
  else
    let o := gNext raw a 16; let x := g o.2; let y := g x.2
    (.mk 4 (1 + o.1) 0 [] [x.1, y.1], y.2)
def gStep (sc : Sc) (raw : List Int) (d : Nat) (g : Nat → Ex × Nat) (a : Nat) : Ex × Nat := gKind sc raw g (gK raw d a) (gNext raw a 12).2
def gExpr (sc : Sc) (raw : List Int) : Nat → Nat → Ex × Nat
  | 0 => gStep sc raw 0 (fun a => (Ex.nil, a))
  | d + 1 => gStep sc raw (d + 1) (gExpr sc raw d)

/-- A scope whose names are names. -/
structure Sc.Ok (sc : Sc) : Prop where
  vars : ∀ x, x ∈ sc.vars → isName x = true
  arrays : ∀ x, x ∈ sc.arrays → isName x.name = true
  funcs : ∀ x, x ∈ sc.funcs → isName x.name = true ∧ x.params.length ≤ 6
theorem gmem {α : Type} {l : List α} {d : α} {i : Nat} (h : i < l.length) : l.getD i d ∈ l := by
  rw [List.getD_eq_getElem?_getD, List.getElem?_eq_getElem h]; exact List.getElem_mem h
theorem gpos {α : Type} {l : List α} {b : Bool} (h : ¬ (b || l.isEmpty) = true) : 0 < l.length := by
  cases l with
  | nil => simp at h
  | cons x l => simp
theorem gName_ok {sc : Sc} (h : sc.Ok) (raw : List Int) (a : Nat) : isName (gName sc.free sc.vars raw a).1 = true := by
  unfold gName; split
  · exact varOf_name _
  · rename_i hn
    have hl := gpos hn
    have := gNext_range raw a sc.vars.length (by omega)
    exact h.vars _ (gmem (by omega))
theorem gArray_ok {sc : Sc} (h : sc.Ok) (raw : List Int) (a : Nat) : isName (gArray sc.free sc.arrays raw a).1.name = true := by
  unfold gArray; split
  · exact varOf_name _
  · rename_i hn
    have hl := gpos hn
    have := gNext_range raw a sc.arrays.length (by omega)
    exact h.arrays _ (gmem (by omega))
def GoodEx (d : Nat) (e : Ex) : Prop := deepOk (max d 1) e = true ∧ wellOk e = true
theorem gMany_len (g : Nat → Ex × Nat) : ∀ c a, (gMany g c a).1.length = c
  | 0, a => rfl
  | c + 1, a => by rw [gMany]; simp [gMany_len g c a]
theorem gMany_all (g : Nat → Ex × Nat) (P : Ex → Prop) (hg : ∀ a, P (g a).1) : ∀ c a, ∀ x, x ∈ (gMany g c a).1 → P x
  | 0, a, x, hx => by cases hx
  | c + 1, a, x, hx => by
    rw [gMany] at hx
    rcases List.mem_append.1 hx with h | h
    · exact gMany_all g P hg c a x h
    · rw [List.mem_singleton.1 h]; exact hg _
theorem good_mk {d : Nat} {k o n : Int} {nm : Bs} {args : List Ex} (hh : wellHere (.mk k o n nm args) = true) (ha : ∀ x, x ∈ args → GoodEx d x) (hd : args = [] ∨ 1 ≤ d) : GoodEx (d + 1) (.mk k o n nm args) := by
  refine ⟨?_, ?_⟩
  · rw [show max (d + 1) 1 = d + 1 by omega]
    show args.all (deepOk d) = true
    rw [List.all_eq_true]
    intro x hx
    have h1 := (ha x hx).1
    rcases hd with rfl | hd
    · cases hx
    · rwa [show max d 1 = d by omega] at h1
  · rw [wellOk_eq, hh, Bool.true_and, List.all_eq_true]
    exact fun x hx => (ha x hx).2
theorem good_leaf {d : Nat} {k o n : Int} {nm : Bs} (hh : wellHere (.mk k o n nm []) = true) : GoodEx d (.mk k o n nm []) := by
  refine ⟨?_, ?_⟩
  · obtain ⟨m, hm⟩ : ∃ m, max d 1 = m + 1 := ⟨max d 1 - 1, by omega⟩
    rw [hm]; rfl
  · rw [wellOk_eq, hh, Bool.true_and]; rfl
theorem numOf_range (n j : Int) (h : 0 ≤ n ∧ n < 1000) : 0 ≤ numOf n j ∧ numOf n j ≤ 9223372036854775807 := by
  unfold numOf
  repeat' split
  all_goals try omega
  · constructor
    · exact Int.mul_nonneg h.1 h.1
    · have : n * n ≤ 999 * 999 := Int.mul_le_mul (by omega) (by omega) (by omega) (by omega)
      omega
  · have h1 : (n % 63).toNat ≤ 62 := by omega
    have h2 : (2 : Nat) ^ (n % 63).toNat ≤ 2 ^ 62 := Nat.pow_le_pow_right (by decide) h1
    have h3 : ((2 : Int) ^ (n % 63).toNat) = ((2 ^ (n % 63).toNat : Nat) : Int) := by simp
    rw [h3]
    constructor
    · exact Int.natCast_nonneg _
    · have : (2 : Nat) ^ 62 ≤ 9223372036854775807 := by decide
      exact Int.ofNat_le.2 (Nat.le_trans h2 this)
theorem levelOf_ops : ∀ i : Fin 16, 0 < levelOf (1 + (i.val : Int)) := by decide +kernel
theorem level_op (o : Int) (h : 0 ≤ o ∧ o < 16) : 0 < levelOf (1 + o) := by
  have := levelOf_ops ⟨o.toNat, by omega⟩
  simpa only [Int.toNat_of_nonneg h.1] using this
theorem gKind_ok {sc : Sc} (hs : sc.Ok) (raw : List Int) (d : Nat) (g : Nat → Ex × Nat) (k : Int) (hk : 4 ≤ k → 1 ≤ d ∧ ∀ a, GoodEx d (g a).1) (a : Nat) : GoodEx (d + 1) (gKind sc raw g k a).1 := by
  unfold gKind
  split
  · refine good_leaf ?_
    have := gName_ok hs raw a
    simp [wellHere, onlyOk, onlyOp, onlyN, onlyName, onlyArgs, Ex.kind, Ex.op, Ex.n, Ex.name, Ex.args, this]
  split
  · exact good_leaf (by decide)
  split
  · refine good_leaf ?_
    have h1 := gNext_range raw (if k = 3 then (gNext raw a 3).2 else a) 1000 (by decide)
    have h2 := (numOf_range _ (gNext raw (gNext raw (if k = 3 then (gNext raw a 3).2 else a) 1000).2 8).1 h1).1
    simp only [wellHere, onlyOk, onlyOp, onlyN, onlyName, onlyArgs, Ex.kind, Ex.op, Ex.n, Ex.name, Ex.args]
    simp [h2]
  rename_i h1 h2 h3
  obtain ⟨hk, hg⟩ := hk (by omega)
  split
  · refine good_mk ?_ (fun x hx => by rw [List.mem_singleton.1 hx]; exact hg _) (.inr hk)
    have := gNext_range raw a 3 (by decide)
    have e : 17 + (gNext raw a 3).1 = 17 ∨ 17 + (gNext raw a 3).1 = 18 ∨ 17 + (gNext raw a 3).1 = 19 := by omega
    simp only [wellHere, onlyOk, onlyOp, onlyN, onlyName, onlyArgs, Ex.kind, Ex.op, Ex.n, Ex.name, Ex.args]
    simp [e]
  split
  · refine good_mk ?_ (fun x hx => by rw [List.mem_singleton.1 hx]; exact hg _) (.inr hk)
    have := gArray_ok hs raw a
    simp [wellHere, onlyOk, onlyOp, onlyN, onlyName, onlyArgs, Ex.kind, Ex.op, Ex.n, Ex.name, Ex.args, this]
  split
  · unfold gCall
    split
    · refine good_mk ?_ (gMany_all g _ hg _ _) (.inr hk)
      have h7 := gNext_range raw (gNext raw a 312).2 7 (by decide)
      have hn := varOf_name (gNext raw a 312).1
      simp only [wellHere, onlyOk, onlyOp, onlyN, onlyName, onlyArgs, Ex.kind, Ex.op, Ex.n, Ex.name, Ex.args, gMany_len]
      simp [hn]; omega
    · rename_i hn
      have hl := gpos hn
      have hr := gNext_range raw a sc.funcs.length (by omega)
      have hf : isName (fuAt sc.funcs (gNext raw a sc.funcs.length).1.toNat).name = true ∧ (fuAt sc.funcs (gNext raw a sc.funcs.length).1.toNat).params.length ≤ 6 := hs.funcs _ (gmem (d := Fu.nil) (i := (gNext raw a sc.funcs.length).1.toNat) (by omega))
      dsimp only
      generalize fuAt sc.funcs (gNext raw a sc.funcs.length).1.toNat = f at hf ⊢
      refine good_mk ?_ (gMany_all g _ hg _ _) (.inr hk)
      simp only [wellHere, onlyOk, onlyOp, onlyN, onlyName, onlyArgs, Ex.kind, Ex.op, Ex.n, Ex.name, Ex.args, gMany_len]
      simp only [hf.1]
      simp; omega
  · refine good_mk ?_ (fun x hx => ?_) (.inr hk)
    · have := level_op _ (gNext_range raw a 16 (by decide))
      simp only [wellHere, onlyOk, onlyOp, onlyN, onlyName, onlyArgs, Ex.kind, Ex.op, Ex.n, Ex.name, Ex.args]
      simp [this]
    · rcases List.mem_cons.1 hx with rfl | hx
      · exact hg _
      · rw [List.mem_singleton.1 hx]; exact hg _
theorem gK_low (raw : List Int) (d a : Nat) (h : d < 2) : gK raw d a < 4 := by
  unfold gK; rw [if_pos h]
  have := gNext_range raw a 12 (by decide)
  omega
theorem gExpr_ok {sc : Sc} (hs : sc.Ok) (raw : List Int) : ∀ d a, GoodEx d (gExpr sc raw d a).1
  | 0, a => by
    rw [gExpr]; unfold gStep
    exact gKind_ok hs raw 0 _ _ (fun h4 => by have := gK_low raw 0 a (by omega); omega) _
  | d + 1, a => by
    rw [gExpr]; unfold gStep
    refine gKind_ok hs raw d _ _ (fun h4 => ⟨?_, fun b => gExpr_ok hs raw d b⟩) _
    rcases Nat.lt_or_ge (d + 1) 2 with h | h
    · have := gK_low raw (d + 1) a h; omega
    · omega
/-- How long a text may be. -/
def exBound : Nat → Nat
  | 0 => 21
  | d + 1 => 6 * exBound d + 64
end Go.Proofs.YtgmaeflfiooigaaGreatDoor

namespace Go.Proofs.YtgmaeflfiooigaaGreatDoor

/-- What is made of the kind k of a statement. -/
def gStHead (sc : Sc) (raw : List Int) (gs gl : Nat → List St × Nat) (k : Int) (a : Nat) : St × Nat :=
  if k < 4 ∧ sc.hasVars = true then
    let n := gName sc.free sc.vars raw a
    (.mk 1 n.1 [] [] [], n.2)
  else if k = 4 ∧ sc.hasArrays = true then
    let n := gArray sc.free sc.arrays raw a; let e := gExpr sc raw 3 n.2
    (.mk 2 n.1.name [e.1] [] [], e.2)
  else if k = 5 ∧ sc.hasFuncs = true then
    let c := gCall sc raw (gExpr sc raw 2) a
    (.mk 10 [] [c.1] [] [], c.2)
  else if k = 6 ∧ (gNext raw a 3).1 = 2 then
    let j := gNext raw (gNext raw a 3).2 2
    (.mk (if j.1 = 0 then 7 else 9) [] [] [] [], j.2)
  else if k = 7 ∨ k = 8 then
    let e := gExpr sc raw 3 a; let t := gs e.2; let u := gs t.2
    (.mk 3 [] [e.1] t.1 u.1, u.2)
  else if k = 9 ∨ k = 10 then
    let e := gExpr sc raw 3 a; let t := gl e.2
    (.mk 4 [] [e.1] t.1 [], t.2)
  else if k = 11 ∧ (sc.loop || sc.free) = true ∧ (gNext raw a 2).1 = 1 then
    let j := gNext raw (gNext raw a 2).2 2
    (.mk (if j.1 = 0 then 5 else 6) [] [] [] [], j.2)
  else (.mk 8 [] [] [] [], if k = 6 then (gNext raw a 3).2 else if k = 11 ∧ (sc.loop || sc.free) = true then (gNext raw a 2).2 else a)
def manyOf (k : Int) : Nat := if k = 2 then 2 else if k = 5 ∨ k = 6 then 0 else 1
def gFill (sc : Sc) (raw : List Int) (x : St) (a : Nat) : St × Nat :=
  if x.args.length < manyOf x.kind then (.mk x.kind x.name (x.args ++ [(gExpr sc raw 4 a).1]) x.thn x.els, (gExpr sc raw 4 a).2) else (x, a)
def gStK (raw : List Int) (d a : Nat) : Int := if d < 2 ∧ 7 ≤ (gNext raw a 14).1 ∧ (gNext raw a 14).1 < 11 then 0 else (gNext raw a 14).1
def gSt (sc : Sc) (raw : List Int) (gs gl : Nat → List St × Nat) (d : Nat) (a : Nat) : St × Nat :=
  let h := gStHead sc raw gs gl (gStK raw d a) (gNext raw a 14).2
  gFill sc raw h.1 h.2
def gStsN (one : Nat → St × Nat) : Nat → Nat → List St × Nat
  | 0, a => ([], a)
  | c + 1, a => ((gStsN one c a).1 ++ [(one (gStsN one c a).2).1], (one (gStsN one c a).2).2)
def Sc.inLoop (sc : Sc) : Sc := ⟨sc.vars, sc.arrays, sc.funcs, sc.free, true⟩
def gStmts (raw : List Int) : Nat → Sc → Nat → List St × Nat
  | 0, sc, a => gStsN (gSt sc raw (fun a => ([], a)) (fun a => ([], a)) 0) (gNext raw a 5).1.toNat (gNext raw a 5).2
  | d + 1, sc, a => gStsN (gSt sc raw (gStmts raw d sc) (gStmts raw d sc.inLoop) (d + 1)) (gNext raw a 5).1.toNat (gNext raw a 5).2

theorem deepOk_mono : ∀ (m n : Nat) (e : Ex), m ≤ n → deepOk m e = true → deepOk n e = true
  | 0, _, _, _, h => by cases h
  | m + 1, 0, e, hmn, _ => by omega
  | m + 1, n + 1, e, hmn, h => by
    have h : e.args.all (deepOk m) = true := h
    show e.args.all (deepOk n) = true
    rw [List.all_eq_true] at *
    exact fun x hx => deepOk_mono m n x (by omega) (h x hx)
theorem good_right {d : Nat} {e : Ex} (hd : d ≤ 40) (h : GoodEx d e) : rightEx e = true := by
  unfold rightEx; rw [deepOk_mono _ _ _ (by omega) h.1, h.2]; rfl
theorem gCall_good {sc : Sc} (hs : sc.Ok) (raw : List Int) (d : Nat) (hd : 1 ≤ d) (g : Nat → Ex × Nat) (hg : ∀ a, GoodEx d (g a).1) (a : Nat) : GoodEx (d + 1) (gCall sc raw g a).1 ∧ (gCall sc raw g a).1.kind = 5 := by
  unfold gCall
  split
  · refine ⟨good_mk ?_ (gMany_all g _ hg _ _) (.inr hd), rfl⟩
    have h7 := gNext_range raw (gNext raw a 312).2 7 (by decide)
    have hn := varOf_name (gNext raw a 312).1
    simp only [wellHere, onlyOk, onlyOp, onlyN, onlyName, onlyArgs, Ex.kind, Ex.op, Ex.n, Ex.name, Ex.args, gMany_len]
    simp [hn]; omega
  · rename_i hn
    have hl := gpos hn
    have hr := gNext_range raw a sc.funcs.length (by omega)
    have hf : isName (fuAt sc.funcs (gNext raw a sc.funcs.length).1.toNat).name = true ∧ (fuAt sc.funcs (gNext raw a sc.funcs.length).1.toNat).params.length ≤ 6 := hs.funcs _ (gmem (d := Fu.nil) (i := (gNext raw a sc.funcs.length).1.toNat) (by omega))
    dsimp only
    generalize fuAt sc.funcs (gNext raw a sc.funcs.length).1.toNat = f at hf ⊢
    refine ⟨good_mk ?_ (gMany_all g _ hg _ _) (.inr hd), rfl⟩
    simp only [wellHere, onlyOk, onlyOp, onlyN, onlyName, onlyArgs, Ex.kind, Ex.op, Ex.n, Ex.name, Ex.args, gMany_len]
    simp only [hf.1]
    simp; omega
/-- A statement, but for parts that are still to come. -/
theorem stOk_mk {m : Nat} {k : Int} {nm : Bs} {args : List Ex} {thn els : List St} (hm : 1 ≤ m) (h1 : fOk k = true) (h2 : (args.length : Int) = fArgs k) (h3 : fThen k = true ∨ thn = []) (h4 : fMore k = true ∨ els = []) (h5 : fNamed k = isName nm)
    (h6 : fNamed k = true ∨ nm = []) (h7 : k ≠ 10 ∨ (args.headD (.mk 0 0 0 [] [])).kind = 5) (h8 : ∀ x, x ∈ args → rightEx x = true) (h9 : ∀ x, x ∈ thn → stOk (m - 1) x = true) (h10 : ∀ x, x ∈ els → stOk (m - 1) x = true) : stOk m (.mk k nm args thn els) = true := by
  obtain ⟨n, rfl⟩ : ∃ n, m = n + 1 := ⟨m - 1, by omega⟩
  rw [Nat.add_sub_cancel] at h9 h10
  simp only [stOk, stBad1, stBad2, St.kind, St.args, St.thn, St.els, St.name, Bool.and_eq_true, Bool.not_eq_true', Bool.or_eq_false_iff, Bool.not_eq_false', List.all_eq_true]
  refine ⟨⟨⟨⟨⟨⟨⟨⟨h1, ?_⟩, ?_⟩, ?_⟩, ?_⟩, ⟨⟨?_, ?_⟩, ?_⟩⟩, h8⟩, h9⟩, h10⟩
  · simp; omega
  · simpa using h2
  · rcases h3 with h | rfl
    · simp [h]
    · simp
  · rcases h4 with h | rfl
    · simp [h]
    · simp
  · simp [h5]
  · rcases h6 with h | rfl
    · simp [h]
    · simp
  · rcases h7 with h | h
    · simp [h]
    · rw [h]; simp
theorem Sc.Ok.inLoop {sc : Sc} (h : sc.Ok) : sc.inLoop.Ok := ⟨h.vars, h.arrays, h.funcs⟩
theorem isName_nil : isName [] = false := rfl
theorem gStsN_all (one : Nat → St × Nat) (P : St → Prop) (hg : ∀ a, P (one a).1) : ∀ c a, ∀ x, x ∈ (gStsN one c a).1 → P x
  | 0, a, x, hx => by cases hx
  | c + 1, a, x, hx => by
    rw [gStsN] at hx
    rcases List.mem_append.1 hx with h | h
    · exact gStsN_all one P hg c a x h
    · rw [List.mem_singleton.1 h]; exact hg _
theorem gStsN_len (one : Nat → St × Nat) : ∀ c a, (gStsN one c a).1.length = c
  | 0, a => rfl
  | c + 1, a => by rw [gStsN]; simp [gStsN_len one c a]
theorem gExpr_right {sc : Sc} (hs : sc.Ok) (raw : List Int) (d a : Nat) (hd : d ≤ 40) : rightEx (gExpr sc raw d a).1 = true := good_right hd (gExpr_ok hs raw d a)

theorem gFill_add (sc : Sc) (raw : List Int) {k : Int} {nm : Bs} {args : List Ex} {t e : List St} (a : Nat) (h : args.length < manyOf k) : gFill sc raw (.mk k nm args t e) a = (.mk k nm (args ++ [(gExpr sc raw 4 a).1]) t e, (gExpr sc raw 4 a).2) := if_pos h
theorem gFill_no (sc : Sc) (raw : List Int) {k : Int} {nm : Bs} {args : List Ex} {t e : List St} (a : Nat) (h : ¬ args.length < manyOf k) : gFill sc raw (.mk k nm args t e) a = (.mk k nm args t e, a) := if_neg h
theorem gSt_ok {sc : Sc} (hs : sc.Ok) (raw : List Int) (gs gl : Nat → List St × Nat) (d : Nat) (m : Nat) (hm : 1 ≤ m) (hgs : 2 ≤ d → ∀ a x, x ∈ (gs a).1 → stOk (m - 1) x = true) (hgl : 2 ≤ d → ∀ a x, x ∈ (gl a).1 → stOk (m - 1) x = true) (a : Nat) : stOk m (gSt sc raw gs gl d a).1 = true := by
  unfold gSt
  have hk : ∀ k, gStK raw d a = k → 7 ≤ k → k < 11 → 2 ≤ d := by
    intro k hk h1 h2
    unfold gStK at hk
    split at hk
    · omega
    · omega
  generalize gStK raw d a = k at hk
  have hk := hk k rfl
  generalize (gNext raw a 14).2 = b
  dsimp only
  have e4 : ∀ a, ∀ x, x ∈ [(gExpr sc raw 4 a).1] → rightEx x = true := fun a x hx => by rw [List.mem_singleton.1 hx]; exact gExpr_right hs raw 4 a (by omega)
  have e3 : ∀ a, ∀ x, x ∈ [(gExpr sc raw 3 a).1] → rightEx x = true := fun a x hx => by rw [List.mem_singleton.1 hx]; exact gExpr_right hs raw 3 a (by omega)
  have nn : ∀ x : St, x ∈ ([] : List St) → stOk (m - 1) x = true := fun x hx => by cases hx
  unfold gStHead
  split
  · have := gName_ok hs raw b
    dsimp only
    rw [gFill_add _ _ _ (by simp [manyOf])]
    exact stOk_mk hm rfl rfl (.inr rfl) (.inr rfl) (by rw [this]; rfl) (.inl rfl) (.inl (by decide)) (e4 _) nn nn
  split
  · have := gArray_ok hs raw b
    dsimp only
    rw [gFill_add _ _ _ (by simp [manyOf])]
    exact stOk_mk hm rfl rfl (.inr rfl) (.inr rfl) (by rw [this]; rfl) (.inl rfl) (.inl (by decide)) (fun x hx => by
      rcases List.mem_cons.1 hx with rfl | hx
      · exact gExpr_right hs raw 3 _ (by omega)
      · exact e4 _ x hx) nn nn
  split
  · have := gCall_good hs raw 2 (by omega) (gExpr sc raw 2) (gExpr_ok hs raw 2) b
    dsimp only
    rw [gFill_no _ _ _ (by simp [manyOf])]
    exact stOk_mk hm rfl rfl (.inr rfl) (.inr rfl) rfl (.inr rfl) (.inr this.2) (fun x hx => by rw [List.mem_singleton.1 hx]; exact good_right (by omega) this.1) nn nn
  split
  · dsimp only
    split
    · rw [gFill_add _ _ _ (by simp [manyOf])]
      exact stOk_mk hm rfl rfl (.inr rfl) (.inr rfl) rfl (.inr rfl) (.inl (by decide)) (e4 _) nn nn
    · rw [gFill_add _ _ _ (by simp [manyOf])]
      exact stOk_mk hm rfl rfl (.inr rfl) (.inr rfl) rfl (.inr rfl) (.inl (by decide)) (e4 _) nn nn
  split
  · dsimp only
    rw [gFill_no _ _ _ (by simp [manyOf])]
    exact stOk_mk hm rfl rfl (.inl rfl) (.inl rfl) rfl (.inr rfl) (.inl (by decide)) (e3 _) (hgs (hk (by omega) (by omega)) _) (hgs (hk (by omega) (by omega)) _)
  split
  · dsimp only
    rw [gFill_no _ _ _ (by simp [manyOf])]
    exact stOk_mk hm rfl rfl (.inl rfl) (.inr rfl) rfl (.inr rfl) (.inl (by decide)) (e3 _) (hgl (hk (by omega) (by omega)) _) nn
  split
  · dsimp only
    split
    · rw [gFill_no _ _ _ (by simp [manyOf])]
      exact stOk_mk hm rfl rfl (.inr rfl) (.inr rfl) rfl (.inr rfl) (.inl (by decide)) (fun x hx => by cases hx) nn nn
    · rw [gFill_no _ _ _ (by simp [manyOf])]
      exact stOk_mk hm rfl rfl (.inr rfl) (.inr rfl) rfl (.inr rfl) (.inl (by decide)) (fun x hx => by cases hx) nn nn
  · dsimp only
    rw [gFill_add _ _ _ (by simp [manyOf])]
    exact stOk_mk hm rfl rfl (.inr rfl) (.inr rfl) rfl (.inr rfl) (.inl (by decide)) (e4 _) nn nn

theorem gStmts_ok (raw : List Int) : ∀ (d : Nat) (sc : Sc), sc.Ok → ∀ m, 1 ≤ m → d ≤ m → ∀ a x, x ∈ (gStmts raw d sc a).1 → stOk m x = true
  | 0, sc, hs, m, hm, hd, a, x, hx => by
    rw [gStmts] at hx
    exact gStsN_all _ (fun x => stOk m x = true) (gSt_ok hs raw _ _ 0 m hm (fun h => by omega) (fun h => by omega)) _ _ x hx
  | d + 1, sc, hs, m, hm, hd, a, x, hx => by
    rw [gStmts] at hx
    exact gStsN_all _ (fun x => stOk m x = true) (gSt_ok hs raw _ _ (d + 1) m hm (fun h => gStmts_ok raw d sc hs (m - 1) (by omega) (by omega)) (fun h => gStmts_ok raw d sc.inLoop hs.inLoop (m - 1) (by omega) (by omega))) _ _ x hx

def aNames : List Bs := [[97], [98], [99]]
def fNames : List Bs := [[102], [103], [104]]
def pNames : List Bs := [[112], [113], [114], [115], [116], [117]]
def lNames : List Bs := [[120], [121], [122], [105], [107]]
def aSizes : List Int := [1, 4, 10, 1000]
def gArr (free : Bool) (raw : List Int) (i : Nat) (a : Nat) : Ar × Nat :=
  if free then gArray true [] raw (gNext raw a 4).2 else (⟨aNames.getD i [], aSizes.getD (gNext raw a 4).1.toNat 0⟩, (gNext raw a 4).2)
def gArrs (free : Bool) (raw : List Int) : Nat → Nat → List Ar × Nat
  | 0, a => ([], a)
  | i + 1, a => ((gArr free raw (i + 1) a).1 :: (gArrs free raw i (gArr free raw (i + 1) a).2).1, (gArrs free raw i (gArr free raw (i + 1) a).2).2)
def gFun (raw : List Int) (i a : Nat) : Fu × Nat := (⟨fNames.getD i [], pNames.take (gNext raw a 7).1.toNat, [], []⟩, (gNext raw a 7).2)
def gFuns (raw : List Int) : Nat → Nat → List Fu × Nat
  | 0, a => ([], a)
  | i + 1, a => ((gFun raw (i + 1) a).1 :: (gFuns raw i (gFun raw (i + 1) a).2).1, (gFuns raw i (gFun raw (i + 1) a).2).2)
def gBody (raw : List Int) (sc : Sc) (f : Fu) (a : Nat) : Fu × Nat :=
  let l := lNames.take (gNext raw a 6).1.toNat
  let b := gStmts raw 4 ⟨f.params ++ l, sc.arrays, sc.funcs, sc.free, false⟩ (gNext raw a 6).2
  (⟨f.name, f.params, l, b.1⟩, b.2)
def gBodies (raw : List Int) (sc : Sc) : List Fu → Nat → List Fu × Nat
  | [], a => ([], a)
  | f :: l, a => ((gBody raw sc f a).1 :: (gBodies raw sc l (gBody raw sc f a).2).1, (gBodies raw sc l (gBody raw sc f a).2).2)
def fMain : Fu := ⟨[109, 97, 105, 110], [], [], []⟩
def gProgA (raw : List Int) (free : Bool) : List Ar × Nat := gArrs free raw (gNext raw 0 3).1.toNat (gNext raw 0 3).2
def gProgF (raw : List Int) (a : Nat) : List Fu × Nat := gFuns raw (gNext raw a 3).1.toNat (gNext raw a 3).2
def gProgSc (raw : List Int) (free : Bool) : Sc := ⟨[], (gProgA raw free).1, fMain :: (gProgF raw (gProgA raw free).2).1, free, false⟩
def gProg (raw0 : List Int) (free : Bool) : Pr :=
  let raw := raw0.take 400
  ⟨(gProgA raw free).1, (gBodies raw (gProgSc raw free) (gProgSc raw free).funcs (gProgF raw (gProgA raw free).2).2).1⟩
def gExprTop (raw0 : List Int) : Ex := (gExpr ⟨[], [], [], true, false⟩ (raw0.take 100) 6 0).1

theorem gArr_ok (free : Bool) (raw : List Int) (i a : Nat) (hi : i = 1 ∨ i = 2) : rightAr (gArr free raw i a).1 = true := by
  unfold gArr; split
  · have h1 := varOf_name (gNext raw (gNext raw a 4).2 312).1
    have h2 := gNext_range raw (gNext raw (gNext raw a 4).2 312).2 1000 (by decide)
    unfold gArray
    rw [if_pos (by simp)]
    simp only [rightAr, h1, Bool.true_and]
    simp; omega
  · have h2 := gNext_range raw a 4 (by decide)
    have h3 : (gNext raw a 4).1 = 0 ∨ (gNext raw a 4).1 = 1 ∨ (gNext raw a 4).1 = 2 ∨ (gNext raw a 4).1 = 3 := by omega
    dsimp only
    rcases hi with rfl | rfl <;> rcases h3 with h | h | h | h <;> rw [h] <;> decide
theorem gArrs_ok (free : Bool) (raw : List Int) : ∀ i a, i ≤ 2 → ∀ x, x ∈ (gArrs free raw i a).1 → rightAr x = true
  | 0, a, _, x, hx => by cases hx
  | i + 1, a, hi, x, hx => by
    rw [gArrs] at hx
    rcases List.mem_cons.1 hx with rfl | hx
    · exact gArr_ok free raw (i + 1) a (by omega)
    · exact gArrs_ok free raw i _ (by omega) x hx
def FuHead (f : Fu) : Prop := isName f.name = true ∧ f.params.length ≤ 6 ∧ ∀ x, x ∈ f.params → isName x = true
theorem pNames_ok : ∀ x, x ∈ pNames → isName x = true := by decide
theorem lNames_ok : ∀ x, x ∈ lNames → isName x = true := by decide
theorem gFuns_ok (raw : List Int) : ∀ i a, i ≤ 2 → ∀ x, x ∈ (gFuns raw i a).1 → FuHead x
  | 0, a, _, x, hx => by cases hx
  | i + 1, a, hi, x, hx => by
    rw [gFuns] at hx
    rcases List.mem_cons.1 hx with rfl | hx
    · have hi' : i = 0 ∨ i = 1 := by omega
      refine ⟨?_, ?_, fun x hx => pNames_ok x (List.mem_of_mem_take hx)⟩
      · show isName (fNames.getD (i + 1) []) = true
        rcases hi' with rfl | rfl <;> decide
      · show (pNames.take _).length ≤ 6
        rw [List.length_take]; exact Nat.min_le_right _ _
    · exact gFuns_ok raw i _ (by omega) x hx
theorem gBodies_ok (raw : List Int) (sc : Sc) (ha : ∀ x, x ∈ sc.arrays → isName x.name = true) (hf : ∀ x, x ∈ sc.funcs → FuHead x) : ∀ l a, (∀ x, x ∈ l → FuHead x) → ∀ x, x ∈ (gBodies raw sc l a).1 → rightFu x = true
  | [], a, _, x, hx => by cases hx
  | f :: l, a, hl, x, hx => by
    rw [gBodies] at hx
    rcases List.mem_cons.1 hx with rfl | hx
    · have h := hl f List.mem_cons_self
      have hL : ∀ x, x ∈ lNames.take (gNext raw a 6).1.toNat → isName x = true := fun x hx => lNames_ok x (List.mem_of_mem_take hx)
      have hsc : Sc.Ok ⟨f.params ++ lNames.take (gNext raw a 6).1.toNat, sc.arrays, sc.funcs, sc.free, false⟩ := ⟨fun x hx => by
        rcases List.mem_append.1 hx with hx | hx
        · exact h.2.2 x hx
        · exact hL x hx, ha, fun x hx => ⟨(hf x hx).1, (hf x hx).2.1⟩⟩
      have hb := gStmts_ok raw 4 _ hsc 40 (by omega) (by omega) (gNext raw a 6).2
      unfold gBody rightFu
      dsimp only
      rw [h.1, List.all_eq_true.2 h.2.2, List.all_eq_true.2 hL, List.all_eq_true.2 hb, decide_eq_true h.2.1]; rfl
    · exact gBodies_ok raw sc ha hf l _ (fun x hx => hl x (List.mem_cons_of_mem _ hx)) x hx
theorem gProg_heads (raw : List Int) (free : Bool) : ∀ x, x ∈ (gProgSc raw free).funcs → FuHead x := by
  intro x hx
  rcases List.mem_cons.1 hx with rfl | hx
  · exact ⟨by decide, by decide, fun x hx => by cases hx⟩
  · exact gFuns_ok raw _ _ (by have := gNext_range raw (gProgA raw free).2 3 (by decide); omega) x hx
theorem gProg_arrays (raw : List Int) (free : Bool) : ∀ x, x ∈ (gProgA raw free).1 → rightAr x = true :=
  gArrs_ok free raw _ _ (by have := gNext_range raw 0 3 (by decide); omega)
theorem gProg_right (raw0 : List Int) (free : Bool) : rightPr (gProg raw0 free) = true := by
  unfold gProg rightPr
  dsimp only
  rw [Bool.and_eq_true, List.all_eq_true, List.all_eq_true]
  refine ⟨gProg_arrays _ _, gBodies_ok _ _ (fun x hx => ?_) (gProg_heads _ _) _ _ (gProg_heads _ _)⟩
  have := gProg_arrays (raw0.take 400) free x hx
  unfold rightAr at this; exact ((Bool.and_eq_true _ _).mp this).1
theorem gExprTop_right (raw0 : List Int) : rightEx (gExprTop raw0) = true :=
  gExpr_right ⟨fun _ hx => (List.not_mem_nil hx).elim, fun _ hx => (List.not_mem_nil hx).elim, fun _ hx => (List.not_mem_nil hx).elim⟩ _ 6 0 (by omega)
end Go.Proofs.YtgmaeflfiooigaaGreatDoor
