/-
  Plain functions: raw statements and programs, made of raw numbers; they are right. No program in sight.
  The source of raw numbers in memory; next, Var, name. Conditions: what is read lies in memory as the types say.
  Raw numbers that come in: a slice of ints, opened and shut. No condition.
  Scan's list of tokens, as it is appended to. No condition.
  The parser as plain functions over tokens: a tree and the tokens that are left, or the line of what can't stand where it does. Plain functions alone.
-/
import Derived.Test.YtcfpfnoldgnloaaGreatDoorPn02
import Derived.Test.YtcfpfnoldgnloaaGreatDoorPn00
import Derived.IntWalk
import Derived.ChangeSlices
import Derived.OpenShut
import Derived.ProofKit
import Derived.Deep.OwnRows
set_option linter.unusedVariables false
set_option linter.unusedSimpArgs false
namespace Go.Proofs.YtcfpfnoldgnloaaGreatDoor

/-- What is made of the kind k of a statement. -/
def gStHead (sc : Sc) (raw : List Int) (gs gl : Nat → List St × Nat) (k : Int) (a : Nat) : St × Nat :=
  if k < 4 ∧ sc.hasVars = true then
    let n := gName sc.free sc.vars raw a
    (.mk 1 n.1 [] [] [], n.2)
  else if k = 4 ∧ sc.hasArrays = true then
    let n := gArray sc.free sc.arrays raw a; let e := gExpr sc raw 3 n.2
    (.mk 2 n.1.name [e.1] [] [], e.2)
  else if k = 5 ∧ sc.hasFuncs = true then
    let c := gCall sc raw (gExpr sc raw 2) a
    (.mk 10 [] [c.1] [] [], c.2)
  else if k = 6 ∧ (gNext raw a 3).1 = 2 then
    let j := gNext raw (gNext raw a 3).2 2
    (.mk (if j.1 = 0 then 7 else 9) [] [] [] [], j.2)
  else if k = 7 ∨ k = 8 then
    let e := gExpr sc raw 3 a; let t := gs e.2; let u := gs t.2
    (.mk 3 [] [e.1] t.1 u.1, u.2)
  else if k = 9 ∨ k = 10 then
    let e := gExpr sc raw 3 a; let t := gl e.2
    (.mk 4 [] [e.1] t.1 [], t.2)
  else if k = 11 ∧ (sc.loop || sc.free) = true ∧ (gNext raw a 2).1 = 1 then
    let j := gNext raw (gNext raw a 2).2 2
    (.mk (if j.1 = 0 then 5 else 6) [] [] [] [], j.2)
  else (.mk 8 [] [] [] [], if k = 6 then (gNext raw a 3).2 else if k = 11 ∧ (sc.loop || sc.free) = true then (gNext raw a 2).2 else a)
def manyOf (k : Int) : Nat := if k = 2 then 2 else if k = 5 ∨ k = 6 then 0 else 1
def gFill (sc : Sc) (raw : List Int) (x : St) (a : Nat) : St × Nat :=
  if x.args.length < manyOf x.kind then (.mk x.kind x.name (x.args ++ [(gExpr sc raw 4 a).1]) x.thn x.els, (gExpr sc raw 4 a).2) else (x, a)
def gStK (raw : List Int) (d a : Nat) : Int := if d < 2 ∧ 7 ≤ (gNext raw a 14).1 ∧ (gNext raw a 14).1 < 11 then 0 else (gNext raw a 14).1
def gSt (sc : Sc) (raw : List Int) (gs gl : Nat → List St × Nat) (d : Nat) (a : Nat) : St × Nat :=
  let h := gStHead sc raw gs gl (gStK raw d a) (gNext raw a 14).2
  gFill sc raw h.1 h.2
def gStsN (one : Nat → St × Nat) : Nat → Nat → List St × Nat
  | 0, a => ([], a)
  | c + 1, a => ((gStsN one c a).1 ++ [(one (gStsN one c a).2).1], (one (gStsN one c a).2).2)
def Sc.inLoop (sc : Sc) : Sc := ⟨sc.vars, sc.arrays, sc.funcs, sc.free, true⟩
def gStmts (raw : List Int) : Nat → Sc → Nat → List St × Nat
  | 0, sc, a => gStsN (gSt sc raw (fun a => ([], a)) (fun a => ([], a)) 0) (gNext raw a 5).1.toNat (gNext raw a 5).2
  | d + 1, sc, a => gStsN (gSt sc raw (gStmts raw d sc) (gStmts raw d sc.inLoop) (d + 1)) (gNext raw a 5).1.toNat (gNext raw a 5).2

theorem deepOk_mono : ∀ (m n : Nat) (e : Ex), m ≤ n → deepOk m e = true → deepOk n e = true
  | 0, _, _, _, h => by cases h
  | m + 1, 0, e, hmn, _ => by omega
  | m + 1, n + 1, e, hmn, h => by
    have h : e.args.all (deepOk m) = true := h
    show e.args.all (deepOk n) = true
    rw [List.all_eq_true] at *
    exact fun x hx => deepOk_mono m n x (by omega) (h x hx)
theorem good_right {d : Nat} {e : Ex} (hd : d ≤ 40) (h : GoodEx d e) : rightEx e = true := by
  unfold rightEx; rw [deepOk_mono _ _ _ (by omega) h.1, h.2]; rfl
theorem gCall_good {sc : Sc} (hs : sc.Ok) (raw : List Int) (d : Nat) (hd : 1 ≤ d) (g : Nat → Ex × Nat) (hg : ∀ a, GoodEx d (g a).1) (a : Nat) : GoodEx (d + 1) (gCall sc raw g a).1 ∧ (gCall sc raw g a).1.kind = 5 := by
  unfold gCall
  split
  · refine ⟨good_mk ?_ (gMany_all g _ hg _ _) (.inr hd), rfl⟩
    have h7 := gNext_range raw (gNext raw a 312).2 7 (by decide)
    have hn := varOf_name (gNext raw a 312).1
    simp only [wellHere, onlyOk, onlyOp, onlyN, onlyName, onlyArgs, Ex.kind, Ex.op, Ex.n, Ex.name, Ex.args, gMany_len]
    simp [hn]; omega
  · rename_i hn
    have hl := gpos hn
    have hr := gNext_range raw a sc.funcs.length (by omega)
    have hf : isName (fuAt sc.funcs (gNext raw a sc.funcs.length).1.toNat).name = true ∧ (fuAt sc.funcs (gNext raw a sc.funcs.length).1.toNat).params.length ≤ 6 := hs.funcs _ (gmem (d := Fu.nil) (i := (gNext raw a sc.funcs.length).1.toNat) (by omega))
    dsimp only
    generalize fuAt sc.funcs (gNext raw a sc.funcs.length).1.toNat = f at hf ⊢
    refine ⟨good_mk ?_ (gMany_all g _ hg _ _) (.inr hd), rfl⟩
    simp only [wellHere, onlyOk, onlyOp, onlyN, onlyName, onlyArgs, Ex.kind, Ex.op, Ex.n, Ex.name, Ex.args, gMany_len]
    simp only [hf.1]
    simp; omega
/-- A statement, but for parts that are still to come. -/
theorem stOk_mk {m : Nat} {k : Int} {nm : Bs} {args : List Ex} {thn els : List St} (hm : 1 ≤ m) (h1 : fOk k = true) (h2 : (args.length : Int) = fArgs k) (h3 : fThen k = true ∨ thn = []) (h4 : fMore k = true ∨ els = []) (h5 : fNamed k = isName nm)
    (h6 : fNamed k = true ∨ nm = []) (h7 : k ≠ 10 ∨ (args.headD (.mk 0 0 0 [] [])).kind = 5) (h8 : ∀ x, x ∈ args → rightEx x = true) (h9 : ∀ x, x ∈ thn → stOk (m - 1) x = true) (h10 : ∀ x, x ∈ els → stOk (m - 1) x = true) : stOk m (.mk k nm args thn els) = true := by
  obtain ⟨n, rfl⟩ : ∃ n, m = n + 1 := ⟨m - 1, by omega⟩
  rw [Nat.add_sub_cancel] at h9 h10
  simp only [stOk, stBad1, stBad2, St.kind, St.args, St.thn, St.els, St.name, Bool.and_eq_true, Bool.not_eq_true', Bool.or_eq_false_iff, Bool.not_eq_false', List.all_eq_true]
  refine ⟨⟨⟨⟨⟨⟨⟨⟨h1, ?_⟩, ?_⟩, ?_⟩, ?_⟩, ⟨⟨?_, ?_⟩, ?_⟩⟩, h8⟩, h9⟩, h10⟩
  · simp; omega
  · simpa using h2
  · rcases h3 with h | rfl
    · simp [h]
    · simp
  · rcases h4 with h | rfl
    · simp [h]
    · simp
  · simp [h5]
  · rcases h6 with h | rfl
    · simp [h]
    · simp
  · rcases h7 with h | h
    · simp [h]
    · rw [h]; simp
theorem Sc.Ok.inLoop {sc : Sc} (h : sc.Ok) : sc.inLoop.Ok := ⟨h.vars, h.arrays, h.funcs⟩
theorem isName_nil : isName [] = false := rfl
theorem gStsN_all (one : Nat → St × Nat) (P : St → Prop) (hg : ∀ a, P (one a).1) : ∀ c a, ∀ x, x ∈ (gStsN one c a).1 → P x
  | 0, a, x, hx => by cases hx
  | c + 1, a, x, hx => by
    rw [gStsN] at hx
    rcases List.mem_append.1 hx with h | h
    · exact gStsN_all one P hg c a x h
    · rw [List.mem_singleton.1 h]; exact hg _
theorem gStsN_len (one : Nat → St × Nat) : ∀ c a, (gStsN one c a).1.length = c
  | 0, a => rfl
  | c + 1, a => by rw [gStsN]; simp [gStsN_len one c a]
theorem gExpr_right {sc : Sc} (hs : sc.Ok) (raw : List Int) (d a : Nat) (hd : d ≤ 40) : rightEx (gExpr sc raw d a).1 = true := good_right hd (gExpr_ok hs raw d a)

theorem gFill_add (sc : Sc) (raw : List Int) {k : Int} {nm : Bs} {args : List Ex} {t e : List St} (a : Nat) (h : args.length < manyOf k) : gFill sc raw (.mk k nm args t e) a = (.mk k nm (args ++ [(gExpr sc raw 4 a).1]) t e, (gExpr sc raw 4 a).2) := if_pos h
theorem gFill_no (sc : Sc) (raw : List Int) {k : Int} {nm : Bs} {args : List Ex} {t e : List St} (a : Nat) (h : ¬ args.length < manyOf k) : gFill sc raw (.mk k nm args t e) a = (.mk k nm args t e, a) := if_neg h
theorem gSt_ok {sc : Sc} (hs : sc.Ok) (raw : List Int) (gs gl : Nat → List St × Nat) (d : Nat) (m : Nat) (hm : 1 ≤ m) (hgs : 2 ≤ d → ∀ a x, x ∈ (gs a).1 → stOk (m - 1) x = true) (hgl : 2 ≤ d → ∀ a x, x ∈ (gl a).1 → stOk (m - 1) x = true) (a : Nat) : stOk m (gSt sc raw gs gl d a).1 = true := by
  unfold gSt
  have hk : ∀ k, gStK raw d a = k → 7 ≤ k → k < 11 → 2 ≤ d := by
    intro k hk h1 h2
    unfold gStK at hk
    split at hk
    · omega
    · omega
  generalize gStK raw d a = k at hk
  have hk := hk k rfl
  generalize (gNext raw a 14).2 = b
  dsimp only
  have e4 : ∀ a, ∀ x, x ∈ [(gExpr sc raw 4 a).1] → rightEx x = true := fun a x hx => by rw [List.mem_singleton.1 hx]; exact gExpr_right hs raw 4 a (by omega)
  have e3 : ∀ a, ∀ x, x ∈ [(gExpr sc raw 3 a).1] → rightEx x = true := fun a x hx => by rw [List.mem_singleton.1 hx]; exact gExpr_right hs raw 3 a (by omega)
  have nn : ∀ x : St, x ∈ ([] : List St) → stOk (m - 1) x = true := fun x hx => by cases hx
  unfold gStHead
  split
  · have := gName_ok hs raw b
    dsimp only
    rw [gFill_add _ _ _ (by simp [manyOf])]
    exact stOk_mk hm rfl rfl (.inr rfl) (.inr rfl) (by rw [this]; rfl) (.inl rfl) (.inl (by decide)) (e4 _) nn nn
  split
  · have := gArray_ok hs raw b
    dsimp only
    rw [gFill_add _ _ _ (by simp [manyOf])]
    exact stOk_mk hm rfl rfl (.inr rfl) (.inr rfl) (by rw [this]; rfl) (.inl rfl) (.inl (by decide)) (fun x hx => by
      rcases List.mem_cons.1 hx with rfl | hx
      · exact gExpr_right hs raw 3 _ (by omega)
      · exact e4 _ x hx) nn nn
  split
  · have := gCall_good hs raw 2 (by omega) (gExpr sc raw 2) (gExpr_ok hs raw 2) b
    dsimp only
    rw [gFill_no _ _ _ (by simp [manyOf])]
    exact stOk_mk hm rfl rfl (.inr rfl) (.inr rfl) rfl (.inr rfl) (.inr this.2) (fun x hx => by rw [List.mem_singleton.1 hx]; exact good_right (by omega) this.1) nn nn
  split
  · dsimp only
    split
    · rw [gFill_add _ _ _ (by simp [manyOf])]
      exact stOk_mk hm rfl rfl (.inr rfl) (.inr rfl) rfl (.inr rfl) (.inl (by decide)) (e4 _) nn nn
    · rw [gFill_add _ _ _ (by simp [manyOf])]
      exact stOk_mk hm rfl rfl (.inr rfl) (.inr rfl) rfl (.inr rfl) (.inl (by decide)) (e4 _) nn nn
  split
  · dsimp only
    rw [gFill_no _ _ _ (by simp [manyOf])]
    exact stOk_mk hm rfl rfl (.inl rfl) (.inl rfl) rfl (.inr rfl) (.inl (by decide)) (e3 _) (hgs (hk (by omega) (by omega)) _) (hgs (hk (by omega) (by omega)) _)
  split
  · dsimp only
    rw [gFill_no _ _ _ (by simp [manyOf])]
    exact stOk_mk hm rfl rfl (.inl rfl) (.inr rfl) rfl (.inr rfl) (.inl (by decide)) (e3 _) (hgl (hk (by omega) (by omega)) _) nn
  split
  · dsimp only
    split
    · rw [gFill_no _ _ _ (by simp [manyOf])]
      exact stOk_mk hm rfl rfl (.inr rfl) (.inr rfl) rfl (.inr rfl) (.inl (by decide)) (fun x hx => by cases hx) nn nn
    · rw [gFill_no _ _ _ (by simp [manyOf])]
      exact stOk_mk hm rfl rfl (.inr rfl) (.inr rfl) rfl (.inr rfl) (.inl (by decide)) (fun x hx => by cases hx) nn nn
  · dsimp only
    rw [gFill_add _ _ _ (by simp [manyOf])]
    exact stOk_mk hm rfl rfl (.inr rfl) (.inr rfl) rfl (.inr rfl) (.inl (by decide)) (e4 _) nn nn

theorem gStmts_ok (raw : List Int) : ∀ (d : Nat) (sc : Sc), sc.Ok → ∀ m, 1 ≤ m → d ≤ m → ∀ a x, x ∈ (gStmts raw d sc a).1 → stOk m x = true
  | 0, sc, hs, m, hm, hd, a, x, hx => by
    rw [gStmts] at hx
    exact gStsN_all _ (fun x => stOk m x = true) (gSt_ok hs raw _ _ 0 m hm (fun h => by omega) (fun h => by omega)) _ _ x hx
  | d + 1, sc, hs, m, hm, hd, a, x, hx => by
    rw [gStmts] at hx
    exact gStsN_all _ (fun x => stOk m x = true) (gSt_ok hs raw _ _ (d + 1) m hm (fun h => gStmts_ok raw d sc hs (m - 1) (by omega) (by omega)) (fun h => gStmts_ok raw d sc.inLoop hs.inLoop (m - 1) (by omega) (by omega))) _ _ x hx

def aNames : List Bs := [[97], [98], [99]]
def fNames : List Bs := [[102], [103], [104]]
def pNames : List Bs := [[112], [113], [114], [115], [116], [117]]
def lNames : List Bs := [[120], [121], [122], [105], [107]]
def aSizes : List Int := [1, 4, 10, 1000]
def gArr (free : Bool) (raw : List Int) (i : Nat) (a : Nat) : Ar × Nat :=
  if free then gArray true [] raw (gNext raw a 4).2 else (⟨aNames.getD i [], aSizes.getD (gNext raw a 4).1.toNat 0⟩, (gNext raw a 4).2)
def gArrs (free : Bool) (raw : List Int) : Nat → Nat → List Ar × Nat
  | 0, a => ([], a)
  | i + 1, a => ((gArr free raw (i + 1) a).1 :: (gArrs free raw i (gArr free raw (i + 1) a).2).1, (gArrs free raw i (gArr free raw (i + 1) a).2).2)
def gFun (raw : List Int) (i a : Nat) : Fu × Nat := (⟨fNames.getD i [], pNames.take (gNext raw a 7).1.toNat, [], []⟩, (gNext raw a 7).2)
def gFuns (raw : List Int) : Nat → Nat → List Fu × Nat
  | 0, a => ([], a)
  | i + 1, a => ((gFun raw (i + 1) a).1 :: (gFuns raw i (gFun raw (i + 1) a).2).1, (gFuns raw i (gFun raw (i + 1) a).2).2)
def gBody (raw : List Int) (sc : Sc) (f : Fu) (a : Nat) : Fu × Nat :=
  let l := lNames.take (gNext raw a 6).1.toNat
  let b := gStmts raw 4 ⟨f.params ++ l, sc.arrays, sc.funcs, sc.free, false⟩ (gNext raw a 6).2
  (⟨f.name, f.params, l, b.1⟩, b.2)
def gBodies (raw : List Int) (sc : Sc) : List Fu → Nat → List Fu × Nat
  | [], a => ([], a)
  | f :: l, a => ((gBody raw sc f a).1 :: (gBodies raw sc l (gBody raw sc f a).2).1, (gBodies raw sc l (gBody raw sc f a).2).2)
def fMain : Fu := ⟨[109, 97, 105, 110], [], [], []⟩
def gProgA (raw : List Int) (free : Bool) : List Ar × Nat := gArrs free raw (gNext raw 0 3).1.toNat (gNext raw 0 3).2
def gProgF (raw : List Int) (a : Nat) : List Fu × Nat := gFuns raw (gNext raw a 3).1.toNat (gNext raw a 3).2
def gProgSc (raw : List Int) (free : Bool) : Sc := ⟨[], (gProgA raw free).1, fMain :: (gProgF raw (gProgA raw free).2).1, free, false⟩
def gProg (raw0 : List Int) (free : Bool) : Pr :=
  let raw := raw0.take 400
  ⟨(gProgA raw free).1, (gBodies raw (gProgSc raw free) (gProgSc raw free).funcs (gProgF raw (gProgA raw free).2).2).1⟩
def gExprTop (raw0 : List Int) : Ex := (gExpr ⟨[], [], [], true, false⟩ (raw0.take 100) 6 0).1

theorem gArr_ok (free : Bool) (raw : List Int) (i a : Nat) (hi : i = 1 ∨ i = 2) : rightAr (gArr free raw i a).1 = true := by
  unfold gArr; split
  · have h1 := varOf_name (gNext raw (gNext raw a 4).2 312).1
    have h2 := gNext_range raw (gNext raw (gNext raw a 4).2 312).2 1000 (by decide)
    unfold gArray
    rw [if_pos (by simp)]
    simp only [rightAr, h1, Bool.true_and]
    simp; omega
  · have h2 := gNext_range raw a 4 (by decide)
    have h3 : (gNext raw a 4).1 = 0 ∨ (gNext raw a 4).1 = 1 ∨ (gNext raw a 4).1 = 2 ∨ (gNext raw a 4).1 = 3 := by omega
    dsimp only
    rcases hi with rfl | rfl <;> rcases h3 with h | h | h | h <;> rw [h] <;> decide
theorem gArrs_ok (free : Bool) (raw : List Int) : ∀ i a, i ≤ 2 → ∀ x, x ∈ (gArrs free raw i a).1 → rightAr x = true
  | 0, a, _, x, hx => by cases hx
  | i + 1, a, hi, x, hx => by
    rw [gArrs] at hx
    rcases List.mem_cons.1 hx with rfl | hx
    · exact gArr_ok free raw (i + 1) a (by omega)
    · exact gArrs_ok free raw i _ (by omega) x hx
def FuHead (f : Fu) : Prop := isName f.name = true ∧ f.params.length ≤ 6 ∧ ∀ x, x ∈ f.params → isName x = true
theorem pNames_ok : ∀ x, x ∈ pNames → isName x = true := by decide
theorem lNames_ok : ∀ x, x ∈ lNames → isName x = true := by decide
theorem gFuns_ok (raw : List Int) : ∀ i a, i ≤ 2 → ∀ x, x ∈ (gFuns raw i a).1 → FuHead x
  | 0, a, _, x, hx => by cases hx
  | i + 1, a, hi, x, hx => by
    rw [gFuns] at hx
    rcases List.mem_cons.1 hx with rfl | hx
    · have hi' : i = 0 ∨ i = 1 := by omega
      refine ⟨?_, ?_, fun x hx => pNames_ok x (List.mem_of_mem_take hx)⟩
      · show isName (fNames.getD (i + 1) []) = true
        rcases hi' with rfl | rfl <;> decide
      · show (pNames.take _).length ≤ 6
        rw [List.length_take]; exact Nat.min_le_right _ _
    · exact gFuns_ok raw i _ (by omega) x hx
theorem gBodies_ok (raw : List Int) (sc : Sc) (ha : ∀ x, x ∈ sc.arrays → isName x.name = true) (hf : ∀ x, x ∈ sc.funcs → FuHead x) : ∀ l a, (∀ x, x ∈ l → FuHead x) → ∀ x, x ∈ (gBodies raw sc l a).1 → rightFu x = true
  | [], a, _, x, hx => by cases hx
  | f :: l, a, hl, x, hx => by
    rw [gBodies] at hx
    rcases List.mem_cons.1 hx with rfl | hx
    · have h := hl f List.mem_cons_self
      have hL : ∀ x, x ∈ lNames.take (gNext raw a 6).1.toNat → isName x = true := fun x hx => lNames_ok x (List.mem_of_mem_take hx)
      have hsc : Sc.Ok ⟨f.params ++ lNames.take (gNext raw a 6).1.toNat, sc.arrays, sc.funcs, sc.free, false⟩ := ⟨fun x hx => by
        rcases List.mem_append.1 hx with hx | hx
        · exact h.2.2 x hx
        · exact hL x hx, ha, fun x hx => ⟨(hf x hx).1, (hf x hx).2.1⟩⟩
      have hb := gStmts_ok raw 4 _ hsc 40 (by omega) (by omega) (gNext raw a 6).2
      unfold gBody rightFu
      dsimp only
      rw [h.1, List.all_eq_true.2 h.2.2, List.all_eq_true.2 hL, List.all_eq_true.2 hb, decide_eq_true h.2.1]; rfl
    · exact gBodies_ok raw sc ha hf l _ (fun x hx => hl x (List.mem_cons_of_mem _ hx)) x hx
theorem gProg_heads (raw : List Int) (free : Bool) : ∀ x, x ∈ (gProgSc raw free).funcs → FuHead x := by
  intro x hx
  rcases List.mem_cons.1 hx with rfl | hx
  · exact ⟨by decide, by decide, fun x hx => by cases hx⟩
  · exact gFuns_ok raw _ _ (by have := gNext_range raw (gProgA raw free).2 3 (by decide); omega) x hx
theorem gProg_arrays (raw : List Int) (free : Bool) : ∀ x, x ∈ (gProgA raw free).1 → rightAr x = true :=
  gArrs_ok free raw _ _ (by have := gNext_range raw 0 3 (by decide); omega)
theorem gProg_right (raw0 : List Int) (free : Bool) : rightPr (gProg raw0 free) = true := by
  unfold gProg rightPr
  dsimp only
  rw [Bool.and_eq_true, List.all_eq_true, List.all_eq_true]
  refine ⟨gProg_arrays _ _, gBodies_ok _ _ (fun x hx => ?_) (gProg_heads _ _) _ _ (gProg_heads _ _)⟩
  have := gProg_arrays (raw0.take 400) free x hx
  unfold rightAr at this; exact ((Bool.and_eq_true _ _).mp this).1
theorem gExprTop_right (raw0 : List Int) : rightEx (gExprTop raw0) = true :=
  gExpr_right ⟨fun _ hx => (List.not_mem_nil hx).elim, fun _ hx => (List.not_mem_nil hx).elim, fun _ hx => (List.not_mem_nil hx).elim⟩ _ 6 0 (by omega)
end Go.Proofs.YtcfpfnoldgnloaaGreatDoor

namespace Go.Proofs.YtcfpfnoldgnloaaGreatDoor
open Go.RowKit
set_option maxHeartbeats 4000000
set_option maxRecDepth 100000

theorem pick_any (c n : Int) (hc : I64 c) (h0 : 0 < n) (h1 : n ≤ 9223372036854775807) (w : World) :
    Calls Tryz.prog 82 #[.int .i64 c, .int .i64 n] w fun e w' => e = .returned (.int .i64 (pickOf c n)) ∧ w' = w := by
  obtain ⟨l, u⟩ := hc
  unfold pickOf
  by_cases hneg : c < 0
  · rw [if_pos hneg]
    have hn0 : (n == 0) = false := by simp; omega
    go_enter Tryz.func82, Tryz.ntmps82
    go_wp2_with fail
    go_ret
    exact ⟨ret_int (by show -((c + 1).tmod n) = _; rw [← Int.neg_tmod, Int.tmod_eq_emod_of_nonneg (by omega)]), rfl⟩
  · rw [if_neg hneg]
    have hneg' : 0 ≤ c := by omega
    go_enter Tryz.func82, Tryz.ntmps82
    go_wp2_with fail
    go_ret
    exact ⟨rfl, rfl⟩

/-- A slice of ints in the blocks D. -/
def IntsAt (D : Nat → Prop) (w : World) (l : List Int) (v : Value) : Prop :=
  ∃ a cap b off, v = .slice a l.length cap ∧ l.length ≤ cap ∧ Fits l.length ∧ (l.length = 0 ∨ (a = some ⟨b, off, none⟩ ∧ D b)) ∧
    (∀ i, i < l.length → w.cell? ⟨b, off + i, none⟩ = some (.int .i64 (l.getD i 0))) ∧ ∀ i, i < l.length → I64 (l.getD i 0)
theorem IntsAt.keep {D : Nat → Prop} {w w' : World} (hk : Keeps D w w') {l : List Int} {v : Value} (h : IntsAt D w l v) : IntsAt D w' l v := by
  obtain ⟨a, cap, b, off, hv, h1, h2, h3, h4, h5⟩ := h
  refine ⟨a, cap, b, off, hv, h1, h2, h3, fun i hi => ?_, h5⟩
  rcases h3 with h3 | ⟨_, hD⟩
  · omega
  · exact hk _ _ _ hD (h4 i hi)
theorem IntsAt.shape {D : Nat → Prop} {w : World} {l : List Int} {v : Value} (h : IntsAt D w l v) : ∃ a cap, v = .slice a l.length cap := by
  obtain ⟨a, cap, b, off, hv, _⟩ := h; exact ⟨a, cap, hv⟩
theorem IntsAt.fits {D : Nat → Prop} {w : World} {l : List Int} {v : Value} (h : IntsAt D w l v) : Fits l.length := by
  obtain ⟨a, cap, b, off, hv, h1, h2, _⟩ := h; exact h2
theorem IntsAt.cellAt {D : Nat → Prop} {w : World} {l : List Int} {a : Option Addr} {n cap : Nat} (h : IntsAt D w l (.slice a n cap)) (i : Nat) (hl : i < l.length) : ∃ b off, a = some ⟨b, off, none⟩ ∧ D b ∧ b < w.heap.size ∧
    w.cell? ⟨b, off + i, none⟩ = some (.int .i64 (l.getD i 0)) ∧ I64 (l.getD i 0) := by
  obtain ⟨a', cap', b, off, hv, h1, h2, h3, h4, h5⟩ := h
  cases hv
  rcases h3 with h3 | ⟨h3, hD⟩
  · omega
  · exact ⟨b, off, h3, hD, World.block_lt_of_cell? _ _ (h4 i hl), h4 i hl, h5 i hl⟩

/-- A source at s: raw numbers, and where the next one stands. -/
def SrcAt (w : World) (s : Nat) (raw : List Int) (a : Nat) : Prop :=
  ∃ v, w.heap[s]? = some (.cells #[v, .int .i64 a] 71 (0, 0)) ∧ IntsAt (· < s) w raw v ∧ a ≤ raw.length
theorem SrcAt.lt {w : World} {s : Nat} {raw : List Int} {a : Nat} (h : SrcAt w s raw a) : s < w.heap.size := by
  obtain ⟨v, hb, _⟩ := h
  rcases Nat.lt_or_ge s w.heap.size with h' | h'
  · exact h'
  · simp [Array.getElem?_eq_none h'] at hb
theorem SrcAt.old {w w' : World} {s : Nat} {raw : List Int} {a : Nat} (h : SrcAt w s raw a) (hb : Below w.heap.size w w') : SrcAt w' s raw a := by
  have hl := h.lt
  obtain ⟨v, h1, h2, h3⟩ := h
  exact ⟨v, (hb.block s hl).trans h1, h2.keep (keeps_below hb), h3⟩
theorem SrcAt.set {w : World} {s : Nat} {raw : List Int} {a : Nat} (h : SrcAt w s raw a) (ha : a < raw.length) : SrcAt (w.setCell ⟨s, 1, none⟩ (.int .i64 ((a : Int) + 1))) s raw (a + 1) ∧ SFr s w (w.setCell ⟨s, 1, none⟩ (.int .i64 ((a : Int) + 1))) := by
  obtain ⟨v, h1, h2, h3⟩ := h
  have hf : SFr s w (w.setCell ⟨s, 1, none⟩ (.int .i64 ((a : Int) + 1))) := ⟨rfl, rfl, rfl, by simp [World.setCell], fun k _ hk => Below.heap_setCell _ _ _ _ hk⟩
  refine ⟨⟨v, ?_, h2.keep (hf.keepsD (fun b h => Nat.ne_of_lt h)), ha⟩, hf⟩
  rw [show ((a + 1 : Nat) : Int) = (a : Int) + 1 from by omega]
  simp [World.setCell, Array.getElem?_modify, h1]
/-- What a function leaves that takes of the source. -/
def Takes (w : World) (s : Nat) (raw : List Int) (x : Value) (a' : Nat) (r : Ending) (w' : World) : Prop := r = .returned x ∧ SrcAt w' s raw a' ∧ SFr s w w'
theorem SrcAt.drewN {s n : Nat} {w1 : World} {raw : List Int} {a : Nat} (h : SrcAt w1 s raw a) : SrcAt (w1.drewN n) s raw a := h

theorem next_any (s : Nat) (raw : List Int) (a : Nat) (n : Int) (w : World) (hs : SrcAt w s raw a) (h0 : 0 < n) (h1 : n ≤ 1000000) :
    Calls Tryz.prog 37 #[.pointer (some ⟨s, 0, none⟩), .int .i64 n] w (Takes w s raw (.int .i64 (gNext raw a n).1) (gNext raw a n).2) := by
  have HS := Lib.hid hs
  obtain ⟨v, hb, hr, ha⟩ := hs
  obtain ⟨ra, rc, rfl⟩ := hr.shape
  have l63 := hr.fits.out
  have c0 : w.cell? ⟨s, 0, none⟩ = some (.slice ra raw.length rc) := by rw [Lib.cell_of_heap hb]; rfl
  have c1 : w.cell? ⟨s, 1, none⟩ = some (.int .i64 a) := by rw [Lib.cell_of_heap hb]; rfl
  have fz : w.frozen? ⟨s, 1, none⟩ = false := Lib.frozen_of_heap hb 1
  unfold gNext
  by_cases hge : raw.length ≤ a
  · rw [if_pos hge]
    clear hb hr
    go_enter Tryz.func37, Tryz.ntmps37
    go_wp2_with fail
    go_quiet (fail)
    go_wp2_with fail
    go_ret
    exact ⟨rfl, HS.out, SFr.drewN (SFr.refl _ _)⟩
  · rw [if_neg hge]
    have hlt : a < raw.length := by omega
    obtain ⟨b, off, rfl, hD, hbl, cr, hI⟩ := hr.cellAt a hlt
    have HSET := Lib.hid (HS.out.set hlt)
    have HI := Lib.hid hI
    have hD' : b ≠ s := Nat.ne_of_lt hD
    have HCR := Lib.hid (HSET.out.2.cell hD' cr)
    obtain ⟨v', hb', _, _⟩ := HSET.out.1
    have hsl := HS.out.lt
    have g0 : (w.setCell ⟨s, 1, none⟩ (.int .i64 ((a : Int) + 1))).cell? ⟨s, 0, none⟩ = some (.slice (some ⟨b, off, none⟩) raw.length rc) := by
      have h := hb
      simp [World.setCell, World.cell?, Array.getElem?_modify, h]
    clear hb hr hI hD hge hb'
    generalize hc : raw.getD a 0 = c at *
    clear hc
    go_enter Tryz.func37, Tryz.ntmps37
    go_wp2_with fail
    go_quiet (fail)
    go_wp2_with fail
    have hsv : SrcAt ((w.drewN nq).setCell ⟨s, 1, none⟩ (.int .i64 ((a : Int) + 1))) s raw (a + 1) := HSET.out.1.drewN (n := nq)
    have hfv : SFr s w ((w.drewN nq).setCell ⟨s, 1, none⟩ (.int .i64 ((a : Int) + 1))) := HSET.out.2.drewN (n := nq)
    have k0 : ((w.drewN nq).setCell ⟨s, 1, none⟩ (.int .i64 ((a : Int) + 1))).cell? ⟨s, 0, none⟩ = some (.slice (some ⟨b, off, none⟩) raw.length rc) := g0
    have k1 : ((w.drewN nq).setCell ⟨s, 1, none⟩ (.int .i64 ((a : Int) + 1))).cell? ⟨s, 1, none⟩ = some (.int .i64 ((a : Int) + 1)) := by
      obtain ⟨v2, hb2, _⟩ := hsv
      rw [Lib.cell_of_heap hb2]; show some (Value.int .i64 ((a + 1 : Nat) : Int)) = _; rw [show ((a + 1 : Nat) : Int) = (a : Int) + 1 from by omega]
    have kr : ((w.drewN nq).setCell ⟨s, 1, none⟩ (.int .i64 ((a : Int) + 1))).cell? ⟨b, off + a, none⟩ = some (.int .i64 c) := HCR.out
    have HSV := Lib.hid hsv; have HFV := Lib.hid hfv
    clear hsv hfv g0 c0 c1 cr fz HSET HCR HS
    generalize (w.drewN nq).setCell ⟨s, 1, none⟩ (.int .i64 ((a : Int) + 1)) = V at *
    have S1 : IntKind.i64.wrap ((a : Int) + 1 - 1) = a := by rw [IntWalk.i64_in _ (by omega)]; omega
    have S2 : IntKind.i64.wrap (a : Int) = a := IntWalk.i64_in _ (by omega)
    have i0 : (0 : Int) ≤ (a : Int) := by omega
    have i1 : (a : Int) < (raw.length : Int) := by omega
    have hbv : b < V.heap.size := World.block_lt_of_cell? _ _ kr
    have hsv : s < V.heap.size := HSV.out.lt
    go_region_held3 (fun w' => w'.cell? ⟨s, 0, none⟩ = some (.slice (some ⟨b, off, none⟩) raw.length rc) ∧ w'.cell? ⟨s, 1, none⟩ = some (.int .i64 ((a : Int) + 1)) ∧ w'.cell? ⟨b, off + a, none⟩ = some (.int .i64 c)) (first | (simp [*, World.cell?_alloc_lt]; done) | go_keep) (first
      | (go_at_call 82; refine (pick_any c n HI.out h0 (by omega) _).mono ?_; rintro r w2 ⟨he, hw⟩; subst he; subst hw))
    go_wp2_with fail
    go_ret
    exact ⟨rfl, HSV.out, SFr.drewN (n := 1) HFV.out⟩
end Go.Proofs.YtcfpfnoldgnloaaGreatDoor

namespace Go.Proofs.YtcfpfnoldgnloaaGreatDoor
open Go.ChangeShapes Go.WideShapes Go.ChangeAt Go.RowKit
set_option maxHeartbeats 4000000
set_option maxRecDepth 100000

/-- A slice of ints in the blocks D, of whatever length. -/
def RawAt (D : Nat → Prop) (w : World) (l : List Int) (v : Value) : Prop :=
  ∃ a cap b off, v = .slice a l.length cap ∧ l.length ≤ cap ∧ cap ≤ 9223372036854775807 ∧ (l.length = 0 ∨ (a = some ⟨b, off, none⟩ ∧ D b)) ∧
    (∀ i, i < l.length → w.cell? ⟨b, off + i, none⟩ = some (.int .i64 (l.getD i 0))) ∧ ∀ i, i < l.length → I64 (l.getD i 0)
theorem RawAt.keep {D : Nat → Prop} {w w' : World} (hk : Keeps D w w') {l : List Int} {v : Value} (h : RawAt D w l v) : RawAt D w' l v := by
  obtain ⟨a, cap, b, off, hv, h1, h2, h3, h4, h5⟩ := h
  refine ⟨a, cap, b, off, hv, h1, h2, h3, fun i hi => ?_, h5⟩
  rcases h3 with h3 | ⟨_, hD⟩
  · omega
  · exact hk _ _ _ hD (h4 i hi)
theorem RawAt.mono {D D' : Nat → Prop} (hD : ∀ b, D b → D' b) {w : World} {l : List Int} {v : Value} (h : RawAt D w l v) : RawAt D' w l v := by
  obtain ⟨a, cap, b, off, hv, h1, h2, h3, h4, h5⟩ := h
  exact ⟨a, cap, b, off, hv, h1, h2, h3.imp id (fun q => ⟨q.1, hD _ q.2⟩), h4, h5⟩
theorem RawAt.old {w w' : World} {l : List Int} {v : Value} (hb : Below w.heap.size w w') (h : RawAt (· < w.heap.size) w l v) : RawAt (· < w'.heap.size) w' l v :=
  (h.keep (keeps_below hb)).mono (fun b hl => Nat.lt_of_lt_of_le hl hb.size)
theorem RawAt.shape {D : Nat → Prop} {w : World} {l : List Int} {v : Value} (h : RawAt D w l v) : ∃ a cap, v = .slice a l.length cap := by
  obtain ⟨a, cap, b, off, hv, _⟩ := h; exact ⟨a, cap, hv⟩
theorem RawAt.len {D : Nat → Prop} {w : World} {l : List Int} {v : Value} (h : RawAt D w l v) : l.length ≤ 9223372036854775807 := by
  obtain ⟨a, cap, b, off, hv, h1, h2, _⟩ := h; omega
theorem RawAt.take {D : Nat → Prop} {w : World} {l : List Int} {a : Option Addr} {n cap : Nat} (h : RawAt D w l (.slice a n cap)) (k : Nat) (hk : k ≤ l.length) (h4 : k ≤ 1000) : IntsAt D w (l.take k) (.slice a k cap) := by
  obtain ⟨a', cap', b, off, hv, h1, h2, h3, h5, h6⟩ := h
  cases hv
  have e : (l.take k).length = k := by rw [List.length_take]; omega
  refine ⟨a, cap, b, off, by rw [e], by rw [e]; omega, by rw [e]; show k ≤ _; omega, ?_, fun i hi => ?_, fun i hi => ?_⟩
  · rcases h3 with h3 | h3
    · left; rw [e]; omega
    · exact .inr h3
  · rw [e] at hi
    have := h5 i (by omega)
    rw [List.getD_eq_getElem?_getD, List.getElem?_take, if_pos hi, ← List.getD_eq_getElem?_getD]; exact this
  · rw [e] at hi
    have := h6 i (by omega)
    rw [List.getD_eq_getElem?_getD, List.getElem?_take, if_pos hi, ← List.getD_eq_getElem?_getD]; exact this
theorem i64_of_wf {n : Int} (h : (Lit.int .i64 n).wf = true) : I64 n := by
  simp only [Lit.wf, Bool.and_eq_true, decide_eq_true_eq] at h
  exact h
theorem cellsInt : Tryz.prog.cellsOf 3 = 1 := by kernel_rfl
/-- A slice of ints that comes in: its numbers; it is read again where old memory is as it was. -/
theorem open_raw {H : Type} {enc : TypeId × Value → H} {W : World} {base : Nat} {x : Value} {d : DataW H} {p : List MemPlace} (hv : Value.okWide Tryz.prog W .any base 38 x) (h : DataW.Trod enc Tryz.prog W 0 (fun _ => true) true 38 x d p) :
    ∃ raw, RawAt (· < W.heap.size) W raw x ∧ ∀ (W' : World) (sp : Nat → Bool) (hd : Bool), Below W.heap.size W W' → (∀ q, q ∈ p → sp q.block = true) → DataW.Trod enc Tryz.prog W' 0 sp hd 38 x d p := by
  obtain ⟨a0, len, cap, rfl⟩ := okWide_slice Tryz.underlying38 hv
  obtain ⟨fuel, hf⟩ := h
  rcases open_ints Tryz.underlying38 Tryz.underlying3 cellsInt hf with ⟨hcs, hx⟩ | ⟨a, len', cap', zs, hcs, hb, hl, hm, hz, hx, hcell, hwz⟩
  · cases hcs; cases hx
    exact ⟨[], ⟨none, 0, 0, 0, rfl, Nat.le_refl _, Nat.zero_le _, .inl rfl, fun i hi => (by cases hi), fun i hi => (by cases hi)⟩, fun W' sp hd _ _ => ⟨2, rfl⟩⟩
  · cases hcs; cases hx
    rw [if_pos rfl] at hz
    have e : (zs.take len).length = len := by rw [List.length_take]; omega
    have hmax : cap ≤ 9223372036854775807 := by unfold maxLen at hm; omega
    have wf0 : ∀ i, i < zs.length → I64 (zs.getD i 0) := fun i hi => i64_of_wf (hwz _ (by rw [List.getD_eq_getElem?_getD, List.getElem?_eq_getElem hi]; exact List.getElem_mem hi))
    rcases Nat.eq_zero_or_pos zs.length with h0 | h0
    · have hl0 : len = 0 := by omega
      subst hl0
      refine ⟨[], ⟨some a, cap, 0, 0, rfl, Nat.zero_le _, hmax, .inl rfl, fun i hi => (by cases hi), fun i hi => (by cases hi)⟩, fun W' sp hd _ _ => ⟨2, ?_⟩⟩
      exact shut_ints 0 Tryz.underlying38 Tryz.underlying3 cellsInt (Nat.zero_le _) hl hm (by split <;> omega) (fun i hi => by omega) hwz
    · obtain ⟨b, off, rfl, hc⟩ := ints_at hcell h0
      have hbl : b < W.heap.size := World.block_lt_of_cell? _ _ (hc 0 h0)
      refine ⟨zs.take len, ⟨some ⟨b, off, none⟩, cap, b, off, by rw [e], by rw [e]; exact hl, hmax, .inr ⟨rfl, hbl⟩, fun i hi => ?_, fun i hi => ?_⟩, fun W' sp hd hB hsp => ⟨2, ?_⟩⟩
      · rw [e] at hi
        have := hc i (by omega)
        rw [List.getD_eq_getElem?_getD, List.getElem?_take, if_pos hi, ← List.getD_eq_getElem?_getD]; exact this
      · rw [e] at hi
        have := wf0 i (by omega)
        rw [List.getD_eq_getElem?_getD, List.getElem?_take, if_pos hi, ← List.getD_eq_getElem?_getD]; exact this
      · have hs : sp b = true := hsp (.cell b (off + 0)) (MemPlace.mem_row.2 ⟨0, h0, rfl⟩)
        exact shut_ints' 0 Tryz.underlying38 Tryz.underlying3 cellsInt (Nat.zero_le _) hl hm (by rw [hs]; simpa using hz) (fun i hi => below_keeps hB (hc i hi)) hwz
end Go.Proofs.YtcfpfnoldgnloaaGreatDoor

namespace Go.Proofs.YtcfpfnoldgnloaaGreatDoor
open Go.RowKit
set_option maxHeartbeats 4000000
set_option maxRecDepth 100000


/-- A token: its kind, text, number and line. -/
structure Tk where
  kind : Int
  text : Bs
  num : Int
  line : Int
def tkCells (t : Tk) : List Value := [.int .i64 t.kind, .string (strOf t.text), .int .i64 t.num, .int .i64 t.line]
theorem infoTk : (Tryz.prog.info? 50).map (fun i => (i.zero, i.size, i.bytes)) = some (some (.agg #[.int .i64 0, .string ⟨#[]⟩, .int .i64 0, .int .i64 0]), 4, 40) := by kernel_rfl
def TksOwn (w : World) (base : Nat) (l : List Tk) (v : Value) : Prop := w.ownsRow base 50 4 v l.length (l.flatMap tkCells)
theorem TksOwn.zero (w : World) (base : Nat) : TksOwn w base [] (.slice none 0 0) := ⟨rfl, .inl ⟨rfl, rfl⟩⟩
theorem TksOwn.ge {w : World} {base : Nat} {l : List Tk} {v : Value} (h : TksOwn w base l v) {k : Nat} (hk : v.ownBlock = some k) : base ≤ k ∧ k < w.heap.size := World.ownsRow.lt h k hk
theorem TksOwn.snoc {w' : World} {base : Nat} {l : List Tk} (a : Tk) {g cap : Nat} (hown : w'.ownsRow base 50 4 (.slice (some ⟨g, 0, none⟩) (l.length + 1) cap) (l.length + 1) (l.flatMap tkCells ++ tkCells a)) :
    TksOwn w' base (l ++ [a]) (.slice (some ⟨g, 0, none⟩) (l.length + 1) cap) := by
  unfold TksOwn
  simpa using hown
theorem tkCells_one (a : Tk) : ∀ u, u ∈ tkCells a → u.oneCell' = true := by
  intro u hu
  simp only [tkCells, List.mem_cons, List.not_mem_nil, or_false] at hu
  rcases hu with rfl | rfl | rfl | rfl <;> rfl
end Go.Proofs.YtcfpfnoldgnloaaGreatDoor

namespace Go.Proofs.YtcfpfnoldgnloaaGreatDoor
set_option maxRecDepth 100000
set_option maxHeartbeats 4000000

abbrev PR (α : Type) := Except Int (α × List Tk)
def lineP (l : List Tk) : Int := (l.head?.map (·.line)).getD 0
def isP (s : Bs) (t : Tk) : Bool := (t.kind == 2 || t.kind == 4) && t.text == s
/-- take: what is left behind a word, or a sign, of this text. -/
def takeP (s : Bs) : List Tk → Option (List Tk)
  | [] => none
  | t :: r => if isP s t = true then some r else none
def ywantP (s : Bs) (l : List Tk) : Except Int (List Tk) := match takeP s l with
  | some r => .ok r
  | none => .error (lineP l)
def kindP (k : Int) : List Tk → PR Tk
  | [] => .error 0
  | t :: r => if t.kind = k then .ok (t, r) else .error t.line
def nameP (l : List Tk) : PR Bs := match kindP 1 l with
  | .ok (t, r) => .ok (t.text, r)
  | .error e => .error e
def unaryP (l : List Tk) : Option (Int × List Tk) :=
  match takeP (signOf 17) l with
  | some r => some (17, r)
  | none => match takeP (signOf 18) l with
    | some r => some (18, r)
    | none => match takeP (signOf 19) l with
      | some r => some (19, r)
      | none => none
/-- The operator of two that is next, if it binds at least so strongly; 0: none. -/
def binaryP (lv : Int) (l : List Tk) : Int := match l with
  | [] => 0
  | t :: _ => ((((List.range 16).map fun i : Nat => (i : Int) + 1).find? fun op => isP (signOf op) t && decide (lv ≤ levelOf op))).getD 0
mutual
/-- climb: an expression whose operators bind at least so strongly. -/
def climbP : Nat → Int → List Tk → PR Ex
  | 0, _, l => .error (lineP l)
  | f + 1, lv, l => match tightP f l with
    | .error e => .error e
    | .ok (x, r) => loopP f lv x r
def loopP : Nat → Int → Ex → List Tk → PR Ex
  | 0, _, _, l => .error (lineP l)
  | f + 1, lv, x, l => if binaryP lv l = 0 then .ok (x, l) else
    match climbP f (levelOf (binaryP lv l) + 1) (l.drop 1) with
    | .error e => .error e
    | .ok (y, r) => loopP f lv (.mk 4 (binaryP lv l) 0 [] [x, y]) r
def tightP : Nat → List Tk → PR Ex
  | 0, l => .error (lineP l)
  | f + 1, l => match unaryP l with
    | some (op, r) => (match tightP f r with
      | .error e => .error e
      | .ok (x, r) => .ok (.mk 3 op 0 [] [x], r))
    | none => match takeP [40] l with
      | some r => (match climbP f 1 r with
        | .error e => .error e
        | .ok (x, r) => match ywantP [41] r with
          | .error e => .error e
          | .ok r => .ok (x, r))
      | none => match takeP [114, 101, 97, 100] l with
        | some r => (match ywantP [40] r with
          | .error e => .error e
          | .ok r => match ywantP [41] r with
            | .error e => .error e
            | .ok r => .ok (.mk 7 0 0 [] [], r))
        | none => match l with
          | [] => .error 0
          | t :: r => if t.kind = 3 then .ok (.mk 1 0 t.num [] [], r) else
            if t.kind = 1 then namedP f t.text r else .error t.line
/-- named: what stands behind a name. -/
def namedP : Nat → Bs → List Tk → PR Ex
  | 0, _, l => .error (lineP l)
  | f + 1, s, l => match takeP [40] l with
    | some r => (match argsP f r with
      | .error e => .error e
      | .ok (a, r) => .ok (.mk 5 0 0 s a, r))
    | none => match takeP [91] l with
      | some r => (match climbP f 1 r with
        | .error e => .error e
        | .ok (x, r) => match ywantP [93] r with
          | .error e => .error e
          | .ok r => .ok (.mk 6 0 0 s [x], r))
      | none => .ok (.mk 2 0 0 s [], l)
/-- args: a call's parts, up to the parenthesis. -/
def argsP : Nat → List Tk → PR (List Ex)
  | 0, l => .error (lineP l)
  | f + 1, l => match takeP [41] l with
    | some r => .ok ([], r)
    | none => moreP f [] l
def moreP : Nat → List Ex → List Tk → PR (List Ex)
  | 0, _, l => .error (lineP l)
  | f + 1, a, l => match climbP f 1 l with
    | .error e => .error e
    | .ok (x, r) => match takeP [44] r with
      | some r => moreP f (a ++ [x]) r
      | none => match ywantP [41] r with
        | .error e => .error e
        | .ok r => .ok (a ++ [x], r)
end
/-- inside: an expression in parentheses. -/
def insideP (f : Nat) (l : List Tk) : PR Ex := match ywantP [40] l with
  | .error e => .error e
  | .ok r => match climbP f 1 r with
    | .error e => .error e
    | .ok (x, r) => match ywantP [41] r with
      | .error e => .error e
      | .ok r => .ok (x, r)
/-- simple: a statement that has no others in it, but for its end. -/
def simpleP (f : Nat) (l : List Tk) : PR St :=
  match takeP [98, 114, 101, 97, 107] l with
  | some r => .ok (.mk 5 [] [] [] [], r)
  | none => match takeP [99, 111, 110, 116, 105, 110, 117, 101] l with
  | some r => .ok (.mk 6 [] [] [] [], r)
  | none => match takeP [114, 101, 116, 117, 114, 110] l with
  | some r => (match climbP f 1 r with
    | .error e => .error e
    | .ok (x, r) => .ok (.mk 7 [] [x] [] [], r))
  | none => match takeP [112, 114, 105, 110, 116] l with
  | some r => (match insideP f r with
    | .error e => .error e
    | .ok (x, r) => .ok (.mk 8 [] [x] [] [], r))
  | none => match takeP [116, 114, 97, 112] l with
  | some r => (match insideP f r with
    | .error e => .error e
    | .ok (x, r) => .ok (.mk 9 [] [x] [] [], r))
  | none => match nameP l with
  | .error e => .error e
  | .ok (s, l) => match takeP [40] l with
  | some r => (match argsP f r with
    | .error e => .error e
    | .ok (a, r) => .ok (.mk 10 [] [.mk 5 0 0 s a] [] [], r))
  | none => match takeP [91] l with
  | some r => (match climbP f 1 r with
    | .error e => .error e
    | .ok (x, r) => match ywantP [93] r with
      | .error e => .error e
      | .ok r => match ywantP [61] r with
        | .error e => .error e
        | .ok r => match climbP f 1 r with
          | .error e => .error e
          | .ok (y, r) => .ok (.mk 2 s [x, y] [] [], r))
  | none => match ywantP [61] l with
    | .error e => .error e
    | .ok r => match climbP f 1 r with
      | .error e => .error e
      | .ok (x, r) => .ok (.mk 1 s [x] [] [], r)
mutual
/-- stmt, and stmts up to a brace. -/
def stmtP : Nat → List Tk → PR St
  | 0, l => .error (lineP l)
  | f + 1, l => match takeP [105, 102] l with
    | some r => (match insideP f r with
      | .error e => .error e
      | .ok (x, r) => match ywantP [123] r with
        | .error e => .error e
        | .ok r => match stmtsP f [] r with
          | .error e => .error e
          | .ok (a, r) => match takeP [101, 108, 115, 101] r with
            | none => .ok (.mk 3 [] [x] a [], r)
            | some r => match ywantP [123] r with
              | .error e => .error e
              | .ok r => match stmtsP f [] r with
                | .error e => .error e
                | .ok (b, r) => .ok (.mk 3 [] [x] a b, r))
    | none => match takeP [119, 104, 105, 108, 101] l with
    | some r => (match insideP f r with
      | .error e => .error e
      | .ok (x, r) => match ywantP [123] r with
        | .error e => .error e
        | .ok r => match stmtsP f [] r with
          | .error e => .error e
          | .ok (a, r) => .ok (.mk 4 [] [x] a [], r))
    | none => match simpleP f l with
      | .error e => .error e
      | .ok (x, r) => match ywantP [59] r with
        | .error e => .error e
        | .ok r => .ok (x, r)
def stmtsP : Nat → List St → List Tk → PR (List St)
  | 0, _, l => .error (lineP l)
  | f + 1, a, l => match takeP [125] l with
    | some r => .ok (a, r)
    | none => match stmtP f l with
      | .error e => .error e
      | .ok (x, r) => stmtsP f (a ++ [x]) r
end
/-- A function's parameters: int and a name, with commas between. -/
def parsP : Nat → List Bs → List Tk → PR (List Bs)
  | 0, _, l => .error (lineP l)
  | f + 1, a, l => match ywantP [105, 110, 116] l with
    | .error e => .error e
    | .ok r => match nameP r with
      | .error e => .error e
      | .ok (s, r) => match takeP [44] r with
        | some r => parsP f (a ++ [s]) r
        | none => match ywantP [41] r with
          | .error e => .error e
          | .ok r => .ok (a ++ [s], r)
def localsP : Nat → List Bs → List Tk → PR (List Bs)
  | 0, _, l => .error (lineP l)
  | f + 1, a, l => match takeP [105, 110, 116] l with
    | none => .ok (a, l)
    | some r => match nameP r with
      | .error e => .error e
      | .ok (s, r) => match ywantP [59] r with
        | .error e => .error e
        | .ok r => localsP f (a ++ [s]) r
def functionP (f : Nat) (s : Bs) (l : List Tk) : PR Fu :=
  match (match takeP [41] l with | some r => (.ok ([], r) : PR (List Bs)) | none => parsP f [] l) with
  | .error e => .error e
  | .ok (ps, r) => match ywantP [123] r with
    | .error e => .error e
    | .ok r => match localsP f [] r with
      | .error e => .error e
      | .ok (ls, r) => match stmtsP f [] r with
        | .error e => .error e
        | .ok (b, r) => .ok (⟨s, ps, ls, b⟩, r)
/-- prog: up to the end. -/
def progP : Nat → Pr → List Tk → PR Pr
  | 0, _, l => .error (lineP l)
  | f + 1, p, l => if (l.head?.map (·.kind)).getD 0 = 5 then .ok (p, l) else
    match ywantP [105, 110, 116] l with
    | .error e => .error e
    | .ok r => match nameP r with
      | .error e => .error e
      | .ok (s, r) => match (if p.funcs.isEmpty = true then takeP [91] r else none) with
        | some r => (match kindP 3 r with
          | .error e => .error e
          | .ok (t, r) => match ywantP [93] r with
            | .error e => .error e
            | .ok r => match ywantP [59] r with
              | .error e => .error e
              | .ok r => progP f { p with arrays := p.arrays ++ [⟨s, t.num⟩] } r)
        | none => match ywantP [40] r with
          | .error e => .error e
          | .ok r => match functionP f s r with
            | .error e => .error e
            | .ok (x, r) => progP f { p with funcs := p.funcs ++ [x] } r
end Go.Proofs.YtcfpfnoldgnloaaGreatDoor
