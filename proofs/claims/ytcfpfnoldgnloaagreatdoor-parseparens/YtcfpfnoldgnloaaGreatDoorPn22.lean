/-
  The texts of statements, as plain functions. No program in sight.
  Texts as pieces: tokens and blanks; the pieces of expressions. Plain functions alone.
  The parser takes an expression's tokens and gives the expression back. Plain functions alone.
  An expression in parentheses: the parser takes it; one more on either side is told. Plain functions alone.
  The pieces of an expression may stand beside each other. Plain functions alone.
-/
import Derived.Test.YtcfpfnoldgnloaaGreatDoorPn21
import Derived.Test.YtcfpfnoldgnloaaGreatDoorPn04
import Derived.Test.YtcfpfnoldgnloaaGreatDoorPn01
set_option linter.unusedVariables false
set_option linter.unusedSimpArgs false
namespace Go.Proofs.YtcfpfnoldgnloaaGreatDoor
/-- Tabs, a line. -/
def tabsOf (t : Nat) : Bs := List.replicate t 9
def ln (t : Nat) (l : List Bs) : Bs := tabsOf t ++ l.flatten ++ [10]
def stShape (t : Nat) (k : Int) (nm : Bs) (args : List Ex) (noEls : Bool) (T E : Bs) : Bs :=
  if k = 1 then ln t [nm, [32, 61, 32], exText (exAt args 0), [59]]
  else if k = 2 then ln t [nm, [91], exText (exAt args 0), [93, 32, 61, 32], exText (exAt args 1), [59]]
  else if k = 3 then ln t [[105, 102, 32, 40], exText (exAt args 0), [41, 32, 123]] ++ (T ++ ((if noEls then [] else ln t [[125, 32, 101, 108, 115, 101, 32, 123]] ++ E) ++ ln t [[125]]))
  else if k = 4 then ln t [[119, 104, 105, 108, 101, 32, 40], exText (exAt args 0), [41, 32, 123]] ++ (T ++ ln t [[125]])
  else if k = 5 then ln t [[98, 114, 101, 97, 107, 59]]
  else if k = 6 then ln t [[99, 111, 110, 116, 105, 110, 117, 101, 59]]
  else if k = 7 then ln t [[114, 101, 116, 117, 114, 110, 32], exText (exAt args 0), [59]]
  else if k = 8 then ln t [[112, 114, 105, 110, 116, 40], exText (exAt args 0), [41, 59]]
  else if k = 9 then ln t [[116, 114, 97, 112, 40], exText (exAt args 0), [41, 59]]
  else if k = 10 then ln t [exText (exAt args 0), [59]] else []
mutual
def stText (t : Nat) : St → Bs
  | .mk k nm args thn els => stShape t k nm args els.isEmpty (stsText (t + 1) thn) (stsText (t + 1) els)
def stsText (t : Nat) : List St → Bs
  | [] => []
  | x :: l => stText t x ++ stsText t l
end
theorem stText_eq (t : Nat) (k : Int) (nm : Bs) (args : List Ex) (thn els : List St) : stText t (.mk k nm args thn els) = stShape t k nm args els.isEmpty (stsText (t + 1) thn) (stsText (t + 1) els) := by rw [stText]
theorem stsText_flat (t : Nat) : ∀ l, stsText t l = l.flatMap (stText t)
  | [] => rfl
  | x :: l => by rw [stsText, stsText_flat t l]; rfl
theorem stsText_take (t : Nat) (l : List St) (k : Nat) (h : k < l.length) : stsText t (l.take (k + 1)) = stsText t (l.take k) ++ stText t (stAt l k) := by
  rw [stsText_flat, stsText_flat, List.take_succ_eq_append_getElem h, List.flatMap_append]; simp [stAt, List.getElem?_eq_getElem h]
theorem stsText_take_le (t : Nat) (l : List St) (k : Nat) : (stsText t (l.take k)).length ≤ (stsText t l).length := by
  have e : stsText t l = stsText t (l.take k) ++ stsText t (l.drop k) := by rw [stsText_flat, stsText_flat, stsText_flat, ← List.flatMap_append, List.take_append_drop]
  rw [e]; simp
theorem stShape_1 (t : Nat) (nm : Bs) (args : List Ex) (ne : Bool) (T E : Bs) : stShape t 1 nm args ne T E = ln t [nm, [32, 61, 32], exText (exAt args 0), [59]] := by
  unfold stShape; simp only [Int.reduceEq, if_true, if_false, reduceIte]
theorem stShape_2 (t : Nat) (nm : Bs) (args : List Ex) (ne : Bool) (T E : Bs) : stShape t 2 nm args ne T E = ln t [nm, [91], exText (exAt args 0), [93, 32, 61, 32], exText (exAt args 1), [59]] := by
  unfold stShape; simp only [Int.reduceEq, if_true, if_false, reduceIte]
theorem stShape_3 (t : Nat) (nm : Bs) (args : List Ex) (ne : Bool) (T E : Bs) : stShape t 3 nm args ne T E = ln t [[105, 102, 32, 40], exText (exAt args 0), [41, 32, 123]] ++ (T ++ ((if ne then [] else ln t [[125, 32, 101, 108, 115, 101, 32, 123]] ++ E) ++ ln t [[125]])) := by
  unfold stShape; simp only [Int.reduceEq, if_true, if_false, reduceIte]
theorem stShape_4 (t : Nat) (nm : Bs) (args : List Ex) (ne : Bool) (T E : Bs) : stShape t 4 nm args ne T E = ln t [[119, 104, 105, 108, 101, 32, 40], exText (exAt args 0), [41, 32, 123]] ++ (T ++ ln t [[125]]) := by
  unfold stShape; simp only [Int.reduceEq, if_true, if_false, reduceIte]
theorem stShape_5 (t : Nat) (nm : Bs) (args : List Ex) (ne : Bool) (T E : Bs) : stShape t 5 nm args ne T E = ln t [[98, 114, 101, 97, 107, 59]] := by
  unfold stShape; simp only [Int.reduceEq, if_true, if_false, reduceIte]
theorem stShape_6 (t : Nat) (nm : Bs) (args : List Ex) (ne : Bool) (T E : Bs) : stShape t 6 nm args ne T E = ln t [[99, 111, 110, 116, 105, 110, 117, 101, 59]] := by
  unfold stShape; simp only [Int.reduceEq, if_true, if_false, reduceIte]
theorem stShape_7 (t : Nat) (nm : Bs) (args : List Ex) (ne : Bool) (T E : Bs) : stShape t 7 nm args ne T E = ln t [[114, 101, 116, 117, 114, 110, 32], exText (exAt args 0), [59]] := by
  unfold stShape; simp only [Int.reduceEq, if_true, if_false, reduceIte]
theorem stShape_8 (t : Nat) (nm : Bs) (args : List Ex) (ne : Bool) (T E : Bs) : stShape t 8 nm args ne T E = ln t [[112, 114, 105, 110, 116, 40], exText (exAt args 0), [41, 59]] := by
  unfold stShape; simp only [Int.reduceEq, if_true, if_false, reduceIte]
theorem stShape_9 (t : Nat) (nm : Bs) (args : List Ex) (ne : Bool) (T E : Bs) : stShape t 9 nm args ne T E = ln t [[116, 114, 97, 112, 40], exText (exAt args 0), [41, 59]] := by
  unfold stShape; simp only [Int.reduceEq, if_true, if_false, reduceIte]
theorem stShape_10 (t : Nat) (nm : Bs) (args : List Ex) (ne : Bool) (T E : Bs) : stShape t 10 nm args ne T E = ln t [exText (exAt args 0), [59]] := by
  unfold stShape; simp only [Int.reduceEq, if_true, if_false, reduceIte]
end Go.Proofs.YtcfpfnoldgnloaaGreatDoor

namespace Go.Proofs.YtcfpfnoldgnloaaGreatDoor
open Go.RowKit
set_option maxRecDepth 100000
set_option maxHeartbeats 4000000

/-- A token without its line. -/
structure T3 where
  kind : Int
  text : Bs
  num : Int
def t3 (t : Tk) : T3 := ⟨t.kind, t.text, t.num⟩
/-- A token, or blanks. -/
inductive Pc where
  | t (x : T3)
  | g (b : Bs)
def Pc.text : Pc → Bs | t x => x.text | g b => b
def pcText (l : List Pc) : Bs := l.flatMap Pc.text
def pcTk : List Pc → List T3
  | [] => []
  | .t x :: l => x :: pcTk l
  | .g _ :: l => pcTk l
theorem pcText_app (a b : List Pc) : pcText (a ++ b) = pcText a ++ pcText b := List.flatMap_append
theorem pcTk_app : ∀ a b : List Pc, pcTk (a ++ b) = pcTk a ++ pcTk b
  | [], b => rfl
  | .t x :: a, b => by simp [pcTk, pcTk_app a b]
  | .g x :: a, b => by simp [pcTk, pcTk_app a b]
abbrev sg (s : Bs) : Pc := .t ⟨4, s, 0⟩
abbrev wd (s : Bs) : Pc := .t ⟨2, s, 0⟩
abbrev nmp (s : Bs) : Pc := .t ⟨1, s, 0⟩
abbrev nu (n : Int) : Pc := .t ⟨3, Lib.itoa n, n⟩
def sepPc : List (List Pc) → List Pc
  | [] => []
  | x :: l => x ++ l.flatMap (fun y => [sg [44], .g [32]] ++ y)
def wrapPc (e : Ex) (level : Int) (l : List Pc) : List Pc := if e.kind = 4 ∧ levelOf e.op < level then [sg [40]] ++ l ++ [sg [41]] else l
def exPcShape (k o n : Int) (nm : Bs) (args : List Ex) (ts : List (List Pc)) : List Pc :=
  if k = 1 then [nu n]
  else if k = 2 then [nmp nm]
  else if k = 3 then [sg (signOf o)] ++ wrapPc (exAt args 0) 9 (ts.getD 0 [])
  else if k = 4 then wrapPc (exAt args 0) (levelOf o) (ts.getD 0 []) ++ ([.g [32], sg (signOf o), .g [32]]) ++ wrapPc (exAt args 1) (levelOf o + 1) (ts.getD 1 [])
  else if k = 5 then [nmp nm, sg [40]] ++ sepPc ts ++ [sg [41]]
  else if k = 6 then [nmp nm, sg [91]] ++ ts.getD 0 [] ++ [sg [93]]
  else if k = 7 then [wd [114, 101, 97, 100], sg [40], sg [41]] else []
mutual
def exPc : Ex → List Pc
  | .mk k o n nm args => exPcShape k o n nm args (exPcs args)
def exPcs : List Ex → List (List Pc)
  | [] => []
  | x :: l => exPc x :: exPcs l
end
theorem exPcs_eq : ∀ l, exPcs l = l.map exPc
  | [] => rfl
  | x :: l => by simp [exPcs, exPcs_eq l]
theorem pc_getD {l : List Ex} {i : Nat} (h : i < l.length) : (l.map exPc).getD i [] = exPc (exAt l i) := by
  simp [exAt, List.getElem?_eq_getElem h]
theorem exPc_eq (k o n : Int) (nm : Bs) (args : List Ex) : exPc (.mk k o n nm args) = exPcShape k o n nm args (args.map exPc) := by
  rw [exPc, exPcs_eq]
theorem exPc_1 (o n : Int) (nm : Bs) (args : List Ex) : exPc (.mk 1 o n nm args) = [nu n] := by
  rw [exPc_eq]; unfold exPcShape; rw [if_pos rfl]
theorem exPc_2 (o n : Int) (nm : Bs) (args : List Ex) : exPc (.mk 2 o n nm args) = [nmp nm] := by
  rw [exPc_eq]; unfold exPcShape; rw [if_neg (by decide), if_pos rfl]
def partPc (e : Ex) (level : Int) : List Pc := wrapPc e level (exPc e)
theorem exPc_3 (o n : Int) (nm : Bs) (x : Ex) : exPc (.mk 3 o n nm [x]) = sg (signOf o) :: partPc x 9 := by
  rw [exPc_eq]; unfold exPcShape; rw [if_neg (by decide), if_neg (by decide), if_pos rfl]; rfl
theorem exPc_4 (o n : Int) (nm : Bs) (x y : Ex) : exPc (.mk 4 o n nm [x, y]) = partPc x (levelOf o) ++ ([.g [32], sg (signOf o), .g [32]] ++ partPc y (levelOf o + 1)) := by
  rw [exPc_eq]; unfold exPcShape; rw [if_neg (by decide), if_neg (by decide), if_neg (by decide), if_pos rfl, List.append_assoc]; rfl
theorem exPc_5 (o n : Int) (nm : Bs) (args : List Ex) : exPc (.mk 5 o n nm args) = nmp nm :: sg [40] :: (sepPc (args.map exPc) ++ [sg [41]]) := by
  rw [exPc_eq]; unfold exPcShape; rw [if_neg (by decide), if_neg (by decide), if_neg (by decide), if_neg (by decide), if_pos rfl]; simp
theorem exPc_6 (o n : Int) (nm : Bs) (x : Ex) : exPc (.mk 6 o n nm [x]) = nmp nm :: sg [91] :: (exPc x ++ [sg [93]]) := by
  rw [exPc_eq]; unfold exPcShape; rw [if_neg (by decide), if_neg (by decide), if_neg (by decide), if_neg (by decide), if_neg (by decide), if_pos rfl]; rfl
theorem exPc_7 (o n : Int) (nm : Bs) (args : List Ex) : exPc (.mk 7 o n nm args) = [wd [114, 101, 97, 100], sg [40], sg [41]] := by
  rw [exPc_eq]; unfold exPcShape; rw [if_neg (by decide), if_neg (by decide), if_neg (by decide), if_neg (by decide), if_neg (by decide), if_neg (by decide), if_pos rfl]
theorem sep_text : ∀ l : List (List Pc), pcText (sepPc l) = sepText (l.map pcText)
  | [] => rfl
  | x :: l => by
    unfold sepPc sepText
    rw [List.map_cons]
    dsimp only
    rw [pcText_app]
    congr 1
    unfold pcText
    rw [List.flatMap_assoc, List.flatMap_map]
    rfl
theorem wrap_text (e : Ex) (lv : Int) (l : List Pc) : pcText (wrapPc e lv l) = wrapPart e lv (pcText l) := by
  unfold wrapPc wrapPart
  split
  · rw [pcText_app, pcText_app]; rfl
  · rfl
/-- An expression's pieces make its text. -/
theorem exPc_text (e : Ex) : pcText (exPc e) = exText e := by
  obtain ⟨k, o, n, nm, args⟩ := e
  rw [exPc_eq, exText_eq]
  have ih : (args.map exPc).map pcText = args.map exText := by
    rw [List.map_map]
    exact List.map_congr_left (fun x hx => exPc_text x)
  have hg : ∀ i, pcText ((args.map exPc).getD i []) = (args.map exText).getD i [] := by
    intro i
    rw [← ih]
    simp only [List.getD_eq_getElem?_getD, List.getElem?_map]
    cases args[i]? <;> rfl
  show pcText (exPcShape k o n nm args (args.map exPc)) = exShape k o n nm args (args.map exText)
  unfold exPcShape exShape
  split
  · simp [pcText, Pc.text]
  split
  · simp [pcText, Pc.text]
  split
  · rw [pcText_app, wrap_text, hg]; simp [pcText, Pc.text]
  split
  · rw [pcText_app, pcText_app, wrap_text, wrap_text, hg, hg]; simp [pcText, Pc.text]
  split
  · rw [pcText_app, pcText_app, sep_text, ih]; simp [pcText, Pc.text]
  split
  · rw [pcText_app, pcText_app, hg]; simp [pcText, Pc.text]
  split
  · rfl
  · rfl
termination_by SizeOf.sizeOf e
decreasing_by
  have := List.sizeOf_lt_of_mem hx
  simp only [Ex.mk.sizeOf_spec]
  omega
end Go.Proofs.YtcfpfnoldgnloaaGreatDoor

namespace Go.Proofs.YtcfpfnoldgnloaaGreatDoor
open Go.RowKit
set_option maxRecDepth 100000
set_option maxHeartbeats 4000000

/-- With steps enough, g answers z. -/
def Ev {α : Type} (g : Nat → PR α) (z : PR α) : Prop := ∃ f0, ∀ f, f0 ≤ f → g f = z
theorem Ev.two {α β : Type} {g : Nat → PR α} {h : Nat → PR β} {y : PR α} {z : PR β} (hg : Ev g y) (hh : Ev h z) : ∃ f0, ∀ f, f0 ≤ f → g f = y ∧ h f = z := by
  obtain ⟨a, ha⟩ := hg
  obtain ⟨b, hb⟩ := hh
  exact ⟨max a b, fun f hf => ⟨ha f (by omega), hb f (by omega)⟩⟩
theorem Ev.succ {α : Type} {g : Nat → PR α} {z : PR α} (h : ∃ f0, ∀ f, f0 ≤ f → g (f + 1) = z) : Ev g z := by
  obtain ⟨a, ha⟩ := h
  refine ⟨a + 1, fun f hf => ?_⟩
  obtain ⟨k, rfl⟩ : ∃ k, f = k + 1 := ⟨f - 1, by omega⟩
  exact ha k (by omega)
theorem Ev.const {α : Type} {g : Nat → PR α} {z : PR α} (h : ∀ f, g (f + 1) = z) : Ev g z := Ev.succ ⟨0, fun f _ => h f⟩
theorem Ev.one {α β : Type} {g : Nat → PR α} {h : Nat → PR β} {y : PR α} {z : PR β} (hg : Ev g y) (k : ∀ f, g f = y → h (f + 1) = z) : Ev h z := by
  obtain ⟨a, ha⟩ := hg
  exact Ev.succ ⟨a, fun f hf => k f (ha f hf)⟩
theorem Ev.both {α β γ : Type} {g : Nat → PR α} {h : Nat → PR β} {q : Nat → PR γ} {x : PR α} {y : PR β} {z : PR γ} (hg : Ev g x) (hh : Ev h y) (k : ∀ f, g f = x → h f = y → q (f + 1) = z) : Ev q z := by
  obtain ⟨a, ha⟩ := Ev.two hg hh
  exact Ev.succ ⟨a, fun f hf => k f (ha f hf).1 (ha f hf).2⟩

/-- The tokens of these pieces. -/
def For (ts : List Tk) (l : List Pc) : Prop := ts.map t3 = pcTk l
theorem For.app {ts : List Tk} {a b : List Pc} (h : For ts (a ++ b)) : ∃ t1 t2, ts = t1 ++ t2 ∧ For t1 a ∧ For t2 b := by
  unfold For at h
  rw [pcTk_app] at h
  obtain ⟨t1, t2, e, h1, h2⟩ := List.map_eq_append_iff.1 h
  exact ⟨t1, t2, e, h1, h2⟩
theorem For.cons {ts : List Tk} {x : T3} {l : List Pc} (h : For ts (.t x :: l)) : ∃ t r, ts = t :: r ∧ t3 t = x ∧ For r l := by
  unfold For at h
  obtain ⟨t, r, e, h1, h2⟩ := List.map_eq_cons_iff.1 (show ts.map t3 = x :: pcTk l from h)
  exact ⟨t, r, e, h1, h2⟩
theorem For.gap {ts : List Tk} {b : Bs} {l : List Pc} (h : For ts (.g b :: l)) : For ts l := h
theorem For.nil {ts : List Tk} (h : For ts []) : ts = [] := List.map_eq_nil_iff.1 h

theorem is_sg {t : Tk} {s : Bs} (h : t3 t = ⟨4, s, 0⟩) : isP s t = true := by
  unfold t3 at h
  injection h with h1 h2 h3
  unfold isP; simp [h1, h2]
theorem is_wd {t : Tk} {s : Bs} (h : t3 t = ⟨2, s, 0⟩) : isP s t = true := by
  unfold t3 at h
  injection h with h1 h2 h3
  unfold isP; simp [h1, h2]
theorem isnt_kind {t : Tk} {s : Bs} (h : t.kind = 1 ∨ t.kind = 3 ∨ t.kind = 5) : isP s t = false := by
  unfold isP; rcases h with h | h | h <;> simp [h]
theorem isnt_text {t : Tk} {s : Bs} (h : t.text ≠ s) : isP s t = false := by
  unfold isP; simp [h]

/-- The operators that are next. -/
theorem bin_zero {lv : Int} {t : Tk} {r : List Tk} : binaryP lv (t :: r) = 0 ↔ ∀ i : Nat, i < 16 → isP (signOf ((i : Int) + 1)) t = true → levelOf ((i : Int) + 1) < lv := by
  unfold binaryP
  dsimp only
  constructor
  · intro h i hi hp
    rcases hf : (((List.range 16).map fun i : Nat => (i : Int) + 1).find? fun op => isP (signOf op) t && decide (lv ≤ levelOf op)) with _ | op
    · rw [List.find?_eq_none] at hf
      have := hf ((i : Int) + 1) (List.mem_map.2 ⟨i, List.mem_range.2 hi, rfl⟩)
      rw [hp] at this
      simp at this
      exact this
    · rw [hf] at h
      have hm := List.mem_of_find?_eq_some hf
      obtain ⟨j, _, e⟩ := List.mem_map.1 hm
      simp at h
      omega
  · intro h
    rcases hf : (((List.range 16).map fun i : Nat => (i : Int) + 1).find? fun op => isP (signOf op) t && decide (lv ≤ levelOf op)) with _ | op
    · rfl
    · have hs := List.find?_some hf
      have hm := List.mem_of_find?_eq_some hf
      obtain ⟨j, hj, e⟩ := List.mem_map.1 hm
      subst e
      simp at hs
      have := h j (List.mem_range.1 hj) hs.1
      omega
theorem bin_nil (lv : Int) : binaryP lv [] = 0 := rfl
theorem bin_mono {a b : Int} {l : List Tk} (h : binaryP a l = 0) (hab : a ≤ b) : binaryP b l = 0 := by
  cases l with
  | nil => rfl
  | cons t r =>
    rw [bin_zero] at h ⊢
    intro i hi hp
    have := h i hi hp
    omega
theorem level_le (op : Int) : levelOf op ≤ 8 := by
  unfold levelOf
  repeat' split
  all_goals omega
theorem bin_high {lv : Int} (h : 9 ≤ lv) (l : List Tk) : binaryP lv l = 0 := by
  cases l with
  | nil => rfl
  | cons t r =>
    rw [bin_zero]
    intro i hi hp
    have := level_le ((i : Int) + 1)
    omega
theorem op_cases {op : Int} (h : 0 < levelOf op) : ∃ i : Fin 16, op = (i.val : Int) + 1 := by
  have : op = 1 ∨ op = 2 ∨ op = 3 ∨ op = 4 ∨ op = 5 ∨ op = 6 ∨ op = 7 ∨ op = 8 ∨ op = 9 ∨ op = 10 ∨ op = 11 ∨ op = 12 ∨ op = 13 ∨ op = 14 ∨ op = 15 ∨ op = 16 := by
    unfold levelOf at h
    revert h
    repeat' split
    all_goals (intro h; first | omega | (exfalso; exact absurd h (by decide)))
  rcases this with h | h | h | h | h | h | h | h | h | h | h | h | h | h | h | h
  · exact ⟨0, h⟩
  · exact ⟨1, h⟩
  · exact ⟨2, h⟩
  · exact ⟨3, h⟩
  · exact ⟨4, h⟩
  · exact ⟨5, h⟩
  · exact ⟨6, h⟩
  · exact ⟨7, h⟩
  · exact ⟨8, h⟩
  · exact ⟨9, h⟩
  · exact ⟨10, h⟩
  · exact ⟨11, h⟩
  · exact ⟨12, h⟩
  · exact ⟨13, h⟩
  · exact ⟨14, h⟩
  · exact ⟨15, h⟩
theorem sign_inj : ∀ i j : Fin 16, signOf ((i.val : Int) + 1) = signOf ((j.val : Int) + 1) → i = j := by decide
theorem isP_text {s : Bs} {t : Tk} (h : isP s t = true) : t.text = s := by
  unfold isP at h; simp at h; exact h.2
theorem bin_sign {lv op : Int} {t : Tk} {r : List Tk} (ho : 0 < levelOf op) (hl : lv ≤ levelOf op) (ht : isP (signOf op) t = true) : binaryP lv (t :: r) = op := by
  obtain ⟨i, rfl⟩ := op_cases ho
  unfold binaryP
  dsimp only
  rcases hf : (((List.range 16).map fun i : Nat => (i : Int) + 1).find? fun op => isP (signOf op) t && decide (lv ≤ levelOf op)) with _ | op
  · rw [List.find?_eq_none] at hf
    have := hf ((i.val : Int) + 1) (List.mem_map.2 ⟨i.val, List.mem_range.2 i.isLt, rfl⟩)
    rw [ht] at this
    simp at this
    omega
  · have hs := List.find?_some hf
    have hm := List.mem_of_find?_eq_some hf
    obtain ⟨j, hj, e⟩ := List.mem_map.1 hm
    subst e
    simp at hs
    have e1 := isP_text ht
    have e2 := isP_text hs.1
    have := sign_inj i ⟨j, List.mem_range.1 hj⟩ (e1.symm.trans e2)
    subst this
    rfl
theorem bin_other {lv : Int} {t : Tk} {r : List Tk} (h : ∀ i : Fin 16, t.text ≠ signOf ((i.val : Int) + 1)) : binaryP lv (t :: r) = 0 := by
  rw [bin_zero]
  intro i hi hp
  exact absurd (isP_text hp) (h ⟨i, hi⟩)
theorem bin_kind {lv : Int} {t : Tk} {r : List Tk} (h : t.kind = 1 ∨ t.kind = 3 ∨ t.kind = 5) : binaryP lv (t :: r) = 0 := by
  rw [bin_zero]
  intro i hi hp
  rw [isnt_kind h] at hp; cases hp
theorem bin_lvl {op lv : Int} {t : Tk} {r : List Tk} (ho : 0 < levelOf op) (ht : isP (signOf op) t = true) (hl : levelOf op < lv) : binaryP lv (t :: r) = 0 := by
  obtain ⟨i, rfl⟩ := op_cases ho
  rw [bin_zero]
  intro j hj hp
  have := sign_inj i ⟨j, hj⟩ ((isP_text ht).symm.trans (isP_text hp))
  subst this
  exact hl

theorem climb_ev {lv : Int} {l r : List Tk} {x : Ex} {z : PR Ex} (h1 : Ev (fun f => tightP f l) (.ok (x, r))) (h2 : Ev (fun f => loopP f lv x r) z) : Ev (fun f => climbP f lv l) z :=
  Ev.both h1 h2 (fun f e1 e2 => by (try dsimp only at e1 e2 ⊢); rw [climbP, e1]; exact e2)
theorem loop_done {lv : Int} {l : List Tk} {x : Ex} (h : binaryP lv l = 0) : Ev (fun f => loopP f lv x l) (.ok (x, l)) :=
  Ev.const (fun f => by (try dsimp only); rw [loopP, if_pos h])
theorem loop_more {lv op : Int} {t : Tk} {l r : List Tk} {x y : Ex} {z : PR Ex} (ho : 0 < levelOf op) (hl : lv ≤ levelOf op) (ht : isP (signOf op) t = true) (h1 : Ev (fun f => climbP f (levelOf op + 1) l) (.ok (y, r))) (h2 : Ev (fun f => loopP f lv (.mk 4 op 0 [] [x, y]) r) z) : Ev (fun f => loopP f lv x (t :: l)) z :=
  Ev.both h1 h2 (fun f e1 e2 => by
    (try dsimp only at e1 e2 ⊢)
    have hb : binaryP lv (t :: l) = op := bin_sign ho hl ht
    have h0 : op ≠ 0 := by rintro rfl; exact absurd ho (by decide)
    rw [loopP, hb, if_neg h0, List.drop_one, List.tail_cons, e1]
    exact e2)
theorem un_none {t : Tk} {r : List Tk} (h : isP (signOf 17) t = false ∧ isP (signOf 18) t = false ∧ isP (signOf 19) t = false) : unaryP (t :: r) = none := by
  unfold unaryP; rw [take_no h.1, take_no h.2.1, take_no h.2.2]
theorem un_some {op : Int} {t : Tk} {r : List Tk} (ho : op = 17 ∨ op = 18 ∨ op = 19) (h : isP (signOf op) t = true) : unaryP (t :: r) = some (op, r) := by
  have ht := isP_text h
  unfold unaryP
  rcases ho with rfl | rfl | rfl
  · rw [take_yes h]
  · rw [take_no (isnt_text (by rw [ht]; decide)), take_yes h]
  · rw [take_no (isnt_text (by rw [ht]; decide)), take_no (isnt_text (by rw [ht]; decide)), take_yes h]
theorem tight_one {op : Int} {t : Tk} {l r : List Tk} {x : Ex} (ho : op = 17 ∨ op = 18 ∨ op = 19) (h : isP (signOf op) t = true) (h1 : Ev (fun f => tightP f l) (.ok (x, r))) : Ev (fun f => tightP f (t :: l)) (.ok (.mk 3 op 0 [] [x], r)) :=
  Ev.one h1 (fun f e => by (try dsimp only at e ⊢); rw [tightP, un_some ho h]; dsimp only; rw [e])
theorem un_text {t : Tk} {r : List Tk} (h : t.text ≠ signOf 17 ∧ t.text ≠ signOf 18 ∧ t.text ≠ signOf 19) : unaryP (t :: r) = none := un_none ⟨isnt_text h.1, isnt_text h.2.1, isnt_text h.2.2⟩
theorem tight_paren {t u : Tk} {l r : List Tk} {x : Ex} (h : isP [40] t = true) (hu : isP [41] u = true) (h1 : Ev (fun f => climbP f 1 l) (.ok (x, u :: r))) : Ev (fun f => tightP f (t :: l)) (.ok (x, r)) :=
  Ev.one h1 (fun f e => by
    (try dsimp only at e ⊢)
    have ht := isP_text h
    rw [tightP, un_text ⟨by rw [ht]; decide, by rw [ht]; decide, by rw [ht]; decide⟩]; dsimp only; rw [take_yes h]; dsimp only; rw [e]; dsimp only; rw [want_yes hu])
theorem tight_read {t u v : Tk} {r : List Tk} (h : isP [114, 101, 97, 100] t = true) (hu : isP [40] u = true) (hv : isP [41] v = true) : Ev (fun f => tightP f (t :: u :: v :: r)) (.ok (.mk 7 0 0 [] [], r)) :=
  Ev.const (fun f => by
    (try dsimp only)
    have ht := isP_text h
    rw [tightP, un_text ⟨by rw [ht]; decide, by rw [ht]; decide, by rw [ht]; decide⟩]; dsimp only
    rw [take_no (isnt_text (by rw [ht]; decide)), take_yes h]; dsimp only; rw [want_yes hu]; dsimp only; rw [want_yes hv])
theorem tight_num {t : Tk} {r : List Tk} (h : t.kind = 3) : Ev (fun f => tightP f (t :: r)) (.ok (.mk 1 0 t.num [] [], r)) :=
  Ev.const (fun f => by
    (try dsimp only)
    have hk : ∀ s, isP s t = false := fun s => isnt_kind (.inr (.inl h))
    rw [tightP, un_none ⟨hk _, hk _, hk _⟩]; dsimp only
    rw [take_no (hk _), take_no (hk _)]; dsimp only; rw [if_pos h])
theorem tight_name {t : Tk} {l : List Tk} {z : PR Ex} (h : t.kind = 1) (h1 : Ev (fun f => namedP f t.text l) z) : Ev (fun f => tightP f (t :: l)) z :=
  Ev.one h1 (fun f e => by
    (try dsimp only at e ⊢)
    have hk : ∀ s, isP s t = false := fun s => isnt_kind (.inl h)
    rw [tightP, un_none ⟨hk _, hk _, hk _⟩]; dsimp only
    rw [take_no (hk _), take_no (hk _)]; dsimp only; rw [if_neg (by rw [h]; decide), if_pos h]; exact e)
theorem named_var {s : Bs} {l : List Tk} (h1 : takeP [40] l = none) (h2 : takeP [91] l = none) : Ev (fun f => namedP f s l) (.ok (.mk 2 0 0 s [], l)) :=
  Ev.const (fun f => by (try dsimp only); rw [namedP, h1, h2])
theorem named_call {s : Bs} {t : Tk} {l r : List Tk} {a : List Ex} (h : isP [40] t = true) (h1 : Ev (fun f => argsP f l) (.ok (a, r))) : Ev (fun f => namedP f s (t :: l)) (.ok (.mk 5 0 0 s a, r)) :=
  Ev.one h1 (fun f e => by (try dsimp only at e ⊢); rw [namedP, take_yes h]; dsimp only; rw [e])
theorem named_idx {s : Bs} {t u : Tk} {l r : List Tk} {x : Ex} (h : isP [91] t = true) (hu : isP [93] u = true) (h1 : Ev (fun f => climbP f 1 l) (.ok (x, u :: r))) : Ev (fun f => namedP f s (t :: l)) (.ok (.mk 6 0 0 s [x], r)) :=
  Ev.one h1 (fun f e => by
    (try dsimp only at e ⊢)
    have ht := isP_text h
    rw [namedP, take_no (isnt_text (by rw [ht]; decide)), take_yes h]; dsimp only; rw [e]; dsimp only; rw [want_yes hu])
theorem args_nil {t : Tk} {r : List Tk} (h : isP [41] t = true) : Ev (fun f => argsP f (t :: r)) (.ok ([], r)) :=
  Ev.const (fun f => by (try dsimp only); rw [argsP, take_yes h])
theorem args_some {l : List Tk} {z : PR (List Ex)} (h : takeP [41] l = none) (h1 : Ev (fun f => moreP f [] l) z) : Ev (fun f => argsP f l) z :=
  Ev.one h1 (fun f e => by (try dsimp only at e ⊢); rw [argsP, h]; exact e)
theorem more_end {a : List Ex} {x : Ex} {t : Tk} {l r : List Tk} (ht : isP [41] t = true) (h1 : Ev (fun f => climbP f 1 l) (.ok (x, t :: r))) : Ev (fun f => moreP f a l) (.ok (a ++ [x], r)) :=
  Ev.one h1 (fun f e => by
    (try dsimp only at e ⊢)
    have h := isP_text ht
    rw [moreP, e]; dsimp only; rw [take_no (isnt_text (by rw [h]; decide))]; dsimp only; rw [want_yes ht])
theorem more_comma {a : List Ex} {x : Ex} {t : Tk} {l r : List Tk} {z : PR (List Ex)} (ht : isP [44] t = true) (h1 : Ev (fun f => climbP f 1 l) (.ok (x, t :: r))) (h2 : Ev (fun f => moreP f (a ++ [x]) r) z) : Ev (fun f => moreP f a l) z :=
  Ev.both h1 h2 (fun f e1 e2 => by (try dsimp only at e1 e2 ⊢); rw [moreP, e1]; dsimp only; rw [take_yes ht]; exact e2)

/-- Expressions as they may be. -/
inductive WEx : Ex → Prop
  | num (n : Int) (h : 0 ≤ n) : WEx (.mk 1 0 n [] [])
  | var (s : Bs) (h : isName s = true) : WEx (.mk 2 0 0 s [])
  | one (o : Int) (x : Ex) (ho : o = 17 ∨ o = 18 ∨ o = 19) (hx : WEx x) : WEx (.mk 3 o 0 [] [x])
  | two (o : Int) (x y : Ex) (ho : 0 < levelOf o) (hx : WEx x) (hy : WEx y) : WEx (.mk 4 o 0 [] [x, y])
  | call (s : Bs) (l : List Ex) (h : isName s = true) (hl : l.length ≤ 6) (hx : ∀ x, x ∈ l → WEx x) : WEx (.mk 5 0 0 s l)
  | idx (s : Bs) (x : Ex) (h : isName s = true) (hx : WEx x) : WEx (.mk 6 0 0 s [x])
  | read : WEx (.mk 7 0 0 [] [])
theorem wex_of : ∀ (e : Ex), wellOk e = true → WEx e
  | .mk k o n nm args, h => by
    rw [wellOk_eq] at h
    simp only [Bool.and_eq_true, List.all_eq_true] at h
    obtain ⟨hw, ha⟩ := h
    have ih : ∀ x, x ∈ args → WEx x := fun x hx => wex_of x (ha x hx)
    clear ha
    unfold wellHere at hw
    simp only [Bool.and_eq_true, beq_iff_eq] at hw
    obtain ⟨⟨⟨⟨h1, h2⟩, h3⟩, h4⟩, h5⟩ := hw
    unfold onlyOk at h1
    unfold onlyArgs at h2
    unfold onlyOp at h3
    unfold onlyN at h4
    unfold onlyName at h5
    simp only [Ex.kind, Ex.op, Ex.n, Ex.name, Ex.args] at h1 h2 h3 h4 h5
    by_cases k1 : k = 1
    · subst k1
      simp at h1 h2 h3 h4 h5
      subst h2 h3 h5
      exact .num n (of_decide_eq_true h1)
    by_cases k2 : k = 2
    · subst k2
      simp at h1 h2 h3 h4 h5
      subst h2 h3 h4
      exact .var nm h1
    by_cases k3 : k = 3
    · subst k3
      simp at h1 h2 h3 h4 h5
      obtain ⟨x, rfl⟩ := List.length_eq_one_iff.1 (by omega : args.length = 1)
      subst h4 h5
      exact .one o x (of_decide_eq_true h1) (ih x (by simp))
    by_cases k4 : k = 4
    · subst k4
      simp at h1 h2 h3 h4 h5
      obtain ⟨x, y, rfl⟩ : ∃ x y, args = [x, y] := by
        match args, h2 with
        | [x, y], _ => exact ⟨x, y, rfl⟩
      subst h4 h5
      exact .two o x y (of_decide_eq_true h1) (ih x (by simp)) (ih y (by simp))
    by_cases k5 : k = 5
    · subst k5
      simp at h1 h2 h3 h4 h5
      subst h3 h4
      exact .call nm args h1.1 (by have := of_decide_eq_true h1.2; omega) ih
    by_cases k6 : k = 6
    · subst k6
      simp at h1 h2 h3 h4 h5
      obtain ⟨x, rfl⟩ := List.length_eq_one_iff.1 (by omega : args.length = 1)
      subst h3 h4
      exact .idx nm x h1 (ih x (by simp))
    · simp [k1, k2, k3, k4, k5, k6] at h1 h2 h3 h4 h5
      have h1 := of_decide_eq_true h1
      subst h1 h2 h3 h4 h5
      exact .read
termination_by e => SizeOf.sizeOf e
decreasing_by
  exact Ex.size_lt (e := .mk k o n nm args) hx
def lvOf (e : Ex) : Int := if e.kind = 4 then levelOf e.op else 9
/-- What may stand behind an expression. -/
def NoOpen (l : List Tk) : Prop := takeP [40] l = none ∧ takeP [91] l = none
theorem noOpen_text {t : Tk} {r : List Tk} (h : t.text ≠ [40] ∧ t.text ≠ [91]) : NoOpen (t :: r) := ⟨take_no (isnt_text h.1), take_no (isnt_text h.2)⟩
/-- The parser takes e. -/
def TakesT (e : Ex) : Prop := ∀ ts rest, For ts (partPc e 9) → NoOpen rest → Ev (fun f => tightP f (ts ++ rest)) (.ok (e, rest))
def TakesC (e : Ex) : Prop := ∀ lv ts rest z, lv ≤ lvOf e → For ts (exPc e) → NoOpen rest → binaryP (lvOf e + 1) rest = 0 → Ev (fun f => loopP f lv e rest) z → Ev (fun f => climbP f lv (ts ++ rest)) z
/-- From the tight form to all levels. -/
theorem takesC_of {e : Ex} (hk : e.kind ≠ 4) (h : TakesT e) : TakesC e := by
  intro lv ts rest z hl hf hn hb hz
  refine climb_ev (h ts rest ?_ hn) hz
  have : partPc e 9 = exPc e := by unfold partPc wrapPc; rw [if_neg (by rintro ⟨h1, _⟩; exact hk h1)]
  rw [this]; exact hf
/-- A part of an expression, with its parentheses where they are wanted. -/
theorem takes_part {e : Ex} (ht : TakesT e) (hc : TakesC e) {L lv : Int} (hL : L ≤ 9) (hl : lv ≤ L) {ts rest : List Tk} {z : PR Ex} (hf : For ts (partPc e L)) (hn : NoOpen rest) (hb : binaryP (L + 1) rest = 0) (hz : Ev (fun f => loopP f lv e rest) z) : Ev (fun f => climbP f lv (ts ++ rest)) z := by
  by_cases hw : e.kind = 4 ∧ levelOf e.op < L
  · have h9 : partPc e 9 = partPc e L := by
      unfold partPc wrapPc
      rw [if_pos hw, if_pos ⟨hw.1, by omega⟩]
    exact climb_ev (ht ts rest (by rw [h9]; exact hf) hn) hz
  · have h0 : partPc e L = exPc e := by unfold partPc wrapPc; rw [if_neg hw]
    have hle : L ≤ lvOf e := by
      unfold lvOf
      split
      · rename_i h4
        have : ¬ levelOf e.op < L := fun h => hw ⟨h4, h⟩
        omega
      · exact hL
    rw [h0] at hf
    exact hc lv ts rest z (by omega) hf hn (bin_mono hb (by omega)) hz
theorem takes_top {e : Ex} (hc : TakesC e) {ts rest : List Tk} (hf : For ts (exPc e)) (hn : NoOpen rest) (hb : binaryP 1 rest = 0) (h1 : 1 ≤ lvOf e) : Ev (fun f => climbP f 1 (ts ++ rest)) (.ok (e, rest)) :=
  hc 1 ts rest _ h1 hf hn (bin_mono hb (by omega)) (loop_done hb)
theorem lv_pos {e : Ex} (h : WEx e) : 1 ≤ lvOf e := by
  cases h with
  | two o x y ho hx hy => show 1 ≤ levelOf o; omega
  | _ => show (1 : Int) ≤ 9; decide
theorem bin_text {lv : Int} {t : Tk} {r : List Tk} (h : t.text = [41] ∨ t.text = [93] ∨ t.text = [44] ∨ t.text = [59] ∨ t.text = []) : binaryP lv (t :: r) = 0 := by
  refine bin_other (fun i => ?_)
  rcases h with h | h | h | h | h <;> (rw [h]; revert i; decide)
theorem open_text {t : Tk} {r : List Tk} (h : t.text = [41] ∨ t.text = [93] ∨ t.text = [44] ∨ t.text = [59] ∨ t.text = []) : NoOpen (t :: r) := by
  refine noOpen_text ?_
  rcases h with h | h | h | h | h <;> (rw [h]; decide)
theorem sign_noOpen {op : Int} {t : Tk} {r : List Tk} (ho : 0 < levelOf op) (h : isP (signOf op) t = true) : NoOpen (t :: r) := by
  refine noOpen_text ?_
  rw [isP_text h]
  obtain ⟨i, rfl⟩ := op_cases ho
  clear ho h
  revert i; decide
theorem sep_cons (x : Ex) (l : List Ex) : sepPc ((x :: l).map exPc) = exPc x ++ l.flatMap (fun y => [sg [44], .g [32]] ++ exPc y) := by
  show exPc x ++ (l.map exPc).flatMap (fun y => [sg [44], .g [32]] ++ y) = _
  rw [List.flatMap_map]
/-- A call's parts. -/
theorem takes_more : ∀ (l : List Ex) (a : List Ex) (x : Ex) (ts rest : List Tk) (t : Tk), (∀ y, y ∈ x :: l → TakesC y ∧ WEx y) → For ts (exPc x ++ l.flatMap (fun y => [sg [44], .g [32]] ++ exPc y)) → isP [41] t = true →
    Ev (fun f => moreP f a (ts ++ t :: rest)) (.ok (a ++ x :: l, rest))
  | [], a, x, ts, rest, t, hl, hf, ht => by
    have hx := hl x List.mem_cons_self
    rw [List.flatMap_nil, List.append_nil] at hf
    have tt := isP_text ht
    exact more_end ht (takes_top hx.1 hf (open_text (.inl tt)) (bin_text (.inl tt)) (lv_pos hx.2))
  | y :: l, a, x, ts, rest, t, hl, hf, ht => by
    have hx := hl x List.mem_cons_self
    obtain ⟨t1, t2, rfl, h1, h2⟩ := hf.app
    rw [List.flatMap_cons] at h2
    obtain ⟨c, t2, rfl, hc, h2⟩ := For.cons (by simpa using h2)
    have hc := is_sg hc
    have ih := takes_more l (a ++ [x]) y t2 rest t (fun z hz => hl z (List.mem_cons_of_mem _ hz)) (by have := For.gap h2; simpa using this) ht
    have tc := isP_text hc
    rw [List.append_assoc]
    rw [List.append_assoc] at ih
    exact more_comma hc (takes_top hx.1 h1 (open_text (.inr (.inr (.inl tc)))) (bin_text (.inr (.inr (.inl tc)))) (lv_pos hx.2)) ih
/-- The first token of an expression is no closing parenthesis. -/
theorem takes_first {e : Ex} (h : WEx e) : ∀ (lv : Int), ∃ x l, pcTk (partPc e lv) = x :: l ∧ x.text ≠ [41] ∧ x.kind ≠ 5 := by
  have wrap : ∀ (e : Ex) (lv : Int), (∃ x l, pcTk (exPc e) = x :: l ∧ x.text ≠ [41] ∧ x.kind ≠ 5) → ∃ x l, pcTk (partPc e lv) = x :: l ∧ x.text ≠ [41] ∧ x.kind ≠ 5 := by
    intro e lv h
    unfold partPc wrapPc
    split
    · exact ⟨_, _, rfl, by decide, (by show _ ≠ (5 : Int); first | exact (by decide : (3:Int) ≠ 5) | exact (by decide : (1:Int) ≠ 5) | exact (by decide : (4:Int) ≠ 5) | exact (by decide : (2:Int) ≠ 5))⟩
    · exact h
  have name : ∀ (s : Bs), isName s = true → s ≠ [41] := by
    rintro s h rfl; exact absurd h (by decide)
  induction h with
  | num n h =>
    intro lv; refine wrap _ _ ?_
    rw [exPc_1]
    refine ⟨_, _, rfl, ?_, (by show _ ≠ (5 : Int); first | exact (by decide : (3:Int) ≠ 5) | exact (by decide : (1:Int) ≠ 5) | exact (by decide : (4:Int) ≠ 5) | exact (by decide : (2:Int) ≠ 5))⟩
    show Lib.itoa n ≠ [41]
    intro e
    unfold Lib.itoa at e
    rw [if_neg (by omega)] at e
    have := digit_mem n.toNat 41 (by rw [e]; exact List.mem_cons_self)
    exact absurd this (by decide)
  | var s h => intro lv; refine wrap _ _ ?_; rw [exPc_2]; exact ⟨_, _, rfl, name s h, (by show _ ≠ (5 : Int); first | exact (by decide : (3:Int) ≠ 5) | exact (by decide : (1:Int) ≠ 5) | exact (by decide : (4:Int) ≠ 5) | exact (by decide : (2:Int) ≠ 5))⟩
  | one o x ho hx ih =>
    intro lv; refine wrap _ _ ?_; rw [exPc_3]
    refine ⟨_, _, rfl, ?_, (by show _ ≠ (5 : Int); first | exact (by decide : (3:Int) ≠ 5) | exact (by decide : (1:Int) ≠ 5) | exact (by decide : (4:Int) ≠ 5) | exact (by decide : (2:Int) ≠ 5))⟩
    rcases ho with rfl | rfl | rfl <;> decide
  | two o x y ho hx hy ihx ihy =>
    intro lv; refine wrap _ _ ?_; rw [exPc_4, pcTk_app]
    obtain ⟨u, l, e, h⟩ := ihx (levelOf o)
    rw [e]; exact ⟨_, _, rfl, h⟩
  | call s l h hl hx ih => intro lv; refine wrap _ _ ?_; rw [exPc_5]; exact ⟨_, _, rfl, name s h, (by show _ ≠ (5 : Int); first | exact (by decide : (3:Int) ≠ 5) | exact (by decide : (1:Int) ≠ 5) | exact (by decide : (4:Int) ≠ 5) | exact (by decide : (2:Int) ≠ 5))⟩
  | idx s x h hx ih => intro lv; refine wrap _ _ ?_; rw [exPc_6]; exact ⟨_, _, rfl, name s h, (by show _ ≠ (5 : Int); first | exact (by decide : (3:Int) ≠ 5) | exact (by decide : (1:Int) ≠ 5) | exact (by decide : (4:Int) ≠ 5) | exact (by decide : (2:Int) ≠ 5))⟩
  | read => intro lv; refine wrap _ _ ?_; rw [exPc_7]; exact ⟨_, _, rfl, by decide, (by show _ ≠ (5 : Int); first | exact (by decide : (3:Int) ≠ 5) | exact (by decide : (1:Int) ≠ 5) | exact (by decide : (4:Int) ≠ 5) | exact (by decide : (2:Int) ≠ 5))⟩
theorem part_plain {e : Ex} (h : e.kind ≠ 4) (lv : Int) : partPc e lv = exPc e := by
  unfold partPc wrapPc; rw [if_neg (by rintro ⟨h1, _⟩; exact h h1)]
theorem kind_of3 {t : Tk} {x : T3} (h : t3 t = x) : t.kind = x.kind ∧ t.text = x.text ∧ t.num = x.num := by subst h; exact ⟨rfl, rfl, rfl⟩
theorem takes_ex {e : Ex} (h : WEx e) : TakesT e ∧ TakesC e := by
  induction h with
  | num n h =>
    have ht : TakesT (.mk 1 0 n [] []) := by
      intro ts rest hf hn
      rw [part_plain (by simp [Ex.kind]), exPc_1] at hf
      obtain ⟨t, r, rfl, h3, hr⟩ := hf.cons
      obtain ⟨k1, k2, k3⟩ := kind_of3 h3
      rw [hr.nil]
      have := tight_num (t := t) (r := rest) k1
      rw [k3] at this
      exact this
    exact ⟨ht, takesC_of (by simp [Ex.kind]) ht⟩
  | var s h =>
    have ht : TakesT (.mk 2 0 0 s []) := by
      intro ts rest hf hn
      rw [part_plain (by simp [Ex.kind]), exPc_2] at hf
      obtain ⟨t, r, rfl, h3, hr⟩ := hf.cons
      obtain ⟨k1, k2, k3⟩ := kind_of3 h3
      rw [hr.nil]
      have := tight_name (t := t) (l := rest) k1 (named_var hn.1 hn.2)
      rw [k2] at this
      exact this
    exact ⟨ht, takesC_of (by simp [Ex.kind]) ht⟩
  | one o x ho hx ih =>
    have ht : TakesT (.mk 3 o 0 [] [x]) := by
      intro ts rest hf hn
      rw [part_plain (by simp [Ex.kind]), exPc_3] at hf
      obtain ⟨t, r, rfl, h3, hr⟩ := hf.cons
      exact tight_one ho (is_sg h3) (ih.1 r rest hr hn)
    exact ⟨ht, takesC_of (by simp [Ex.kind]) ht⟩
  | two o x y ho hx hy ihx ihy =>
    have hle := level_le o
    have hc : TakesC (.mk 4 o 0 [] [x, y]) := by
      intro lv ts rest z hl hf hn hb hz
      have hlv : lvOf (.mk 4 o 0 [] [x, y]) = levelOf o := rfl
      rw [hlv] at hl hb
      rw [exPc_4] at hf
      obtain ⟨t1, t2, rfl, h1, h2⟩ := hf.app
      obtain ⟨t, r, rfl, h3, hr⟩ := For.cons (For.gap (show For t2 (.g [32] :: sg (signOf o) :: .g [32] :: partPc y (levelOf o + 1)) from h2))
      have hs := is_sg h3
      rw [List.append_assoc]
      refine takes_part ihx.1 ihx.2 (L := levelOf o) (by omega) hl h1 (sign_noOpen ho hs) (bin_lvl ho hs (by omega)) ?_
      refine loop_more ho hl hs ?_ hz
      exact takes_part ihy.1 ihy.2 (L := levelOf o + 1) (by omega) (Int.le_refl _) hr.gap hn (bin_mono hb (by omega)) (loop_done hb)
    refine ⟨?_, hc⟩
    intro ts rest hf hn
    have : partPc (.mk 4 o 0 [] [x, y]) 9 = sg [40] :: (exPc (.mk 4 o 0 [] [x, y]) ++ [sg [41]]) := by
      unfold partPc wrapPc; rw [if_pos ⟨rfl, by show levelOf o < 9; omega⟩]; rfl
    rw [this] at hf
    obtain ⟨t, r, rfl, h3, hr⟩ := hf.cons
    obtain ⟨t1, t2, rfl, h1, h2⟩ := hr.app
    obtain ⟨u, q, rfl, h4, hq⟩ := h2.cons
    rw [hq.nil]
    have hu := is_sg h4
    have tu := isP_text hu
    have hr1 : (t :: (t1 ++ [u])) ++ rest = t :: (t1 ++ u :: rest) := by simp
    rw [hr1]
    refine tight_paren (is_sg h3) hu ?_
    exact takes_top hc h1 (open_text (.inl tu)) (bin_text (.inl tu)) (by show 1 ≤ levelOf o; omega)
  | call s l h hl hx ih =>
    have ht : TakesT (.mk 5 0 0 s l) := by
      intro ts rest hf hn
      rw [part_plain (by simp [Ex.kind]), exPc_5] at hf
      obtain ⟨t, r, rfl, h3, hr⟩ := hf.cons
      obtain ⟨k1, k2, k3⟩ := kind_of3 h3
      obtain ⟨o, r, rfl, h4, hr⟩ := hr.cons
      obtain ⟨t1, t2, rfl, h1, h2⟩ := hr.app
      obtain ⟨u, q, rfl, h5, hq⟩ := h2.cons
      rw [hq.nil]
      have hu := is_sg h5
      have hr1 : (t :: o :: (t1 ++ [u])) ++ rest = t :: o :: (t1 ++ u :: rest) := by simp
      rw [hr1]
      have key : Ev (fun f => argsP f (t1 ++ u :: rest)) (.ok (l, rest)) := by
        cases l with
        | nil =>
          have : t1 = [] := h1.nil
          subst this
          exact args_nil hu
        | cons x l =>
          have hm := takes_more l [] x t1 rest u (fun y hy => ⟨(ih y hy).2, hx y hy⟩) (by
            have e : sepPc ((x :: l).map exPc) = exPc x ++ l.flatMap (fun y => [sg [44], .g [32]] ++ exPc y) := by
              exact sep_cons x l
            rw [← e]; exact h1) hu
          refine args_some ?_ hm
          obtain ⟨w, l', e', n1, n2⟩ := takes_first (hx x List.mem_cons_self) 0
          have e0 : partPc x 0 = exPc x := by
            unfold partPc wrapPc
            rw [if_neg]
            rintro ⟨q1, q2⟩
            have := lv_pos (hx x List.mem_cons_self)
            unfold lvOf at this
            rw [if_pos q1] at this
            omega
          rw [e0] at e'
          have e1 : t1.map t3 = w :: (l' ++ pcTk (l.flatMap (fun y => [sg [44], .g [32]] ++ exPc y))) := by
            have q : For t1 (sepPc ((x :: l).map exPc)) := h1
            have e : sepPc ((x :: l).map exPc) = exPc x ++ l.flatMap (fun y => [sg [44], .g [32]] ++ exPc y) := by
              exact sep_cons x l
            rw [e] at q
            unfold For at q
            rw [q, pcTk_app, e']; rfl
          obtain ⟨a, b, rfl, e2, _⟩ := List.map_eq_cons_iff.1 e1
          rw [List.cons_append]
          refine take_no (isnt_text ?_)
          rw [show a.text = w.text from by rw [← e2]; rfl]
          exact n1
      have := tight_name (t := t) (l := o :: (t1 ++ u :: rest)) k1 (named_call (is_sg h4) key)
      rw [k2] at this
      exact this
    exact ⟨ht, takesC_of (by simp [Ex.kind]) ht⟩
  | idx s x h hx ih =>
    have ht : TakesT (.mk 6 0 0 s [x]) := by
      intro ts rest hf hn
      rw [part_plain (by simp [Ex.kind]), exPc_6] at hf
      obtain ⟨t, r, rfl, h3, hr⟩ := hf.cons
      obtain ⟨k1, k2, k3⟩ := kind_of3 h3
      obtain ⟨o, r, rfl, h4, hr⟩ := hr.cons
      obtain ⟨t1, t2, rfl, h1, h2⟩ := hr.app
      obtain ⟨u, q, rfl, h5, hq⟩ := h2.cons
      rw [hq.nil]
      have hu := is_sg h5
      have tu := isP_text hu
      have hr1 : (t :: o :: (t1 ++ [u])) ++ rest = t :: o :: (t1 ++ u :: rest) := by simp
      rw [hr1]
      have := tight_name (t := t) (l := o :: (t1 ++ u :: rest)) k1 (named_idx (is_sg h4) hu (takes_top ih.2 h1 (open_text (.inr (.inl tu))) (bin_text (.inr (.inl tu))) (lv_pos hx)))
      rw [k2] at this
      exact this
    exact ⟨ht, takesC_of (by simp [Ex.kind]) ht⟩
  | read =>
    have ht : TakesT (.mk 7 0 0 [] []) := by
      intro ts rest hf hn
      rw [part_plain (by simp [Ex.kind]), exPc_7] at hf
      obtain ⟨t, r, rfl, h3, hr⟩ := hf.cons
      obtain ⟨u, r, rfl, h4, hr⟩ := hr.cons
      obtain ⟨v, r, rfl, h5, hr⟩ := hr.cons
      rw [hr.nil]
      exact tight_read (is_wd h3) (is_sg h4) (is_sg h5)
    exact ⟨ht, takesC_of (by simp [Ex.kind]) ht⟩
end Go.Proofs.YtcfpfnoldgnloaaGreatDoor

namespace Go.Proofs.YtcfpfnoldgnloaaGreatDoor
open Go.RowKit
set_option maxRecDepth 100000
set_option maxHeartbeats 4000000

def parPc (e : Ex) : Nat → List Pc
  | 0 => exPc e
  | k + 1 => sg [40] :: (parPc e k ++ [sg [41]])
theorem want_nay {s : Bs} {t : Tk} {r : List Tk} (h : isP s t = false) : ywantP s (t :: r) = .error t.line := by
  unfold ywantP; rw [take_no h]; rfl
theorem climb_err {lv n : Int} {l : List Tk} (h1 : Ev (fun f => tightP f l) (.error n)) : Ev (fun f => climbP f lv l) (.error n) :=
  Ev.one h1 (fun f e1 => by (try dsimp only at e1 ⊢); rw [climbP, e1])
theorem par_takes {e : Ex} (h : WEx e) : ∀ (k : Nat) (ts rest : List Tk), For ts (parPc e k) → NoOpen rest → binaryP 1 rest = 0 → Ev (fun f => climbP f 1 (ts ++ rest)) (.ok (e, rest))
  | 0, ts, rest, hf, hn, hb => takes_top (takes_ex h).2 hf hn hb (lv_pos h)
  | k + 1, ts, rest, hf, hn, hb => by
    obtain ⟨t, r, rfl, h3, hr⟩ := hf.cons
    obtain ⟨t1, t2, rfl, h1, h2⟩ := hr.app
    obtain ⟨u, r2, rfl, h4, h5⟩ := h2.cons
    have hu := is_sg h4
    have tu := isP_text hu
    have ih := par_takes h k t1 (u :: r2 ++ rest) h1 (open_text (.inl tu)) (bin_text (.inl tu))
    rw [h5.nil] at ih ⊢
    have := climb_ev (lv := 1) (tight_paren (is_sg h3) hu ih) (loop_done hb)
    simpa using this
/-- One parenthesis too many ahead. -/
theorem par_open {e : Ex} (h : WEx e) (k : Nat) (t u : Tk) (ts rest : List Tk) (ht : isP [40] t = true) (hf : For ts (parPc e k)) (hu : u.kind = 5) (hux : u.text = []) : ∃ n, Ev (fun f => climbP f 1 (t :: (ts ++ u :: rest))) (.error n) := by
  have ih := par_takes h k ts (u :: rest) hf (open_text (.inr (.inr (.inr (.inr hux))))) (bin_text (.inr (.inr (.inr (.inr hux)))))
  refine ⟨u.line, climb_err (Ev.one ih (fun f e1 => ?_))⟩
  (try dsimp only at e1 ⊢)
  have h4 := isP_text ht
  have hn : isP [41] u = false := isnt_kind (.inr (.inr hu))
  rw [tightP, un_text ⟨by rw [h4]; decide, by rw [h4]; decide, by rw [h4]; decide⟩]; dsimp only; rw [take_yes ht]; dsimp only; rw [e1]; dsimp only
  rw [want_nay hn]
end Go.Proofs.YtcfpfnoldgnloaaGreatDoor

namespace Go.Proofs.YtcfpfnoldgnloaaGreatDoor
open Go.RowKit
set_option maxRecDepth 100000
set_option maxHeartbeats 4000000

/-- May these pieces stand so, z behind them? S says what may stand behind a token of a kind. -/
def SepL (S : Int → Bs → Bool) : List Pc → Bs → Prop
  | [], _ => True
  | .g _ :: l, z => SepL S l z
  | .t x :: l, z => S x.kind (pcText l ++ z) = true ∧ SepL S l z
theorem SepL.app {S : Int → Bs → Bool} : ∀ {a b : List Pc} {z : Bs}, SepL S a (pcText b ++ z) → SepL S b z → SepL S (a ++ b) z
  | [], b, z, _, h => h
  | .g x :: a, b, z, h1, h2 => SepL.app (a := a) h1 h2
  | .t x :: a, b, z, h1, h2 => ⟨by rw [List.append_eq, pcText_app, List.append_assoc]; exact h1.1, SepL.app (a := a) h1.2 h2⟩
def softB (c : UInt8) : Bool := c == 32 || c == 41 || c == 93 || c == 44 || c == 59 || c == 10
def headB (c : UInt8) : Bool := isLetter c || isDigit c || c == 40 || c == 45 || c == 33 || c == 126
def Soft (z : Bs) : Prop := z = [] ∨ ∃ c r, z = c :: r ∧ softB c = true
def HeadE (z : Bs) : Prop := ∃ c r, z = c :: r ∧ headB c = true
structure SepR (S : Int → Bs → Bool) : Prop where
  nil : ∀ k, S k [] = true
  soft : ∀ k c r, softB c = true → S k (c :: r) = true
  head : ∀ c r, headB c = true → S 4 (c :: r) = true
  opens : ∀ k r, k ≠ 3 → S k (40 :: r) = true ∧ S k (91 :: r) = true
theorem SepR.ofSoft {S : Int → Bs → Bool} (h : SepR S) {z : Bs} (hz : Soft z) (k : Int) : S k z = true := by
  rcases hz with rfl | ⟨c, r, rfl, hc⟩
  · exact h.nil k
  · exact h.soft k c r hc
theorem SepR.ofHead {S : Int → Bs → Bool} (h : SepR S) {z : Bs} (hz : HeadE z) : S 4 z = true := by
  obtain ⟨c, r, rfl, hc⟩ := hz
  exact h.head c r hc
theorem HeadE.app {a b : Bs} (h : HeadE a) : HeadE (a ++ b) := by
  obtain ⟨c, r, rfl, hc⟩ := h; exact ⟨c, r ++ b, rfl, hc⟩
theorem soft_of {c : UInt8} {r : Bs} (h : softB c = true) : Soft (c :: r) := .inr ⟨c, r, rfl, h⟩
theorem name_head {s : Bs} (h : isName s = true) : HeadE s := by
  cases s with
  | nil => exact absurd h (by decide)
  | cons c r =>
    refine ⟨c, r, rfl, ?_⟩
    have : isLetter c = true := by
      simp only [isName, isNameAt, Bool.and_eq_true, Bool.or_eq_true, Bool.not_true, Bool.false_and, Bool.or_false] at h
      first | exact h.1.1 | exact h.1.1.1 | exact h.2.1 | (simp at h; exact h.1) | (simp at h; exact h.1.1) | (simp at h; exact h.2.1)
    unfold headB; rw [this]; rfl
/-- Digits make numbers. -/
def DigL : Prop := ∀ u, (∀ c, c ∈ Lib.decDigits u → isDigit c = true) ∧ Lib.decDigits u ≠ []
theorem num_head {n : Int} (h : 0 ≤ n) (hd : DigL) : HeadE (Lib.itoa n) := by
  unfold Lib.itoa
  rw [if_neg (by omega)]
  rcases hq : Lib.decDigits n.toNat with _ | ⟨c, r⟩
  · exact absurd hq (hd n.toNat).2
  · refine ⟨c, r, rfl, ?_⟩
    have := (hd n.toNat).1 c (by rw [hq]; exact List.mem_cons_self)
    unfold headB; rw [this]; simp
theorem pcText_cons (x : Pc) (l : List Pc) : pcText (x :: l) = x.text ++ pcText l := rfl
theorem wrap_head {e : Ex} {lv : Int} (h : HeadE (pcText (exPc e))) : HeadE (pcText (partPc e lv)) := by
  unfold partPc wrapPc
  split
  · exact ⟨40, _, rfl, by decide⟩
  · exact h
theorem ex_head (hd : DigL) {e : Ex} (h : WEx e) : HeadE (pcText (exPc e)) := by
  induction h with
  | num n h => rw [exPc_1]; exact (num_head h hd).app
  | var s h => rw [exPc_2]; exact (name_head h).app
  | one o x ho hx ih => rw [exPc_3]; rcases ho with rfl | rfl | rfl <;> exact ⟨_, _, rfl, by decide⟩
  | two o x y ho hx hy ihx ihy => rw [exPc_4, pcText_app]; exact (wrap_head ihx).app
  | call s l h hl hx ih => rw [exPc_5, pcText_cons]; exact (name_head h).app
  | idx s x h hx ih => rw [exPc_6, pcText_cons]; exact (name_head h).app
  | read => rw [exPc_7]; exact ⟨_, _, rfl, by decide⟩
theorem part_sep {S : Int → Bs → Bool} (hS : SepR S) {e : Ex} (hh : HeadE (pcText (exPc e))) (h : ∀ z, Soft z → SepL S (exPc e) z) (lv : Int) (z : Bs) (hz : Soft z) : SepL S (partPc e lv) z := by
  unfold partPc wrapPc
  split
  · rw [List.append_assoc]
    refine ⟨?_, ?_⟩
    · show S 4 (pcText (exPc e ++ [sg [41]]) ++ z) = true
      rw [pcText_app, List.append_assoc]
      exact hS.ofHead hh.app
    · show SepL S (exPc e ++ [sg [41]]) z
      exact SepL.app (h _ (soft_of (by decide))) ⟨hS.ofSoft hz 4, trivial⟩
  · exact h z hz
theorem more_sep {S : Int → Bs → Bool} (hS : SepR S) (z : Bs) : ∀ (l : List Ex), (∀ y, y ∈ l → ∀ z, Soft z → SepL S (exPc y) z) → SepL S (l.flatMap (fun y => [sg [44], .g [32]] ++ exPc y)) (41 :: z) ∧ Soft (pcText (l.flatMap (fun y => [sg [44], .g [32]] ++ exPc y)) ++ 41 :: z)
  | [], h => ⟨trivial, soft_of (by decide)⟩
  | y :: l, h => by
    obtain ⟨h1, h2⟩ := more_sep hS z l (fun x hx => h x (List.mem_cons_of_mem _ hx))
    rw [List.flatMap_cons]
    refine ⟨?_, ?_⟩
    · refine SepL.app (a := [sg [44], .g [32]] ++ exPc y) ?_ h1
      exact ⟨hS.soft 4 32 _ (by decide), h y List.mem_cons_self _ h2⟩
    · exact soft_of (by decide)
theorem ex_sep {S : Int → Bs → Bool} (hS : SepR S) (hd : DigL) {e : Ex} (h : WEx e) : ∀ z, Soft z → SepL S (exPc e) z := by
  induction h with
  | num n h => intro z hz; rw [exPc_1]; exact ⟨hS.ofSoft hz 3, trivial⟩
  | var s h => intro z hz; rw [exPc_2]; exact ⟨hS.ofSoft hz 1, trivial⟩
  | one o x ho hx ih =>
    intro z hz; rw [exPc_3]
    exact ⟨hS.ofHead (wrap_head (ex_head hd hx)).app, part_sep hS (ex_head hd hx) ih 9 z hz⟩
  | two o x y ho hx hy ihx ihy =>
    intro z hz; rw [exPc_4]
    refine SepL.app (part_sep hS (ex_head hd hx) ihx _ _ (soft_of (by decide))) ?_
    exact ⟨hS.soft 4 32 _ (by decide), part_sep hS (ex_head hd hy) ihy _ z hz⟩
  | call s l h hl hx ih =>
    intro z hz; rw [exPc_5]
    have hclose : SepL S [sg [41]] z := ⟨hS.ofSoft hz 4, trivial⟩
    cases l with
    | nil =>
      exact ⟨(hS.opens 1 _ (by decide)).1, hS.soft 4 41 _ (by decide), hclose⟩
    | cons x l =>
      have hx0 := hx x List.mem_cons_self
      obtain ⟨h1, h2⟩ := more_sep hS z l (fun y hy => ih y (List.mem_cons_of_mem _ hy))
      rw [sep_cons]
      refine ⟨(hS.opens 1 _ (by decide)).1, ?_, ?_⟩
      · rw [pcText_app, pcText_app, List.append_assoc, List.append_assoc]
        exact hS.ofHead (ex_head hd hx0).app
      · rw [List.append_assoc]
        refine SepL.app (ih x List.mem_cons_self _ ?_) (SepL.app h1 hclose)
        rw [pcText_app, List.append_assoc]; exact h2
  | idx s x h hx ih =>
    intro z hz; rw [exPc_6]
    refine ⟨(hS.opens 1 _ (by decide)).2, ?_, SepL.app (ih _ (soft_of (by decide))) ⟨hS.ofSoft hz 4, trivial⟩⟩
    rw [pcText_app, List.append_assoc]
    exact hS.ofHead (ex_head hd hx).app
  | read =>
    intro z hz; rw [exPc_7]
    exact ⟨(hS.opens 2 _ (by decide)).1, hS.soft 4 41 _ (by decide), hS.ofSoft hz 4, trivial⟩
/-- In parentheses. -/
theorem par_head (hd : DigL) {e : Ex} (h : WEx e) : ∀ k, HeadE (pcText (parPc e k))
  | 0 => ex_head hd h
  | k + 1 => ⟨40, _, rfl, by decide⟩
theorem par_sep {S : Int → Bs → Bool} (hS : SepR S) (hd : DigL) {e : Ex} (h : WEx e) : ∀ k z, Soft z → SepL S (parPc e k) z
  | 0, z, hz => ex_sep hS hd h z hz
  | k + 1, z, hz => by
    refine ⟨?_, SepL.app (par_sep hS hd h k _ (soft_of (by decide))) ⟨hS.ofSoft hz 4, trivial⟩⟩
    rw [pcText_app, List.append_assoc]
    exact hS.ofHead (par_head hd h k).app
end Go.Proofs.YtcfpfnoldgnloaaGreatDoor
